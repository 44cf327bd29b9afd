/- What functions of the program come to (f), that their calls come to just this (calls), and the plain laws over lists and numbers. No condition but those of the given row. -/
import Derived.Test.YtanhnhkcpbdfmaaGreatH1
import Derived.KernelRfl
import Derived.Maps.RangeWalk
import Derived.Maps.OwnSet
import Derived.Maps.OwnOps
import Derived.Maps.Ext
import Derived.DeepKeys5
import Derived.Deep.RegionHeld3
set_option linter.unusedVariables false
set_option linter.unusedSimpArgs false
namespace Go.Proofs.YtanhnhkcpbdfmaaGreat
namespace P
set_option maxHeartbeats 8000000
set_option maxRecDepth 100000
open Go.RowKit WW.bk WW.b_ WW.b6
attribute [local go_sem] cR cV cU cY cT cX cS cW
def fR.l0:Nat→List Int→List Int→Int→Option (Bool)
 |0,_,_,_=>none
 |k+1,x0,x1,u=>if u<(x0.length:Int)then(if 0≤u then(if u<(x1.length:Int)then(if(rd x0 u)=(rd x1 u)then(fR.l0 k x0 x1 (wrap64 (u+1)))else(some false))else(none))else(none))else(some true)
def fR.f (k:Nat) (l0:List Int) (l1:List Int):Option (Bool):=if(l0.length:Int)=(l1.length:Int)then(fR.l0 k l0 l1 0)else(some false)
theorem fR.c (k:Nat) (O:Option Addr) (c0:Nat) (l0:List Int) (U:Option Addr) (c1:Nat) (l1:List Int) (r:Bool) (w:World) (ah:Kd.C (Kd.int .i64) w O l0.length l0) (hc0:l0.length≤c0) (hr1:Kd.C (Kd.int .i64) w U l1.length l1) (hc1:l1.length≤c1) (h:fR.f k l0 l1=some r):
  Calls Tryz.prog 39 #[.slice O l0.length c0,.slice U l1.length c1] w fun e w'=>e= .returned (.bool r)∧bw w w':=by
 have X:=A_ ah;have av:=A_ hc0;clear ah hc0;have Y:=A_ hr1;have aw:=A_ hc1;clear hr1 hc1;have H:(if(l0.length:Int)=(l1.length:Int)then(fR.l0 k l0 l1 0)else(some false))=some r:=h;clear h;by_cases c3:(l0.length:Int)=(l1.length:Int)
 ·rw[aq c3]at H;have Z:((l0.length:Int)==(l1.length:Int))=true:=beq_iff_eq.mpr c3;have ad:((l0.length:Int) != (l1.length:Int))=false:=bne_eq_false_iff_eq.mpr c3;have af:(l0.length==l1.length)=true:=by first|simpa using c3|(simp at c3 ⊢;omega)
  clear c3;have H':=A_ H;clear H;go_enter Tryz.func39,Tryz.ntmps39;go_wp2
  repeat(go_quiet (fail);try go_wp2)
  go_loopg [5] k (fun ai v5 w'=>∃(u:Int),v5= .int .i64 u∧ae (fR.l0 ai l0 l1 u=some r)∧ae (ai≤k)∧bw w w')
  case atStart=>exact⟨(0),eS,H',⟨Nat.le_refl _⟩,by repeat(first|exact bw.refl _|apply bw.step)⟩
  case round=>
   clear H'
   try clear c1
   try clear p2
   try clear c3
   try clear Z
   try clear ad
   try clear af
   obtain⟨u,rfl,I,V,⟨m1,rfl⟩⟩:=hrel;cases gk with
   |zero=>exact absurd I.out (by simp[fR.l0])
   |succ k1=>
    have H:=I.out;clear I;simp only[fR.l0]at H;by_cases c4:u<(l0.length:Int)
    ·rw[aq c4]at H;have al:decide (u<(l0.length:Int))=true:=ag c4;clear c4;by_cases c5:0≤u
     ·rw[aq c5]at H;have aB:decide (0≤u)=true:=ag c5;clear c5;by_cases c6:u<(l1.length:Int)
      ·rw[aq c6]at H;have aD:decide (u<(l1.length:Int))=true:=ag c6;clear c6;by_cases c7:(rd l0 u)=(rd l1 u)
       ·rw[aq c7]at H;have am:((rd l0 u)==(rd l1 u))=true:=beq_iff_eq.mpr c7;have ao:((rd l0 u) != (rd l1 u))=false:=bne_eq_false_iff_eq.mpr c7;clear c7;have H':=A_ H;clear H;have z:0≤(u:Int):=oD;have F:u<(l0.length:Int):=oD;obtain⟨aj,J,ap⟩:=Kd.dV X.out u z F;cases J;replace z:=ax z;replace F:=ax F;have D:0≤(u:Int):=oD;have G:u<(l1.length:Int):=oD;obtain⟨ak,K,ar⟩:=Kd.dV Y.out u D G;cases K;replace D:=ax D;replace G:=ax G;go_wp2
        repeat(go_quiet (fail);try go_wp2)
        go_roundg k1
        case measure=>have:=V.out;omega
        case rel=>exact⟨(wrap64 (u+1)),eS,H',⟨by have:=V.out;omega⟩,by repeat(first|exact bw.refl _|apply bw.step)⟩
       ·rw[au c7]at H;have am:((rd l0 u)==(rd l1 u))=false:=beq_eq_false_iff_ne.mpr c7;have ao:((rd l0 u) != (rd l1 u))=true:=bne_iff_ne.mpr c7;obtain rfl:=aC H;have z:0≤(u:Int):=oD;have F:u<(l0.length:Int):=oD;obtain⟨aj,J,ap⟩:=Kd.dV X.out u z F;cases J;replace z:=ax z;replace F:=ax F;have D:0≤(u:Int):=oD;have G:u<(l1.length:Int):=oD;obtain⟨ak,K,ar⟩:=Kd.dV Y.out u D G;cases K;replace D:=ax D;replace G:=ax G;go_wp2
        repeat(go_quiet (fail);try go_wp2)
        go_ret;exact⟨eS,by repeat(first|exact bw.refl _|apply bw.step)⟩
      ·rw[au c6]at H;exact absurd H (by simp)
     ·rw[au c5]at H;exact absurd H (by simp)
    ·rw[au c4]at H;have al:decide (u<(l0.length:Int))=false:=ay c4;clear c4;obtain rfl:=aC H;go_wp2
     repeat(go_quiet (fail);try go_wp2)
     go_ret;exact⟨eS,by repeat(first|exact bw.refl _|apply bw.step)⟩
 ·rw[au c3]at H;have Z:((l0.length:Int)==(l1.length:Int))=false:=beq_eq_false_iff_ne.mpr c3;have ad:((l0.length:Int) != (l1.length:Int))=true:=bne_iff_ne.mpr c3;have af:(l0.length==l1.length)=false:=by first|simpa using c3|(simp at c3 ⊢;omega)
  obtain rfl:=aC H;go_enter Tryz.func39,Tryz.ntmps39;go_wp2
  repeat(go_quiet (fail);try go_wp2)
  go_ret;exact⟨eS,by repeat(first|exact bw.refl _|apply bw.step)⟩
end P
namespace Q
open Go.RowKit P WW.bk WW.b6
theorem mN (l:List ah) (hl:l.length≤4000000):gu.f l=some l:=by
  unfold gu.f;simp only[aA];rw[aq (by simp;omega)];simp
theorem mV (l:List ah) (hl:l.length≤4000000):gG.f l=some l:=by
  unfold gG.f;simp only[aA];rw[aq (by simp;omega)];simp
theorem vq (x y:Int):Go.bits .and .i64 x y=wrap64 (((BitVec.ofInt IntKind.i64.bits x&&& BitVec.ofInt IntKind.i64.bits y).toNat:Nat):Int):=by
  unfold Go.bits;rw[IntWalk.i64_left]
theorem nU (x:Int):0≤Go.bits .and .i64 x 255∧Go.bits .and .i64 x 255≤255:=by
  have h2:(BitVec.ofInt IntKind.i64.bits 255).toNat≤255:=by decide
  rw[vq];obtain⟨y,hy⟩:∃y,BitVec.ofInt IntKind.i64.bits 255=y:=⟨_,rfl⟩;rw[hy]at h2 ⊢
  have h:(BitVec.ofInt IntKind.i64.bits x&&& y).toNat≤255:=by
    rw[BitVec.toNat_and];exact Nat.le_trans Nat.and_le_right h2
  rw[bW (by omega) (by omega)];omega
section
variable (b:List Int) (hb:b.length≤1048576)
include hb
theorem mK (i h:Int) (hi:0≤i):∃v i' h',fl.f b i h=some (v,i',h')∧0≤v∧v≤255∧0≤i':=by
  unfold fl.f;by_cases h1:i<(b.length:Int)
  · rw[aq h1,aq hi];exact⟨_,_,_,rfl,(nU _).1,(nU _).2,by rw[bW (by omega) (by omega)];omega⟩
  · rw[au h1];exact⟨_,_,_,rfl,(nU _).1,(nU _).2,hi⟩
theorem eG (i h n:Int) (hi:0≤i):∃v i' h',cf.f b i h n=some (v,i',h')∧0≤v∧(0<n→v<n)∧(n≤0→v=0)∧0≤i':=by
  unfold cf.f;by_cases h1:n≤0
  · rw[aq h1];exact⟨_,_,_,rfl,by omega,by omega,fun _=>rfl,hi⟩
  rw[au h1];have key:∀v:Int,0≤v→0≤Int.tmod v n∧(0<n→Int.tmod v n<n):=fun v hv=>⟨Int.tmod_nonneg n hv,fun h2=>by rw[Int.tmod_eq_emod_of_nonneg hv];exact Int.emod_lt_of_pos v h2⟩;by_cases h2:n≤256
  · rw[aq h2];obtain⟨v,i1,G,e,v0,v1,i0⟩:=mK b hb i h hi;rw[e,aA,au (by omega)];exact⟨_,_,_,rfl,(key v v0).1,(key v v0).2,by omega,i0⟩
  rw[au h2];obtain⟨x,i1,g1,e1,x0,x1,j1⟩:=mK b hb i h hi;obtain⟨y,i2,g2,e2,y0,y1,j2⟩:=mK b hb i1 g1 j1;obtain⟨z,i3,g3,e3,z0,H,D⟩:=mK b hb i2 g2 j2;obtain⟨u,i4,g4,e4,u0,u1,F⟩:=mK b hb i3 g3 D;rw[e1,aA];dsimp only;rw[e2,aA];dsimp only;rw[e3,aA];dsimp only;rw[e4,aA,au (by omega)];dsimp only;rw[bW (n:=x*16777216) (by omega) (by omega),bW (n:=y*65536) (by omega) (by omega),bW (n:=z*256) (by omega) (by omega),bW (n:=x*16777216+y*65536) (by omega) (by omega),bW (n:=x*16777216+y*65536+z*256) (by omega) (by omega),bW (by omega) (by omega)];exact⟨_,_,_,rfl,(key _ (by omega)).1,(key _ (by omega)).2,by omega,F⟩
omit hb in
theorem xh:∃h,Ev (fun k=>fL.f k b) (b,0,h):=by
  have key:∀i,i≤b.length→∀x:Int,∃h,Ev (fun k=>fL.l0 k b x (i:Int)) (b,0,h):=by
    refine down (n:=b.length) ?_ ?_
    · intro x;exact⟨x,Ev.step (fun k=>by rw[fL.l0]) (aI (by omega) (Ev.now _))⟩
    · intro i hi ih x;by_cases h4:(i:Int)<4000
      · obtain⟨h,he⟩:=ih (Go.bits .and .i64 (wrap64 ((wrap64 ((wrap64 (x*131))+(wrap64 (rd b (i:Int)))))+7)) 1073741823);refine⟨h,Ev.step (fun k=>by rw[fL.l0]) (ar (by omega) (ar h4 (ar (by omega) ?_)))⟩;rw[bW (n:=(i:Int)+1) (by omega) (by omega)];exact he
      · exact⟨x,Ev.step (fun k=>by rw[fL.l0]) (ar (by omega) (aI h4 (Ev.now _)))⟩
  unfold fL.f;exact key 0 (Nat.zero_le _) _
end
section
variable (b:List Int) (hb:b.length≤1048576)
include hb
theorem sf (i h n:Int) (hi:0≤i):∃v i' h',je.f b i h n=some (v,i',h')∧0≤i':=by
  unfold je.f;obtain⟨v,i1,h1,e,_,_,_,j⟩:=eG b hb i h n hi;rw[e,aA];exact⟨_,_,_,rfl,j⟩
theorem sr (i h:Int) (l:List Int) (hi:0≤i) (hl:0<l.length):∃v i' h',jO.f b i h l=some (v,i',h')∧v∈l∧0≤i':=by
  unfold jO.f;obtain⟨v,i1,h1,e,v0,v1,_,j⟩:=eG b hb i h (l.length:Int) hi;rw[e,aA,aq v0,aq (v1 (by omega))];obtain⟨m,rfl⟩:=Int.eq_ofNat_of_zero_le v0;have hm:m<l.length:=by have:=v1 (by omega);omega
  exact⟨_,_,_,rfl,by dsimp only;rw[sM l m hm];exact List.getElem_mem hm,j⟩
end
theorem yt (l:List Int) (hl:l.length≤9000000000000000000):Ev (fun k=>fR.f k l l) true:=by
  have key:∀i,i≤l.length→Ev (fun k=>fR.l0 k l l (i:Int)) true:=by
    refine down (n:=l.length) ?_ ?_
    · exact Ev.step (fun k=>by rw[fR.l0]) (aI (by omega) (evs rfl))
    · intro i hi ih;refine Ev.step (fun k=>by rw[fR.l0]) (ar (by omega) (ar (by omega) (ar (by omega) (ar rfl ?_))));rw[bW (by omega) (by omega)];exact ih
  unfold fR.f;exact ar rfl (key 0 (Nat.zero_le _))
end Q
namespace Q
open Go.RowKit P WW.bk
theorem gX (a b c:Int):cj.f a b c=some (decide (b≤a∧a≤c)):=by
  unfold cj.f;by_cases h:b≤a<;>simp[h]
theorem fQ (a b c:Int):cn.f a b c=some (decide (b≤a∧a≤c)):=by
  unfold cn.f;by_cases h:a≥b
  · rw[aq h];simp[show b≤a from h]
  · rw[au h];simp[show¬b≤a from h]
def rB (x:Int):Prop:=(Lit.int .u8 x).wf=true
theorem xm {w:World}:gj Tryz.prog w (Kd.int .u8) 5 rB:=(gj.int Tryz.underlying5)
end Q
namespace P
open Go.RowKit WW.bk WW.b_ WW.b6
attribute [local go_sem] cR cV cU cY cT cX cS cW
theorem vL (d:Nat) (w:World) (x0 y0:Int) (x1 y1:Int) (x2 u:Int) (x3 z:Int):
  (Op.equalIn (d+2) 41 (.agg #[.int .i64 x0,.int .i64 x1,.int .i64 x2,.int .i64 x3]) (.agg #[.int .i64 y0,.int .i64 y1,.int .i64 u,.int .i64 z])).run Tryz.prog w= .ok (x0==y0&&(x1==y1&&(x2==u&&(x3==z)))) w:=by
 refine rj Tryz.underlying41 (by kernel_rfl) ?_;refine n4 (by rfl) (by go_simp;rfl) (by go_simp;rfl) (by go_simp) ?_;refine n4 (by rfl) (by go_simp;rfl) (by go_simp;rfl) (by go_simp) ?_;refine n4 (by rfl) (by go_simp;rfl) (by go_simp;rfl) (by go_simp) ?_;exact rk (by rfl) (by go_simp;rfl) (by go_simp;rfl) (by go_simp)
theorem vM (d:Nat) (w:World) (x0 y0:Int) (x1 y1:Int):
  (Op.equalIn (d+2) 74 (.agg #[.int .i64 x0,.int .i64 x1]) (.agg #[.int .i64 y0,.int .i64 y1])).run Tryz.prog w= .ok (x0==y0&&(x1==y1)) w:=by
 refine rj Tryz.underlying74 (by kernel_rfl) ?_;refine n4 (by rfl) (by go_simp;rfl) (by go_simp;rfl) (by go_simp) ?_;exact rk (by rfl) (by go_simp;rfl) (by go_simp;rfl) (by go_simp)
end P
namespace Q
open Go.RowKit P WW.bk WW.b6
def fine (n:Int):Bool:=decide (1≤n∧n≤10000000)
theorem jH (n:Int):cx.f n=some (fine n):=by unfold cx.f;rw[fQ];rfl
theorem ki (n:Int):cy.f n=some (fine n):=by unfold cy.f;rw[gX];rfl
def gA (n:Int):Int:=if fine n=true then n else 0
def fe (a k b:Int):Int:=
  if fine a=true then
    if 0≤b∧b≤100000 then
      if k=1 then gA (wrap64 (Int.tdiv (mx (wrap64 ((wrap64 (3*a))-b)) 0) 2))
      else if k=2 then gA (wrap64 (Int.tdiv (mx (wrap64 ((wrap64 (3*a))-b)) 0) 4))
      else if k=3 then if b=0 then gA (wrap64 (2*a))else 0
      else if k=4 then if b=0 then gA (wrap64 (Int.tdiv a 2))else 0
      else 0
    else 0
  else 0
theorem rX (a b:Int):mx a b=mx b a:=by unfold mx;split<;>split<;>omega
theorem jr {n:Int} {x:Option Bool} (h:x=some (fine n)):Ev (fun _=>x.bind fun t=>if t=true then some n else some 0) (gA n):=by
  subst h;simp only[aA];unfold gA;by_cases h:fine n=true
  · rw[aq h,aq h];exact Ev.now _
  · rw[au h,au h];exact Ev.now _
theorem tC (a k b:Int):Ev (fun n=>dx.f n a k b) (fe a k b):=by
  have u:Ev (fun n=>dx.j0 n a k b true) 0:=Ev.step (fun n=>by rw[dx.j0]) (ar rfl (Ev.now _));unfold dx.f;refine aX (ki a) ?_;unfold fe;by_cases ha:fine a=true;rotate_left
  · exact br ha<|aI ha u
  refine bK ha<|ar ha (aX (gX _ _ _) ?_);by_cases hb:0≤b∧b≤100000;rotate_left
  · exact br hb<|aI (by simpa using hb) u
  refine bK hb<|ar (by simpa using hb) ?_
  have z:(k=3∨k=4→b=0)→Ev (fun n=>dx.j0 n a k b false) (if k=1 then gA (wrap64 (Int.tdiv (mx (wrap64 ((wrap64 (3*a))-b)) 0) 2))
      else if k=2 then gA (wrap64 (Int.tdiv (mx (wrap64 ((wrap64 (3*a))-b)) 0) 4))
      else if k=3 then if b=0 then gA (wrap64 (2*a))else 0
      else if k=4 then if b=0 then gA (wrap64 (Int.tdiv a 2))else 0
      else 0):=by
    intro h0;refine Ev.step (fun n=>by rw[dx.j0]) (aI (by decide) ?_);by_cases h1:k=1
    · exact bK h1<|ar h1 (jr (ki _))
    refine br h1<|aI h1 ?_;by_cases h2:k=2
    · exact bK h2<|ar h2 (jr (ki _))
    refine br h2<|aI h2 ?_;by_cases h3:k=3
    · exact bK h3<|bK (h0 (.inl h3))<|ar h3 (jr (ki _))
    refine br h3<|aI h3 ?_;by_cases h4:k=4
    · exact bK h4<|bK (h0 (.inr h4))<|ar h4 (jr (ki _))
    refine br h4<|aI h4 ?_;refine aX (ki _) (aI (by decide) (Ev.now _))
  by_cases b0:b=0
  · exact ar b0 (z fun _=>b0)
  refine aI b0 ?_;by_cases h3:k=3
  · refine ar h3 ?_;exact br (by omega)<|br (by omega)<|bK h3<|br b0 u
  refine aI h3 ?_;by_cases h4:k=4
  · rw[show(k==4)=true by simp[h4]];exact br (by omega)<|br (by omega)<|br (by omega)<|bK h4<|br b0 u
  · rw[show(k==4)=false by simp[h4]];exact z (by omega)
theorem oL (a k b:Int):Ev (fun n=>cm.f n a k b) (fe a k b):=by
  have D:Ev (fun n=>cm.j0 n a k b true) 0:=Ev.step (fun n=>by rw[cm.j0]) (ar rfl (Ev.now _));unfold cm.f;refine aX (jH a) ?_;unfold fe;by_cases ha:fine a=true;rotate_left
  · exact br ha<|aI ha D
  refine bK ha<|ar ha (aX (fQ _ _ _) ?_);by_cases hb:0≤b∧b≤100000;rotate_left
  · rw[show(!decide (0≤b∧b≤100000))=true by rw[ay hb];rfl];exact br hb D
  rw[show(!decide (0≤b∧b≤100000))=false by rw[ag hb];rfl];refine bK hb ?_;have F:Ev (fun n=>cm.j2 n a 0 true) (gA (wrap64 (Int.tdiv a 2))):=Ev.step (fun n=>by rw[cm.j2]) (ar rfl (jr (jH _)));have z:Ev (fun n=>cm.j2 n a 0 false) 0:=Ev.step (fun n=>by rw[cm.j2]) (aI (by decide) (jr (jH 0)));refine Ev.step (fun n=>by rw[cm.j0]) (aI (by decide) ?_);by_cases h1:k=1
  · rw[rX 0];exact bK h1<|ar h1 (jr (jH _))
  refine br h1<|aI h1 ?_;by_cases h2:k=2
  · rw[rX 0];exact bK h2<|ar h2 (jr (jH _))
  refine br h2<|aI h2 ?_
  have u:Ev (fun n=>cm.j1 n a k b 0 false) (if k=4 then if b=0 then gA (wrap64 (Int.tdiv a 2))else 0 else 0):=by
    refine Ev.step (fun n=>by rw[cm.j1]) (aI (by decide) ?_);by_cases h4:k=4
    · refine bK h4<|ar h4 ?_;by_cases b0:b=0
      · rw[show(b==0)=true by simp[b0]];exact bK b0 F
      · rw[show(b==0)=false by simp[b0]];exact br b0 z
    · exact br h4<|aI h4 z
  by_cases h3:k=3
  · refine bK h3<|ar h3 ?_;by_cases b0:b=0
    · rw[show(b==0)=true by simp[b0]];exact bK b0<|Ev.step (fun n=>by rw[cm.j1]) (ar rfl (jr (jH _)))
    · rw[show(b==0)=false by simp[b0]];rw[au (by omega)]at u;exact br b0 u
  exact br h3<|aI h3 u
def iB (i:Nat):Int:=if i=0∨i=2∨i=4∨i=7∨i=9 then 1 else 2
def gW (b:Int):List ai:=if 0≤b∧b≤5000 then(List.range 11).map (fun(i:Nat)=>⟨(i:Int),(i:Int)+1,iB i,b⟩)else[]
theorem zf:∀i:Nat,i<11→rd [1,2,1,2,1,2,2,1,2,1,2] (i:Int)=iB i:=by decide
theorem tH (b:Int):Ev (fun k=>ew.f k b) (gW b):=by
  unfold ew.f gW;by_cases hb:0≤b∧b≤5000;rotate_left
  · refine br hb (Ev.step (fun k=>by rw[ew.l0]) (ar (by decide) (aX (fQ _ _ _) (aI (nR hb) (Ev.now _)))))
  refine bK hb ?_
  have key:∀i:Nat,i≤11→Ev (fun k=>ew.l0 k b ((List.range i).map (fun(i:Nat)=>(⟨(i:Int),(i:Int)+1,iB i,b⟩:ai))) (i:Int)) ((List.range 11).map (fun(i:Nat)=>⟨(i:Int),(i:Int)+1,iB i,b⟩)):=by
    refine down (n:=11) ?_ ?_
    · exact Ev.step (fun k=>by rw[ew.l0]) (aI (by decide) (Ev.now _))
    · intro i hi ih;refine Ev.step (fun k=>by rw[ew.l0]) ?_;refine ar (by omega) (aX (fQ _ _ _) ?_);refine ar (nW hb) (aX rfl ?_);refine ar (by omega) ?_;refine ar (by simp;omega) ?_;refine ar (by simp;omega) ?_;rw[zf i hi,bW (n:=(i:Int)+1) (by omega) (by omega)];rw[List.range_succ,List.map_append]at ih;exact ih
  exact key 0 (by omega)
def pC (i:Nat) (x:ai):Prop:=x.f0=i∧x.f1=(i:Int)+1∧(x.f2=2∨x.f2=iB i)∧0≤x.f3∧x.f3<1500
def dm (p:List ai):Prop:=p.length≤11∧∀i (h:i<p.length),pC i p[i]
theorem rA (b:Int) (h:0≤b∧b<1500):dm (gW b)∧(gW b).length=11:=by
  unfold gW;rw[aq (by omega)];refine⟨⟨by simp,fun i hi=> ?_⟩,by simp⟩;simp only[List.getElem_map,List.getElem_range];exact⟨rfl,rfl,.inr rfl,h.1,h.2⟩
theorem vV {p:List ai} (h:dm p) (n:Nat):dm (p.take n):=by
  refine⟨by have:=h.1;simp;omega,fun i hi=> ?_⟩;rw[List.getElem_take];exact h.2 i _
end Q
namespace Q
open Go.RowKit P
def lV (e:ah):Bool:=decide (0≤e.f0.f0∧e.f0.f0≤3)&&(decide (0≤e.f0.f1∧e.f0.f1≤39)&&(decide (0≤e.f1∧e.f1≤2)&&decide (0≤e.f2∧e.f2≤100000)))
def e6:Int→List ah→Bool
  |_,[]=>true
  |p,e::r=>lV e&&(decide (p≤e.f2)&&e6 e.f2 r)
def cI (l:List ah):Bool:=e6 0 l&&decide (l.length≤30)
def dY (l:List ah) (i:Nat):Int:=if i=0 then 0 else(l.getD (i-1) dr).f2
theorem xW (l:List ah) (i:Nat) (h:i<l.length):dY l (i+1)=l[i].f2:=by simp[dY,List.getD_eq_getElem?_getD,h]
theorem sI (l:List ah) (i:Nat) (h0:0<i) (h:i<l.length):dY l i=l[i-1].f2:=by
  simp[dY,List.getD_eq_getElem?_getD,show i≠0 by omega,show i-1<l.length by omega]
theorem rR (l:List ah) (i:Nat) (h:i<l.length):e6 (dY l i) (l.drop i)=(lV l[i]&&(decide (dY l i≤l[i].f2)&&e6 (dY l (i+1)) (l.drop (i+1)))):=by
  rw[List.drop_eq_getElem_cons h,xW l i h];rfl
end Q
namespace P
open Go.RowKit WW.bk
def gU (x:ai) (t:List Bool):Bool:=
  (decide (x.f2=1)||decide (x.f2=2))&&(decide (0≤x.f3∧x.f3≤5000)&&(decide (0≤x.f0∧x.f0≤11)&&(decide (0≤x.f1∧x.f1≤11)&&(decide (x.f1=(x.f0+1)%12)&&(t.getD x.f0.toNat false&& !t.getD x.f1.toNat false)))))
def gB:List ai→List Bool→Bool
  |[],_=>true
  |x::r,t=>gU x t&&gB r (t.set x.f1.toNat true)
def fM:List Bool:=true::List.replicate 11 false
def dQ (l:List ai):Bool:=decide (l.length≤11)&&gB l fM
def fo (l:List ai) (t:List Bool):List Bool:=l.foldl (fun t x=>t.set x.f1.toNat true) t
def gf:List Bool→List Int→Bool
  |b::t,p::q=>(if b then decide (1≤p∧p≤10000000)else decide (p=0))&&gf t q
  |_,_=>true
def bR (p:List ai) (d:Int) (q:List Int):Bool:=
  dQ p&&(decide (0≤d∧d≤p.length)&&(decide (q.length=12)&&gf (fo (p.take d.toNat) fM) q))
theorem sF:∀(l:List ai) (t:List Bool),gB l t=true→∀x∈l,0≤x.f1∧x.f1≤11
  |[],_,_,x,hx=>by simp at hx
  |y::r,t,h,x,hx=>by
   simp only[gB,Bool.and_eq_true]at h;rcases List.mem_cons.1 hx with rfl|hx
   · have h1:=h.1;simp[gU]at h1;exact h1.2.2.2.1
   · exact sF r _ h.2 x hx
theorem qi (l:List ai):∀t:List Bool,(fo l t).length=t.length:=by
  induction l with
  |nil=>intro t;rfl
  |cons x r ih=>intro t;show(fo r _).length=_;rw[ih,List.length_set]
theorem tz (l:List ai) (x:ai) (t:List Bool):fo (l++[x]) t=(fo l t).set x.f1.toNat true:=by simp[fo,List.foldl_append]
end P
namespace P
set_option maxHeartbeats 8000000
set_option maxRecDepth 100000
open Go.RowKit WW.bk WW.b_ WW.b6
attribute [local go_sem] cR cV cU cY cT cX cS cW
def jA.f (l0:List (ai)):Option (Bool):=some (dQ l0)
theorem jA.c (I:Option Addr) (c0:Nat) (l0:List (ai)) (r:Bool) (w:World) (U:Kd.C aU w I l0.length l0) (hc0:l0.length≤c0) (h:jA.f l0=some r):
    Calls Tryz.prog 89 #[.slice I l0.length c0] w fun e w'=>e= .returned (.bool r)∧Below w.heap.size w w':=by
  have H:=aC h;clear h;by_cases h11:l0.length≤11;rotate_left
  · have hb:decide (11<(l0.length:Int))=true:=ag (by omega);have hb2:decide (11<l0.length)=true:=ag (by omega);obtain rfl:false=r:=(by rw[←H];simp[dQ,h11]);go_enter Tryz.func89,Tryz.ntmps89;go_wp2;go_ret;exact⟨rfl,Below.refl _ _⟩
  · have hb:decide (11<(l0.length:Int))=false:=ay (by omega);have hb2:decide (11<l0.length)=false:=ay (by omega);go_enter Tryz.func89,Tryz.ntmps89;go_wp2
    go_loopg [12] (l0.length+1) (fun V v12 w'=>∃(i:Nat) (tn:List Bool),v12= .int .i64 (i:Int)∧ae (i+V=l0.length+1)∧ae (i≤l0.length)∧ae (tn.length=12)∧ae (w'.heap[w.heap.size]? =some (.cells (tn.map Value.bool).toArray 136 (0,0)))∧ae (gB (l0.drop i) tn=r)∧ae (Below w.heap.size w w'))
    case atStart=>
      exact⟨0,fM,rfl,⟨by omega⟩,⟨by omega⟩,⟨rfl⟩,⟨by rw[heap_alloc_new];rfl⟩,⟨by rw[←H];simp[dQ,h11]⟩,⟨bO (Below.refl _ _) _⟩⟩
    case round=>
      obtain⟨i,tn,rfl,HK,Z,K,F,z,u⟩:=hrel;by_cases hlt:i<l0.length;rotate_left
      · have hb3:decide ((i:Int)<(l0.length:Int))=false:=ay (by omega);have hb4:decide (i<l0.length)=false:=ay (by omega)
        obtain rfl:true=r:=by
          have h1:=z.out;rw[List.drop_eq_nil_of_le (by omega)]at h1;exact h1
        go_wp2;go_ret;exact⟨rfl,u.out⟩
      · have hb3:decide ((i:Int)<(l0.length:Int))=true:=ag (by omega);have hb4:decide (i<l0.length)=true:=ag (by omega);obtain⟨ad,e,hx0,hx1,hx2,hx3⟩:=dU U (i:Int) (by omega) (by omega);cases e;replace hx0:=hW u hx0;replace hx1:=hW u hx1;replace hx2:=hW u hx2;replace hx3:=hW u hx3;obtain⟨x,hx⟩:∃x,af l0 (i:Int)=x:=⟨_,rfl⟩;rw[hx]at hx0 hx1 hx2 hx3;simp only[Int.toNat_natCast]at hx0 hx1 hx2 hx3
        have hd:gB (l0.drop i) tn=(gU x tn&&gB (l0.drop (i+1)) (tn.set x.f1.toNat true)):=by
          rw[List.drop_eq_getElem_cons hlt];have e0:l0[i]=x:=(by rw[←hx];simp[af,List.getD_eq_getElem?_getD,hlt]);rw[e0];rfl
        have ah:=A_ hx;clear hx;have HD:=A_ hd;clear hd
        have win:∀(a b c:Int) (d:Bool) (W:World),decide (b≤a∧a≤c)=d→Calls Tryz.prog 79 #[.int .i64 a,.int .i64 b,.int .i64 c] W fun e w'=>e= .returned (.bool d)∧bw W w':=fun a b c d W hd=>
          cj.c a b c d W (by rw[←hd];unfold cj.f;by_cases hh:b≤a<;>simp[hh])
        have tc:∀k,k<12→∀o:Obj,(wr.alloc o).cell? ⟨w.heap.size,k,none⟩=some (.bool (tn.getD k false)):=fun k hk o=>(cA (bu F.out o) k).trans (by have:=K.out;simp[List.getD_eq_getElem?_getD,show k<tn.length by omega]);by_cases q1:0≤x.f3∧x.f3≤5000;rotate_left
        · have W1:=A_ fun W=>win x.f3 0 5000 false W (ay q1);have D:=A_ q1;clear q1 win tc
          go_wp2_with (first|(go_at_call 79;(with_reducible refine(W1.out _).mono ?_);rintro e w' ⟨rfl,⟨nd,rfl⟩⟩))
          all_goals
            obtain rfl:false=r:=by
              rw[←z.out,HD.out];simp[gU,D.out]
            go_ret;exact⟨rfl,by repeat(first|exact u.out|apply bO|apply cN|apply cg)⟩
        have W1:=A_ fun W=>win x.f3 0 5000 true W (ag q1);by_cases q2:0≤x.f0∧x.f0≤11;rotate_left
        · have W2:=A_ fun W=>win x.f0 0 11 false W (ay q2);have D:=A_ q2;clear q1 q2 win tc
          go_wp2_with (first|(go_at_call 79;(with_reducible refine(W1.out _).mono ?_);rintro e w' ⟨rfl,⟨nd,rfl⟩⟩)|(go_at_call 79;(with_reducible refine(W2.out _).mono ?_);rintro e w' ⟨rfl,⟨nd,rfl⟩⟩))
          all_goals
            obtain rfl:false=r:=by
              rw[←z.out,HD.out];simp[gU,D.out]
            go_ret;exact⟨rfl,by repeat(first|exact u.out|apply bO|apply cN|apply cg)⟩
        have W2:=A_ fun W=>win x.f0 0 11 true W (ag q2);by_cases q3:0≤x.f1∧x.f1≤11;rotate_left
        · have W3:=A_ fun W=>win x.f1 0 11 false W (ay q3);have D:=A_ q3;clear q1 q2 q3 win tc
          go_wp2_with (first|(go_at_call 79;(with_reducible refine(W1.out _).mono ?_);rintro e w' ⟨rfl,⟨nd,rfl⟩⟩)|(go_at_call 79;(with_reducible refine(W2.out _).mono ?_);rintro e w' ⟨rfl,⟨nd,rfl⟩⟩)|(go_at_call 79;(with_reducible refine(W3.out _).mono ?_);rintro e w' ⟨rfl,⟨nd,rfl⟩⟩))
          all_goals
            obtain rfl:false=r:=by
              rw[←z.out,HD.out];simp[gU,D.out]
            go_ret;exact⟨rfl,by repeat(first|exact u.out|apply bO|apply cN|apply cg)⟩
        have W3:=A_ fun W=>win x.f1 0 11 true W (ag q3);clear win;obtain⟨aj,ak⟩:=q2;obtain⟨al,am⟩:=q3;have O:=A_ q1;clear q1;have hc0:=tc x.f0.toNat (by omega);have hc1:=tc x.f1.toNat (by omega);have hfz:=fun o:Obj=>aK (bu F.out o) x.f1.toNat;clear tc;by_cases q4:x.f1=(x.f0+1)%12;rotate_left
        · have X:(x.f1==(x.f0+1)%12)=false:=beq_eq_false_iff_ne.mpr q4;have Y:(x.f1 != (x.f0+1)%12)=true:=bne_iff_ne.mpr q4;have G:=A_ q4;clear q4 hc0 hc1 hfz
          go_wp2_with (first|(go_at_call 79;(with_reducible refine(W1.out _).mono ?_);rintro e w' ⟨rfl,⟨nd,rfl⟩⟩)|(go_at_call 79;(with_reducible refine(W2.out _).mono ?_);rintro e w' ⟨rfl,⟨nd,rfl⟩⟩)|(go_at_call 79;(with_reducible refine(W3.out _).mono ?_);rintro e w' ⟨rfl,⟨nd,rfl⟩⟩))
          all_goals
            obtain rfl:false=r:=by
              rw[←z.out,HD.out];simp[gU,G.out]
            go_ret;exact⟨rfl,by repeat(first|exact u.out|apply bO|apply cN|apply cg)⟩
        have X:(x.f1==(x.f0+1)%12)=true:=beq_iff_eq.mpr q4;have Y:(x.f1 != (x.f0+1)%12)=false:=bne_eq_false_iff_eq.mpr q4;have G:=A_ q4;clear q4;obtain⟨b0,hb0⟩:∃b,tn.getD x.f0.toNat false=b:=⟨_,rfl⟩;obtain⟨b1,hb1⟩:∃b,tn.getD x.f1.toNat false=b:=⟨_,rfl⟩;rw[hb0]at hc0;rw[hb1]at hc1;have J:=A_ hb0;have B1:=A_ hb1;clear hb0 hb1
        go_wp2_with (first|(go_at_call 79;(with_reducible refine(W1.out _).mono ?_);rintro e w' ⟨rfl,⟨nd,rfl⟩⟩)|(go_at_call 79;(with_reducible refine(W2.out _).mono ?_);rintro e w' ⟨rfl,⟨nd,rfl⟩⟩)|(go_at_call 79;(with_reducible refine(W3.out _).mono ?_);rintro e w' ⟨rfl,⟨nd,rfl⟩⟩))
        all_goals first
          |(go_ret
            have e:false=r:=by
              have h3:=J.out;have h4:=B1.out;rw[←z.out,HD.out];unfold gU;rw[h3,h4];simp[*]
            subst e;exact⟨rfl,by repeat(first|exact u.out|apply bO|apply cN|apply cg)⟩)
          |(go_roundg (gk-1)
            case measure=>have:=HK.out;omega
            case rel=>
              refine⟨i+1,tn.set x.f1.toNat true,by go_num,⟨by have:=HK.out;omega⟩,⟨by omega⟩,⟨by rw[List.length_set];exact K.out⟩,⟨?_⟩,⟨?_⟩,⟨?_⟩⟩
              · refine cr (cs:=(tn.map Value.bool).toArray) ?_ x.f1.toNat (.bool true) ?_
                · repeat(first|exact F.out|refine bG ?_ _|refine bz ?_|refine bu ?_ _)
                · simp[List.map_set]
              · rw[←z.out,HD.out]
                have e:gU x tn=true:=by
                  have h1:=G.out;have h2:=O.out;have h3:=J.out;have h4:=B1.out;unfold gU;rw[h3,h4];simp[*];omega
                rw[e,Bool.true_and]
              · refine dA ?_ (Nat.le_refl _)
                repeat(first|exact u.out|apply bO|apply cN|apply cg))
def fh.f (z:List (ai)) (u:Int) (D:List Int):Option (Bool):=some (bR z u D)
theorem fh.c (Z:Option Addr) (X:Nat) (D:List (ai)) (V:Int) (aj:Option Addr) (al:Nat) (F:List Int) (r:Bool) (w:World) (ar:Kd.C aU w Z D.length D) (aT:D.length≤X) (aL:Kd.C (Kd.int .i64) w aj F.length F) (a1:F.length≤al) (h:fh.f D V F=some r):
  Calls Tryz.prog 76 #[.agg #[.slice Z D.length X,.int .i64 V,.slice aj F.length al]] w fun e w'=>e= .returned (.bool r)∧Below w.heap.size w w':=by
 have HH:=A_ (aC h);clear h
 have win:∀(a b c:Int) (d:Bool) (W:World),decide (b≤a∧a≤c)=d→Calls Tryz.prog 79 #[.int .i64 a,.int .i64 b,.int .i64 c] W fun e w'=>e= .returned (.bool d)∧bw W w':=fun a b c d W hd=>
  cj.c a b c d W (by rw[←hd];unfold cj.f;by_cases hh:b≤a<;>simp[hh])
 have hpl:∀(b:Bool) (o:Obj),dQ D=b→Calls Tryz.prog 89 #[.slice Z D.length X] (w.alloc o) fun e w'=>e= .returned (.bool b)∧Below (w.alloc o).heap.size (w.alloc o) w':=fun b o hb=>
  jA.c Z X D b (w.alloc o) (Kd.qo ar o) aT (by unfold jA.f;rw[hb])
 have ap:∀(w1:World) (o:Obj),Below (w.alloc o).heap.size (w.alloc o) w1→w1.heap[w.heap.size]? =some o∧Below w.heap.size w w1∧w.heap.size+1≤w1.heap.size:=fun w1 o hb=>
  ⟨jZ (fG w o) hb,bn (bO (Below.refl _ _) o) hb,by have:=hb.size;simpa using this⟩
 by_cases p1:dQ D=true;rotate_left
 ·have P1:=A_ fun o=>hpl false o (Bool.eq_false_iff.2 p1);obtain rfl:false=r:=by rw[←HH.out];simp[bR,p1]
  clear hpl win p1;go_enter Tryz.func76,Tryz.ntmps76
  go_wp2_with (first|(go_at_call 89;(with_reducible refine(P1.out _).mono ?_);rintro e w1 ⟨rfl,hb⟩;obtain⟨u,H,I⟩:=ap w1 _ hb;have z:=A_ H;clear hb u H I))
  go_ret;exact⟨rfl,by repeat(first|exact z.out|apply bO|apply cN|apply cg)⟩
 have P1:=A_ fun o=>hpl true o p1;by_cases p2:0≤V∧V≤(D.length:Int);rotate_left
 ·have W1:=A_ fun W=>win V 0 D.length false W (ay p2);obtain rfl:false=r:=by rw[←HH.out];simp[bR,p2]
  clear hpl win p1 p2;go_enter Tryz.func76,Tryz.ntmps76
  go_wp2_with (first|(go_at_call 89;(with_reducible refine(P1.out _).mono ?_);rintro e w1 ⟨rfl,hb⟩;obtain⟨u,H,I⟩:=ap w1 _ hb;have z:=A_ H;have J:=cA u 0;have K:=cA u 1;have am:=cA u 2;clear hb u H I)|(go_at_call 79;(with_reducible refine(W1.out _).mono ?_);rintro e w' ⟨rfl,⟨nd,rfl⟩⟩))
  go_ret;exact⟨rfl,by repeat(first|exact z.out|apply bO|apply cN|apply cg)⟩
 have W1:=A_ fun W=>win V 0 D.length true W (ag p2);by_cases p3:F.length=12;rotate_left
 ·have aW:((F.length:Int) != 12)=true:=bne_iff_ne.mpr (by omega);have aX:((F.length:Int)==12)=false:=beq_eq_false_iff_ne.mpr (by omega);obtain rfl:false=r:=by rw[←HH.out];simp[bR,p3]
  have aG:=A_ p3;clear hpl win p1 p2 p3;go_enter Tryz.func76,Tryz.ntmps76
  go_wp2_with (first|(go_at_call 89;(with_reducible refine(P1.out _).mono ?_);rintro e w1 ⟨rfl,hb⟩;obtain⟨u,H,I⟩:=ap w1 _ hb;have z:=A_ H;have G:=A_ u;have HS:=A_ I;have J:=cA u 0;have K:=cA u 1;clear hb u H I)|(go_at_call 79;(with_reducible refine(W1.out _).mono ?_);rintro e w2 ⟨rfl,hdr⟩;have n1:=A_ (bn z.out hdr.below);have u:=jZ G.out hdr.below;have n3:=A_ (Nat.le_trans HS.out hdr.below.size);clear z G HS J K hdr;have z:=n1;have G:=A_ u;have HS:=n3;clear n1 n3;have J:=cA u 0;have K:=cA u 1;have am:=cA u 2;have aH:=fun o:Obj=>cA (bu u o) 0;have aI:=fun o:Obj=>cA (bu u o) 1;have aJ:=fun o:Obj=>cA (bu u o) 2;clear u))
  go_ret;exact⟨rfl,by repeat(first|exact z.out|apply bO|apply cN|apply cg)⟩
 have aW:((F.length:Int) != 12)=false:=bne_eq_false_iff_eq.mpr (by omega);have aX:((F.length:Int)==12)=true:=beq_iff_eq.mpr (by omega);obtain⟨d,rfl⟩:∃d:Nat,V=(d:Int):=⟨V.toNat,by omega⟩;have aV:d≤D.length:=by omega
 have hd2:d≤X:=by omega
 have hm:D.length≤9223372036854775807:=Kd.mr ar;have HK:=A_ (sF D fM (by have:=p1;simp[dQ]at this;exact this.2));have U:ae (gf (fo (D.take d) fM) F=r):=⟨by rw[←HH.out];simp[bR,p1,p3,aV]⟩;have aG:=A_ p3;have aO:=A_ ar;have aP:=A_ aL;clear hpl p1 p2 p3 HH ar aL;go_enter Tryz.func76,Tryz.ntmps76
 go_wp2_with (first|(go_at_call 89;(with_reducible refine(P1.out _).mono ?_);rintro e w1 ⟨rfl,hb⟩;obtain⟨u,H,I⟩:=ap w1 _ hb;have z:=A_ H;have G:=A_ u;have HS:=A_ I;have J:=cA u 0;have K:=cA u 1;clear hb u H I)|(go_at_call 79;(with_reducible refine(W1.out _).mono ?_);rintro e w2 ⟨rfl,hdr⟩;have n1:=A_ (bn z.out hdr.below);have u:=jZ G.out hdr.below;have n3:=A_ (Nat.le_trans HS.out hdr.below.size);clear z G HS J K hdr;have z:=n1;have G:=A_ u;have HS:=n3;clear n1 n3;have J:=cA u 0;have K:=cA u 1;have am:=cA u 2;have aH:=fun o:Obj=>cA (bu u o) 0;have aI:=fun o:Obj=>cA (bu u o) 1;have aJ:=fun o:Obj=>cA (bu u o) 2;clear u))
 have aY:=A_ (rfl: #[Value.slice Z D.length X,.int .i64 (d:Int),.slice aj F.length al]= #[Value.slice Z D.length X,.int .i64 (d:Int),.slice aj F.length al])
 go_loopg [34] (d+1) (fun aB v34 w'=>∃(i:Nat),v34= .int .i64 (i:Int)∧ae (i+aB=d+1)∧ae (i≤d)∧ae (w'.heap[w2.heap.size]? =some (.cells ((fo (D.take i) fM).map Value.bool).toArray 136 (0,0)))∧ae (w'.heap[w.heap.size]? =some (.cells #[.slice Z D.length X,.int .i64 (d:Int),.slice aj F.length al] 34 (0,0)))∧ae (Below w.heap.size w w'))
 case atStart=>
  exact⟨0,rfl,⟨by omega⟩,⟨by omega⟩,⟨by rw[heap_alloc_new];rfl⟩,⟨bu G.out _⟩,⟨bO z.out _⟩⟩
 case round=>
  clear J K am aH aI aJ z G;obtain⟨i,rfl,aM,aN,O,G,z⟩:=hrel;have ao:(fo (D.take i) fM).length=12:=qi _ _;by_cases hlt:i<d
  ·have hb3:decide ((i:Int)<(d:Int))=true:=ag (by omega);have hb4:decide (i<d)=true:=ag (by omega);obtain⟨ad,e,hx0,hx1,hx2,hx3⟩:=dU aO.out (i:Int) (by omega) (by omega);cases e;replace hx0:=hW z hx0;replace hx1:=hW z hx1;replace hx2:=hW z hx2;replace hx3:=hW z hx3;obtain⟨x,hx⟩:∃x,af D (i:Int)=x:=⟨_,rfl⟩;rw[hx]at hx0 hx1 hx2 hx3;simp only[Int.toNat_natCast]at hx0 hx1 hx2 hx3;have hil:i<D.length:=(by omega);have e0:D[i]=x:=(by rw[←hx];simp[af,List.getD_eq_getElem?_getD,hil]);obtain⟨q1,q2⟩:=HK.out x (by rw[←e0];exact List.getElem_mem hil);have ak:ae (fo (D.take (i+1)) fM=(fo (D.take i) fM).set x.f1.toNat true):=⟨by rw[List.take_succ_eq_append_getElem hil,e0,tz]⟩;obtain⟨tn,Y⟩:∃tn,fo (D.take i) fM=tn:=⟨_,rfl⟩;have ah:=A_ (show wr.heap[w2.heap.size]? =some (.cells (tn.map Value.bool).toArray 136 (0,0))by rw[←Y];exact O.out);rw[Y]at ao ak;have hc1:∀o:Obj,(wr.alloc o).cell? ⟨w2.heap.size,x.f1.toNat,none⟩=some (.bool (tn.getD x.f1.toNat false)):=fun o=>(cA (bu ah.out o) _).trans (by simp[List.getD_eq_getElem?_getD,show x.f1.toNat<tn.length by omega]);have hfz:=fun o:Obj=>aK (bu ah.out o) x.f1.toNat;clear hx e0 Y O ao;go_wp2
   go_roundg (d-i)
   case measure=>have:=aM.out;omega
   case rel=>
    refine⟨i+1,by go_num,⟨by omega⟩,⟨by omega⟩,⟨?_⟩,⟨?_⟩,⟨?_⟩⟩
    ·rw[ak.out];refine cr (cs:=(tn.map Value.bool).toArray) (bu ah.out _) x.f1.toNat (.bool true) ?_;simp[List.map_set]
    ·refine fF ?_ (by have:=HS.out;show w.heap.size≠w2.heap.size;omega) _;exact bu G.out _
    ·refine dA (bO z.out _) (by have:=HS.out;omega)
  ·have hb3:decide ((i:Int)<(d:Int))=false:=ay (by omega);have hb4:decide (i<d)=false:=ay (by omega);obtain rfl:i=d:=(by have:=aN.out;omega);obtain⟨tn,Y⟩:∃tn,fo (D.take i) fM=tn:=⟨_,rfl⟩;have ah:=A_ (show wr.heap[w2.heap.size]? =some (.cells (tn.map Value.bool).toArray 136 (0,0))by rw[←Y];exact O.out);have ak:=A_ (show tn.length=12 by rw[←Y];exact ao);have aF:=A_ (show gf tn F=r by rw[←Y];exact U.out);have J:=cA G.out 0;have K:=cA G.out 1;have am:=cA G.out 2;clear O U Y ao;go_wp2;have aD:=aG.out
   go_loopg [45] 13 (fun aB v45 w'=>∃(j:Nat),v45= .int .i64 (j:Int)∧ae (j+aB=13)∧ae (j≤12)∧ae (gf (tn.drop j) (F.drop j)=r)∧ae (w'.heap[w2.heap.size]? =some (.cells (tn.map Value.bool).toArray 136 (0,0)))∧ae (Below w.heap.size w w'))
   case atStart=>exact⟨0,rfl,⟨by omega⟩,⟨by omega⟩,⟨aF.out⟩,⟨ah.out⟩,⟨z.out⟩⟩
   case round=>
    clear J K am z G ah aF;obtain⟨j,rfl,aE,a0,U,O,z⟩:=hrel;by_cases a3:j<12;rotate_left
    ·have aR:decide ((j:Int)<(F.length:Int))=false:=ay (by omega);have aS:decide (j<F.length)=false:=ay (by omega)
     obtain rfl:true=r:=by
      have h1:=U.out;rw[List.drop_eq_nil_of_le (by have:=ak.out;omega)]at h1;simpa[gf]using h1
     clear aD;go_wp2;go_ret;exact⟨rfl,z.out⟩
    ·have aR:decide ((j:Int)<(F.length:Int))=true:=ag (by omega);have aS:decide (j<F.length)=true:=ag (by omega);have hj:j<F.length:=(by omega);obtain⟨ad,e,hy⟩:=Kd.dV aP.out (j:Int) (by omega) (by omega);cases e;replace hy:=hW z hy;obtain⟨y,aw⟩:∃y,rd F (j:Int)=y:=⟨_,rfl⟩;obtain⟨b,av⟩:∃b,tn.getD j false=b:=⟨_,rfl⟩;rw[aw]at hy;simp only[Int.toNat_natCast]at hy;have aQ:=ak.out;have a2:wr.cell? ⟨w2.heap.size,j,none⟩=some (.bool b):=(cA O.out j).trans (by rw[←av];simp[List.getD_eq_getElem?_getD,show j<tn.length by omega])
     have HD:ae (gf (tn.drop j) (F.drop j)=((if b then decide (1≤y∧y≤10000000)else decide (y=0))&&gf (tn.drop (j+1)) (F.drop (j+1)))):=⟨by
      rw[List.drop_eq_getElem_cons (show j<tn.length by omega),List.drop_eq_getElem_cons (show j<F.length by omega)];have e1:tn[j]=b:=(by rw[←av];simp[List.getD_eq_getElem?_getD,show j<tn.length by omega]);have e2:F[j]=y:=(by rw[←aw];simp[rd,List.getD_eq_getElem?_getD,show j<F.length by omega]);rw[e1,e2];rfl⟩
     have fine:∀(d:Bool) (W:World),decide (1≤y∧y≤10000000)=d→Calls Tryz.prog 90 #[.int .i64 y] W fun e w'=>e= .returned (.bool d)∧bw W w':=fun d W hd=>
      cy.c y d W (by rw[←hd];unfold cy.f cj.f;by_cases hh:1≤y<;>simp[hh])
     clear aw av aQ aD;cases b with
     |true=>
      by_cases q:1≤y∧y≤10000000
      ·have F1:=A_ fun W=>fine true W (ag q);have Q:=A_ q;clear q fine
       go_wp2_with (first|(go_at_call 90;(with_reducible refine(F1.out _).mono ?_);rintro e w' ⟨rfl,⟨nd,rfl⟩⟩))
       go_roundg (12-j)
       case measure=>have:=aE.out;omega
       case rel=>
        refine⟨j+1,by go_num,⟨by omega⟩,⟨by omega⟩,⟨?_⟩,⟨?_⟩,⟨?_⟩⟩
        ·rw[←U.out,HD.out];simp[Q.out]
        ·repeat(first|exact O.out|refine bG ?_ _|refine bz ?_)
        ·repeat(first|exact z.out|apply bO|apply cN|apply cg)
      ·have F1:=A_ fun W=>fine false W (ay q);have Q:=A_ q;clear q fine;obtain rfl:false=r:=by rw[←U.out,HD.out];simp[Q.out]
       go_wp2_with (first|(go_at_call 90;(with_reducible refine(F1.out _).mono ?_);rintro e w' ⟨rfl,⟨nd,rfl⟩⟩))
       go_ret;exact⟨rfl,by repeat(first|exact z.out|apply bO|apply cN|apply cg)⟩
     |false=>
      by_cases q:y=0
      ·have q1:(y != 0)=false:=bne_eq_false_iff_eq.mpr q;have q2:(y==0)=true:=beq_iff_eq.mpr q;have Q:=A_ q;clear q fine;go_wp2
       go_roundg (12-j)
       case measure=>have:=aE.out;omega
       case rel=>
        refine⟨j+1,by go_num,⟨by omega⟩,⟨by omega⟩,⟨?_⟩,⟨?_⟩,⟨?_⟩⟩
        ·rw[←U.out,HD.out];simp[Q.out]
        ·repeat(first|exact O.out|refine bG ?_ _|refine bz ?_)
        ·repeat(first|exact z.out|apply bO|apply cN|apply cg)
      ·have q1:(y != 0)=true:=bne_iff_ne.mpr q;have q2:(y==0)=false:=beq_eq_false_iff_ne.mpr q;have Q:=A_ q;clear q fine;obtain rfl:false=r:=(by rw[←U.out,HD.out];simp[Q.out]);go_wp2;go_ret;exact⟨rfl,by repeat(first|exact z.out|apply bO|apply cN|apply cg)⟩
def cD.l0:Nat→List Int→List (ai)→Int→Int→List (ai)→Int→List Int→Option (List Int)
 |0,_,_,_,_,_,_,_=>none
 |k+1,x3,z,F,u,G,H,D=>if u<F then(if 0≤u then(if u<(z.length:Int)then(if 0≤((af z u).f1)then(if((af z u).f1)<(D.length:Int)then((e5.f k G H D u).bind fun I=>(if(rd D ((af z u).f1))=I then(cD.l0 k x3 z F (wrap64 (u+1)) G H D)else(if x3.length<17592186044416 then(cD.l0 k (x3++[u]) z F (wrap64 (u+1)) G H D)else(none))))else(none))else(none))else(none))else(none))else(some x3)
def cD.f (k:Nat) (z:List (ai)) (u:Int) (D:List Int):Option (List Int):=(fh.f z u D).bind fun G=>(if G=true then(if 0≤u then(if u≤(z.length:Int)then((some (z.take (u:Int).toNat:List (ai))).bind fun F=>(cD.l0 k (([]:List Int)) F (F.length:Int) 0 z u D))else(none))else(none))else(some ([]:List Int)))
def cD.T7:Bool×List (List Nat×List Nat):=(true,[([],[]),([0],[0]),([],[]),([2],[2]),([1,3],[1,3]),([4],[4]),([],[]),([],[]),([6,7],[6,7]),([5,8],[5,8])])
def cD.B7:List Nat:=[0,1,0,4,15,31,0,0,192,511]
theorem cD.mm:a6 .any (opsOf Tryz.f82 7)=cD.T7:=by kernel_rfl
theorem cD.lT:bT cD.T7.2 cD.B7=true:=by kernel_rfl
theorem cD.c (k:Nat) (ar:Option Addr) (aj:Nat) (V:List (ai)) (U:Int) (av:Option Addr) (al:Nat) (X:List Int) (r:List Int) (w:World) (bT:Kd.C aU w ar V.length V) (bQ:V.length≤aj) (bU:Kd.C (Kd.int .i64) w av X.length X) (bR:X.length≤al) (h:cD.f k V U X=some r):
  Calls Tryz.prog 82 #[.agg #[.slice ar V.length aj,.int .i64 U,.slice av X.length al]] w fun e w'=>∃bY:Value,e= .returned (bY)∧Kd.R (Kd.int .i64) 3 w' w.heap.size (fun _=>True) bY r∧Below w.heap.size w w':=by
 have dh:=Tryz.underlying34;have de:=Tryz.underlying112;have aW:=A_ bT;have aV:=A_ bQ;clear bT bQ;have aT:=A_ bU;have bq:=A_ bR;clear bU bR;have F:=A_ (Below.refl w.heap.size w);have H:((fh.f V U X).bind fun bD=>(if bD=true then(if 0≤U then(if U≤(V.length:Int)then((some (V.take (U:Int).toNat:List (ai))).bind fun z=>(cD.l0 k (([]:List Int)) z (z.length:Int) 0 V U X))else(none))else(none))else(some ([]:List Int))))=some r:=h;clear h;replace H:=az H;obtain⟨bD,bI,H⟩:=H
 (try dsimp only at H)
 have A2:=A_ bI;clear bI;by_cases c3:bD=true
 ·subst c3;rw[aq rfl]at H;obtain⟨bE,a5⟩:∃bp:List Int,bp=(([]:List Int)):=⟨_,rfl⟩;replace H:(if 0≤U then(if U≤(V.length:Int)then((some (V.take (U:Int).toNat:List (ai))).bind fun z=>(cD.l0 k bE z (z.length:Int) 0 V U X))else(none))else(none))=some r:=by first|(rw[a5];with_reducible exact H)|(have am:=(aA _ _).symm.trans H;rw[a5];with_reducible exact am)|(have am:=(aA _ _).symm.trans H;with_reducible exact am)|with_reducible exact H|(rw[a5];exact H)|exact H
  have bK:=A_ a5;clear a5;by_cases c4:0≤U
  ·rw[aq c4]at H;have b':=ax c4;have ca:decide (0≤U)=true:=ag c4;clear c4;by_cases c5:U≤(V.length:Int)
   ·rw[aq c5]at H;have cb:=ax c5;have cc:decide (U≤(V.length:Int))=true:=ag c5;clear c5;obtain⟨z,a6⟩:∃bp:List (ai),bp=(V.take (U:Int).toNat):=⟨_,rfl⟩;replace H:(cD.l0 k bE z (z.length:Int) 0 V U X)=some r:=by first|(rw[a6];with_reducible exact H)|(have am:=(aA _ _).symm.trans H;rw[a6];with_reducible exact am)|(have am:=(aA _ _).symm.trans H;with_reducible exact am)|with_reducible exact H|(rw[a6];exact H)|exact H
    have bL:=A_ a6;clear a6;have H':=A_ H;clear H;go_enter Tryz.func82,Tryz.ntmps82
    go_wp2_with (first|((with_reducible refine aJ (N:=1) rfl ?_);refine bX (N:=1) (cs:= #[.slice ar V.length aj,.int .i64 U,.slice av X.length al]) (t:=34) ?_;intro ak hg dw ap hb;have J:=A_ (bn (oB F) hb);have O:=A_ (ap);have Y:=A_ ((by rw[hg];exact(bm (oB F)):w.heap.size≤ak));have Z:=A_ ((by rw[hg];exact(bm (oB F)):w.heap.size≤ak));clear F;have F:=J;have D:=O;have b2:=Y;have b0:=Z;clear J O Y Z hb ap hg;have cj:=cz D 0;have ck:=cz D 1;have cl:=cz D 2;have cp:=aK D.out 0;have cq:=aK D.out 1;have cu:=aK D.out 2)|((with_reducible refine bC (f:=76) rfl ?_);refine gL (some 7) Tryz.func76 #[.agg #[.slice ar V.length aj,.int .i64 U,.slice av X.length al]] ?_;(with_reducible refine(fh.c _ _ V U _ _ X true _ ?bc ?bf ?eK ?eL A2.out).mono ?_);(case bc=>exact bP aW.out);(case bf=>exact aV.out);(case eK=>exact bP aT.out);(case eL=>exact bq.out);rintro e dx ⟨rfl,hb⟩;refine⟨_,rfl,?_⟩;have J:=A_ (bb D hb);have O:=A_ (bn (oB F) hb);clear D F;have D:=J;have F:=O;clear J O;(try clear hb);(try clear hb2);(try clear hk);(try clear hi))|((with_reducible refine aJ (N:=9) rfl ?_);refine Kd.fE (Kd.int .i64) _ 3 ?hg (N:=9) ?hd (xs:=([]:List Int)) (inner:=[]) (ok:=fun _=>True) (bN:=fun _=>True) ?hr ?hp (fun _ hk=>hk) trivial (Below.refl _ _) (Nat.le_refl _) (by simp) ?_;(case hd=>rfl);(case hg=>rfl);(case hr=>first|(go_simp;done)|(go_simp;rfl));(case hp=>exact(aY.none _ _));intro dj dy aX hb cv cw;clear cv cw;(first|rw[←bK.out]at aX|(simp only[Int.reduceToNat]at aX;rw[←bK.out]at aX));have J:=A_ (Kd.dg aX (bm (oB F)));have O:=A_ (bb D hb);have Y:=A_ (bn (oB F) hb);clear D F;have b4:=J;have D:=O;have F:=Y;clear J O Y hb aX;have cf:=cz D 0;have ch:=cz D 1;have ci:=cz D 2;have cm:=aK D.out 0;have cn:=aK D.out 1;have co:=aK D.out 2;have bh:(U:Int)≤((V.length:Int):Int):=oD;obtain⟨di,bS,_,cx,_⟩:=info_parts mS;have bV:V.length≤aj:=aV.out;have bM:Kd.C aU _ ar V.length V:=aW.out;have ce:=rf (P:=Tryz.prog) 32 112 .i64 Tryz.underlying32 bS ar V.length aj U (oD) bh bV;have bA:=Kd.tX (m:=(U:Int).toNat) bM (by omega);have bB:z.length=(U:Int).toNat:=(by rw[bL.out,List.length_take];omega);rw[←bL.out]at bA;rw[←bB]at ce;have bJ:=A_ bA;have cB:=A_ (show z.length≤aj from by omega);clear bA bM bV bS cx;have cC:=A_ bB;clear bB;replace bh:=ax bh))
    go_loopg [3,16] k (fun bW v3 v16 w'=>∃(aE:List Int) (u:Int),v16= .int .i64 u∧ae (cD.l0 bW aE z (z.length:Int) u V U X=some r)∧ae (bW≤k)∧ae (Kd.R (Kd.int .i64) 3 w' w.heap.size (fun _=>True) v3 aE)∧ae (w'.heap[ak]? =some (.cells #[(.slice ar V.length aj),.int .i64 U,(.slice av X.length al)] 34 (0,0)))∧ae (Below w.heap.size w w'))
    case atStart=>exact⟨(bE),(0),eS,H',⟨Nat.le_refl _⟩,⟨oR b4⟩,⟨oK D⟩,⟨oB F⟩⟩
    case round=>
     clear H'
     try clear q1
     try clear p2
     try clear c3
     try clear c4
     try clear b'
     try clear ca
     try clear c5
     try clear cb
     try clear cc
     try clear c7
     try clear c8
     try clear bh
     try clear cf
     try clear ch
     try clear ci
     try clear cj
     try clear ck
     try clear cl
     try clear cm
     try clear cn
     try clear co
     try clear cp
     try clear cq
     try clear cu
     try clear bh
     obtain⟨aE,u,rfl,bt,br,ad,D,F⟩:=hrel;cases gk with
     |zero=>exact absurd bt.out (by simp[cD.l0])
     |succ k1=>
      have H:=bt.out;clear bt;simp only[cD.l0]at H;by_cases c13:u<(z.length:Int)
      ·rw[aq c13]at H;have b8:decide (u<(z.length:Int))=true:=ag c13;clear c13;by_cases c14:0≤u
       ·rw[aq c14]at H;have cE:decide (0≤u)=true:=ag c14;clear c14;by_cases c15:u<(z.length:Int)
        ·rw[aq c15]at H;have cF:decide (u<(z.length:Int))=true:=ag c15;clear c15;by_cases c16:0≤((af z u).f1)
         ·rw[aq c16]at H;have cG:decide (0≤((af z u).f1))=true:=ag c16;clear c16;by_cases c17:((af z u).f1)<(X.length:Int)
          ·rw[aq c17]at H;have cH:decide (((af z u).f1)<(X.length:Int))=true:=ag c17;clear c17;replace H:=az H;obtain⟨aR,bH,H⟩:=H
           (try dsimp only at H)
           have bF:=A_ bH;clear bH;by_cases c19:(rd X ((af z u).f1))=aR
           ·rw[aq c19]at H;have b9:((rd X ((af z u).f1))==aR)=true:=beq_iff_eq.mpr c19;have b_:((rd X ((af z u).f1)) != aR)=false:=bne_eq_false_iff_eq.mpr c19;clear c19;have H':=A_ H;clear H;have aI:0≤(u:Int):=oD;have aN:u<(z.length:Int):=oD;obtain⟨aG,bw,a1,a2,a3,a4⟩:=dU bJ.out u aI aN;cases bw;replace a1:=hW F a1;replace a2:=hW F a2;replace a3:=hW F a3;replace a4:=hW F a4;replace aI:=ax aI;replace aN:=ax aN
            try go_wp2_with (first|((with_reducible refine aJ (N:=5) rfl ?_);refine bX (N:=5) (cs:= #[.int .i64 0,.int .i64 0,.int .i64 0,.int .i64 0]) (t:=112) ?_;intro G hg bk ap hb;have J:=A_ (Kd.dG (oR ad) hb);have O:=A_ (bb D hb);have Y:=A_ (bn (oB F) hb);have Z:=A_ (ap);have a9:=A_ ((by rw[hg];exact(bm (oB F)):w.heap.size≤G));have a_:=A_ ((by rw[hg];exact(bm (oB F)):w.heap.size≤G));have bd:=A_ (nL D hg);have be:=A_ (nG D hg);clear ad D F;have ad:=J;have D:=O;have F:=Y;have I:=Z;have b3:=a9;have b1:=a_;have ao:=bd;have bv:=be;clear J O Y Z a9 a_ bd be hb ap hg;have da:=bv.out;have dc:=ao.out;have cI:=cz I 0;have cK:=cz I 1;have cL:=cz I 2;have cM:=cz I 3;have cV:=aK I.out 0;have cW:=aK I.out 1;have cX:=aK I.out 2;have cY:=aK I.out 3))
            have J:ae (Kd.R (Kd.int .i64) 3 ((((bk.setCell ⟨G,0,none⟩ (.int .i64 ((af z u).f0))).setCell ⟨G,1,none⟩ (.int .i64 ((af z u).f1))).setCell ⟨G,2,none⟩ (.int .i64 ((af z u).f2))).setCell ⟨G,3,none⟩ (.int .i64 ((af z u).f3))) w.heap.size (fun _=>True) u3 aE):=⟨by(with_reducible repeat(first|apply Kd.fg|apply Kd.fX|apply Kd.dH));exact Kd.cJ (Kd.dp (p:=⟨G,3,none⟩) (Kd.dp (p:=⟨G,2,none⟩) (Kd.dp (p:=⟨G,1,none⟩) (Kd.dp (p:=⟨G,0,none⟩) (Kd.jW ad.out I.out (by decide)) (fun _ hk=>hk.2) (.int .i64 ((af z u).f0))) (fun _ hk=>hk.2) (.int .i64 ((af z u).f1))) (fun _ hk=>hk.2) (.int .i64 ((af z u).f2))) (fun _ hk=>hk.2) (.int .i64 ((af z u).f3))) (fun _ hk=>trivial)⟩;have O:ae (((((bk.setCell ⟨G,0,none⟩ (.int .i64 ((af z u).f0))).setCell ⟨G,1,none⟩ (.int .i64 ((af z u).f1))).setCell ⟨G,2,none⟩ (.int .i64 ((af z u).f2))).setCell ⟨G,3,none⟩ (.int .i64 ((af z u).f3))).heap[ak]? =some (.cells #[.slice (some aG) V.length aj,.int .i64 U,.slice av X.length al] 34 (0,0))):=⟨by(with_reducible repeat(first|refine bG ?_ _|refine bz ?_|refine bu ?_ _));refine fF ?_ ao.out _;(with_reducible repeat(first|refine bG ?_ _|refine bz ?_|refine bu ?_ _));refine fF ?_ ao.out _;(with_reducible repeat(first|refine bG ?_ _|refine bz ?_|refine bu ?_ _));refine fF ?_ ao.out _;(with_reducible repeat(first|refine bG ?_ _|refine bz ?_|refine bu ?_ _));refine fF ?_ ao.out _;(with_reducible repeat(first|refine bG ?_ _|refine bz ?_|refine bu ?_ _));exact D.out⟩;have Y:ae (((((bk.setCell ⟨G,0,none⟩ (.int .i64 ((af z u).f0))).setCell ⟨G,1,none⟩ (.int .i64 ((af z u).f1))).setCell ⟨G,2,none⟩ (.int .i64 ((af z u).f2))).setCell ⟨G,3,none⟩ (.int .i64 ((af z u).f3))).heap[G]? =some (.cells #[.int .i64 ((af z u).f0),.int .i64 ((af z u).f1),.int .i64 ((af z u).f2),.int .i64 ((af z u).f3)] 112 (0,0))):=⟨by(with_reducible repeat(first|refine bG ?_ _|refine bz ?_|refine bu ?_ _));refine cr (cs:= #[.int .i64 ((af z u).f0),.int .i64 ((af z u).f1),.int .i64 ((af z u).f2),.int .i64 0]) ?_ 3 _ rfl;(with_reducible repeat(first|refine bG ?_ _|refine bz ?_|refine bu ?_ _));refine cr (cs:= #[.int .i64 ((af z u).f0),.int .i64 ((af z u).f1),.int .i64 0,.int .i64 0]) ?_ 2 _ rfl;(with_reducible repeat(first|refine bG ?_ _|refine bz ?_|refine bu ?_ _));refine cr (cs:= #[.int .i64 ((af z u).f0),.int .i64 0,.int .i64 0,.int .i64 0]) ?_ 1 _ rfl;(with_reducible repeat(first|refine bG ?_ _|refine bz ?_|refine bu ?_ _));refine cr (cs:= #[.int .i64 0,.int .i64 0,.int .i64 0,.int .i64 0]) ?_ 0 _ rfl;(with_reducible repeat(first|refine bG ?_ _|refine bz ?_|refine bu ?_ _));exact I.out⟩;have Z:ae (Below w.heap.size w ((((bk.setCell ⟨G,0,none⟩ (.int .i64 ((af z u).f0))).setCell ⟨G,1,none⟩ (.int .i64 ((af z u).f1))).setCell ⟨G,2,none⟩ (.int .i64 ((af z u).f2))).setCell ⟨G,3,none⟩ (.int .i64 ((af z u).f3)))):=⟨oB F⟩
            (try clear ad)
            (try clear D)
            (try clear I)
            (try clear F)
            generalize ((((bk.setCell ⟨G,0,none⟩ (.int .i64 ((af z u).f0))).setCell ⟨G,1,none⟩ (.int .i64 ((af z u).f1))).setCell ⟨G,2,none⟩ (.int .i64 ((af z u).f2))).setCell ⟨G,3,none⟩ (.int .i64 ((af z u).f3)))=cy at J O Y Z ⊢;have ad:=J;have D:=O;have I:=Y;have F:=Z;clear J O Y Z;have J:=A_ (Kd.dH ad.out);have O:=A_ (bz D.out);have Y:=A_ (bz I.out);have Z:=A_ (cg F.out);clear ad D I F;have ad:=J;have D:=O;have I:=Y;have F:=Z;clear J O Y Z;have aM:0≤(((af z u).f1):Int):=oD;have aQ:((af z u).f1)<(X.length:Int):=oD;obtain⟨aH,bx,aD⟩:=Kd.dV aT.out ((af z u).f1) aM aQ;have a0:=aD;cases bx;replace aD:=hW F aD;replace aM:=ax aM;replace aQ:=ax aQ;refine fB (n:=10) (S:=fun w'=>w'.cell? ⟨ak,0,none⟩=some (.slice (some aG) V.length aj)∧w'.cell? ⟨ak,1,none⟩=some (.int .i64 U)∧w'.cell? ⟨ak,2,none⟩=some (.slice (some aH) X.length al)∧w'.cell? ⟨G,0,none⟩=some (.int .i64 ((af z u).f0))∧w'.cell? ⟨G,1,none⟩=some (.int .i64 ((af z u).f1))∧w'.cell? ⟨G,2,none⟩=some (.int .i64 ((af z u).f2))∧w'.cell? ⟨G,3,none⟩=some (.int .i64 ((af z u).f3))∧w'.cell? (aH.add (((af z u).f1)).toNat)=some (.int .i64 (rd X ((af z u).f1)))) (ds:=[]) #[false,false,false,false,false,false,false,false,false,false] (by kernel_rfl) rfl rfl ⟨cz D 0,cz D 1,cz D 2,cz I 0,cz I 1,cz I 2,cz I 3,(hW F a0)⟩ (fun hHeld=> ?_);refine fU cD.mm cD.lT (fun ah aw=> ?_);generalize cy.drew=dl at ad D I F aD hHeld ⊢;refine pA 0 (some 21) ah.out ?_;refine pA 2 (some 23) ah.out ?_;refine pA 7 (some 28) ah.out ?_;refine pT 1 (some 22) ah.out aw.out hHeld ?_;refine pT 3 (some 24) ah.out aw.out hHeld ?_;refine pA 4 (some 25) ah.out ?_;refine pT 5 (some 26) ah.out aw.out hHeld ?_;refine pT 6 (some 27) ah.out aw.out hHeld ?_;refine dO (i:=8) (N:=some 29) #[true,true,true,true,true,true,true,true,true,false] rfl rfl (dn ah.out (by kernel_rfl)) (by decide) (fun K hK=> ?_);refine df Tryz.func121 (by kernel_rfl) rfl #[.agg #[.slice (some aG) V.length aj,.int .i64 U,.slice (some aH) X.length al],.int .i64 u] (by rfl) rfl rfl (by(try simp only[List.map_toArray,List.map_cons,List.map_nil]);first|done|rfl|(simp only[List.length_drop,List.length_take];rfl)) ?_
            with_reducible refine(e5.c k1 _ _ V U _ _ X u aR _ ?bc ?bf ?eK ?eL bF.out).mono ?_
            (case bc=>exact bP aW.out)
            (case bf=>exact aV.out)
            (case eK=>exact bP aT.out)
            (case eL=>exact bq.out)
            rintro e dm ⟨rfl,hb⟩;refine⟨_,rfl,?_⟩;have J:=A_ (Kd.dG (oR ad) hb);have O:=A_ (bb D hb);have Y:=A_ (bb I hb);have Z:=A_ (bn (oB F) hb);clear ad D I F;have ad:=J;have D:=O;have I:=Y;have F:=Z;clear J O Y Z
            (try clear hb)
            (try clear hb2)
            (try clear hk)
            (try clear hi)
            refine hK.out _ _ ⟨cz D 0,cz D 1,cz D 2,cz I 0,cz I 1,cz I 2,cz I 3,(hW F a0)⟩ (fun hHeld=> ?_);clear hK K;refine dX (a':= ?_) ?_ ?_;rotate_left
            ·show Act.put _ (some 29) _=_;simp only[Act.put,List.setIfInBounds_toArray,List.set_cons_zero,List.set_cons_succ,cd,ct];rfl
            refine pA 9 (some 30) ah.out ?_;refine eW (fp ah.out (by kernel_rfl)) ?_
            try go_wp2
            go_roundg k1
            case measure=>have:=br.out;omega
            case rel=>exact⟨(aE),(wrap64 (u+1)),eS,H',⟨by have:=br.out;omega⟩,⟨oR ad⟩,⟨oK D⟩,⟨oB F⟩⟩
           ·rw[au c19]at H;have b9:((rd X ((af z u).f1))==aR)=false:=beq_eq_false_iff_ne.mpr c19;have b_:((rd X ((af z u).f1)) != aR)=true:=bne_iff_ne.mpr c19;by_cases bs:aE.length<17592186044416
            ·rw[aq bs]at H;have b6:=A_ bs;clear bs;obtain⟨bZ,a7⟩:∃bp:List Int,bp=(aE++[u]):=⟨_,rfl⟩;replace H:(cD.l0 k1 bZ z (z.length:Int) (wrap64 (u+1)) V U X)=some r:=by first|(rw[a7];with_reducible exact H)|(have am:=(aA _ _).symm.trans H;rw[a7];with_reducible exact am)|(have am:=(aA _ _).symm.trans H;with_reducible exact am)|with_reducible exact H|(rw[a7];exact H)|exact H
             have b7:=A_ a7;clear a7;have H':=A_ H;clear H;have aI:0≤(u:Int):=oD;have aN:u<(z.length:Int):=oD;obtain⟨aG,bw,a1,a2,a3,a4⟩:=dU bJ.out u aI aN;cases bw;replace a1:=hW F a1;replace a2:=hW F a2;replace a3:=hW F a3;replace a4:=hW F a4;replace aI:=ax aI;replace aN:=ax aN
             try go_wp2_with (first|((with_reducible refine aJ (N:=5) rfl ?_);refine bX (N:=5) (cs:= #[.int .i64 0,.int .i64 0,.int .i64 0,.int .i64 0]) (t:=112) ?_;intro G hg bo ap hb;have J:=A_ (Kd.dG (oR ad) hb);have O:=A_ (bb D hb);have Y:=A_ (bn (oB F) hb);have Z:=A_ (ap);have a9:=A_ ((by rw[hg];exact(bm (oB F)):w.heap.size≤G));have a_:=A_ ((by rw[hg];exact(bm (oB F)):w.heap.size≤G));have bd:=A_ (nL D hg);have be:=A_ (nG D hg);clear ad D F;have ad:=J;have D:=O;have F:=Y;have I:=Z;have b3:=a9;have b1:=a_;have ao:=bd;have bv:=be;clear J O Y Z a9 a_ bd be hb ap hg;have db:=bv.out;have dd:=ao.out;have cO:=cz I 0;have cP:=cz I 1;have cQ:=cz I 2;have cR:=cz I 3;have cZ:=aK I.out 0;have c0:=aK I.out 1;have c1:=aK I.out 2;have c6:=aK I.out 3))
             have J:ae (Kd.R (Kd.int .i64) 3 ((((bo.setCell ⟨G,0,none⟩ (.int .i64 ((af z u).f0))).setCell ⟨G,1,none⟩ (.int .i64 ((af z u).f1))).setCell ⟨G,2,none⟩ (.int .i64 ((af z u).f2))).setCell ⟨G,3,none⟩ (.int .i64 ((af z u).f3))) w.heap.size (fun _=>True) u3 aE):=⟨by(with_reducible repeat(first|apply Kd.fg|apply Kd.fX|apply Kd.dH));exact Kd.cJ (Kd.dp (p:=⟨G,3,none⟩) (Kd.dp (p:=⟨G,2,none⟩) (Kd.dp (p:=⟨G,1,none⟩) (Kd.dp (p:=⟨G,0,none⟩) (Kd.jW ad.out I.out (by decide)) (fun _ hk=>hk.2) (.int .i64 ((af z u).f0))) (fun _ hk=>hk.2) (.int .i64 ((af z u).f1))) (fun _ hk=>hk.2) (.int .i64 ((af z u).f2))) (fun _ hk=>hk.2) (.int .i64 ((af z u).f3))) (fun _ hk=>trivial)⟩;have O:ae (((((bo.setCell ⟨G,0,none⟩ (.int .i64 ((af z u).f0))).setCell ⟨G,1,none⟩ (.int .i64 ((af z u).f1))).setCell ⟨G,2,none⟩ (.int .i64 ((af z u).f2))).setCell ⟨G,3,none⟩ (.int .i64 ((af z u).f3))).heap[ak]? =some (.cells #[.slice (some aG) V.length aj,.int .i64 U,.slice av X.length al] 34 (0,0))):=⟨by(with_reducible repeat(first|refine bG ?_ _|refine bz ?_|refine bu ?_ _));refine fF ?_ ao.out _;(with_reducible repeat(first|refine bG ?_ _|refine bz ?_|refine bu ?_ _));refine fF ?_ ao.out _;(with_reducible repeat(first|refine bG ?_ _|refine bz ?_|refine bu ?_ _));refine fF ?_ ao.out _;(with_reducible repeat(first|refine bG ?_ _|refine bz ?_|refine bu ?_ _));refine fF ?_ ao.out _;(with_reducible repeat(first|refine bG ?_ _|refine bz ?_|refine bu ?_ _));exact D.out⟩;have Y:ae (((((bo.setCell ⟨G,0,none⟩ (.int .i64 ((af z u).f0))).setCell ⟨G,1,none⟩ (.int .i64 ((af z u).f1))).setCell ⟨G,2,none⟩ (.int .i64 ((af z u).f2))).setCell ⟨G,3,none⟩ (.int .i64 ((af z u).f3))).heap[G]? =some (.cells #[.int .i64 ((af z u).f0),.int .i64 ((af z u).f1),.int .i64 ((af z u).f2),.int .i64 ((af z u).f3)] 112 (0,0))):=⟨by(with_reducible repeat(first|refine bG ?_ _|refine bz ?_|refine bu ?_ _));refine cr (cs:= #[.int .i64 ((af z u).f0),.int .i64 ((af z u).f1),.int .i64 ((af z u).f2),.int .i64 0]) ?_ 3 _ rfl;(with_reducible repeat(first|refine bG ?_ _|refine bz ?_|refine bu ?_ _));refine cr (cs:= #[.int .i64 ((af z u).f0),.int .i64 ((af z u).f1),.int .i64 0,.int .i64 0]) ?_ 2 _ rfl;(with_reducible repeat(first|refine bG ?_ _|refine bz ?_|refine bu ?_ _));refine cr (cs:= #[.int .i64 ((af z u).f0),.int .i64 0,.int .i64 0,.int .i64 0]) ?_ 1 _ rfl;(with_reducible repeat(first|refine bG ?_ _|refine bz ?_|refine bu ?_ _));refine cr (cs:= #[.int .i64 0,.int .i64 0,.int .i64 0,.int .i64 0]) ?_ 0 _ rfl;(with_reducible repeat(first|refine bG ?_ _|refine bz ?_|refine bu ?_ _));exact I.out⟩;have Z:ae (Below w.heap.size w ((((bo.setCell ⟨G,0,none⟩ (.int .i64 ((af z u).f0))).setCell ⟨G,1,none⟩ (.int .i64 ((af z u).f1))).setCell ⟨G,2,none⟩ (.int .i64 ((af z u).f2))).setCell ⟨G,3,none⟩ (.int .i64 ((af z u).f3)))):=⟨oB F⟩
             (try clear ad)
             (try clear D)
             (try clear I)
             (try clear F)
             generalize ((((bo.setCell ⟨G,0,none⟩ (.int .i64 ((af z u).f0))).setCell ⟨G,1,none⟩ (.int .i64 ((af z u).f1))).setCell ⟨G,2,none⟩ (.int .i64 ((af z u).f2))).setCell ⟨G,3,none⟩ (.int .i64 ((af z u).f3)))=cA at J O Y Z ⊢;have ad:=J;have D:=O;have I:=Y;have F:=Z;clear J O Y Z;have J:=A_ (Kd.dH ad.out);have O:=A_ (bz D.out);have Y:=A_ (bz I.out);have Z:=A_ (cg F.out);clear ad D I F;have ad:=J;have D:=O;have I:=Y;have F:=Z;clear J O Y Z;have aM:0≤(((af z u).f1):Int):=oD;have aQ:((af z u).f1)<(X.length:Int):=oD;obtain⟨aH,bx,aD⟩:=Kd.dV aT.out ((af z u).f1) aM aQ;have a0:=aD;cases bx;replace aD:=hW F aD;replace aM:=ax aM;replace aQ:=ax aQ;refine fB (n:=10) (S:=fun w'=>w'.cell? ⟨ak,0,none⟩=some (.slice (some aG) V.length aj)∧w'.cell? ⟨ak,1,none⟩=some (.int .i64 U)∧w'.cell? ⟨ak,2,none⟩=some (.slice (some aH) X.length al)∧w'.cell? ⟨G,0,none⟩=some (.int .i64 ((af z u).f0))∧w'.cell? ⟨G,1,none⟩=some (.int .i64 ((af z u).f1))∧w'.cell? ⟨G,2,none⟩=some (.int .i64 ((af z u).f2))∧w'.cell? ⟨G,3,none⟩=some (.int .i64 ((af z u).f3))∧w'.cell? (aH.add (((af z u).f1)).toNat)=some (.int .i64 (rd X ((af z u).f1)))) (ds:=[]) #[false,false,false,false,false,false,false,false,false,false] (by kernel_rfl) rfl rfl ⟨cz D 0,cz D 1,cz D 2,cz I 0,cz I 1,cz I 2,cz I 3,(hW F a0)⟩ (fun hHeld=> ?_);refine fU cD.mm cD.lT (fun ah aw=> ?_);generalize cA.drew=dq at ad D I F aD hHeld ⊢;refine pA 0 (some 21) ah.out ?_;refine pA 2 (some 23) ah.out ?_;refine pA 7 (some 28) ah.out ?_;refine pT 1 (some 22) ah.out aw.out hHeld ?_;refine pT 3 (some 24) ah.out aw.out hHeld ?_;refine pA 4 (some 25) ah.out ?_;refine pT 5 (some 26) ah.out aw.out hHeld ?_;refine pT 6 (some 27) ah.out aw.out hHeld ?_;refine dO (i:=8) (N:=some 29) #[true,true,true,true,true,true,true,true,true,false] rfl rfl (dn ah.out (by kernel_rfl)) (by decide) (fun K hK=> ?_);refine df Tryz.func121 (by kernel_rfl) rfl #[.agg #[.slice (some aG) V.length aj,.int .i64 U,.slice (some aH) X.length al],.int .i64 u] (by rfl) rfl rfl (by(try simp only[List.map_toArray,List.map_cons,List.map_nil]);first|done|rfl|(simp only[List.length_drop,List.length_take];rfl)) ?_
             with_reducible refine(e5.c k1 _ _ V U _ _ X u aR _ ?bc ?bf ?eK ?eL bF.out).mono ?_
             (case bc=>exact bP aW.out)
             (case bf=>exact aV.out)
             (case eK=>exact bP aT.out)
             (case eL=>exact bq.out)
             rintro e dr ⟨rfl,hb⟩;refine⟨_,rfl,?_⟩;have J:=A_ (Kd.dG (oR ad) hb);have O:=A_ (bb D hb);have Y:=A_ (bb I hb);have Z:=A_ (bn (oB F) hb);clear ad D I F;have ad:=J;have D:=O;have I:=Y;have F:=Z;clear J O Y Z
             (try clear hb)
             (try clear hb2)
             (try clear hk)
             (try clear hi)
             refine hK.out _ _ ⟨cz D 0,cz D 1,cz D 2,cz I 0,cz I 1,cz I 2,cz I 3,(hW F a0)⟩ (fun hHeld=> ?_);clear hK K;refine dX (a':= ?_) ?_ ?_;rotate_left
             ·show Act.put _ (some 29) _=_;simp only[Act.put,List.setIfInBounds_toArray,List.set_cons_zero,List.set_cons_succ,cd,ct];rfl
             refine pA 9 (some 30) ah.out ?_;refine eW (fp ah.out (by kernel_rfl)) ?_
             try go_wp2_with (first|((with_reducible refine iF (b:= .append) (xs:= #[.tmp 31,.tmp 33]) rfl ?_);at_builtin;refine Kd.kM (Kd.int .i64) (w0:=w) w.heap.size rfl (.tmp 31) (.tmp 33) 23 3 (.int .i64 0) 8 rfl Tryz.underlying23 info3 rfl (by decide) (by omega) u3 aE u [.int .i64 u] (fun _=>True) (fun _=>False) rfl rfl ?aP (fun _ hk=>hk.elim) ?aF ?aO ?aB ?aS ?aL ?_;(case aP=>exact rfl);(case aB=>exact(oB F));(case aF=>exact(fun _ _=>trivial));(case aO=>exact(oR ad));(case aS=>exact(bm (oB F)));(case aL=>have:=b6.out;omega);intro dk dt ho hb hg hat;rw[←b7.out]at ho;have J:=A_ (bg D hg (Kd.jV ad.out D.out (by decide)));have O:=A_ (bg I hg (Kd.jV ad.out I.out (by decide)));have Y:=A_ (hb);have Z:=A_ (ho);clear D I F ad;have D:=J;have I:=O;have F:=Y;have b5:=Z;clear J O Y Z ho hb hg hat))
             go_roundg k1
             case measure=>have:=br.out;omega
             case rel=>exact⟨(bZ),(wrap64 (u+1)),eS,H',⟨by have:=br.out;omega⟩,⟨oR b5⟩,⟨oK D⟩,⟨oB F⟩⟩
            ·rw[au bs]at H;exact absurd H (by simp)
          ·rw[au c17]at H;exact absurd H (by simp)
         ·rw[au c16]at H;exact absurd H (by simp)
        ·rw[au c15]at H;exact absurd H (by simp)
       ·rw[au c14]at H;exact absurd H (by simp)
      ·rw[au c13]at H;have b8:decide (u<(z.length:Int))=false:=ay c13;clear c13;obtain rfl:=aC H;go_wp2;go_ret;exact⟨_,eR,oR ad,oB F⟩
   ·rw[au c5]at H;exact absurd H (by simp)
  ·rw[au c4]at H;exact absurd H (by simp)
 ·replace c3:=Bool.eq_false_iff.mpr c3;subst c3;rw[au (show¬(false=true)by decide)]at H;obtain rfl:=aC H;go_enter Tryz.func82,Tryz.ntmps82
  go_wp2_with (first|((with_reducible refine aJ (N:=1) rfl ?_);refine bX (N:=1) (cs:= #[.slice ar V.length aj,.int .i64 U,.slice av X.length al]) (t:=34) ?_;intro ak hg du ap hb;have J:=A_ (bn (oB F) hb);have O:=A_ (ap);have Y:=A_ ((by rw[hg];exact(bm (oB F)):w.heap.size≤ak));have Z:=A_ ((by rw[hg];exact(bm (oB F)):w.heap.size≤ak));clear F;have F:=J;have D:=O;have b2:=Y;have b0:=Z;clear J O Y Z hb ap hg;have cS:=cz D 0;have cT:=cz D 1;have cU:=cz D 2;have c9:=aK D.out 0;have c_:=aK D.out 1;have c':=aK D.out 2)|((with_reducible refine bC (f:=76) rfl ?_);refine gL (some 7) Tryz.func76 #[.agg #[.slice ar V.length aj,.int .i64 U,.slice av X.length al]] ?_;(with_reducible refine(fh.c _ _ V U _ _ X false _ ?bc ?bf ?eK ?eL A2.out).mono ?_);(case bc=>exact bP aW.out);(case bf=>exact aV.out);(case eK=>exact bP aT.out);(case eL=>exact bq.out);rintro e dv ⟨rfl,hb⟩;refine⟨_,rfl,?_⟩;have J:=A_ (bb D hb);have O:=A_ (bn (oB F) hb);clear D F;have D:=J;have F:=O;clear J O;(try clear hb);(try clear hb2);(try clear hk);(try clear hi)))
  go_ret;exact⟨_,eR,by first|exact Kd.bl _ _ _ _ _|exact Kd.o0 _ _ _ _ _|exact Kd.pk _ _ _ _ _|exact Kd.o7 _ _ _ _ _|exact Kd.pg _ _ _ _ _,oB F⟩
mutual
def cv.j0:Nat→Int→List (ai)→Bool→Option (List Int×Bool)
 |0,_,_,_=>none
 |k+1,x0,x1,z=>if z=true then(some (([]:List Int),false))else(if 12≤35184372088832 then((some (List.replicate 12 0:List Int)).bind fun u=>(if 0<(u.length:Int)then(cv.l0 k (u.set (0:Int).toNat x0) x1 (x1.length:Int) 0)else(none)))else(none))
def cv.l0:Nat→List Int→List (ai)→Int→Int→Option (List Int×Bool)
 |0,_,_,_,_=>none
 |k+1,D,z,G,u=>if u<G then(if 0≤u then(if u<(z.length:Int)then(if 0≤((af z u).f0)then(if((af z u).f0)<(D.length:Int)then((dx.f k (rd D ((af z u).f0)) ((af z u).f2) ((af z u).f3)).bind fun F=>(if 0≤((af z u).f1)then(if((af z u).f1)<(D.length:Int)then(if F=0 then(some (([]:List Int),false))else(cv.l0 k (D.set (((af z u).f1):Int).toNat F) z G (wrap64 (u+1))))else(none))else(none)))else(none))else(none))else(none))else(none))else(some (D,true))
end
def cv.f (k:Nat) (a0:Int) (l1:List (ai)):Option (List Int×Bool):=(jA.f l1).bind fun u=>(if u=true then((cy.f a0).bind fun z=>(cv.j0 k a0 l1 (!z)))else(cv.j0 k a0 l1 true))
def cv.T8:Bool×List (List Nat×List Nat):=(true,[([],[]),([],[]),([1],[1]),([],[]),([],[]),([4],[4]),([3,5],[3,5]),([6],[6]),([],[]),([8],[8]),([],[]),([10],[10]),([7,9,11],[7,9,11]),([0,2,0,1,2,3,4,5,6,7,8,9,10,11,12],[0,2]),([13,12,12,0,1,2,3,4,5,6,7,8,9,10,11,12],[12,13])])
def cv.B8:List Nat:=[0,0,2,0,0,16,56,120,0,256,0,1024,4088,8191,16383]
theorem cv.iw:a6 .any (opsOf Tryz.f38 8)=cv.T8:=by kernel_rfl
theorem cv.hE:bT cv.T8.2 cv.B8=true:=by kernel_rfl
theorem cv.c (k:Nat) (a0:Int) (aY:Option Addr) (c1:Nat) (l1:List (ai)) (r1:List Int) (r2:Bool) (w:World) (hr1:Kd.C aU w aY l1.length l1) (hc1:l1.length≤c1) (h:cv.f k a0 l1=some (r1,r2)):
  Calls Tryz.prog 38 #[.int .i64 a0,.slice aY l1.length c1] w fun e w'=>∃b0:Value,e= .returned (.tuple #[b0,.bool r2])∧Kd.R (Kd.int .i64) 3 w' w.heap.size (fun _=>True) b0 r1∧Below w.heap.size w w':=by
 have du:=Tryz.underlying112;have a1:=A_ hr1;have bK:=A_ hc1;clear hr1 hc1;have D:=A_ (Below.refl w.heap.size w);have H:((jA.f l1).bind fun bA=>(if bA=true then((cy.f a0).bind fun bd=>(cv.j0 k a0 l1 (!bd)))else(cv.j0 k a0 l1 true)))=some (r1,r2):=h;clear h;have bk:=A_ H;clear H;go_enter Tryz.func38,Tryz.ntmps38
 go_upto_region 1 with (fail)
 go_cut [16] (fun v16 wc=>∃(ao:Nat) (bh:Bool),v16= .bool bh∧ae (cv.j0 ao a0 l1 bh=some (r1,r2))∧ae (ao≤k)∧ae (Below w.heap.size w wc))
 case first=>
  have H:=bk.out;clear bk;replace H:=az H;obtain⟨bA,bI,H⟩:=H
  (try dsimp only at H)
  have bH:=A_ bI;clear bI;by_cases c5:bA=true
  ·subst c5;rw[aq rfl]at H;replace H:=az H;obtain⟨bd,bJ,H⟩:=H
   (try dsimp only at H)
   have b3:=A_ bJ;clear bJ;have H':=A_ H;clear H
   go_wp2_with (first|((with_reducible refine bC (f:=89) rfl ?_);refine gL (some 10) Tryz.func89 #[.slice aY l1.length c1] ?_;(with_reducible refine(jA.c _ _ l1 true _ ?bc ?bf bH.out).mono ?_);(case bc=>exact bP a1.out);(case bf=>exact bK.out);rintro e w7 ⟨rfl,hb⟩;refine⟨_,rfl,?_⟩;have I:=A_ (bn (oB D) hb);clear D;have D:=I;clear I;(try clear hb);(try clear hb2);(try clear hk);(try clear hi))|(go_at_call 90;(with_reducible refine(cy.c a0 bd _ b3.out).mono ?_);rintro e w' ⟨rfl,⟨nd,rfl⟩⟩))
   go_meet
   case rel=>exact⟨_,(!bd),eS,H',⟨by first|omega|exact Nat.le_refl _⟩,⟨oB D⟩⟩
  ·replace c5:=Bool.eq_false_iff.mpr c5;subst c5;rw[au (show¬(false=true)by decide)]at H;have H':=A_ H;clear H
   go_wp2_with (first|((with_reducible refine bC (f:=89) rfl ?_);refine gL (some 10) Tryz.func89 #[.slice aY l1.length c1] ?_;(with_reducible refine(jA.c _ _ l1 false _ ?bc ?bf bH.out).mono ?_);(case bc=>exact bP a1.out);(case bf=>exact bK.out);rintro e dC ⟨rfl,hb⟩;refine⟨_,rfl,?_⟩;have I:=A_ (bn (oB D) hb);clear D;have D:=I;clear I;(try clear hb);(try clear hb2);(try clear hk);(try clear hi)))
   go_meet
   case rel=>exact⟨_,(true),eS,H',⟨by first|omega|exact Nat.le_refl _⟩,⟨oB D⟩⟩
 case rest=>
  clear bk
  try clear c1
  try clear p2
  try clear c3
  try clear c5
  try clear c8
  obtain⟨ao,bh,rfl,ak,bM,D⟩:=hcut;cases ao with
  |zero=>exact absurd ak.out (by simp[cv.j0])
  |succ a_=>
   have H:=ak.out;clear ak;simp only[cv.j0]at H;by_cases c9:bh=true
   ·subst c9;rw[aq rfl]at H;simp only[Option.some.injEq,Prod.mk.injEq]at H;obtain⟨rfl,rfl⟩:=H;go_wp2;go_ret2;exact⟨_,eR,by first|exact Kd.bl _ _ _ _ _|exact Kd.o0 _ _ _ _ _|exact Kd.pk _ _ _ _ _|exact Kd.o7 _ _ _ _ _|exact Kd.pg _ _ _ _ _,oB D⟩
   ·replace c9:=Bool.eq_false_iff.mpr c9;subst c9;rw[au (show¬(false=true)by decide)]at H;by_cases c10:12≤35184372088832
    ·rw[aq c10]at H;have b_:=ax c10;have b':decide (12≤35184372088832)=true:=ag c10;clear c10;obtain⟨aj,aO⟩:∃aX:List Int,aX=(List.replicate 12 0):=⟨_,rfl⟩;replace H:(if 0<(aj.length:Int)then(cv.l0 a_ (aj.set (0:Int).toNat a0) l1 (l1.length:Int) 0)else(none))=some (r1,r2):=by first|(rw[aO];with_reducible exact H)|(have Z:=(aA _ _).symm.trans H;rw[aO];with_reducible exact Z)|(have Z:=(aA _ _).symm.trans H;with_reducible exact Z)|with_reducible exact H|(rw[aO];exact H)|exact H
     have bS:=A_ aO;clear aO;by_cases c11:0<(aj.length:Int)
     ·rw[aq c11]at H;have ca:decide (0<(aj.length:Int))=true:=ag c11;have cb:decide (0<aj.length)=true:=ag (by omega);clear c11;obtain⟨bD,aP⟩:∃aX:List Int,aX=(aj.set (0:Int).toNat a0):=⟨_,rfl⟩;replace H:(cv.l0 a_ bD l1 (l1.length:Int) 0)=some (r1,r2):=by first|(rw[aP];with_reducible exact H)|(have Z:=(aA _ _).symm.trans H;rw[aP];with_reducible exact Z)|(have Z:=(aA _ _).symm.trans H;with_reducible exact Z)|with_reducible exact H|(rw[aP];exact H)|exact H
      have b8:=A_ aP;clear aP;have H':=A_ H;clear H
      go_wp2_with (first|((with_reducible refine aJ (N:=17) rfl ?_);refine Kd.o8 (Kd.int .i64) _ 3 rfl (N:=17) rfl 23 _ _ rfl 12 rfl rfl Tryz.underlying23 (.int .i64 0) 8 info3 rfl (by decide) (by omega) 0 (ok:=fun _=>True) (bN:=fun _=>True) rfl (fun _ hk=>hk) trivial (by omega) (by omega) (Below.refl _ _) (Nat.le_refl _) ?_;intro dy b1 aH hb cn co;clear cn co;(first|rw[←bS.out]at aH|(simp only[Int.reduceToNat]at aH;rw[←bS.out]at aH));have I:=A_ (Kd.dg aH (bm (oB D)));have O:=A_ (bn (oB D) hb);clear D;have al:=I;have D:=O;clear I O hb aH;have aT:0≤(0:Int):=(by omega);have aV:(0:Int)<((aj.length:Int):Int):=oD;have cu:(0<aj.length)=True:=ax (by omega);obtain⟨Y,a6,bT,bU,cj,cL,bL⟩:=Kd.iN al.out (by omega);(first|cases bT|(injection bT with a7 ci ch;(first|subst a7|(injection a7 with a7;subst a7));subst ch;clear ci));have b4:=A_ bU;have cD:=A_ bL;clear bU cj bL;obtain⟨bx,bV⟩:=Kd.fW 0 al.out (0:Int) aT aV;(try rw[show((0:Int)).toNat=0 from rfl]at bx);(try simp only[Nat.reduceMul,Nat.zero_mul,Nat.zero_add,Nat.reduceAdd]at bx);(try rw[show((0:Int)).toNat=0 from rfl]at bV);(try simp only[Nat.reduceMul,Nat.zero_mul,Nat.zero_add,Nat.reduceAdd]at bV);replace aT:=ax aT;replace aV:=ax aV;obtain⟨bY,bZ⟩:=Kd.fW 0 al.out (0:Int) (by omega) (oD);(try simp only[Int.reduceToNat,Int.toNat_zero,Int.toNat_ofNat,Nat.reduceMul,Nat.zero_mul,Nat.zero_add]at bY bZ);(try rw[show((0:Int)).toNat=0 from rfl]at bY);(try rw[show((0:Int)).toNat=0 from rfl]at bZ);have bo:=Kd.kO al.out (0:Int) a0)|((with_reducible refine ju (t:=3) (p:=20) rfl ?_);refine jP (t:=3) (p:=20) (v:= ?zx) (w1:=(b1.setCell ⟨Y,(0:Int).toNat,none⟩ (.int .i64 a0))) ?hg ?ho ?hn ?hr ?_;(case ho=>rfl);(case hg=>rfl);(case hn=>rfl);(case hr=>first|(go_simp;done)|(go_simp;rfl));intro bB hw;have hg:b1.grownBy bB (some Y):=(by rw[hw];exact bo.2);have bW:Kd.R (Kd.int .i64) 3 bB w.heap.size (fun _=>True) (.slice (some ⟨Y,0,none⟩) aj.length a6) bD:=(by rw[hw,b8.out];exact bo.1);clear bo;have I:=A_ (bW);have O:=A_ ((by rw[hw];exact dA (D.out) b4.out:Below w.heap.size w bB));clear al D;have al:=I;have D:=O;clear I O hg hw bW))
      go_loopg [23] a_ (fun ao v23 w'=>∃(U:List Int) (u:Int),v23= .int .i64 u∧ae (cv.l0 ao U l1 (l1.length:Int) u=some (r1,r2))∧ae (ao≤a_)∧ae (Kd.R (Kd.int .i64) 3 w' w.heap.size (fun _=>True) (.slice (some ⟨Y,0,none⟩) aj.length a6) U)∧ae (Below w.heap.size w w'))
      case atStart=>exact⟨(bD),(0),eS,H',⟨Nat.le_refl _⟩,⟨oR al⟩,⟨oB D⟩⟩
      case round=>
       clear H'
       try clear c1
       try clear p1
       try clear q1
       try clear hx1
       try clear dw
       try clear p2
       try clear c3
       try clear c5
       try clear c8
       try clear c9
       try clear c10
       try clear b_
       try clear b'
       try clear c11
       try clear ca
       try clear cb
       try clear aT
       try clear aV
       try clear dv
       try clear cu
       try clear c7
       try clear bx
       try clear aT
       try clear p2
       try clear aV
       obtain⟨U,u,rfl,ak,bQ,G,D⟩:=hrel;have a9:=(Kd.cp G.out).1;rw[a9]at G
       (try simp only[a9])
       cases gk with
       |zero=>exact absurd ak.out (by simp[cv.l0])
       |succ k2=>
        have H:=ak.out;clear ak;simp only[cv.l0]at H;by_cases c17:u<(l1.length:Int)
        ·rw[aq c17]at H;have cc:decide (u<(l1.length:Int))=true:=ag c17;clear c17;by_cases c18:0≤u
         ·rw[aq c18]at H;have cE:decide (0≤u)=true:=ag c18;clear c18;by_cases c19:u<(l1.length:Int)
          ·rw[aq c19]at H;have cF:decide (u<(l1.length:Int))=true:=ag c19;clear c19;by_cases c20:0≤((af l1 u).f0)
           ·rw[aq c20]at H;have cG:decide (0≤((af l1 u).f0))=true:=ag c20;clear c20;by_cases a3:((af l1 u).f0)<(U.length:Int)
            ·rw[aq a3]at H;have cH:decide (((af l1 u).f0)<(U.length:Int))=true:=ag a3;clear a3;replace H:=az H;obtain⟨X,bF,H⟩:=H
             (try dsimp only at H)
             have bE:=A_ bF;clear bF;by_cases a4:0≤((af l1 u).f1)
             ·rw[aq a4]at H;have cI:decide (0≤((af l1 u).f1))=true:=ag a4;clear a4;by_cases a5:((af l1 u).f1)<(U.length:Int)
              ·rw[aq a5]at H;have cK:decide (((af l1 u).f1)<(U.length:Int))=true:=ag a5;clear a5;obtain⟨b2,aQ⟩:∃aX:List Int,aX=(U.set (((af l1 u).f1):Int).toNat X):=⟨_,rfl⟩;replace H:(if X=0 then(some (([]:List Int),false))else(cv.l0 k2 b2 l1 (l1.length:Int) (wrap64 (u+1))))=some (r1,r2):=by first|(rw[aQ];with_reducible exact H)|(have Z:=(aA _ _).symm.trans H;rw[aQ];with_reducible exact Z)|(have Z:=(aA _ _).symm.trans H;with_reducible exact Z)|with_reducible exact H|(rw[aQ];exact H)|exact H
               have a2:=A_ aQ;clear aQ;by_cases am:X=0
               ·rw[aq am]at H;have ce:(X==0)=true:=beq_iff_eq.mpr am;have cf:(X != 0)=false:=bne_eq_false_iff_eq.mpr am;clear am;simp only[Option.some.injEq,Prod.mk.injEq]at H;obtain⟨rfl,rfl⟩:=H;have ap:0≤(u:Int):=oD;have aB:u<(l1.length:Int):=oD;obtain⟨b9,bt,aI,aL,aM,aN⟩:=dU a1.out u ap aB;cases bt;replace aI:=hW D aI;replace aL:=hW D aL;replace aM:=hW D aM;replace aN:=hW D aN;replace ap:=ax ap;replace aB:=ax aB
                try go_wp2_with (first|((with_reducible refine aJ (N:=8) rfl ?_);refine bX (N:=8) (cs:= #[.int .i64 0,.int .i64 0,.int .i64 0,.int .i64 0]) (t:=112) ?_;intro F hg be aF hb;have I:=A_ (Kd.dG (oR G) hb);have O:=A_ (bn (oB D) hb);have V:=A_ (aF);have aR:=A_ ((by rw[hg];exact(bm (oB D)):w.heap.size≤F));have aS:=A_ ((by rw[hg];exact(bm (oB D)):w.heap.size≤F));clear G D;have G:=I;have D:=O;have z:=V;have b6:=aR;have b5:=aS;clear I O V aR aS hb aF hg;have cM:=cz z 0;have cO:=cz z 1;have cP:=cz z 2;have cQ:=cz z 3;have c_:=aK z.out 0;have c':=aK z.out 1;have da:=aK z.out 2;have db:=aK z.out 3))
                have I:ae (Kd.R (Kd.int .i64) 3 ((((be.setCell ⟨F,0,none⟩ (.int .i64 ((af l1 u).f0))).setCell ⟨F,1,none⟩ (.int .i64 ((af l1 u).f1))).setCell ⟨F,2,none⟩ (.int .i64 ((af l1 u).f2))).setCell ⟨F,3,none⟩ (.int .i64 ((af l1 u).f3))) w.heap.size (fun _=>True) (.slice (some ⟨Y,0,none⟩) U.length a6) U):=⟨by(with_reducible repeat(first|apply Kd.fg|apply Kd.fX|apply Kd.dH));exact Kd.cJ (Kd.dp (p:=⟨F,3,none⟩) (Kd.dp (p:=⟨F,2,none⟩) (Kd.dp (p:=⟨F,1,none⟩) (Kd.dp (p:=⟨F,0,none⟩) (Kd.jW G.out z.out (by decide)) (fun _ hk=>hk.2) (.int .i64 ((af l1 u).f0))) (fun _ hk=>hk.2) (.int .i64 ((af l1 u).f1))) (fun _ hk=>hk.2) (.int .i64 ((af l1 u).f2))) (fun _ hk=>hk.2) (.int .i64 ((af l1 u).f3))) (fun _ hk=>trivial)⟩;have O:ae (((((be.setCell ⟨F,0,none⟩ (.int .i64 ((af l1 u).f0))).setCell ⟨F,1,none⟩ (.int .i64 ((af l1 u).f1))).setCell ⟨F,2,none⟩ (.int .i64 ((af l1 u).f2))).setCell ⟨F,3,none⟩ (.int .i64 ((af l1 u).f3))).heap[F]? =some (.cells #[.int .i64 ((af l1 u).f0),.int .i64 ((af l1 u).f1),.int .i64 ((af l1 u).f2),.int .i64 ((af l1 u).f3)] 112 (0,0))):=⟨by(with_reducible repeat(first|refine bG ?_ _|refine bz ?_|refine bu ?_ _));refine cr (cs:= #[.int .i64 ((af l1 u).f0),.int .i64 ((af l1 u).f1),.int .i64 ((af l1 u).f2),.int .i64 0]) ?_ 3 _ rfl;(with_reducible repeat(first|refine bG ?_ _|refine bz ?_|refine bu ?_ _));refine cr (cs:= #[.int .i64 ((af l1 u).f0),.int .i64 ((af l1 u).f1),.int .i64 0,.int .i64 0]) ?_ 2 _ rfl;(with_reducible repeat(first|refine bG ?_ _|refine bz ?_|refine bu ?_ _));refine cr (cs:= #[.int .i64 ((af l1 u).f0),.int .i64 0,.int .i64 0,.int .i64 0]) ?_ 1 _ rfl;(with_reducible repeat(first|refine bG ?_ _|refine bz ?_|refine bu ?_ _));refine cr (cs:= #[.int .i64 0,.int .i64 0,.int .i64 0,.int .i64 0]) ?_ 0 _ rfl;(with_reducible repeat(first|refine bG ?_ _|refine bz ?_|refine bu ?_ _));exact z.out⟩;have V:ae (Below w.heap.size w ((((be.setCell ⟨F,0,none⟩ (.int .i64 ((af l1 u).f0))).setCell ⟨F,1,none⟩ (.int .i64 ((af l1 u).f1))).setCell ⟨F,2,none⟩ (.int .i64 ((af l1 u).f2))).setCell ⟨F,3,none⟩ (.int .i64 ((af l1 u).f3)))):=⟨oB D⟩
                (try clear G)
                (try clear z)
                (try clear D)
                generalize ((((be.setCell ⟨F,0,none⟩ (.int .i64 ((af l1 u).f0))).setCell ⟨F,1,none⟩ (.int .i64 ((af l1 u).f1))).setCell ⟨F,2,none⟩ (.int .i64 ((af l1 u).f2))).setCell ⟨F,3,none⟩ (.int .i64 ((af l1 u).f3)))=cw at I O V ⊢;have G:=I;have z:=O;have D:=V;clear I O V;have I:=A_ (Kd.dH G.out);have O:=A_ (bz z.out);have V:=A_ (cg D.out);clear G z D;have G:=I;have z:=O;have D:=V;clear I O V;have ar:0≤(((af l1 u).f0):Int):=oD;have aD:((af l1 u).f0)<(U.length:Int):=oD;obtain⟨bs,bv,ah⟩:=Kd.dV (Kd.cp G.out).2.2 ((af l1 u).f0) ar aD;obtain rfl:(⟨Y,0,none⟩:Addr)=bs:=(by injection bv)
                (first|simp only[add_plain]at ah|simp only[nO]at ah|simp only[Addr.add,Nat.zero_add]at ah|skip)
                replace ar:=ax ar;replace aD:=ax aD;refine fB (n:=15) (S:=fun w'=>w'.cell? ⟨F,0,none⟩=some (.int .i64 ((af l1 u).f0))∧w'.cell? ⟨F,1,none⟩=some (.int .i64 ((af l1 u).f1))∧w'.cell? ⟨F,2,none⟩=some (.int .i64 ((af l1 u).f2))∧w'.cell? ⟨F,3,none⟩=some (.int .i64 ((af l1 u).f3))∧w'.cell? ⟨Y,(((af l1 u).f0)).toNat,none⟩=some (.int .i64 (rd U ((af l1 u).f0)))) (ds:=[14]) #[false,false,false,false,false,false,false,false,false,false,false,false,false,false,false] (by kernel_rfl) rfl rfl ⟨cz z 0,cz z 1,cz z 2,cz z 3,ah⟩ (fun hHeld=> ?_);refine fU cv.iw cv.hE (fun J ad=> ?_);generalize cw.drew=dz at G z D ah hHeld ⊢;refine pA 0 (some 27) J.out ?_;refine pA 1 (some 28) J.out ?_;refine pA 3 (some 30) J.out ?_;refine pA 4 (some 31) J.out ?_;refine pA 8 (some 35) J.out ?_;refine pA 10 (some 37) J.out ?_;refine pT 2 (some 29) J.out ad.out hHeld ?_;refine pT 5 (some 32) J.out ad.out hHeld ?_;refine pA 6 (some 33) J.out ?_;refine pT 7 (some 34) J.out ad.out hHeld ?_;refine pT 9 (some 36) J.out ad.out hHeld ?_;refine pT 11 (some 38) J.out ad.out hHeld ?_;refine dO (i:=12) (N:=some 39) #[true,true,true,true,true,true,true,true,true,true,true,true,true,false,false] rfl rfl (dn J.out (by kernel_rfl)) (by decide) (fun K hK=> ?_);refine df Tryz.func91 (by kernel_rfl) rfl #[.int .i64 (rd U ((af l1 u).f0)),.int .i64 ((af l1 u).f2),.int .i64 ((af l1 u).f3)] (by rfl) rfl rfl (by(try simp only[List.map_toArray,List.map_cons,List.map_nil]);first|done|rfl|(simp only[List.length_drop,List.length_take];rfl)) ?_
                with_reducible refine(dx.c k2 (rd U ((af l1 u).f0)) ((af l1 u).f2) ((af l1 u).f3) X _ bE.out).mono ?_
                rintro e cx ⟨rfl,hb⟩;have br:=(hb.cell (World.block_lt_of_cell? _ _ (hHeld.2.2.2.2))).trans (hHeld.2.2.2.2);refine⟨_,rfl,?_⟩;have I:=A_ (Kd.dG (oR G) hb);have O:=A_ (bb z hb);have V:=A_ (bn (oB D) hb);clear G z D;have G:=I;have z:=O;have D:=V;clear I O V
                (try clear hb)
                (try clear hb2)
                (try clear hk)
                (try clear hi)
                have av:0≤(((af l1 u).f1):Int):=oD;have aE:(((af l1 u).f1):Int)<((U.length:Int):Int):=oD;obtain⟨cq,cm⟩:=Kd.fW 0 G.out (((af l1 u).f1):Int) av aE;replace av:=ax av;replace aE:=ax aE;have bp:=Kd.o9 G.out (((af l1 u).f1):Int) X;rw[←a2.out]at bp;have b7:=A_ bp;clear bp;refine hK.out _ _ ⟨cz z 0,cz z 1,cz z 2,cz z 3,br⟩ (fun hHeld=> ?_);clear hK K;refine dX (a':= ?_) ?_ ?_;rotate_left
                ·show Act.put _ (some 39) _=_;simp only[Act.put,List.setIfInBounds_toArray,List.set_cons_zero,List.set_cons_succ,cd,ct];rfl
                refine pA 13 (some 40) J.out ?_;refine oq (i:=14) (N:=none) #[true,true,true,true,true,true,true,true,true,true,true,true,true,true,true] rfl rfl (dn J.out (by kernel_rfl)) (by decide) (fun K hK=> ?_);refine mh (w1:= ?_) (by rfl) rfl ?_ ?_;rotate_left
                ·go_simp
                 rfl
                refine hK.out _ _ ?_;clear hK K;refine eW (fp J.out (by kernel_rfl)) ?_;have cR:=cz z 0;have cS:=cz z 1;have cT:=cz z 2;have cU:=cz z 3;have dc:=aK z.out 0;have dd:=aK z.out 1;have de:=aK z.out 2;have dh:=aK z.out 3;have aw:0≤(((af l1 u).f1):Int):=oD;have aW:(((af l1 u).f1):Int)<((U.length:Int):Int):=oD;have aG:(((af l1 u).f1):Int).toNat<U.length:=(by omega);have bw:=(Kd.fW 0 b7.out (((af l1 u).f1):Int) aw (by have ck:=(Kd.cp G.out).1;omega)).1;rw[a2.out,show jJ 0 (U.set (((af l1 u).f1):Int).toNat X) (((af l1 u).f1):Int)=X by simp[jJ,List.getD_eq_getElem?_getD,aG]]at bw;clear aG;have cl:(cx.setCell ⟨Y,(((af l1 u).f1):Int).toNat,none⟩ (.int .i64 X)).cell? ⟨F,1,none⟩=some (.int .i64 (((af l1 u).f1):Int)):=(cA (fF z.out (fun e_=>Kd.jV G.out z.out (by decide) (by simp only[Value.ownBlock];rw[e_])) _) 1).trans rfl;replace aw:=ax aw;replace aW:=ax aW
                try go_wp2
                go_ret2;exact⟨_,eR,by first|exact Kd.bl _ _ _ _ _|exact Kd.o0 _ _ _ _ _|exact Kd.pk _ _ _ _ _|exact Kd.o7 _ _ _ _ _|exact Kd.pg _ _ _ _ _,oB D⟩
               ·rw[au am]at H;have ce:(X==0)=false:=beq_eq_false_iff_ne.mpr am;have cf:(X != 0)=true:=bne_iff_ne.mpr am;have H':=A_ H;clear H;have ap:0≤(u:Int):=oD;have aB:u<(l1.length:Int):=oD;obtain⟨b9,bt,aI,aL,aM,aN⟩:=dU a1.out u ap aB;cases bt;replace aI:=hW D aI;replace aL:=hW D aL;replace aM:=hW D aM;replace aN:=hW D aN;replace ap:=ax ap;replace aB:=ax aB
                try go_wp2_with (first|((with_reducible refine aJ (N:=8) rfl ?_);refine bX (N:=8) (cs:= #[.int .i64 0,.int .i64 0,.int .i64 0,.int .i64 0]) (t:=112) ?_;intro F hg bg aF hb;have I:=A_ (Kd.dG (oR G) hb);have O:=A_ (bn (oB D) hb);have V:=A_ (aF);have aR:=A_ ((by rw[hg];exact(bm (oB D)):w.heap.size≤F));have aS:=A_ ((by rw[hg];exact(bm (oB D)):w.heap.size≤F));clear G D;have G:=I;have D:=O;have z:=V;have b6:=aR;have b5:=aS;clear I O V aR aS hb aF hg;have cV:=cz z 0;have cW:=cz z 1;have cX:=cz z 2;have cY:=cz z 3;have di:=aK z.out 0;have dj:=aK z.out 1;have dk:=aK z.out 2;have dl:=aK z.out 3))
                have I:ae (Kd.R (Kd.int .i64) 3 ((((bg.setCell ⟨F,0,none⟩ (.int .i64 ((af l1 u).f0))).setCell ⟨F,1,none⟩ (.int .i64 ((af l1 u).f1))).setCell ⟨F,2,none⟩ (.int .i64 ((af l1 u).f2))).setCell ⟨F,3,none⟩ (.int .i64 ((af l1 u).f3))) w.heap.size (fun _=>True) (.slice (some ⟨Y,0,none⟩) U.length a6) U):=⟨by(with_reducible repeat(first|apply Kd.fg|apply Kd.fX|apply Kd.dH));exact Kd.cJ (Kd.dp (p:=⟨F,3,none⟩) (Kd.dp (p:=⟨F,2,none⟩) (Kd.dp (p:=⟨F,1,none⟩) (Kd.dp (p:=⟨F,0,none⟩) (Kd.jW G.out z.out (by decide)) (fun _ hk=>hk.2) (.int .i64 ((af l1 u).f0))) (fun _ hk=>hk.2) (.int .i64 ((af l1 u).f1))) (fun _ hk=>hk.2) (.int .i64 ((af l1 u).f2))) (fun _ hk=>hk.2) (.int .i64 ((af l1 u).f3))) (fun _ hk=>trivial)⟩;have O:ae (((((bg.setCell ⟨F,0,none⟩ (.int .i64 ((af l1 u).f0))).setCell ⟨F,1,none⟩ (.int .i64 ((af l1 u).f1))).setCell ⟨F,2,none⟩ (.int .i64 ((af l1 u).f2))).setCell ⟨F,3,none⟩ (.int .i64 ((af l1 u).f3))).heap[F]? =some (.cells #[.int .i64 ((af l1 u).f0),.int .i64 ((af l1 u).f1),.int .i64 ((af l1 u).f2),.int .i64 ((af l1 u).f3)] 112 (0,0))):=⟨by(with_reducible repeat(first|refine bG ?_ _|refine bz ?_|refine bu ?_ _));refine cr (cs:= #[.int .i64 ((af l1 u).f0),.int .i64 ((af l1 u).f1),.int .i64 ((af l1 u).f2),.int .i64 0]) ?_ 3 _ rfl;(with_reducible repeat(first|refine bG ?_ _|refine bz ?_|refine bu ?_ _));refine cr (cs:= #[.int .i64 ((af l1 u).f0),.int .i64 ((af l1 u).f1),.int .i64 0,.int .i64 0]) ?_ 2 _ rfl;(with_reducible repeat(first|refine bG ?_ _|refine bz ?_|refine bu ?_ _));refine cr (cs:= #[.int .i64 ((af l1 u).f0),.int .i64 0,.int .i64 0,.int .i64 0]) ?_ 1 _ rfl;(with_reducible repeat(first|refine bG ?_ _|refine bz ?_|refine bu ?_ _));refine cr (cs:= #[.int .i64 0,.int .i64 0,.int .i64 0,.int .i64 0]) ?_ 0 _ rfl;(with_reducible repeat(first|refine bG ?_ _|refine bz ?_|refine bu ?_ _));exact z.out⟩;have V:ae (Below w.heap.size w ((((bg.setCell ⟨F,0,none⟩ (.int .i64 ((af l1 u).f0))).setCell ⟨F,1,none⟩ (.int .i64 ((af l1 u).f1))).setCell ⟨F,2,none⟩ (.int .i64 ((af l1 u).f2))).setCell ⟨F,3,none⟩ (.int .i64 ((af l1 u).f3)))):=⟨oB D⟩
                (try clear G)
                (try clear z)
                (try clear D)
                generalize ((((bg.setCell ⟨F,0,none⟩ (.int .i64 ((af l1 u).f0))).setCell ⟨F,1,none⟩ (.int .i64 ((af l1 u).f1))).setCell ⟨F,2,none⟩ (.int .i64 ((af l1 u).f2))).setCell ⟨F,3,none⟩ (.int .i64 ((af l1 u).f3)))=cB at I O V ⊢;have G:=I;have z:=O;have D:=V;clear I O V;have I:=A_ (Kd.dH G.out);have O:=A_ (bz z.out);have V:=A_ (cg D.out);clear G z D;have G:=I;have z:=O;have D:=V;clear I O V;have ar:0≤(((af l1 u).f0):Int):=oD;have aD:((af l1 u).f0)<(U.length:Int):=oD;obtain⟨bs,bv,ah⟩:=Kd.dV (Kd.cp G.out).2.2 ((af l1 u).f0) ar aD;obtain rfl:(⟨Y,0,none⟩:Addr)=bs:=(by injection bv)
                (first|simp only[add_plain]at ah|simp only[nO]at ah|simp only[Addr.add,Nat.zero_add]at ah|skip)
                replace ar:=ax ar;replace aD:=ax aD;refine fB (n:=15) (S:=fun w'=>w'.cell? ⟨F,0,none⟩=some (.int .i64 ((af l1 u).f0))∧w'.cell? ⟨F,1,none⟩=some (.int .i64 ((af l1 u).f1))∧w'.cell? ⟨F,2,none⟩=some (.int .i64 ((af l1 u).f2))∧w'.cell? ⟨F,3,none⟩=some (.int .i64 ((af l1 u).f3))∧w'.cell? ⟨Y,(((af l1 u).f0)).toNat,none⟩=some (.int .i64 (rd U ((af l1 u).f0)))) (ds:=[14]) #[false,false,false,false,false,false,false,false,false,false,false,false,false,false,false] (by kernel_rfl) rfl rfl ⟨cz z 0,cz z 1,cz z 2,cz z 3,ah⟩ (fun hHeld=> ?_);refine fU cv.iw cv.hE (fun J ad=> ?_);generalize cB.drew=dB at G z D ah hHeld ⊢;refine pA 0 (some 27) J.out ?_;refine pA 1 (some 28) J.out ?_;refine pA 3 (some 30) J.out ?_;refine pA 4 (some 31) J.out ?_;refine pA 8 (some 35) J.out ?_;refine pA 10 (some 37) J.out ?_;refine pT 2 (some 29) J.out ad.out hHeld ?_;refine pT 5 (some 32) J.out ad.out hHeld ?_;refine pA 6 (some 33) J.out ?_;refine pT 7 (some 34) J.out ad.out hHeld ?_;refine pT 9 (some 36) J.out ad.out hHeld ?_;refine pT 11 (some 38) J.out ad.out hHeld ?_;refine dO (i:=12) (N:=some 39) #[true,true,true,true,true,true,true,true,true,true,true,true,true,false,false] rfl rfl (dn J.out (by kernel_rfl)) (by decide) (fun K hK=> ?_);refine df Tryz.func91 (by kernel_rfl) rfl #[.int .i64 (rd U ((af l1 u).f0)),.int .i64 ((af l1 u).f2),.int .i64 ((af l1 u).f3)] (by rfl) rfl rfl (by(try simp only[List.map_toArray,List.map_cons,List.map_nil]);first|done|rfl|(simp only[List.length_drop,List.length_take];rfl)) ?_
                with_reducible refine(dx.c k2 (rd U ((af l1 u).f0)) ((af l1 u).f2) ((af l1 u).f3) X _ bE.out).mono ?_
                rintro e cC ⟨rfl,hb⟩;have br:=(hb.cell (World.block_lt_of_cell? _ _ (hHeld.2.2.2.2))).trans (hHeld.2.2.2.2);refine⟨_,rfl,?_⟩;have I:=A_ (Kd.dG (oR G) hb);have O:=A_ (bb z hb);have V:=A_ (bn (oB D) hb);clear G z D;have G:=I;have z:=O;have D:=V;clear I O V
                (try clear hb)
                (try clear hb2)
                (try clear hk)
                (try clear hi)
                have av:0≤(((af l1 u).f1):Int):=oD;have aE:(((af l1 u).f1):Int)<((U.length:Int):Int):=oD;obtain⟨cq,cm⟩:=Kd.fW 0 G.out (((af l1 u).f1):Int) av aE;replace av:=ax av;replace aE:=ax aE;have bq:=Kd.o9 G.out (((af l1 u).f1):Int) X;rw[←a2.out]at bq;have bR:=A_ bq;clear bq;refine hK.out _ _ ⟨cz z 0,cz z 1,cz z 2,cz z 3,br⟩ (fun hHeld=> ?_);clear hK K;refine dX (a':= ?_) ?_ ?_;rotate_left
                ·show Act.put _ (some 39) _=_;simp only[Act.put,List.setIfInBounds_toArray,List.set_cons_zero,List.set_cons_succ,cd,ct];rfl
                refine pA 13 (some 40) J.out ?_;refine oq (i:=14) (N:=none) #[true,true,true,true,true,true,true,true,true,true,true,true,true,true,true] rfl rfl (dn J.out (by kernel_rfl)) (by decide) (fun K hK=> ?_);refine mh (w1:= ?_) (by rfl) rfl ?_ ?_;rotate_left
                ·go_simp
                 rfl
                refine hK.out _ _ ?_;clear hK K;refine eW (fp J.out (by kernel_rfl)) ?_;have cZ:=cz z 0;have c0:=cz z 1;have c4:=cz z 2;have c6:=cz z 3;have dm:=aK z.out 0;have dq:=aK z.out 1;have dr:=aK z.out 2;have dt:=aK z.out 3;have aw:0≤(((af l1 u).f1):Int):=oD;have aW:(((af l1 u).f1):Int)<((U.length:Int):Int):=oD;have aG:(((af l1 u).f1):Int).toNat<U.length:=(by omega);have bw:=(Kd.fW 0 bR.out (((af l1 u).f1):Int) aw (by have ck:=(Kd.cp G.out).1;omega)).1;rw[a2.out,show jJ 0 (U.set (((af l1 u).f1):Int).toNat X) (((af l1 u).f1):Int)=X by simp[jJ,List.getD_eq_getElem?_getD,aG]]at bw;clear aG;have cl:(cC.setCell ⟨Y,(((af l1 u).f1):Int).toNat,none⟩ (.int .i64 X)).cell? ⟨F,1,none⟩=some (.int .i64 (((af l1 u).f1):Int)):=(cA (fF z.out (fun e_=>Kd.jV G.out z.out (by decide) (by simp only[Value.ownBlock];rw[e_])) _) 1).trans rfl;replace aw:=ax aw;replace aW:=ax aW
                try go_wp2
                (try simp only[←a9])
                go_roundg k2
                case measure=>have:=bM.out;have:=bQ.out;omega
                case rel=>exact⟨(b2),(wrap64 (u+1)),eS,H',⟨by have:=bM.out;have:=bQ.out;omega⟩,⟨by(try simp only[a9]);(with_reducible repeat(first|apply Kd.fg|apply Kd.fX|apply Kd.dH));exact bR.out⟩,⟨oB D⟩⟩
              ·rw[au a5]at H;exact absurd H (by simp)
             ·rw[au a4]at H;exact absurd H (by simp)
            ·rw[au a3]at H;exact absurd H (by simp)
           ·rw[au c20]at H;exact absurd H (by simp)
          ·rw[au c19]at H;exact absurd H (by simp)
         ·rw[au c18]at H;exact absurd H (by simp)
        ·rw[au c17]at H;have cc:decide (u<(l1.length:Int))=false:=ay c17;clear c17;simp only[Option.some.injEq,Prod.mk.injEq]at H;obtain⟨rfl,rfl⟩:=H;go_wp2;go_ret2;exact⟨_,eR,oR G,oB D⟩
     ·rw[au c11]at H;exact absurd H (by simp)
    ·rw[au c10]at H;exact absurd H (by simp)
end P
namespace Q
open Go.RowKit P
def ic (l:List ah) (m:Int):Prop:=l.length=0∨(l.getD (l.length-1) dr).f2≤m
instance (l:List ah) (m:Int):Decidable (ic l m):=by unfold ic;exact inferInstance
def cE (p:List ai) (d:Int) (q:List Int) (a m:Int) (l:List ah):Bool:=bR p d q&&(cI l&&(decide (-10≤a∧a≤40)&&(decide (0≤m∧m≤100000)&&decide (ic l m))))
theorem il {p:List ai} {d:Int} {q:List Int} {a m:Int} {l:List ah}:cE p d q a m l=true↔bR p d q=true∧cI l=true∧(-10≤a∧a≤40)∧(0≤m∧m≤100000)∧ic l m:=by
  unfold cE;simp only[Bool.and_eq_true,decide_eq_true_eq]
end Q
namespace P
open Go.RowKit WW.bk WW.b_ WW.b6
open Go.Maps (Keyed)
theorem wX:laidOutB Tryz.prog=true:=by kernel_rfl
theorem xO:WideMaps.KeyLaw Tryz.prog 74:=deep_law_gate wX (of_decide_eq_true (by kernel_rfl)) (of_decide_eq_true (by kernel_rfl)) (by kernel_rfl) (by kernel_rfl)
theorem lv:Keyed Tryz.prog 74:=Keyed.of_law xO
def bY (a:Int):Prop:=(Lit.int .i64 a).wf=true
theorem kH {a:Int} (h: -9223372036854775808≤a) (h2:a≤9223372036854775807):bY a:=by
  have e1:IntKind.i64.min= -9223372036854775808:=by decide
  have e2:IntKind.i64.max=9223372036854775807:=by decide
  unfold bY Lit.wf;simp[e1,e2];omega
def jG (a b:Int):Value:= .agg #[.int .i64 a,.int .i64 b]
def ma (x:ah):Value:= .agg #[.int .i64 x.f0.f0,.int .i64 x.f0.f1,.int .i64 x.f1,.int .i64 x.f2]
theorem ox:Tryz.prog.cellsOf 74=2:=by kernel_rfl
theorem rI:Tryz.prog.cellsOf 3=1:=by kernel_rfl
theorem tF:∃m,Tryz.prog.types.size=m+1:=⟨Tryz.prog.types.size-1,by have:0<Tryz.prog.types.size:=of_decide_eq_true (by kernel_rfl);omega⟩
theorem keyLits_int (m:Nat) (v:Value):Tryz.prog.keyLits (m+1) 3 [v]=(match v with| .int q' n=>if q'= .i64∧(Lit.int .i64 n).wf=true then some [.int .i64 n]else none|_=>none):=by
  simp only[Program.keyLits,Tryz.underlying3];cases v<;>rfl
def e7 (a b:Int):Lit:= .string (keyBytes [.int .i64 a,.int .i64 b])
theorem ln {a b:Int} (ha:bY a) (hb:bY b):keyOf Tryz.prog 74 (jG a b)=some (e7 a b):=by
  obtain⟨m,hm⟩:=tF;have kt:Tryz.prog.keyType 74=true:=by kernel_rfl
  unfold bY at ha hb;have fm:(jG a b).formed Tryz.prog 74=true:=by simp[jG,Value.formed,Tryz.underlying74,ox]
  have hl:Tryz.prog.keyLits (m+1+1) 74 [.int .i64 a,.int .i64 b]=some [.int .i64 a,.int .i64 b]:=by
    unfold Program.keyLits;simp only[Tryz.underlying74];simp[ox,rI,keyLits_int,ha,hb]
  rw[←hm]at hl;unfold keyOf;simp only[Tryz.underlying74,kt,fm,Bool.and_self,if_true,Option.map_eq_some_iff];exact⟨_,hl,rfl⟩
theorem rK {v:Value} {l:Lit} (h:keyOf Tryz.prog 74 v=some l):∃a b,v=jG a b∧bY a∧bY b:=by
  obtain⟨m,hm⟩:=tF;have kt:Tryz.prog.keyType 74=true:=by kernel_rfl
  unfold keyOf at h;simp only[Tryz.underlying74,kt,Bool.true_and]at h
  split at h
  case isFalse=>cases h
  case isTrue hf=>
    cases v<;>simp[Value.formed,Tryz.underlying74,ox]at hf
    rename_i cs
    obtain⟨c0,c1,rfl⟩:∃c0 c1,cs= #[c0,c1]:=by
      rcases cs with ⟨_|⟨x,_|⟨y,_|⟨z,t⟩⟩⟩⟩<;>simp at hf ⊢
    simp only[Option.map_eq_some_iff]at h;obtain⟨ls,h,_⟩:=h;rw[hm]at h;replace h:Tryz.prog.keyLits (m+1+1) 74 [c0,c1]=some ls:=h;unfold Program.keyLits at h;simp only[Tryz.underlying74]at h;simp[ox,rI,keyLits_int]at h;cases c0<;>simp at h
    rename_i k0 n0
    by_cases e0:k0= .i64∧(Lit.int .i64 n0).wf=true
    · obtain⟨rfl,e0⟩:=e0;cases c1<;>simp[e0]at h
      rename_i k1 n1
      by_cases e1:k1= .i64∧(Lit.int .i64 n1).wf=true
      · obtain⟨rfl,e1⟩:=e1;exact⟨_,_,rfl,e0,e1⟩
      · simp[e1]at h
    · simp[e0]at h
instance zv:DecidableEq bL:=fun a b=>decidable_of_iff (a.f0=b.f0∧a.f1=b.f1) ⟨fun h=>by obtain⟨x,y⟩:=a;obtain⟨z,u⟩:=b;simp only at h;obtain⟨rfl,rfl⟩:=h;rfl,fun h=>by rw[h];exact⟨rfl,rfl⟩⟩
abbrev iI (v:Value):Option (DataW Unit×List MemPlace):=
  match v with
  | .agg ⟨[.int .i64 a,.int .i64 b,.int .i64 c,.int .i64 d]⟩=>some (.agg [.lit (.int .i64 a),.lit (.int .i64 b),.lit (.int .i64 c),.lit (.int .i64 d)],[])
  |_=>none
def ig (x:ah):DataW Unit:= .agg [.lit (.int .i64 x.f0.f0),.lit (.int .i64 x.f0.f1),.lit (.int .i64 x.f1),.lit (.int .i64 x.f2)]
theorem pP (x:ah):iI (ma x)=some (ig x,[]):=rfl
theorem sx {v:Value} {y:DataW Unit×List MemPlace} (h:iI v=some y):∃x:ah,v=ma x∧y=(ig x,[]):=by
  unfold iI at h
  split at h
  · exact⟨⟨⟨_,_⟩,_,_⟩,rfl,(aC h).symm⟩
  · cases h
theorem pS {x y:ah} (h:ig x=ig y):x=y:=by
  obtain⟨⟨a,b⟩,c,d⟩:=x;obtain⟨⟨a',b'⟩,c',d'⟩:=y;simp[ig]at h;obtain⟨rfl,rfl,rfl,rfl⟩:=h;rfl
structure jU (D:DataW Unit) (m:bL→Option ah):Prop where
  isMap:Maps.IsMap D
  at_:∀p:bL,bY p.f0→bY p.f1→∀z,D.atKey (e7 p.f0 p.f1) z=((m p).map ig).getD z
theorem wV:jU (.map []) (fun _=>none):=⟨Maps.isMap_empty,fun _ _ _ _=>rfl⟩
theorem su {a b a' b':Int} (ha:bY a) (hb:bY b) (ha':bY a') (hb':bY b') (h:e7 a b=e7 a' b'):a=a'∧b=b':=by
  have h1:=ln ha hb;have h2:=ln ha' hb';rw[←h]at h2;have e:=lv.inj h1 h2;simp[jG]at e;exact e
theorem jU.put {D:DataW Unit} {m:bL→Option ah} (h:jU D m) (p:bL) (ha:bY p.f0) (hb:bY p.f1) (x:ah):
    jU (D.put (e7 p.f0 p.f1) (ig x)) (fun q=>if q=p then some x else m q):=by
  refine⟨h.isMap.put _ _,fun q u hq1 z=> ?_⟩;by_cases e:q=p
  · subst e;rw[Maps.atKey_put_same h.isMap (lv.key (ln ha hb))];simp
  · have hne:e7 q.f0 q.f1≠e7 p.f0 p.f1:=fun hh=>e (by
      have:=su u hq1 ha hb hh;obtain⟨a,b⟩:=q;obtain⟨c,d⟩:=p;simp only at this;obtain⟨rfl,rfl⟩:=this;rfl)
    rw[Maps.atKey_put_other hne,h.at_ q u hq1];simp[e]
def gS (l:List ah) (p:bL):Option ah:=l.foldl (fun o x=>if p=x.f0 then some x else o) none
theorem pJ (l:List ah) (x:ah):gS (l++[x])=fun q=>if q=x.f0 then some x else gS l q:=by
  funext q
  simp[gS]
abbrev sw (w:World) (b n:Nat) (l:List ah):Prop:=∃D,w.ownsMap Tryz.prog 74 iI b n D∧jU D (gS l)
set_option maxHeartbeats 4000000 in
set_option maxRecDepth 100000 in
theorem pE.c (F:Option Addr) (c0:Nat) (l0:List ah) (w:World) (K:Kd.C aT w F l0.length l0) (hc0:l0.length≤c0) (hl:l0.length≤1000) (hw:∀x∈l0,bY x.f0.f0∧bY x.f0.f1):
    Calls Tryz.prog 92 #[.slice F l0.length c0] w fun e w'=>∃b:Nat,e= .returned (.map (some b))∧w.heap.size≤b∧sw w' b l0.length l0∧Below w.heap.size w w':=by
  have Y:=ae.mk K;have HW:=ae.mk hw;have u:=ae.mk (Below.refl w.heap.size w);clear K hw;have J:=World.ownsMap_made w Tryz.prog 74 iI;have HO:=ae.mk J;clear J;have aj:=@run_makeMap Tryz.prog;go_enter Tryz.func92,Tryz.ntmps92;go_wp2
  go_loopg [9] (l0.length+1) (fun af v9 w'=>∃(i:Nat),v9= .int .i64 (i:Int)∧ae (i+af=l0.length+1)∧ae (i≤l0.length)∧ae (sw w' w.heap.size i (l0.take i))∧ae (Below w.heap.size w w'))
  case atStart=>
    exact⟨0,rfl,⟨by omega⟩,⟨by omega⟩,⟨⟨_,HO.out,wV⟩⟩,⟨bO u.out _⟩⟩
  case round=>
    clear u HO;obtain⟨i,rfl,V,X,z,u⟩:=hrel;by_cases hlt:i<l0.length
    · have hb3:decide ((i:Int)<(l0.length:Int))=true:=ag (by omega);have hb4:decide (i<l0.length)=true:=ag (by omega);obtain⟨ad,e,hx0,hx1,hx2,hx3⟩:=er Y.out (i:Int) (by omega) (by omega);cases e;replace hx0:=(u.out.cell (World.block_lt_of_cell? w _ hx0)).trans hx0;replace hx1:=(u.out.cell (World.block_lt_of_cell? w _ hx1)).trans hx1;replace hx2:=(u.out.cell (World.block_lt_of_cell? w _ hx2)).trans hx2;replace hx3:=(u.out.cell (World.block_lt_of_cell? w _ hx3)).trans hx3;obtain⟨x,hx⟩:∃x,av l0 (i:Int)=x:=⟨_,rfl⟩;rw[hx]at hx0 hx1 hx2 hx3;simp only[Int.toNat_natCast]at hx0 hx1 hx2 hx3;have e0:l0[i]=x:=(by rw[←hx];simp[av,List.getD_eq_getElem?_getD,hlt]);obtain⟨q1,q2⟩:=HW.out x (by rw[←e0];exact List.getElem_mem hlt);have Z:ae (l0.take (i+1)=l0.take i++[x]):=⟨by rw[List.take_succ_eq_append_getElem hlt,e0]⟩;have G:=ae.mk q1;have H:=ae.mk q2;obtain⟨D,hD,I⟩:=z.out;have HD:=ae.mk hD;have O:=ae.mk I;have ai:=ae.mk hlt;clear hx e0 q1 q2 z hD I
      go_wp2_with (first|(at_mapUpdate;refine wpList_mapUpdate_own _ rfl _ _ _ 114 rfl 74 104 lv Tryz.underlying114 iI w.heap.size i D rfl (HD.out.alloc _) (show i<maxLen from Nat.lt_of_le_of_lt (show i≤1000 by omega) (by decide)) (jG x.f0.f0 x.f0.f1) (ma x) _ rfl rfl (ln G.out H.out) (ig x) [] (pP x) ?_;intro w2 h2 hg2;have H2:=ae.mk h2;have U:=ae.mk hg2;clear h2 hg2))
      go_roundg (l0.length-i)
      case measure=>have:=V.out;omega
      case rel=>
        refine⟨i+1,by go_num,⟨by omega⟩,⟨by omega⟩,⟨⟨_,H2.out,?_⟩⟩,⟨?_⟩⟩
        · rw[Z.out,pJ];exact jU.put O.out x.f0 G.out H.out x
        · exact(bO u.out _).grown U.out (bO u.out _).size (fun k hk=>by cases hk;exact Nat.le_refl _)
    · have hb3:decide ((i:Int)<(l0.length:Int))=false:=ay (by omega);have hb4:decide (i<l0.length)=false:=ay (by omega);obtain rfl:i=l0.length:=(by have:=X.out;omega);go_wp2;go_ret;exact⟨w.heap.size,rfl,Nat.le_refl _,by simpa using z.out,u.out⟩
def fH (l:List ah) (p:bL):Int:=((gS l p).getD dr).f1
instance (a:Int):Decidable (bY a):=by unfold bY;infer_instance
theorem zu (w:World):(zeroValue 104).run Tryz.prog w= .ok (ma dr) w:=by kernel_rfl
theorem vS (a b c d:Int) (w:World):(Instr.field 104 (.agg #[.int .i64 a,.int .i64 b,.int .i64 c,.int .i64 d]) 1).run Tryz.prog w= .ok (.int .i64 c) w:=by kernel_rfl
theorem rS {w:World} {b n:Nat} {D:DataW Unit} {m:bL→Option ah} (h:w.ownsMap Tryz.prog 74 iI b n D) (hD:jU D m) (p:bL) (h0:bY p.f0) (h1:bY p.f1):
    ∃x:ah,(Instr.lookup 114 (.map (some b)) (.agg #[.int .i64 p.f0,.int .i64 p.f1]) false).run Tryz.prog w= .ok (.agg #[.int .i64 x.f0.f0,.int .i64 x.f0.f1,.int .i64 x.f1,.int .i64 x.f2]) w∧x=(m p).getD dr:=by
  obtain⟨v,ps,hrun,hv⟩:=h.lookup lv Tryz.underlying114 (zu w) (pP _) (ln h0 h1);obtain⟨x,rfl,e⟩:=sx hv;refine⟨x,hrun,?_⟩;rw[hD.at_ p h0 h1]at e;simp only[Prod.mk.injEq]at e;cases hm:m p with
  |none=>rw[hm]at e;exact(pS e.1).symm
  |some y=>rw[hm]at e;exact(pS e.1).symm
end P
namespace V
open Go.RowKit WW.bk
class From (w0 W:World):Prop where out:Below w0.heap.size w0 W
class aw (w:outParam World) (W:World):Prop where out:Below w.heap.size w W
class fC (w:outParam World) (g:Nat):Prop where out:g=w.heap.size
class aQ (W:World) (g:Nat) (cs:outParam (Array Value)) (t:outParam TypeId):Prop where out:W.heap[g]? =some (.cells cs t (0,0))
class Sz (w0 W:World):Prop where out:w0.heap.size≤W.heap.size
class Nw (w0:World) (g:Nat):Prop where out:w0.heap.size≤g
class dw (g g':Nat):Prop where out:g≠g'
class aj (n c:Nat):Prop where out:n≤c
class aM {α:Type} (d:Kd α) (w0:outParam World) (A:Option Addr) (xs:outParam (List α)):Prop where out:d.C w0 A xs.length xs
class Rd {α:Type} (d:Kd α) (W:World) (A:Option Addr) (xs:List α):Prop where out:d.C W A xs.length xs
class dI {α:Type} (d:Kd α) (e:outParam Nat) (w1 w2:outParam World) (A:Option Addr) (c:outParam Nat) (xs:outParam (List α)):Prop where out:d.R e w2 w1.heap.size (fun _=>True) (.slice A xs.length c) xs
class dF (w1 w2 W:World):Prop where out:∀k,w1.heap.size≤k→k<w2.heap.size→W.heap[k]? =w2.heap[k]?
class ji (w1 w2:World) (g:Nat):Prop where out:g<w1.heap.size∨w2.heap.size≤g
section
variable {w0 w1 w2 w W W':World} {g g':Nat} {cs cs':Array Value} {t t':TypeId} {o:Obj} {n i:Nat} {v:Value}
instance:From w w:=⟨Below.refl _ _⟩
instance [h:From w0 W]:From w0 (W.alloc o):=⟨bO h.out _⟩
instance [h:From w0 W]:From w0 W.drew:=⟨cg h.out⟩
instance [h:From w0 W]:From w0 (W.drewN n):=⟨cN h.out _⟩
instance [h:From w0 W] [hg:Nw w0 g]:From w0 (W.setCell ⟨g,i,none⟩ v):=⟨dA h.out hg.out⟩
instance [h:aw w W] [k:From w0 w]:From w0 W:=⟨bn k.out h.out⟩
instance:Sz w w:=⟨Nat.le_refl _⟩
instance [h:Sz w0 W]:Sz w0 (W.alloc o):=⟨Nat.le_trans h.out (by simp)⟩
instance [h:Sz w0 W]:Sz w0 W.drew:=⟨h.out⟩
instance [h:Sz w0 W]:Sz w0 (W.drewN n):=⟨h.out⟩
instance {p:Addr} [h:Sz w0 W]:Sz w0 (W.setCell p v):=⟨by simpa using h.out⟩
instance [h:aw w W] [k:Sz w0 w]:Sz w0 W:=⟨Nat.le_trans k.out h.out.size⟩
instance [h:fC W g] [k:Sz w0 W]:Nw w0 g:=⟨by rw[h.out];exact k.out⟩
instance [h:aQ W g cs t]:aQ (W.alloc o) g cs t:=⟨bu h.out _⟩
instance [h:aQ W g cs t]:aQ W.drew g cs t:=⟨h.out⟩
instance [h:aQ W g cs t]:aQ (W.drewN n) g cs t:=⟨h.out⟩
instance [h:aQ W g cs t] [k:dw g g']:aQ (W.setCell ⟨g',i,none⟩ v) g cs t:=⟨fF h.out k.out _⟩
instance [h:aQ W g cs t]:aQ (W.setCell ⟨g,i,none⟩ v) g (cs.setIfInBounds i v) t:=⟨mI h.out _ _⟩
instance [h:aw w W] [k:aQ w g cs t]:aQ W g cs t:=⟨jZ k.out h.out⟩
instance [h:fC W g'] [k:aQ W g cs t]:dw g g':=⟨by rw[h.out];exact Nat.ne_of_lt (dB k.out)⟩
instance [h:fC W g] [k:aQ W g' cs t]:dw g g':=⟨by rw[h.out];exact Nat.ne_of_gt (dB k.out)⟩
theorem dC (W:World) (g i:Nat) [h:aQ W g cs t]:W.cell? ⟨g,i,none⟩=cs[i]? :=cA h.out i
theorem dD (W:World) (g i:Nat) [h:aQ W g cs t]:W.frozen? ⟨g,i,none⟩=false:=aK h.out i
instance:dF w1 w2 w2:=⟨fun _ _ _=>rfl⟩
theorem mU (h:dF w1 w2 W) {k:Nat} (h1:w1.heap.size≤k) (h2:k<w2.heap.size):k<W.heap.size:=by
  have:=h.out k h1 h2;rw[Array.getElem?_eq_getElem h2]at this;exact(Array.getElem?_eq_some_iff.1 this).1
instance [h:dF w1 w2 W]:dF w1 w2 (W.alloc o):=⟨fun k h1 h2=>(Below.heap_alloc W o k (mU h h1 h2)).trans (h.out k h1 h2)⟩
instance [h:dF w1 w2 W]:dF w1 w2 W.drew:=⟨h.out⟩
instance [h:dF w1 w2 W]:dF w1 w2 (W.drewN n):=⟨h.out⟩
instance [h:aw w W] [k:dF w1 w2 w]:dF w1 w2 W:=⟨fun j h1 h2=>(h.out.block j (mU k h1 h2)).trans (k.out j h1 h2)⟩
instance [h:dF w1 w2 W] [k:ji w1 w2 g]:dF w1 w2 (W.setCell ⟨g,i,none⟩ v):=⟨fun j h1 h2=>(Below.heap_setCell W _ v j (by have:=k.out;show j≠g;omega)).trans (h.out j h1 h2)⟩
instance [h:aQ w1 g cs t]:ji w1 w2 g:=⟨.inl (dB h.out)⟩
instance [h:Nw w2 g]:ji w1 w2 g:=⟨.inr h.out⟩
section
variable {α:Type} {d:Kd α} {e:Nat} {A:Option Addr} {c:Nat} {xs:List α}
instance [h:aM d w0 A xs] [k:From w0 W]:Rd d W A xs:=⟨Kd.lL h.out k.out⟩
theorem ni [h:dI d e w1 w2 A c xs] [k:dF w1 w2 W]:d.R e W w1.heap.size (fun _=>True) (.slice A xs.length c) xs:=
  Kd.cJ (Kd.lN (Kd.iM h.out) (fun j hj=>k.out j hj.2.1 hj.2.2.1)) (fun _ _=>trivial)
theorem sV [h:dI d e w1 w2 A c xs] [k:dF w1 w2 W]:d.C W A xs.length xs:=(Kd.cp (ni (h:=h) (k:=k))).2.2
instance [h:dI d e w1 w2 A c xs] [k:dF w1 w2 W]:Rd d W A xs:=⟨sV (h:=h) (k:=k)⟩
theorem ky (h:dI d e w1 w2 A c xs):xs.length≤c:=(Kd.cp h.out).2.1
theorem bj [h:dI d e w1 w2 A c xs] [k:dF w1 w2 W] [l:From w w1]:d.R e W w.heap.size (fun _=>True) (.slice A xs.length c) xs:=Kd.dg (ni (h:=h) (k:=k)) l.out.size
end
class eU (w0:outParam World) (W:World):Prop where out:Below w0.heap.size w0 W
instance {w0 w W:World} [h:eU w0 W] [k:Sz w w0]:Sz w W:=⟨Nat.le_trans k.out h.out.size⟩
instance {w0 w W:World} [h:eU w0 W] [k:From w w0]:From w W:=⟨bn k.out h.out⟩
instance {w0 W:World} {g:Nat} {cs:Array Value} {t:TypeId} [h:eU w0 W] [k:aQ w0 g cs t]:aQ W g cs t:=⟨jZ k.out h.out⟩
instance {w0 w1 w2 W:World} [h:eU w0 W] [k:dF w1 w2 w0]:dF w1 w2 W:=⟨fun j h1 h2=>(h.out.block j (mU k h1 h2)).trans (k.out j h1 h2)⟩
class kP (B:outParam Nat) (w0:outParam World) (W:World):Prop where out:B≤w0.heap.size∧Below B w0 W
class oY (g B:Nat):Prop where out:g<B
class fD (B:Nat) (w0 W:World):Prop where out:B≤w0.heap.size∧Below B w0 W
section
variable {w0 w W W1:World} {g g' B i n:Nat} {cs:Array Value} {t:TypeId} {o:Obj} {v:Value}
instance [h:fC W g'] [k:aQ W g cs t]:oY g g':=⟨by rw[h.out];exact dB k.out⟩
instance [h:kP B w0 W] [k:aQ w0 g cs t] [l:oY g B]:aQ W g cs t:=⟨(h.out.2.block g l.out).trans k.out⟩
instance [h:kP B w0 W] [k:Sz w w0]:Sz w W:=⟨Nat.le_trans k.out h.out.2.size⟩
instance [h:kP B w0 W] [k:From w w0] [l:Nw w B]:From w W:=⟨qW k.out l.out h.out.2⟩
instance [k:aQ w0 g cs t]:fD g w0 w0:=⟨⟨Nat.le_of_lt (dB k.out),Below.refl _ _⟩⟩
instance [h:fD B w0 W]:fD B w0 (W.alloc o):=⟨⟨h.out.1,h.out.2.alloc (Nat.le_trans h.out.1 h.out.2.size) _⟩⟩
instance [h:fD B w0 W]:fD B w0 W.drew:=⟨⟨h.out.1,h.out.2.drew⟩⟩
instance [h:fD B w0 W]:fD B w0 (W.drewN n):=⟨⟨h.out.1,cN h.out.2 _⟩⟩
instance [k:aw w W] [h:fD B w0 w]:fD B w0 W:=⟨⟨h.out.1,qV h.out.2 (Nat.le_trans h.out.1 h.out.2.size) k.out⟩⟩
instance [h:fD g w0 W]:fD g w0 (W.setCell ⟨g,i,none⟩ v):=⟨⟨h.out.1,h.out.2.setCell (Nat.le_refl _) _⟩⟩
instance [h:fD B w0 W] [l:oY B g']:fD B w0 (W.setCell ⟨g',i,none⟩ v):=⟨⟨h.out.1,h.out.2.setCell (Nat.le_of_lt l.out) _⟩⟩
instance [k:kP B w0 W]:fD B w0 W:=⟨k.out⟩
end
theorem pV {P:Program} {id:Nat} {ops:Array Oper} {Q:Exit→Act→World→Prop} {a:Act} {W:World} (N:Nat) {g:Nat} (hp:a.tmps.getD N undef= .pointer (some ⟨g,0,none⟩))
    (h:∀g',g'=g→∀w3,aw W w3→(Code.region id ops true).wp P Q a w3):(Code.region id ops true).wp P Q a W:=h g rfl W ⟨Below.refl _ _⟩
theorem mg {P:Program} {id:Nat} {ops:Array Oper} {Q:Exit→Act→World→Prop} {a:Act} {W:World} (h:∀w3,aw W w3→(Code.region id ops true).wp P Q a w3):(Code.region id ops true).wp P Q a W:=h W ⟨Below.refl _ _⟩
class Mk (W:outParam World) (W':World) (w1 w2:outParam World):Prop where out:Kept W W' (fun k=>w1.heap.size≤k∧k<w2.heap.size)
class nH (a b w1 w2:World):Prop where out:b.heap.size≤w1.heap.size∨w2.heap.size≤a.heap.size
section
variable {a b w1 w2 W W':World} {g:Nat} {cs:Array Value} {t:TypeId}
instance [h:Sz b w1]:nH a b w1 w2:=⟨.inl h.out⟩
instance [h:Sz w2 a]:nH a b w1 w2:=⟨.inr h.out⟩
instance {w0:World} [m:Mk W W' a b] [h:Sz w0 W]:Sz w0 W':=⟨Nat.le_trans h.out m.out.1⟩
instance [m:Mk W W' a b] [h:dF w1 w2 W] [d:nH a b w1 w2]:dF w1 w2 W':=
  ⟨fun k h1 h2=>(m.out.2 k (mU h h1 h2) (fun hk=>by have:=d.out;omega)).trans (h.out k h1 h2)⟩
instance [m:Mk W W' a b] [h:aQ W g cs t] [d:ji a b g]:aQ W' g cs t:=⟨(m.out.2 g (dB h.out) (fun hk=>by have:=d.out;omega)).trans h.out⟩
end
theorem aD {b:Bool} (h:¬b=true):b=false:=Bool.eq_false_iff.mpr h
theorem bH {b:Bool} (h:(!b)=true):b=false:=(Bool.not_eq_true' _).mp h
theorem bJ {b:Bool} (h:¬(!b)=true):b=true:=(Bool.not_eq_false' _).mp (Bool.eq_false_iff.mpr h)
theorem aV {α:Type} [BEq α] [LawfulBEq α] {a b:α} (h:a=b):(a==b)=true:=beq_iff_eq.mpr h
theorem aW {α:Type} [BEq α] [LawfulBEq α] {a b:α} (h:a=b):(a != b)=false:=bne_eq_false_iff_eq.mpr h
theorem bo {α:Type} [BEq α] [LawfulBEq α] {a b:α} (h:a≠b):(a==b)=false:=beq_eq_false_iff_ne.mpr h
theorem bp {α:Type} [BEq α] [LawfulBEq α] {a b:α} (h:a≠b):(a != b)=true:=bne_iff_ne.mpr h
theorem bh {α:Type} {r:α} (h:none=some r):False:=by cases h
theorem bq {α:Type} {c:Prop} [Decidable c] {x y:Option α} {r:α} (h:(if c then x else y)=some r):(c∧x=some r)∨(¬c∧y=some r):=by
  by_cases hc:c
  · exact .inl ⟨hc,by rwa [aq hc]at h⟩
  · exact .inr ⟨hc,by rwa [au hc]at h⟩
end
end V
namespace V
open Go.RowKit WW.bk
theorem bV {P:Program} {ops:Array Oper} {rest:List Oper} {o:Oper} {a:Act} {Q:Exit→Act→World→Prop} {W:World} {N:Tmp} (cs:Array Value) (t:TypeId) (h:∀g w1,fC W g→aw W w1→aQ w1 g cs t→wpList P ops Q rest (a.put o.dst (.pointer (some ⟨g,0,none⟩))) w1)
    (hgd:o.guard=none:=by rfl) (hd:o.dst=some N:=by rfl) (hrun:(execOp a.eval o).run P W= .ok (.value (.pointer (some ⟨W.heap.size,0,none⟩))) (W.alloc (.cells cs t (0,0))):=by first|(go_simp;done)|(go_simp;rfl)):wpList P ops Q (o::rest) a W:=
  Go.Proofs.YtanhnhkcpbdfmaaGreat.P.bX (N:=N) (fun g hg w1 hk hb=>h g w1 ⟨hg⟩ ⟨hb⟩ ⟨hk⟩) hgd hd hrun
theorem aH {α:Type} {d:Kd α} {e:Nat} {w1 w2:World} {v:Value} {xs:List α} (h:d.R e w2 w1.heap.size (fun _=>True) v xs):∃A c,v= .slice A xs.length c∧dI d e w1 w2 A c xs∧aj xs.length c:=by
  obtain⟨A,c,rfl⟩:=Kd.dz h;exact⟨A,c,rfl,⟨h⟩,⟨(Kd.cp h).2.1⟩⟩
theorem bI {α β:Type} {x:Option α} {f:α→Option β} {b:β} (h:x.bind f=some b):∃a,x=some a∧f a=some b:=az h
end V
namespace Q
open Go.RowKit P WW.bk WW.b6
theorem lz (l:List ah) (i:Nat) (h:i<l.length):av l (i:Int)=l[i]:=by
  unfold av;simp[List.getD_eq_getElem?_getD,h]
theorem iJ (l:List ai) (i:Nat) (h:i<l.length):af l (i:Int)=l[i]:=by
  unfold af;simp[List.getD_eq_getElem?_getD,h]
theorem xR (l:List ai) (t:List Bool):iV l t=gB l t:=by
  induction l generalizing t with
  |nil=>rfl
  |cons x r ih=>simp only[iV,gB,ih];rfl
theorem sH (l:List ai):im.f l=some (dQ l):=by
  show some (pQ l)=some (dQ l);unfold pQ dQ;rw[xR,Bool.and_comm];rfl
theorem xU (l:List ai):jA.f l=some (dQ l):=rfl
def oc (x:ai):Prop:=0≤x.f0∧x.f0≤11∧0≤x.f1∧x.f1≤11∧x.f1=(x.f0+1)%12
theorem yI {x:ai} {t:List Bool} (h:gU x t=true):oc x:=by
  simp[gU]at h;unfold oc;omega
theorem xT {l:List ai} {t:List Bool} (h:gB l t=true):∀x∈l,oc x:=by
  induction l generalizing t with
  |nil=>simp
  |cons y r ih=>
   simp only[gB,Bool.and_eq_true]at h;intro x hx;rcases List.mem_cons.1 hx with rfl|hx
   · exact yI h.1
   · exact ih h.2 x hx
theorem iW {l:List ai} (h:dQ l=true):∀x∈l,oc x:=by
  simp only[dQ,Bool.and_eq_true]at h;exact xT h.2
theorem kr {l:List ai} (h:dQ l=true):l.length≤11:=by
  simp only[dQ,Bool.and_eq_true,decide_eq_true_eq]at h;exact h.1
theorem ij (l:List Int) (i:Int):rd l i=l.getD i.toNat 0:=rfl
def jK:List ai→List Int→List Int×Bool
  |[],o=>(o,true)
  |x::r,o=>if fe (o.getD x.f0.toNat 0) x.f2 x.f3=0 then([],false)else jK r (o.set x.f1.toNat (fe (o.getD x.f0.toNat 0) x.f2 x.f3))
def begun (a:Int):List Int:=a::List.replicate 11 0
def iX (a:Int) (l:List ai):List Int×Bool:=if dQ l=true∧fine a=true then jK l (begun a)else([],false)
theorem yo (a:Int) (l:List ai):Ev (fun n=>cv.f n a l) (iX a l):=by
  have u:Ev (fun n=>cv.j0 n a l true) ([],false):=Ev.step (fun n=>by rw[cv.j0]) (ar rfl (Ev.now _));unfold cv.f iX;refine aX (xU l) ?_;by_cases hp:dQ l=true;rotate_left
  · exact br (fun h=>hp h.1)<|aI hp u
  refine ar hp (aX (ki a) ?_);by_cases ha:fine a=true;rotate_left
  · rw[show(!fine a)=true by simpa using ha];exact br (fun h=>ha h.2) u
  rw[show(!fine a)=false by simpa using ha];refine bK ⟨hp,ha⟩ ?_;have hl:=kr hp;have hin:=iW hp
  have key:∀i,i≤l.length→∀o:List Int,o.length=12→Ev (fun n=>cv.l0 n o l (l.length:Int) (i:Int)) (jK (l.drop i) o):=by
    refine down (n:=l.length) ?_ ?_
    · intro o ho;refine Ev.step (fun n=>by rw[cv.l0]) (aI (by omega) (evs ?_));rw[kd];rfl
    · intro i hi ih o ho;obtain⟨k0,k1,k2,k3,k4⟩:=hin l[i] (List.getElem_mem hi);refine Ev.step (fun n=>by rw[cv.l0]) ?_;refine ar (by omega) (ar (by omega) (ar (by omega) ?_));rw[iJ l i hi,drop_cons l i hi,jK];refine ar k0 (ar (by omega) (Ev.bind (tC _ _ _) (ar k2 (ar (by omega) ?_))));rw[ij];by_cases hz:fe (o.getD l[i].f0.toNat 0) l[i].f2 l[i].f3=0
      · exact bK hz<|ar hz (Ev.now _)
      refine br hz<|aI hz ?_;rw[bW (by omega) (by omega)];exact ih _ (by simpa using ho)
  refine Ev.step (fun n=>by rw[cv.j0]) ?_;refine aI (by decide) (ar (by decide) ?_);simp only[aA];refine ar (by simp) ?_;exact key 0 (Nat.zero_le _) _ (by simp)
theorem yr (a:Int) (l:List ai):Ev (fun n=>cw.f n a l) (iX a l):=by
  have u:Ev (fun n=>cw.j0 n a l true) ([],false):=Ev.step (fun n=>by rw[cw.j0]) (ar rfl (Ev.now _));unfold cw.f iX;refine aX (sH l) ?_;by_cases hp:dQ l=true;rotate_left
  · exact br (fun h=>hp h.1)<|aI hp u
  refine ar hp (aX (jH a) ?_);by_cases ha:fine a=true;rotate_left
  · rw[show(!fine a)=true by simpa using ha];exact br (fun h=>ha h.2) u
  rw[show(!fine a)=false by simpa using ha];refine bK ⟨hp,ha⟩ ?_;have hl:=kr hp;have hin:=iW hp
  have key:∀i,i≤l.length→∀o:List Int,o.length=12→Ev (fun n=>cw.l0 n l o (i:Int)) (jK (l.drop i) o):=by
    refine down (n:=l.length) ?_ ?_
    · intro o ho;refine Ev.step (fun n=>by rw[cw.l0]) (aI (by omega) (evs ?_));rw[kd];rfl
    · intro i hi ih o ho;obtain⟨k0,k1,k2,k3,k4⟩:=hin l[i] (List.getElem_mem hi);refine Ev.step (fun n=>by rw[cw.l0]) ?_;refine ar (by omega) (ar (by omega) ?_);rw[iJ l i hi,drop_cons l i hi,jK];refine ar k0 (ar (by omega) (Ev.bind (oL _ _ _) ?_));rw[ij];by_cases hz:fe (o.getD l[i].f0.toNat 0) l[i].f2 l[i].f3=0
      · exact bK hz<|ar hz (Ev.now _)
      refine br hz<|aI hz (ar k2 (ar (by omega) ?_));rw[bW (by omega) (by omega)];exact ih _ (by simpa using ho)
  refine Ev.step (fun n=>by rw[cw.j0]) ?_;refine aI (by decide) (ar (by decide) ?_);simp only[aA];refine ar (by simp) ?_;exact key 0 (Nat.zero_le _) _ (by simp)
def gh (c:Int):List ai→Nat→Int
  |[],_=> -1
  |x::r,j=>if x.f1=c then(j:Int)else gh c r (j+1)
theorem yJ (l:List ai) (c:Int) (hl:l.length≤4000000):Ev (fun n=>eE.f n l c) (gh c l 0):=by
  have key:∀i,i≤l.length→Ev (fun n=>eE.l0 n l c (i:Int)) (gh c (l.drop i) i):=by
    refine down (n:=l.length) ?_ ?_
    · refine Ev.step (fun n=>by rw[eE.l0]) (aI (by omega) (evs ?_));rw[kd];rfl
    · intro i hi ih;refine Ev.step (fun n=>by rw[eE.l0]) ?_;refine ar (by omega) (ar (by omega) ?_);rw[iJ l i hi,drop_cons l i hi,gh];by_cases h:l[i].f1=c
      · exact bK h<|ar h (Ev.now _)
      · refine br h<|aI h ?_;rw[bW (by omega) (by omega)];exact ih
  exact key 0 (Nat.zero_le _)
theorem yK (c:Int) (l:List ai) (j d:Nat):(0≤gh c l j∧gh c l j<((j+d:Nat):Int))↔∃x∈l.take d,x.f1=c:=by
  induction l generalizing j d with
  |nil=>simp[gh]
  |cons x r ih=>
   unfold gh;cases d with
   |zero=>
    simp only[List.take_zero,List.not_mem_nil,false_and,exists_false,iff_false];by_cases h:x.f1=c
    · rw[aq h];omega
    · rw[au h];have:=ih (j+1) 0;simp at this;have h1:=this;intro h2
      have:∀(l:List ai) (j:Nat),gh c l j= -1∨(j:Int)≤gh c l j:=by
        intro l
        induction l with
        |nil=>intro j;exact .inl rfl
        |cons y s ih2=>
         intro j;unfold gh;split
         · exact .inr (Int.le_refl _)
         · rcases ih2 (j+1)with h|h
           · exact .inl h
           · exact .inr (by omega)
      rcases this r (j+1)with h3|h3<;>omega
   |succ d=>
    rw[List.take_succ_cons];by_cases h:x.f1=c
    · rw[aq h];exact⟨fun _=>⟨x,List.mem_cons_self,h⟩,fun _=>⟨by omega,by omega⟩⟩
    · rw[au h];have:=ih (j+1) d;rw[show j+1+d=j+(d+1)by omega]at this;rw[this];constructor
      · rintro⟨y,hy,e⟩;exact⟨y,List.mem_cons_of_mem _ hy,e⟩
      · rintro⟨y,hy,e⟩;rcases List.mem_cons.1 hy with rfl|hy
        · exact absurd e h
        · exact⟨y,hy,e⟩
theorem qi (l:List ai) (t:List Bool):(P.fo l t).length=t.length:=by
  unfold P.fo
  induction l generalizing t with
  |nil=>rfl
  |cons x r ih=>rw[List.foldl_cons,ih,List.length_set]
theorem y7 (l:List ai) (t:List Bool) (hin:∀x∈l,0≤x.f1) (c:Nat) (hc:c<t.length):(P.fo l t)[c]? =some (t[c]||l.any (fun x=>decide (x.f1=(c:Int)))):=by
  unfold P.fo
  induction l generalizing t with
  |nil=>simp[hc]
  |cons x r ih=>
   rw[List.foldl_cons,ih _ (fun y hy=>hin y (List.mem_cons_of_mem _ hy)) (by simpa using hc)];have:=hin x List.mem_cons_self;simp only[List.any_cons,List.getElem_set];by_cases h:x.f1=(c:Int)
   · rw[aq (by omega)];simp[h]
   · rw[au (by omega)];simp[h]
theorem nD (p:List ai) (d:Int) (q:List Int):Ev (fun n=>cu.f n p d q) (bR p d q):=by
  have u:Ev (fun n=>cu.j0 n true p d q) false:=Ev.step (fun n=>by rw[cu.j0]) (ar rfl (Ev.now _));unfold cu.f bR;refine aX (sH p) ?_;by_cases hp:dQ p=true;rotate_left
  · rw[show dQ p=false by simpa using hp,Bool.false_and];exact aI (by simp) u
  refine ar hp (aX (fQ _ _ _) ?_);rw[hp,Bool.true_and];by_cases hd:0≤d∧d≤(p.length:Int);rotate_left
  · rw[ay hd,Bool.false_and];exact aI (by simp) u
  rw[ag hd,Bool.true_and];refine ar rfl ?_;by_cases hq:q.length=12;rotate_left
  · rw[ay hq,Bool.false_and,show((q.length:Int) != 12)=true by simpa using(show¬(q.length:Int)=12 by omega)];exact u
  rw[ag hq,Bool.true_and,show((q.length:Int) != 12)=false by simpa using(show(q.length:Int)=12 by omega)];have hl:=kr hp;have hin:=iW hp;obtain⟨T,hT⟩:∃T,P.fo (p.take d.toNat) fM=T:=⟨_,rfl⟩;have F:T.length=12:=by rw[←hT,qi];rfl
  have D:∀c:Nat,(hc:c<T.length)→T[c]=(decide (c=0)||decide (0≤gh (c:Int) p 0∧gh (c:Int) p 0<d)):=by
    intro c hc;have h1:=y7 (p.take d.toNat) fM (fun x hx=>(hin x (List.mem_of_mem_take hx)).2.2.1) c (show c<12 by omega);rw[hT,List.getElem?_eq_getElem hc]at h1;rw[aC h1]
    congr 1
    · have:∀c,(h:c<fM.length)→fM[c]=decide (c=0):=(by decide);exact this c _
    · have h2:=yK (c:Int) p 0 d.toNat;rw[Nat.zero_add,Int.toNat_of_nonneg hd.1]at h2;rw[Bool.eq_iff_iff,decide_eq_true_iff,h2];simp
  rw[hT]
  have key:∀i:Nat,i≤12→Ev (fun n=>cu.l0 n (i:Int) p d q) (gf (T.drop i) (q.drop i)):=by
    refine down (n:=12) ?_ ?_
    · refine Ev.step (fun n=>by rw[cu.l0]) (aI (by omega) (evs ?_));rw[List.drop_eq_nil_of_le (by omega)];rfl
    · intro i hi ih;refine Ev.step (fun n=>by rw[cu.l0]) ?_;refine ar (by omega) (Ev.bind (yJ p _ (by omega)) ?_);rw[sM q i (by omega),drop_cons T i (by omega),drop_cons q i (by omega),gf,D i (by omega),bW (n:=(i:Int)+1) (by omega) (by omega)]
      have fin:∀v:Bool,Ev (fun n=>(cx.f q[i]).bind fun t=>if t=true then cu.l0 n (((i+1:Nat)):Int) p d q else some false) (decide (1≤q[i]∧q[i]≤10000000)&&gf (T.drop (i+1)) (q.drop (i+1))):=by
        intro v;refine aX (jH _) ?_;by_cases hf:fine q[i]=true
        · rw[show decide (1≤q[i]∧q[i]≤10000000)=true from hf,Bool.true_and];exact ar hf ih
        · rw[show decide (1≤q[i]∧q[i]≤10000000)=false by simpa[fine]using hf,Bool.false_and];exact aI hf (Ev.now _)
      have z:Ev (fun n=>if 0≤(i:Int)then(if(i:Int)<(q.length:Int)then(if q[i]=0 then cu.l0 n (((i+1:Nat)):Int) p d q else some false)else none)else none) (decide (q[i]=0)&&gf (T.drop (i+1)) (q.drop (i+1))):=by
        refine ar (by omega) (ar (by omega) ?_);by_cases hz:q[i]=0
        · rw[ag hz,Bool.true_and];exact ar hz ih
        · rw[ay hz,Bool.false_and];exact aI hz (Ev.now _)
      by_cases h0:i=0
      · refine ar (by omega) (ar (by omega) (ar (by omega) ?_));rw[ag h0,Bool.true_or,aq rfl];exact fin true
      refine aI (by omega) ?_;rw[ay h0,Bool.false_or];by_cases h1:0≤gh (i:Int) p 0;rotate_left
      · rw[ay (fun h=>h1 h.1),au (by simp)];exact aI (by omega) z
      refine ar (by omega) ?_;by_cases h2:gh (i:Int) p 0<d
      · rw[ag ⟨h1,h2⟩,aq rfl];exact ar h2 (ar (by omega) (ar (by omega) (fin true)))
      · rw[ay (fun h=>h2 h.2),au (by simp)];exact aI h2 z
  refine Ev.step (fun n=>by rw[cu.j0]) (aI (by decide) ?_);exact key 0 (by omega)
theorem oM (p:List ai) (d:Int) (q:List Int):fh.f p d q=some (bR p d q):=rfl
theorem mn {p:List ai} {d:Int} {q:List Int} (h:bR p d q=true):dQ p=true:=by
  simp only[bR,Bool.and_eq_true]at h;exact h.1
theorem nB {p:List ai} {d:Int} {q:List Int} (h:bR p d q=true):0≤d∧d≤p.length:=by
  simp only[bR,Bool.and_eq_true,decide_eq_true_eq]at h;exact h.2.1
theorem kI {p:List ai} {d:Int} {q:List Int} (h:bR p d q=true):q.length=12:=by
  simp only[bR,Bool.and_eq_true,decide_eq_true_eq]at h;exact h.2.2.1
def dT (p:List ai) (q:List Int) (i:Nat):Int:=fe (q.getD (p.getD i cG).f0.toNat 0) (p.getD i cG).f2 (p.getD i cG).f3
theorem iG (p:List ai) (i:Nat) (hi:i<p.length):p.getD i cG=p[i]:=by simp[List.getD_eq_getElem?_getD,hi]
theorem qh (p:List ai) (d:Int) (q:List Int) (i:Nat) (hp:dQ p=true) (hq:q.length=12) (hi:i<p.length):Ev (fun n=>e5.f n p d q (i:Int)) (dT p q i):=by
  obtain⟨k0,k1,k2,k3,k4⟩:=iW hp p[i] (List.getElem_mem hi);unfold e5.f dT;rw[iG p i hi,iJ p i hi];refine ar (by omega) (ar (by omega) (ar k0 (ar (by omega) (Ev.bind (tC _ _ _) (Ev.now _)))))
theorem oa (q:List Int) (i:Nat) (v:Int) (h:i<q.length):(q.set i v).getD i 0=v:=by simp[List.getD_eq_getElem?_getD,h]
theorem getD_set_ne (q:List Int) (i k:Nat) (v:Int) (h:i≠k):(q.set i v).getD k 0=q.getD k 0:=by
  simp only[List.getD_eq_getElem?_getD];rw[List.getElem?_set_ne h]
def fk (p:List ai) (s:Int):Nat→Int
  |0=>s
  |k+1=>fe (fk p s k) (p.getD k cG).f2 (p.getD k cG).f3
def lu:List Int:=[155000,115875,86531,64523,48017,35638,26353,19390,14167,10250,7312,5109]
def kY:List Int:=[345000,517500,388125,582187,436640,654960,491220,368415,552622,414466,621699,466274]
theorem mP {n:Int} (h1:1≤n) (h2:n≤10000000):fine n=true:=ag ⟨h1,h2⟩
theorem za (a b:Int) (h1:2000≤a) (h2:a≤1000000) (h3:0≤b) (h4:b<1500):fe a 1 b=(3*a-b)/2:=by
  unfold fe gA mx;rw[aq (mP (by omega) (by omega)),aq (by omega),aq rfl,bW (n:=3*a) (by omega) (by omega),bW (n:=3*a-b) (by omega) (by omega)];have e:(if(3*a-b)<0 then(0:Int)else 3*a-b)=3*a-b:=au (by omega);rw[e];rw[Int.tdiv_eq_ediv_of_nonneg (by omega),bW (by omega) (by omega),aq (mP (by omega) (by omega))]
theorem zb (a b:Int) (h1:2000≤a) (h2:a≤1000000) (h3:0≤b) (h4:b<1500):fe a 2 b=(3*a-b)/4:=by
  unfold fe gA mx;rw[aq (mP (by omega) (by omega)),aq (by omega),au (by decide),aq rfl,bW (n:=3*a) (by omega) (by omega),bW (n:=3*a-b) (by omega) (by omega)];have e:(if(3*a-b)<0 then(0:Int)else 3*a-b)=3*a-b:=au (by omega);rw[e];rw[Int.tdiv_eq_ediv_of_nonneg (by omega),bW (by omega) (by omega),aq (mP (by omega) (by omega))]
theorem vt (k:Nat) (hk:k<11) (a b x:Int) (h1:lu.getD k 0≤a) (h2:a≤kY.getD k 0) (h3:0≤b) (h4:b<1500) (hx:x=2∨x=iB k):
    lu.getD (k+1) 0≤fe a x b∧fe a x b≤kY.getD (k+1) 0:=by
  have a1:2000≤a∧a≤1000000:=by
    have:∀k:Nat,k<11→2000≤lu.getD k 0∧kY.getD k 0≤1000000:=(by decide);have:=this k hk;omega
  have hx2:x=2∨(x=1∧iB k=1):=by
    rcases hx with h|h
    · exact .inl h
    · unfold iB at h ⊢;by_cases h5:k=0∨k=2∨k=4∨k=7∨k=9
      · rw[aq h5]at h ⊢;exact .inr ⟨h,rfl⟩
      · rw[au h5]at h;exact .inl h
  have hk2:k=0∨k=1∨k=2∨k=3∨k=4∨k=5∨k=6∨k=7∨k=8∨k=9∨k=10:=by omega
  rcases hx2 with rfl|⟨rfl,hu⟩
  · rw[zb a b a1.1 a1.2 h3 h4];rcases hk2 with rfl|rfl|rfl|rfl|rfl|rfl|rfl|rfl|rfl|rfl|rfl<;>simp only[lu,kY,List.getD_cons_zero,List.getD_cons_succ]at h1 h2 ⊢ <;>omega
  · rw[za a b a1.1 a1.2 h3 h4];rcases hk2 with rfl|rfl|rfl|rfl|rfl|rfl|rfl|rfl|rfl|rfl|rfl<;>first|(exact absurd hu (by decide))|(simp only[lu,kY,List.getD_cons_zero,List.getD_cons_succ]at h1 h2 ⊢;omega)
section
variable {p:List ai} (g:dm p) {s:Int} (hs:155000≤s∧s≤345000)
include g
theorem mR (i:Nat) (h:i<p.length):(p.getD i cG).f0=i∧(p.getD i cG).f1=(i:Int)+1∧((p.getD i cG).f2=2∨(p.getD i cG).f2=iB i)∧0≤(p.getD i cG).f3∧(p.getD i cG).f3<1500:=by
  rw[iG p i h];exact g.2 i h
include hs
theorem xQ (k:Nat) (hk:k≤p.length):lu.getD k 0≤fk p s k∧fk p s k≤kY.getD k 0:=by
  induction k with
  |zero=>exact hs
  |succ k ih=>
   obtain⟨h1,h2⟩:=ih (by omega);obtain⟨g0,g1,g2,g3,g4⟩:=mR g k (by omega);exact vt k (by have:=g.1;omega) _ _ _ h1 h2 g3 g4 g2
theorem na (k:Nat) (hk:k≤p.length):2000≤fk p s k∧fk p s k≤1000000:=by
  have:∀k:Nat,k<12→2000≤lu.getD k 0∧kY.getD k 0≤1000000:=by decide
  have h1:=this k (by have:=g.1;omega);have h2:=xQ g hs k hk;omega
end
def cM (p:List ai) (s:Int) (n:Nat):List Int:=(List.range 12).map (fun k=>if k≤n then fk p s k else 0)
theorem lx (p:List ai) (s:Int) (n:Nat):(cM p s n).length=12:=by simp[cM]
theorem gT (p:List ai) (s:Int) (n k:Nat) (hk:k<12):(cM p s n).getD k 0=if k≤n then fk p s k else 0:=by
  simp[cM,List.getD_eq_getElem?_getD,hk]
theorem pL {a b:List Int} (ha:a.length=12) (hb:b.length=12) (h:∀k:Nat,k<12→a.getD k 0=b.getD k 0):a=b:=by
  apply List.ext_getElem (by omega);intro k h1 h2;have:=h k (by omega);simpa[List.getD_eq_getElem?_getD,h1,h2]using this
theorem sB (p:List ai) (s:Int):cM p s 0=begun s:=by
  refine pL (lx p s 0) (by simp[begun]) (fun k hk=> ?_);rw[gT p s 0 k hk];cases k with
  |zero=>rfl
  |succ k=>
   rw[au (by omega)];have:∀k:Nat,k<11→(List.replicate 11 (0:Int)).getD k 0=0:=(by decide);exact(this k (by omega)).symm
theorem sA (p:List ai) (s:Int) (n:Nat) (hn:n<11):(cM p s n).set (n+1) (fk p s (n+1))=cM p s (n+1):=by
  refine pL (by simp[lx]) (lx _ _ _) (fun k hk=> ?_);have h1:=gT p s n k hk;rw[gT p s (n+1) k hk];by_cases e:k=n+1
  · subst e;rw[aq (Nat.le_refl _)];exact oa _ _ _ (by rw[lx];omega)
  · have:((cM p s n).set (n+1) (fk p s (n+1))).getD k 0=(cM p s n).getD k 0:=by
      simp only[List.getD_eq_getElem?_getD];rw[List.getElem?_set_ne (by omega)]
    rw[this,h1];by_cases h2:k≤n
    · rw[aq h2,aq (by omega)]
    · rw[au h2,au (by omega)]
def iA (n:Nat):List Bool:=(List.range 12).map (fun k=>decide (k≤n))
theorem tB:iA 0=fM:=by decide
theorem tA (n:Nat) (hn:n<11):(iA n).set (n+1) true=iA (n+1):=by
  have:∀n:Nat,n<11→(iA n).set (n+1) true=iA (n+1):=by decide
  exact this n hn
theorem nA (n k:Nat) (hk:k<12):(iA n).getD k false=decide (k≤n):=by simp[iA,List.getD_eq_getElem?_getD,hk]
theorem ze (i:Nat):iB i=1∨iB i=2:=by unfold iB;split<;>simp
theorem xS {p:List ai} (g:dm p) (j:Nat) (hj:j≤p.length):gB (p.drop j) (iA j)=true:=by
  refine down (P:=fun j=>gB (p.drop j) (iA j)=true) (n:=p.length) ?_ ?_ j hj
  · rw[kd];rfl
  · intro i hi ih;have hl:=g.1;obtain⟨g0,g1,g2,g3,g4⟩:=g.2 i hi;rw[drop_cons p i hi,gB,Bool.and_eq_true];constructor
    · have t1:=nA i i (by omega);have t2:=nA i (i+1) (by omega);have e1:(p[i].f0).toNat=i:=(by omega);have e2:(p[i].f1).toNat=i+1:=(by omega);unfold gU;rw[e1,e2,t1,t2]
      have hk:p[i].f2=1∨p[i].f2=2:=by
        rcases g2 with h|h
        · exact .inr h
        · rw[h];exact ze i
      simp only[Bool.and_eq_true,Bool.or_eq_true,decide_eq_true_eq];refine⟨hk,⟨g3,by omega⟩,by omega,by omega,by omega,Nat.le_refl _,?_⟩;simp
    · rw[g1,show((i:Int)+1).toNat=i+1 by omega,tA i (by omega)];exact ih
theorem sG {p:List ai} (g:dm p):dQ p=true:=by
  unfold dQ;rw[Bool.and_eq_true,decide_eq_true_eq];refine⟨g.1,?_⟩;have:=xS g 0 (Nat.zero_le _)
  rwa [tB]at this
theorem y9 {p:List ai} (g:dm p) (n:Nat) (hn:n≤p.length):P.fo (p.take n) fM=iA n:=by
  induction n with
  |zero=>rw[tB];rfl
  |succ n ih=>
   rw[List.take_succ_eq_append_getElem (by omega),P.tz,ih (by omega)];obtain⟨g0,g1,_⟩:=g.2 n (by omega);rw[g1,show((n:Int)+1).toNat=n+1 by omega];exact tA n (by have:=g.1;omega)
theorem pG:∀(t:List Bool) (q:List Int),t.length=q.length→(gf t q=true↔∀k:Nat,k<q.length→if t.getD k false=true then 1≤q.getD k 0∧q.getD k 0≤10000000 else q.getD k 0=0)
  |[],[],_=>by simp[gf]
  |b::t,x::q,h=>by
   have ih:=pG t q (by simpa using h);rw[gf,Bool.and_eq_true,ih];constructor
   · rintro⟨h1,h2⟩ k hk;cases k with
     |zero=>simpa[apply_ite]using h1
     |succ k=>simpa using h2 k (by simpa using hk)
   · intro h2;refine⟨?_,fun k hk=>by simpa using h2 (k+1) (by simpa using hk)⟩;have:=h2 0 (by simp);cases b<;>simpa using this
theorem lK {p:List ai} (g:dm p) (n:Nat) (hn:n≤p.length) (q:List Int):
    bR p (n:Int) q=true↔q.length=12∧(∀k:Nat,k≤n→1≤q.getD k 0∧q.getD k 0≤10000000)∧(∀k:Nat,n<k→k<12→q.getD k 0=0):=by
  unfold bR;rw[sG g,Bool.true_and,ag (show 0≤(n:Int)∧(n:Int)≤p.length by omega),Bool.true_and,Int.toNat_natCast,y9 g n hn,Bool.and_eq_true,decide_eq_true_eq];have hl:=g.1;constructor
  · rintro⟨h1,h2⟩;rw[pG _ _ (by simp[iA,h1])]at h2;refine⟨h1,fun k hk=> ?_,fun k hk hk2=> ?_⟩
    · have:=h2 k (by omega);rw[nA n k (by omega),ag hk,aq rfl]at this;exact this
    · have:=h2 k (by omega);rw[nA n k (by omega),ay (by omega),au (by simp)]at this;exact this
  · rintro⟨h1,h2,h3⟩;refine⟨h1,(pG _ _ (by simp[iA,h1])).2 fun k hk=> ?_⟩;rw[nA n k (by omega)];by_cases h:k≤n
    · rw[ag h,aq rfl];exact h2 k h
    · rw[ay h,au (by simp)];exact h3 k (by omega) (by omega)
theorem nC {p:List ai} (g:dm p) {s:Int} (hs:155000≤s∧s≤345000) (n:Nat) (hn:n≤p.length):bR p (n:Int) (cM p s n)=true:=by
  have hl:=g.1;refine(lK g n hn _).2 ⟨lx _ _ _,fun k hk=> ?_,fun k hk hk2=> ?_⟩
  · rw[gT p s n k (by omega),aq hk];have:=na g hs k (by omega);omega
  · rw[gT p s n k hk2,au (by omega)]
theorem yn {p:List ai} (g:dm p) {s:Int} (hs:155000≤s∧s≤345000) (j:Nat) (hj:j≤p.length):jK (p.drop j) (cM p s j)=(cM p s p.length,true):=by
  refine down (P:=fun j=>jK (p.drop j) (cM p s j)=(cM p s p.length,true)) (n:=p.length) ?_ ?_ j hj
  · rw[kd];rfl
  · intro i hi ih;have hl:=g.1;obtain⟨g0,g1,_⟩:=g.2 i hi;rw[drop_cons p i hi,jK];have e1:(p[i].f0).toNat=i:=(by omega);have e2:(p[i].f1).toNat=i+1:=by omega
    have e3:fe ((cM p s i).getD i 0) p[i].f2 p[i].f3=fk p s (i+1):=by
      rw[gT p s i i (by omega),aq (Nat.le_refl _)];show _=fe _ (p.getD i cG).f2 (p.getD i cG).f3;rw[iG p i hi]
    have hf:=na g hs (i+1) hi;rw[e1,e2,e3,au (by omega),sA p s i (by omega)];exact ih
theorem sW {p:List ai} (g:dm p) {s:Int} (hs:155000≤s∧s≤345000):iX s p=(cM p s p.length,true):=by
  unfold iX;rw[aq ⟨sG g,mP (by omega) (by omega)⟩,←sB p s];exact yn g hs 0 (Nat.zero_le _)
theorem xV (b:List Int) (hb:b.length≤1048576) (i h:Int) (hi:0≤i):∃p i' h',Ev (fun k=>ey.f k b i h) (p,i',h')∧dm p∧0≤i':=by
  have key:∀j:Nat,j≤11→∀L:List ai,L.length=11→dm L→∀i h:Int,0≤i→∃p i' h',Ev (fun k=>ey.l0 k L (j:Int) b i h) (p,i',h')∧dm p∧0≤i':=by
    refine down (P:=fun j=>∀L:List ai,L.length=11→dm L→∀i h:Int,0≤i→∃p i' h',Ev (fun k=>ey.l0 k L (j:Int) b i h) (p,i',h')∧dm p∧0≤i') (n:=11) ?_ ?_
    · intro L hL g i h hi;obtain⟨v,i1,h1,e1,v0,v1,_,j1⟩:=eG b hb i h 12 hi;obtain⟨u,i2,h2,e2,hu,j2⟩:=sr b hb i1 h1 [11,11,11,v] j1 (by simp);have I:0≤u∧u≤11:=(by simp at hu;have:=v1 (by omega);omega);refine⟨L.take u.toNat,i2,h2,?_,vV g _,j2⟩;refine Ev.step (fun k=>by rw[ey.l0]) ?_;refine aI (by omega) (aX e1 ?_);dsimp only;refine aX e2 ?_;dsimp only;refine ar I.1 ?_;refine ar (by omega) ?_;exact Ev.now _
    · intro j hj ih L hL g i h hi;obtain⟨v,i1,h1,e1,v0,v1,_,j1⟩:=eG b hb i h 1500 hi;obtain⟨o,i2,h2,e2,j2⟩:=sf b hb i1 h1 5 j1;have hr:∀M:List ai,M.length=11→af M (j:Int)=M.getD j cG:=fun M hM=>by rw[iJ M j (by omega)];simp[List.getD_eq_getElem?_getD,show j<M.length by omega]
      have gs:∀M:List ai,M.length=11→dm M→∀x,pC j x→dm (M.set j x):=fun M hM G x gx=>by
        refine⟨by simp;omega,fun i hi=> ?_⟩;rw[List.getElem_set]
        split
        · rename_i e;subst e;exact gx
        · exact G.2 i _
      have gd:∀M:List ai,M.length=11→dm M→pC j (M.getD j cG):=fun M hM G=>by
        have hj2:j<M.length:=(by omega);have:=G.2 j hj2;simpa[List.getD_eq_getElem?_getD,hj2]using this
      have g1:=gd L hL g;have D:=gs L hL g (⟨(L.getD j cG).f0,(L.getD j cG).f1,(L.getD j cG).f2,v⟩:ai) ⟨g1.1,g1.2.1,g1.2.2.1,v0,v1 (by omega)⟩;obtain⟨Y,hY⟩:∃Y,L.set j (⟨(L.getD j cG).f0,(L.getD j cG).f1,(L.getD j cG).f2,v⟩:ai)=Y:=⟨_,rfl⟩;rw[hY]at D;have z:Y.length=11:=(by rw[←hY];simpa using hL);have g2:=gd Y z D;have gz:=gs Y z D (⟨(Y.getD j cG).f0,(Y.getD j cG).f1,2,(Y.getD j cG).f3⟩:ai) ⟨g2.1,g2.2.1,.inl rfl,g2.2.2.2.1,g2.2.2.2.2⟩;have w1:wrap64 ((j:Int)+1)=((j+1:Nat):Int):=bW (by omega) (by omega);have e3:(some (L.set (j:Int).toNat (⟨(af L (j:Int)).f0,(af L (j:Int)).f1,(af L (j:Int)).f2,v⟩:ai):List ai))=some Y:=(by rw[hr L hL,Int.toNat_natCast,hY]);cases ho:o with
      |true=>
       obtain⟨p,i',h',F,H,jp⟩:=ih _ (by simpa using z) gz i2 h2 j2;refine⟨p,i',h',?_,H,jp⟩;refine Ev.step (fun k=>by rw[ey.l0]) ?_;refine ar (by omega) (aX e1 ?_);refine ar (by omega) (aX e3 ?_);refine aX e2 ?_;refine ar ho ?_;rw[hr Y z,Int.toNat_natCast,w1];exact F
      |false=>
       obtain⟨p,i',h',F,H,jp⟩:=ih Y z D i2 h2 j2;refine⟨p,i',h',?_,H,jp⟩;refine Ev.step (fun k=>by rw[ey.l0]) ?_;refine ar (by omega) (aX e1 ?_);refine ar (by omega) (aX e3 ?_);refine aX e2 ?_;refine aI (by rw[ho];simp) ?_;rw[w1];exact F
  unfold ey.f;obtain⟨g,hg⟩:=rA 0 (by omega);obtain⟨p,i',h',e,g',j⟩:=key 0 (Nat.zero_le _) (gW 0) hg g i h hi;exact⟨p,i',h',Ev.bind (tH 0) e,g',j⟩
theorem x_ (l:List dh) (i:Nat) (h:i<l.length):gD l (i:Int)=l[i]:=by
  unfold gD;simp[List.getD_eq_getElem?_getD,h]
end Q
namespace P
set_option maxHeartbeats 8000000
set_option maxRecDepth 100000
set_option synthInstance.maxHeartbeats 400000
set_option synthInstance.maxSize 100000
open Go.RowKit WW.bk WW.b_ WW.b6 V
attribute [local go_sem] dC dD
attribute [local go_sem] cR cV cU cY cT cX cS cW
def eB.f (G:List (ai)) (z:Int) (H:List Int) (D:Int) (F:Int) (I:List (ah)):Option ((List (ai))×Int×List Int×Int×Int×(List (ah))):=(eC.f G z H).bind fun u=>((gu.f I).bind fun J=>(some (u.1,u.2.1,u.2.2,D,F,J)))
theorem eB.c (G:Option Addr) (U:Nat) (u:List (ai)) (J:Int) (H:Option Addr) (V:Nat) (z:List Int) (K:Int) (O:Int) (I:Option Addr) (X:Nat) (D:List (ah)) (r1:List (ai)) (r2:Int) (r3:List Int) (ao:Int) (ap:Int) (ar:List (ah)) (w:World) (ak:Kd.C aU w G u.length u) (Y:u.length≤U) (al:Kd.C (Kd.int .i64) w H z.length z) (Z:z.length≤V) (am:Kd.C aT w I D.length D) (ad:D.length≤X) (h:eB.f u J z K O D=some (r1,r2,r3,ao,ap,ar)):
  Calls Tryz.prog 57 #[.agg #[.slice G u.length U,.int .i64 J,.slice H z.length V,.int .i64 K,.int .i64 O,.slice I D.length X]] w fun e w'=>∃av aB aE:Value,e= .returned (.agg #[av,.int .i64 r2,aB,.int .i64 ao,.int .i64 ap,aE])∧Kd.R aU 112 w' w.heap.size (fun _=>True) av r1∧Kd.R (Kd.int .i64) 3 w' w.heap.size (fun _=>True) aB r3∧Kd.R aT 104 w' w.heap.size (fun _=>True) aE ar∧Below w.heap.size w w':=by
 replace ak:=aM.mk ak;replace Y:=aj.mk Y;replace al:=aM.mk al;replace Z:=aj.mk Z;replace am:=aM.mk am;replace ad:=aj.mk ad;unfold eB.f at h;have aK:=Tryz.underlying37
 all_goals go_enter Tryz.func57,Tryz.ntmps57
 all_goals go_wp2_with ((first
  |((with_reducible refine aJ (N:=1) rfl ?_);refine bV #[.slice G u.length U,.int .i64 J,.slice H z.length V,.int .i64 K,.int .i64 O,.slice I D.length X] 37 fun g w1 j1 j2 aG=> ?_)
  |((with_reducible refine aJ (N:=2) rfl ?_);refine bV #[.slice none 0 0,.int .i64 0,.slice none 0 0,.int .i64 0,.int .i64 0,.slice none 0 0] 37 fun g w1 j1 j2 aG=> ?_)
  |((with_reducible refine mg ?_);intro w3 aN;refine pV 2 (by rfl) ?_;intro g hg w4 aL;subst hg;go_region_held3 (fun w'=>kP g w4 w') (first|exact⟨fD.out⟩|skip) (first|(go_at_call 106;replace h:=bI h;obtain⟨⟨t1,t2,t3⟩,A,h⟩:=h;(try dsimp only at h);refine(eC.c _ _ _ _ _ _ _ _ _ _ _ Rd.out aj.out Rd.out aj.out A).mono ?_;rintro e w2 ⟨v0,v1,rfl,F,af,hb⟩;obtain⟨aF,b0,rfl,j0,q0⟩:=aH F;obtain⟨B1,b1,rfl,j1,q1⟩:=aH af;have aI:=aw.mk hb;clear A F af hb;(repeat' first|((with_reducible replace h:=bq h);rcases h with ⟨hc,h⟩|⟨hc,h⟩<;>first|exact(bh h).elim|exact absurd hc (by decide)|subst hc|(replace hc:=aD hc;subst hc)|(have hd:=aV hc;have he:=aW hc;clear hc)|(have hd:=bo hc;have he:=bp hc)|(have hd:=ay hc)|(have hd:=ag hc)|skip)))|(go_at_call 107;replace h:=bI h;obtain⟨t,A,h⟩:=h;(try dsimp only at h);refine(gu.c _ _ _ _ _ Rd.out aj.out A).mono ?_;rintro e w2 ⟨v0,rfl,F,hb⟩;obtain⟨aF,b0,rfl,j0,q0⟩:=aH F;have aI:=aw.mk hb;clear A F hb));(repeat' first|((with_reducible replace h:=bq h);rcases h with ⟨hc,h⟩|⟨hc,h⟩<;>first|exact(bh h).elim|exact absurd hc (by decide)|subst hc|(replace hc:=aD hc;subst hc)|(have hd:=aV hc;have he:=aW hc;clear hc)|(have hd:=bo hc;have he:=bp hc)|(have hd:=ay hc)|(have hd:=ag hc)|skip));all_goals(try have hn:decide (0<t.length)=true:=ag (by omega));all_goals(try have hn:decide (0<t.length)=false:=ay (by omega)))))
 all_goals simp only[Option.some.injEq,Prod.mk.injEq]at h
 all_goals obtain⟨rfl,rfl,rfl,rfl,rfl,rfl⟩:=h
 all_goals refine bodyPost_ret (results_cell_row rfl _ _ _ _ _ (0,0) _ rfl aQ.out Tryz.underlying37 rfl (by kernel_rfl)) rfl ?_
 all_goals exact⟨_,_,_,rfl,(by first|exact bj|exact Kd.bl _ _ _ _ _),(by first|exact bj|exact Kd.bl _ _ _ _ _),(by first|exact bj|exact Kd.bl _ _ _ _ _),From.out⟩
def gH.f (z:List (ai)) (u:Int) (D:List Int):Option ((List (ai))×Int×List Int):=(iq.f z).bind fun t158=>((ml.f D).bind fun t161=>(some (t158,u,t161)))
theorem gH.c (F:Option Addr) (I:Nat) (u:List (ai)) (H:Int) (G:Option Addr) (J:Nat) (z:List Int) (r1:List (ai)) (r2:Int) (r3:List Int) (w:World) (U:Kd.C aU w F u.length u) (K:u.length≤I) (V:Kd.C (Kd.int .i64) w G z.length z) (O:z.length≤J) (h:gH.f u H z=some (r1,r2,r3)):
  Calls Tryz.prog 95 #[.agg #[.slice F u.length I,.int .i64 H,.slice G z.length J]] w fun e w'=>∃X Y:Value,e= .returned (.agg #[X,.int .i64 r2,Y])∧Kd.R aU 112 w' w.heap.size (fun _=>True) X r1∧Kd.R (Kd.int .i64) 3 w' w.heap.size (fun _=>True) Y r3∧Below w.heap.size w w':=by
 replace U:=aM.mk U;replace K:=aj.mk K;replace V:=aM.mk V;replace O:=aj.mk O;unfold gH.f at h;have ah:=Tryz.underlying34
 all_goals go_enter Tryz.func95,Tryz.ntmps95
 all_goals go_wp2_with ((first
  |((with_reducible refine aJ (N:=1) rfl ?_);refine bV #[.slice F u.length I,.int .i64 H,.slice G z.length J] 34 fun g w1 j1 j2 ad=> ?_)
  |((with_reducible refine aJ (N:=2) rfl ?_);refine bV #[.slice none 0 0,.int .i64 0,.slice none 0 0] 34 fun g w1 j1 j2 ad=> ?_)
  |((with_reducible refine mg ?_);intro w3 al;refine pV 2 (by rfl) ?_;intro g hg w4 ak;subst hg;go_region_held3 (fun w'=>kP g w4 w') (first|exact⟨fD.out⟩|skip) (first|(go_at_call 126;replace h:=bI h;obtain⟨t,A,h⟩:=h;(try dsimp only at h);refine(iq.c _ _ _ _ _ Rd.out aj.out A).mono ?_;rintro e w2 ⟨v0,rfl,D,hb⟩;obtain⟨Z,b0,rfl,j0,q0⟩:=aH D;have af:=aw.mk hb;clear A D hb;(repeat' first|((with_reducible replace h:=bq h);rcases h with ⟨hc,h⟩|⟨hc,h⟩<;>first|exact(bh h).elim|exact absurd hc (by decide)|subst hc|(replace hc:=aD hc;subst hc)|(have hd:=aV hc;have he:=aW hc;clear hc)|(have hd:=bo hc;have he:=bp hc)|(have hd:=ay hc)|(have hd:=ag hc)|skip));(try have hn:decide (0<t.length)=true:=ag (by omega));(try have hn:decide (0<t.length)=false:=ay (by omega)))|(go_at_call 127;replace h:=bI h;obtain⟨t,A,h⟩:=h;(try dsimp only at h);refine(ml.c _ _ _ _ _ Rd.out aj.out A).mono ?_;rintro e w2 ⟨v0,rfl,D,hb⟩;obtain⟨Z,b0,rfl,j0,q0⟩:=aH D;have af:=aw.mk hb;clear A D hb));(repeat' first|((with_reducible replace h:=bq h);rcases h with ⟨hc,h⟩|⟨hc,h⟩<;>first|exact(bh h).elim|exact absurd hc (by decide)|subst hc|(replace hc:=aD hc;subst hc)|(have hd:=aV hc;have he:=aW hc;clear hc)|(have hd:=bo hc;have he:=bp hc)|(have hd:=ay hc)|(have hd:=ag hc)|skip));all_goals(try have hn:decide (0<t.length)=true:=ag (by omega));all_goals(try have hn:decide (0<t.length)=false:=ay (by omega)))))
 all_goals simp only[Option.some.injEq,Prod.mk.injEq]at h
 all_goals obtain⟨rfl,rfl,rfl⟩:=h
 all_goals refine bodyPost_ret (results_cell_row rfl _ _ _ _ _ (0,0) _ rfl aQ.out Tryz.underlying34 rfl (by kernel_rfl)) rfl ?_
 all_goals exact⟨_,_,rfl,(by first|exact bj|exact Kd.bl _ _ _ _ _),(by first|exact bj|exact Kd.bl _ _ _ _ _),From.out⟩
def fz.f (G:List (ai)) (z:Int) (H:List Int) (D:Int) (F:Int) (I:List (ah)):Option ((List (ai))×Int×List Int×Int×Int×(List (ah))):=(gH.f G z H).bind fun u=>((gG.f I).bind fun t179=>(some (u.1,u.2.1,u.2.2,D,F,t179)))
theorem fz.c (G:Option Addr) (U:Nat) (u:List (ai)) (J:Int) (H:Option Addr) (V:Nat) (z:List Int) (K:Int) (O:Int) (I:Option Addr) (X:Nat) (D:List (ah)) (r1:List (ai)) (r2:Int) (r3:List Int) (ao:Int) (ap:Int) (ar:List (ah)) (w:World) (ak:Kd.C aU w G u.length u) (Y:u.length≤U) (al:Kd.C (Kd.int .i64) w H z.length z) (Z:z.length≤V) (am:Kd.C aT w I D.length D) (ad:D.length≤X) (h:fz.f u J z K O D=some (r1,r2,r3,ao,ap,ar)):
  Calls Tryz.prog 45 #[.agg #[.slice G u.length U,.int .i64 J,.slice H z.length V,.int .i64 K,.int .i64 O,.slice I D.length X]] w fun e w'=>∃av aB aE:Value,e= .returned (.agg #[av,.int .i64 r2,aB,.int .i64 ao,.int .i64 ap,aE])∧Kd.R aU 112 w' w.heap.size (fun _=>True) av r1∧Kd.R (Kd.int .i64) 3 w' w.heap.size (fun _=>True) aB r3∧Kd.R aT 104 w' w.heap.size (fun _=>True) aE ar∧Below w.heap.size w w':=by
 replace ak:=aM.mk ak;replace Y:=aj.mk Y;replace al:=aM.mk al;replace Z:=aj.mk Z;replace am:=aM.mk am;replace ad:=aj.mk ad;unfold fz.f at h;have aK:=Tryz.underlying37
 all_goals go_enter Tryz.func45,Tryz.ntmps45
 all_goals go_wp2_with ((first
  |((with_reducible refine aJ (N:=1) rfl ?_);refine bV #[.slice G u.length U,.int .i64 J,.slice H z.length V,.int .i64 K,.int .i64 O,.slice I D.length X] 37 fun g w1 j1 j2 aG=> ?_)
  |((with_reducible refine aJ (N:=2) rfl ?_);refine bV #[.slice none 0 0,.int .i64 0,.slice none 0 0,.int .i64 0,.int .i64 0,.slice none 0 0] 37 fun g w1 j1 j2 aG=> ?_)
  |((with_reducible refine mg ?_);intro w3 aN;refine pV 2 (by rfl) ?_;intro g hg w4 aL;subst hg;go_region_held3 (fun w'=>kP g w4 w') (first|exact⟨fD.out⟩|skip) (first|(go_at_call 95;replace h:=bI h;obtain⟨⟨t1,t2,t3⟩,A,h⟩:=h;(try dsimp only at h);refine(gH.c _ _ _ _ _ _ _ _ _ _ _ Rd.out aj.out Rd.out aj.out A).mono ?_;rintro e w2 ⟨v0,v1,rfl,F,af,hb⟩;obtain⟨aF,b0,rfl,j0,q0⟩:=aH F;obtain⟨B1,b1,rfl,j1,q1⟩:=aH af;have aI:=aw.mk hb;clear A F af hb;(repeat' first|((with_reducible replace h:=bq h);rcases h with ⟨hc,h⟩|⟨hc,h⟩<;>first|exact(bh h).elim|exact absurd hc (by decide)|subst hc|(replace hc:=aD hc;subst hc)|(have hd:=aV hc;have he:=aW hc;clear hc)|(have hd:=bo hc;have he:=bp hc)|(have hd:=ay hc)|(have hd:=ag hc)|skip)))|(go_at_call 96;replace h:=bI h;obtain⟨t,A,h⟩:=h;(try dsimp only at h);refine(gG.c _ _ _ _ _ Rd.out aj.out A).mono ?_;rintro e w2 ⟨v0,rfl,F,hb⟩;obtain⟨aF,b0,rfl,j0,q0⟩:=aH F;have aI:=aw.mk hb;clear A F hb));(repeat' first|((with_reducible replace h:=bq h);rcases h with ⟨hc,h⟩|⟨hc,h⟩<;>first|exact(bh h).elim|exact absurd hc (by decide)|subst hc|(replace hc:=aD hc;subst hc)|(have hd:=aV hc;have he:=aW hc;clear hc)|(have hd:=bo hc;have he:=bp hc)|(have hd:=ay hc)|(have hd:=ag hc)|skip));all_goals(try have hn:decide (0<t.length)=true:=ag (by omega));all_goals(try have hn:decide (0<t.length)=false:=ay (by omega)))))
 all_goals simp only[Option.some.injEq,Prod.mk.injEq]at h
 all_goals obtain⟨rfl,rfl,rfl,rfl,rfl,rfl⟩:=h
 all_goals refine bodyPost_ret (results_cell_row rfl _ _ _ _ _ (0,0) _ rfl aQ.out Tryz.underlying37 rfl (by kernel_rfl)) rfl ?_
 all_goals exact⟨_,_,_,rfl,(by first|exact bj|exact Kd.bl _ _ _ _ _),(by first|exact bj|exact Kd.bl _ _ _ _ _),(by first|exact bj|exact Kd.bl _ _ _ _ _),From.out⟩
end P
namespace V
open Go.RowKit WW.bk
class dt (W:World) (a:Addr) (v:outParam Value):Prop where out:W.cell? a=some v
class qp (a:Addr) (g:Nat):Prop where out:a.block≠g
section
variable {w w0 W:World} {a:Addr} {v u:Value} {o:Obj} {n g i:Nat}
theorem nX (h:dt W a v):a.block<W.heap.size:=World.block_lt_of_cell? W a h.out
instance [h:dt W a v]:dt (W.alloc o) a v:=⟨((bO (RowKit.Below.refl W.heap.size W) o).cell (nX h)).trans h.out⟩
instance [h:dt W a v]:dt W.drew a v:=⟨h.out⟩
instance [h:dt W a v]:dt (W.drewN n) a v:=⟨h.out⟩
instance [b:aw w W] [h:dt w a v]:dt W a v:=⟨(b.out.cell (nX h)).trans h.out⟩
instance [b:eU w0 W] [h:dt w0 a v]:dt W a v:=⟨(b.out.cell (nX h)).trans h.out⟩
instance [h:fC W g] [k:dt W a v]:qp a g:=⟨by rw[h.out];exact Nat.ne_of_lt (nX k)⟩
instance [h:dt W a v] [k:qp a g]:dt (W.setCell ⟨g,i,none⟩ u) a v:=⟨(cell_far k.out u).trans h.out⟩
theorem gl (W:World) (a:Addr) {v:Value} [h:dt W a v]:W.cell? a=some v:=h.out
end
class mv (w1 w2:outParam World) (g:Nat):Prop where out:w1.heap.size≤g∧g<w2.heap.size
class d_ (e:outParam Nat) (w1:outParam World) (W:World) (g:Nat) (c:outParam Nat) (xs:outParam (List Int)):Prop where out:(Kd.int .i64).R e W w1.heap.size (fun _=>True) (.slice (some ⟨g,0,none⟩) xs.length c) xs
class At {α:Type} (d:Kd α) (e:outParam Nat) (w1:outParam World) (W:World) (A:Option Addr) (c:outParam Nat) (xs:outParam (List α)):Prop where out:d.R e W w1.heap.size (fun _=>True) (.slice A xs.length c) xs
class my (i:Int) (xs:List Int):Prop where out:0≤i∧i<xs.length
class ak (w0:outParam World) (a:Addr) (v:outParam Value):Prop where out:w0.cell? a=some v
class bS {α:Type} (d:Kd α) (e t:Nat):Prop where out:∀q,q∈e::d.E→q≠t
section
variable {w0 w1 w2 a b w W:World} {g g' e c i n t B:Nat} {A:Option Addr} {xs ys:List Int} {v:Int} {u:Value} {o:Obj} {cs:Array Value}
instance [h:dI (Kd.int .i64) e w1 w2 (some ⟨g,0,none⟩) c xs]:mv w1 w2 g:=⟨by
  have:=(Kd.iM h.out).1 g (by simp[Value.ownBlock]);exact⟨this.2.1,this.2.2.1⟩⟩
instance [h:mv w1 w2 g] [k:ji w1 w2 g']:dw g' g:=⟨by have:=h.out;have:=k.out;omega⟩
instance [h:mv w1 w2 g] [k:ji w1 w2 g']:dw g g':=⟨by have:=h.out;have:=k.out;omega⟩
instance [h:mv w1 w2 g] [k:Sz w0 w1]:Nw w0 g:=⟨Nat.le_trans k.out h.out.1⟩
instance [h:mv w1 w2 g] [k:nH w1 w2 a b]:ji a b g:=⟨by have:=h.out;have:=k.out;omega⟩
instance [h:dI (Kd.int .i64) e w1 w2 (some ⟨g,0,none⟩) c xs] [k:dF w1 w2 W]:d_ e w1 W g c xs:=⟨ni (h:=h) (k:=k)⟩
instance [h:d_ e w1 W g c xs]:d_ e w1 (W.alloc o) g c xs:=⟨Kd.fg h.out o⟩
instance [h:d_ e w1 W g c xs]:d_ e w1 W.drew g c xs:=⟨Kd.dH h.out⟩
instance [h:d_ e w1 W g c xs]:d_ e w1 (W.drewN n) g c xs:=⟨Kd.fX h.out n⟩
instance [k:aw w W] [h:d_ e w1 w g c xs]:d_ e w1 W g c xs:=⟨Kd.dG h.out k.out⟩
instance [k:eU w W] [h:d_ e w1 w g c xs]:d_ e w1 W g c xs:=⟨Kd.dG h.out k.out⟩
instance [h:d_ e w1 W g c xs]:d_ e w1 (W.setCell ⟨g,i,none⟩ (.int .i64 v)) g c (xs.set i v):=⟨by
  have:=Kd.o9 h.out (i:Int) v;rw[List.length_set];exact this⟩
instance [h:d_ e w1 W g c xs] [k:dw g g']:d_ e w1 (W.setCell ⟨g',i,none⟩ u) g c xs:=⟨Kd.cJ (Kd.dp (p:=⟨g',i,none⟩) (ok:=fun k=>k=g) (Kd.qE (Kd.pO h.out) (fun k hk=>by simp[Value.ownBlock]at hk;exact hk.symm)) (fun j hj=>by rw[hj];exact k.out) u) (fun _ _=>trivial)⟩
theorem iD (W:World) (g:Nat) (i:Int) [h:d_ e w1 W g c xs] [k:my i xs]:W.cell? ⟨g,i.toNat,none⟩=some (.int .i64 (rd xs i)):=(Kd.fW 0 h.out i k.out.1 k.out.2).1
theorem iE (W:World) (g:Nat) (i:Int) [h:d_ e w1 W g c xs] [k:my i xs]:W.frozen? ⟨g,i.toNat,none⟩=false:=(Kd.fW 0 h.out i k.out.1 k.out.2).2
theorem iO (W:World) (g:Nat) [h:d_ e w1 W g c xs] [k:my 0 xs]:W.cell? ⟨g,0,none⟩=some (.int .i64 (rd xs 0)):=iD W g 0
theorem iP (W:World) (g:Nat) [h:d_ e w1 W g c xs] [k:my 0 xs]:W.frozen? ⟨g,0,none⟩=false:=iE W g 0
theorem cQ {i:Int} (j:dI (Kd.int .i64) e w1 w2 A c xs) (h0:0≤i) (h1:i<(xs.length:Int)):∃g,A=some ⟨g,0,none⟩∧my i xs:=by
  obtain⟨g,c',h,_⟩:=Kd.iN j.out (by omega);injection h with h _ _;exact⟨g,h,⟨⟨h0,h1⟩⟩⟩
theorem bE {i:Int} (j:aM (Kd.int .i64) w0 A xs) (h0:0≤i) (h1:i<(xs.length:Int)):∃ad,A=some ad∧ak w0 (ad.add i.toNat) (.int .i64 (rd xs i)):=by
  obtain⟨ad,e,h⟩:=Kd.dV j.out i h0 h1;exact⟨ad,e,⟨h⟩⟩
instance {p:Addr} [h:ak w0 p u] [k:From w0 W]:dt W p u:=⟨(k.out.cell (World.block_lt_of_cell? w0 p h.out)).trans h.out⟩
theorem bF {β:Type} {i:Nat} {f:List Int→Option β} {r:β} (h:(some (xs.set i v)).bind f=some r):xs.length=(xs.set i v).length∧f (xs.set i v)=some r:=⟨(List.length_set ..).symm,h⟩
instance [h:aj xs.length c]:aj (xs.set i v).length c:=⟨by rw[List.length_set];exact h.out⟩
theorem wy [h:d_ e w1 W g c xs] [l:From w w1]:(Kd.int .i64).R e W w.heap.size (fun _=>True) (.slice (some ⟨g,0,none⟩) xs.length c) xs:=Kd.dg h.out l.out.size
theorem en {m:Nat} [h:d_ e w1 W g c xs] [l:From w w1] (hm:m=xs.length):(Kd.int .i64).R e W w.heap.size (fun _=>True) (.slice (some ⟨g,0,none⟩) m c) xs:=by rw[hm];exact wy
instance [h:d_ e w1 W g c xs]:Rd (Kd.int .i64) W (some ⟨g,0,none⟩) xs:=⟨(Kd.cp h.out).2.2⟩
section
variable {α:Type} {d:Kd α} {zs:List α} {c':Nat}
instance [h:dI d t w1 w2 A c zs] [k:dF w1 w2 W] [l:d_ e w W g c' ys] [m:bS d t e]:At d t w1 (W.setCell ⟨g,i,none⟩ (.int .i64 v)) A c zs:=⟨Kd.nM (v:= .slice (some ⟨g,0,none⟩) ys.length c') (ni (h:=h) (k:=k)) (Kd.nN l.out) m.out (Kd.kO l.out (i:Int) v).2⟩
instance [h:At d t w1 W A c zs] [l:d_ e w W g c' ys] [m:bS d t e]:At d t w1 (W.setCell ⟨g,i,none⟩ (.int .i64 v)) A c zs:=⟨Kd.nM (v:= .slice (some ⟨g,0,none⟩) ys.length c') h.out (Kd.nN l.out) m.out (Kd.kO l.out (i:Int) v).2⟩
instance [h:At d t w1 W A c zs]:At d t w1 (W.alloc o) A c zs:=⟨Kd.fg h.out o⟩
instance [h:At d t w1 W A c zs]:At d t w1 W.drew A c zs:=⟨Kd.dH h.out⟩
instance [h:At d t w1 W A c zs]:At d t w1 (W.drewN n) A c zs:=⟨Kd.fX h.out n⟩
instance [k:aw w W] [h:At d t w1 w A c zs]:At d t w1 W A c zs:=⟨Kd.dG h.out k.out⟩
instance [k:eU w W] [h:At d t w1 w A c zs]:At d t w1 W A c zs:=⟨Kd.dG h.out k.out⟩
instance [h:At d t w1 W A c zs] [k:aQ W g cs e] [m:bS d t e]:At d t w1 (W.setCell ⟨g,i,none⟩ u) A c zs:=⟨Kd.cJ (Kd.dp (p:=⟨g,i,none⟩) (Kd.jW h.out k.out m.out) (fun _ hk=>hk.2) u) (fun _ _=>trivial)⟩
theorem bM [h:At d t w1 W A c zs] [l:From w w1]:d.R t W w.heap.size (fun _=>True) (.slice A zs.length c) zs:=Kd.dg h.out l.out.size
instance [h:At d t w1 W A c zs]:Rd d W A zs:=⟨(Kd.cp h.out).2.2⟩
end
end
end V
namespace V
open Go.RowKit WW.bk WW.b_
section
variable {P:Program} {ops:Array Oper} {Q:Exit→Act→World→Prop} {T:Bool×List (List Nat×List Nat)} {B:List Nat} {oi:Oper} {v:Value} {fuel:Nat} {l l':Array Bool} {ds:List Nat} {a a':Act} {w w1 w3:World}
abbrev Sb (w3:World):World→Prop:=fun w'=>Below w3.heap.size w3 w'
theorem qR {id n:Nat} (hT:a6 .any ops=T) (hB:bT T.2 B=true) (h:ae (a6 .any ops=T)→ae (bT T.2 B=true)→∀w3,aw w w3→∀u,aw w3 u→Sb w3 u→bt P .any ops Q (Sb w3) ds n l a u)
    (hn:ops.size=n:=by rfl) (hl:Array.replicate n false=l:=by rfl) (hm:P.follows .mixedOrders=true:=by kernel_rfl):(Code.region id ops true).wp P Q a w:=
  fB (S:=Sb w) (ds:=ds) l hm hn hl (cg (Below.refl _ _)) fun hS=>h ⟨hT⟩ ⟨hB⟩ w ⟨Below.refl _ _⟩ w.drew ⟨hS⟩ hS
theorem qA (i:Nat) (N:Option Tmp) (u:ae (a6 .any ops=T)) (h:bt P .any ops Q (Sb w3) ds fuel l' a' w) (hi:ops[i]? =some oi:=by rfl) (hN:oi.dst=N:=by rfl)
    (hl:l.setIfInBounds i true=l':=by simp only[List.setIfInBounds_toArray,List.set_cons_zero,List.set_cons_succ];rfl) (hc:lR T l.toList l'.toList i=true:=by kernel_rfl)
    (hQ:∀c a w,Q (.panic c) (a.put oi.dst v) w→Q (.panic c) a w:=by exact fun _ _ _ h=>h) (hw:Region.wanted oi (yielded ops a.tmps)=true:=by rfl)
    (hy:∀w',(execOp a.eval oi).run P w'= .ok (.value v) w':=by intro w';go_simp;with_reducible rfl) (ha:a.put N v=a':=by simp only[Act.put,List.setIfInBounds_toArray,List.set_cons_zero,List.set_cons_succ,cd,ct];rfl):
    bt P .any ops Q (Sb w3) ds (fuel+1) l a w:=oy l' hi hN (nQ u.out hc) hQ (Or.inl ⟨hw,hy⟩) ha h
theorem qT (i:Nat) (N:Option Tmp) (u:ae (a6 .any ops=T)) (HW:ae (bT T.2 B=true)) (hS:Sb w3 w) (h:bt P .any ops Q (Sb w3) ds fuel l' a' w) (hi:ops[i]? =some oi:=by rfl) (hN:oi.dst=N:=by rfl)
    (hl:l.setIfInBounds i true=l':=by simp only[List.setIfInBounds_toArray,List.set_cons_zero,List.set_cons_succ];rfl) (hc:nw T B ds l.toList l'.toList i=true:=by kernel_rfl)
    (hQ:∀c a w,Q (.panic c) (a.put oi.dst v) w→Q (.panic c) a w:=by exact fun _ _ _ h=>h) (hw:Region.wanted oi (yielded ops a.tmps)=true:=by rfl)
    (hy:∀w',eU w3 w'→(execOp a.eval oi).run P w'= .ok (.value v) w':=by intro w' jS;go_simp;with_reducible rfl) (ha:a.put N v=a':=by simp only[Act.put,List.setIfInBounds_toArray,List.set_cons_zero,List.set_cons_succ,cd,ct];rfl):
    bt P .any ops Q (Sb w3) ds (fuel+1) l a w:=nx l' hi hN (qf u.out HW.out hc) hQ (Or.inl ⟨hw,fun w' hS=>hy w' ⟨hS⟩⟩) hS ha h
theorem qB {a':Nat→Act} (i N:Nat) (cs:Array Value) (t:TypeId) (u:ae (a6 .any ops=T)) (hS:Sb w3 w) (h:∀g,fC w g→∀w1,aw w w1→aQ w1 g cs t→Sb w3 w1→bt P .any ops Q (Sb w3) ds fuel l' (a' g) w1) (hi:ops[i]? =some oi:=by rfl) (hN:oi.dst=some N:=by rfl)
    (hl:l.setIfInBounds i true=l':=by simp only[List.setIfInBounds_toArray,List.set_cons_zero,List.set_cons_succ];rfl) (hc:(e8 T.2 l.toList==[i]&&l.toList.set i true==l'.toList)=true:=by kernel_rfl) (hd:i∉ds:=by decide) (hw:Region.wanted oi (yielded ops a.tmps)=true:=by rfl)
    (hr:(execOp a.eval oi).run P w= .ok (.value (.pointer (some ⟨w.heap.size,0,none⟩))) (w.alloc (.cells cs t (0,0))):=by first|(go_simp;done)|(go_simp;rfl))
    (ha:∀g,a.put (some N) (.pointer (some ⟨g,0,none⟩))=a' g:=by intro g;simp only[Act.put,List.setIfInBounds_toArray,List.set_cons_zero,List.set_cons_succ,cd,ct];rfl):
    bt P .any ops Q (Sb w3) ds (fuel+1) l a w:=dO l' hi hN (dn u.out hc) hd fun K hK=>by
  rw[←hN];refine qX hw hN hr fun g hg w1 hb hk=> ?_;have h1:Sb w3 w1:=bn hS hk;exact hK.out _ _ h1 fun _=>by rw[hN,ha];exact h g ⟨hg⟩ w1 ⟨hk⟩ ⟨hb⟩ h1
theorem qS (i:Nat) (u:ae (a6 .any ops=T)) (h:Sb w3 w1→bt P .any ops Q (Sb w3) ds fuel l' a w1) (hi:ops[i]? =some oi:=by rfl) (hN:oi.dst=none:=by rfl)
    (hl:l.setIfInBounds i true=l':=by simp only[List.setIfInBounds_toArray,List.set_cons_zero,List.set_cons_succ];rfl) (hc:(e8 T.2 l.toList==[i]&&l.toList.set i true==l'.toList)=true:=by kernel_rfl) (hd:i∉ds:=by decide) (hw:Region.wanted oi (yielded ops a.tmps)=true:=by rfl)
    (hr:(execOp a.eval oi).run P w= .ok .skip w1:=by go_simp;rfl) (hS:From w3 w1:=by infer_instance):
    bt P .any ops Q (Sb w3) ds (fuel+1) l a w:=dO l' hi hN (dn u.out hc) hd fun K hK=>mh hw hN hr (hK.out _ _ hS.out fun _=>h hS.out)
theorem qL (i:Nat) (u:ae (a6 .any ops=T)) (h:bt P .any ops Q (Sb w3) ds fuel l' a w1) (hi:ops[i]? =some oi:=by rfl) (hN:oi.dst=none:=by rfl)
    (hl:l.setIfInBounds i true=l':=by simp only[List.setIfInBounds_toArray,List.set_cons_zero,List.set_cons_succ];rfl) (hc:(e8 T.2 l.toList==[i]&&l.toList.set i true==l'.toList)=true:=by kernel_rfl) (hd:i∈ds:=by decide) (hw:Region.wanted oi (yielded ops a.tmps)=true:=by rfl)
    (hr:(execOp a.eval oi).run P w= .ok .skip w1:=by go_simp;rfl):
    bt P .any ops Q (Sb w3) ds (fuel+1) l a w:=oq l' hi hN (dn u.out hc) hd fun K hK=>mh hw hN hr (hK.out _ _ h)
theorem qC {f:FuncId} {args:Array Value} {xs:Array Operand} {ts:Array TypeId} (i N:Nat) {fn:Func} (hf:P.funcs[f]? =some fn) (u:ae (a6 .any ops=T)) (h:∀K:Act→World→Prop,(∀a' w',Sb w3 w'→(Sb w3 w'→bt P .any ops Q (Sb w3) ds fuel l' a' w')→K a' w')→Calls P f args w fun e w'=>∃v,e= .returned v∧K (a.put (some N) v) w') (hi:ops[i]? =some oi:=by rfl) (hN:oi.dst=some N:=by rfl)
    (hl:l.setIfInBounds i true=l':=by simp only[List.setIfInBounds_toArray,List.set_cons_zero,List.set_cons_succ];rfl) (hc:(e8 T.2 l.toList==[i]&&l.toList.set i true==l'.toList)=true:=by kernel_rfl) (hd:i∉ds:=by decide) (hw:Region.wanted oi (yielded ops a.tmps)=true:=by rfl)
    (hop:oi.op= .call {callee:= .value (.func f),args:=xs,argTypes:=ts}:=by rfl) (hname:(fn.name== "runtime.NumGoroutine")=false:=by kernel_rfl) (hb:fn.body.isSome=true:=by rfl)
    (hargs:xs.map a.eval=args:=by(try simp only[List.map_toArray,List.map_cons,List.map_nil]);first|done|rfl):
    bt P .any ops Q (Sb w3) ds (fuel+1) l a w:=dO l' hi hN (dn u.out hc) hd fun K hK=>df hf hname hb args hw hN hop hargs (h K (fun a' w' h1 h2=>hK.out a' w' h1 h2))
theorem qN (h:bt P .any ops Q (Sb w3) ds fuel l a' w) (ha:a=a':=by show Act.put _ (some _) _=_;simp only[Act.put,List.setIfInBounds_toArray,List.set_cons_zero,List.set_cons_succ,cd,ct];rfl):bt P .any ops Q (Sb w3) ds fuel l a w:=dX ha h
theorem qD (u:ae (a6 .any ops=T)) (h:Q .normal a w) (hr:(e8 T.2 l.toList==[])=true:=by kernel_rfl):bt P .any ops Q (Sb w3) ds fuel l a w:=eW (fp u.out hr) h
theorem ie (i:Nat) (Ni:Option Tmp) (u:ae (a6 .any ops=T))
    (h:∀K:Act→World→Prop,Shut (∀a' w',Sb w3 w'→(Sb w3 w'→bt P .any ops Q (Sb w3) ds fuel l' a' w')→K a' w')→if Region.wanted oi (yielded ops a.tmps)=true then Oper.wp P oi a w K Q else K (a.put Ni undef) w)
    (hi:ops[i]? =some oi:=by rfl) (hN:oi.dst=Ni:=by rfl) (hl:l.setIfInBounds i true=l':=by simp only[List.setIfInBounds_toArray,List.set_cons_zero,List.set_cons_succ];rfl) (hc:(e8 T.2 l.toList==[i]&&l.toList.set i true==l'.toList)=true:=by kernel_rfl) (hd:i∉ds:=by decide):
    bt P .any ops Q (Sb w3) ds (fuel+1) l a w:=dO l' hi hN (dn u.out hc) hd h
theorem xY {oj ok:Oper} {li lj lk:Array Bool} (i j k:Nat) (Ni Nj Nk:Option Tmp) (u:ae (a6 .any ops=T))
    (h1:∀K:Act→World→Prop,Shut (∀a' w',Sb w3 w'→(Sb w3 w'→bt P .any ops Q (Sb w3) ds fuel li a' w')→K a' w')→if Region.wanted oi (yielded ops a.tmps)=true then Oper.wp P oi a w K Q else K (a.put Ni undef) w)
    (h2:∀K:Act→World→Prop,Shut (∀a' w',Sb w3 w'→(Sb w3 w'→bt P .any ops Q (Sb w3) ds fuel lj a' w')→K a' w')→if Region.wanted oj (yielded ops a.tmps)=true then Oper.wp P oj a w K Q else K (a.put Nj undef) w)
    (h3:∀K:Act→World→Prop,Shut (∀a' w',Sb w3 w'→(Sb w3 w'→bt P .any ops Q (Sb w3) ds fuel lk a' w')→K a' w')→if Region.wanted ok (yielded ops a.tmps)=true then Oper.wp P ok a w K Q else K (a.put Nk undef) w)
    (hi:ops[i]? =some oi:=by rfl) (hj:ops[j]? =some oj:=by rfl) (hk:ops[k]? =some ok:=by rfl) (kV:oi.dst=Ni:=by rfl) (kW:oj.dst=Nj:=by rfl) (pD:ok.dst=Nk:=by rfl)
    (wh:l.setIfInBounds i true=li:=by simp only[List.setIfInBounds_toArray,List.set_cons_zero,List.set_cons_succ];rfl) (hlj:l.setIfInBounds j true=lj:=by simp only[List.setIfInBounds_toArray,List.set_cons_zero,List.set_cons_succ];rfl) (hlk:l.setIfInBounds k true=lk:=by simp only[List.setIfInBounds_toArray,List.set_cons_zero,List.set_cons_succ];rfl)
    (hc:(e8 T.2 l.toList==[i,j,k]&&l.toList.set i true==li.toList&&l.toList.set j true==lj.toList&&l.toList.set k true==lk.toList)=true:=by kernel_rfl) (kX:i∉ds:=by decide) (hdj:j∉ds:=by decide) (hdk:k∉ds:=by decide):
    bt P .any ops Q (Sb w3) ds (fuel+1) l a w:=yU li lj lk hi hj hk kV kW pD (yV u.out hc) kX hdj hdk h1 h2 h3
theorem jI {K:Act→World→Prop} (N:Nat) (cs:Array Value) (t:TypeId) (h:∀g,fC w g→∀w1,aw w w1→aQ w1 g cs t→K (a.put (some N) (.pointer (some ⟨g,0,none⟩))) w1) (hN:oi.dst=some N:=by rfl) (hw:Region.wanted oi (yielded ops a.tmps)=true:=by rfl)
    (hr:(execOp a.eval oi).run P w= .ok (.value (.pointer (some ⟨w.heap.size,0,none⟩))) (w.alloc (.cells cs t (0,0))):=by first|(go_simp;done)|(go_simp;rfl)):if Region.wanted oi (yielded ops a.tmps)=true then Oper.wp P oi a w K Q else K (a.put (some N) undef) w:=by
  rw[←hN];refine qX hw hN hr fun g hg w1 hb hk=> ?_;rw[hN];exact h g ⟨hg⟩ w1 ⟨hk⟩ ⟨hb⟩
theorem nc {K:Act→World→Prop} (e N:Nat) (t:TypeId) (x y:Operand) (m:Nat) (bytes:Nat) (hu:P.underlying t=some (.slice e)) (hinfo:(P.info? e).map (fun i=>(i.zero,i.size,i.bytes))=some (some (.int .i64 0),1,bytes)) (hb0:0<bytes) (hl:m*bytes≤281474976710656)
    (h:∀A c w1,dI (Kd.int .i64) e w w1 A c (List.replicate m 0)→aw w w1→K (a.put (some N) (.slice A (List.replicate m (0:Int)).length c)) w1) (hN:oi.dst=some N:=by rfl) (hw:Region.wanted oi (yielded ops a.tmps)=true:=by rfl)
    (ho:oi.op= .makeSlice t x y:=by rfl) (hx:a.eval x= .int .i64 (m:Int):=by rfl) (hy:a.eval y= .int .i64 (m:Int):=by rfl):if Region.wanted oi (yielded ops a.tmps)=true then Oper.wp P oi a w K Q else K (a.put (some N) undef) w:=by
  rw[←hN];refine Kd.uF (Kd.int .i64) w.heap.size e hw hN t x y ho (m:Int) hx hy hu (.int .i64 0) bytes hinfo rfl (by decide) hb0 0 (ok:=fun _=>True) (bN:=fun _=>True) rfl (fun _ h=>h) trivial (by omega) (by simpa using hl) (Below.refl _ _) (Nat.le_refl _) ?_;intro v1 w1 u hb _ _;obtain⟨A,c,rfl⟩:=Kd.dz u;rw[Int.toNat_natCast]at u ⊢;rw[hN];exact h A c w1 ⟨u⟩ ⟨hb⟩
theorem ly {oj:Oper} {li lj:Array Bool} (i j:Nat) (Ni Nj:Option Tmp) (u:ae (a6 .any ops=T))
    (h1:∀K:Act→World→Prop,Shut (∀a' w',Sb w3 w'→(Sb w3 w'→bt P .any ops Q (Sb w3) ds fuel li a' w')→K a' w')→if Region.wanted oi (yielded ops a.tmps)=true then Oper.wp P oi a w K Q else K (a.put Ni undef) w)
    (h2:∀K:Act→World→Prop,Shut (∀a' w',Sb w3 w'→(Sb w3 w'→bt P .any ops Q (Sb w3) ds fuel lj a' w')→K a' w')→if Region.wanted oj (yielded ops a.tmps)=true then Oper.wp P oj a w K Q else K (a.put Nj undef) w)
    (hi:ops[i]? =some oi:=by rfl) (hj:ops[j]? =some oj:=by rfl) (kV:oi.dst=Ni:=by rfl) (kW:oj.dst=Nj:=by rfl)
    (wh:l.setIfInBounds i true=li:=by simp only[List.setIfInBounds_toArray,List.set_cons_zero,List.set_cons_succ];rfl) (hlj:l.setIfInBounds j true=lj:=by simp only[List.setIfInBounds_toArray,List.set_cons_zero,List.set_cons_succ];rfl)
    (hc:(e8 T.2 l.toList==[i,j]&&l.toList.set i true==li.toList&&l.toList.set j true==lj.toList)=true:=by kernel_rfl) (kX:i∉ds:=by decide) (hdj:j∉ds:=by decide):
    bt P .any ops Q (Sb w3) ds (fuel+1) l a w:=tD li lj hi hj kV kW (tE u.out hc) kX hdj h1 h2
section
variable {α:Type} {xs ys:List α} {inner:List Value} {K:Act→World→Prop} {N:Nat}
theorem pR (d:Kd α) (e N:Nat) (xs:List α) (inner:List Value) (hp:aY (d.M w w.heap.size (fun _=>True)) d.sz xs inner) (h:∀A c w1,dI d e w w1 A c xs→aw w w1→K (a.put (some N) (.slice A xs.length c)) w1)
    (hN:oi.dst=some N:=by rfl) (hw:Region.wanted oi (yielded ops a.tmps)=true:=by rfl) (hr:(execOp a.eval oi).run P w= .ok (.value (.slice (some ⟨w.heap.size,0,none⟩) xs.length xs.length)) (w.alloc (.cells inner.toArray e)):=by first|(go_simp;done)|(go_simp;rfl)) (hl:xs.length≤9223372036854775807:=by simp):
    if Region.wanted oi (yielded ops a.tmps)=true then Oper.wp P oi a w K Q else K (a.put (some N) undef) w:=by
  rw[←hN];refine Kd.nK d w.heap.size e hw hN (xs:=xs) (inner:=inner) (ok:=fun _=>True) (bN:=fun _=>True) hr hp (fun _ h=>h) trivial (Below.refl _ _) (Nat.le_refl _) hl ?_;intro v1 w1 ho hb _ _;obtain⟨A,c,rfl⟩:=Kd.dz ho;rw[hN];exact h A c w1 ⟨ho⟩ ⟨hb⟩
theorem qI {a':Option Addr→Nat→Act} (d:Kd α) (i e N:Nat) (xs:List α) (inner:List Value) (u:ae (a6 .any ops=T)) (hS:Sb w3 w) (hp:aY (d.M w w.heap.size (fun _=>True)) d.sz xs inner) (h:∀A c w1,dI d e w w1 A c xs→aw w w1→Sb w3 w1→bt P .any ops Q (Sb w3) ds fuel l' (a' A c) w1) (hi:ops[i]? =some oi:=by rfl)
    (hN:oi.dst=some N:=by rfl) (hl':l.setIfInBounds i true=l':=by simp only[List.setIfInBounds_toArray,List.set_cons_zero,List.set_cons_succ];rfl) (hc:(e8 T.2 l.toList==[i]&&l.toList.set i true==l'.toList)=true:=by kernel_rfl) (hd:i∉ds:=by decide) (hw:Region.wanted oi (yielded ops a.tmps)=true:=by rfl)
    (hr:(execOp a.eval oi).run P w= .ok (.value (.slice (some ⟨w.heap.size,0,none⟩) xs.length xs.length)) (w.alloc (.cells inner.toArray e)):=by first|(go_simp;done)|(go_simp;rfl)) (hl:xs.length≤9223372036854775807:=by simp)
    (ha:∀A c,a.put (some N) (.slice A xs.length c)=a' A c:=by intro A c;simp only[Act.put,List.setIfInBounds_toArray,List.set_cons_zero,List.set_cons_succ,cd,ct];rfl):
    bt P .any ops Q (Sb w3) ds (fuel+1) l a w:=dO l' hi hN (dn u.out hc) hd fun K hK=>pR d e N xs inner hp (fun A c w1 j b=>hK.out _ _ (bn hS b.out) fun _=>by rw[ha];exact h A c w1 j b (bn hS b.out)) hN hw hr hl
theorem qP {a':Option Addr→Nat→Act} {A A2:Option Addr} {c c2 e:Nat} (d:Kd α) (xs ys:List α) (i N:Nat) (so xo:Operand) (t:TypeId) (z:Value) (bytes:Nat) (D:ae (a6 .any ops=T)) (hS:Sb w3 w)
    (hu:P.underlying t=some (.slice e)) (hinfo:(P.info? e).map (fun i=>(i.zero,i.size,i.bytes))=some (some z,d.sz,bytes)) (hz:z.cells.size=d.sz) (hs0:0<d.sz) (hb0:0<bytes) (F:∀x cs,d.K w x cs→d.M w w3.heap.size (fun _=>False) x cs) (hlen:(xs.length+ys.length)*bytes≤140737488355328)
    (h:∀A' c' w1,dI d e w3 w1 A' c' (xs++ys)→aw w3 w1→Sb w3 w1→bt P .any ops Q (Sb w3) ds fuel l' (a' A' c') w1)
    (hi:ops[i]? =some oi:=by rfl) (hN:oi.dst=some N:=by rfl) (ho:oi.op= .call {callee:= .builtin .append,args:= #[so,xo],argTypes:= #[t,t]}:=by rfl) (hs:a.eval so= .slice A xs.length c:=by rfl) (hx:a.eval xo= .slice A2 ys.length c2:=by rfl)
    (hl':l.setIfInBounds i true=l':=by simp only[List.setIfInBounds_toArray,List.set_cons_zero,List.set_cons_succ];rfl) (hc:(e8 T.2 l.toList==[i]&&l.toList.set i true==l'.toList)=true:=by kernel_rfl) (hd:i∉ds:=by decide) (hw:Region.wanted oi (yielded ops a.tmps)=true:=by rfl)
    (hR:d.R e w w3.heap.size (fun _=>True) (.slice A xs.length c) xs:=by exact bj) (vY:d.C w A2 ys.length ys:=by exact sV)
    (ha:∀A c,a.put (some N) (.slice A (xs++ys).length c)=a' A c:=by intro A c;simp only[Act.put,List.setIfInBounds_toArray,List.set_cons_zero,List.set_cons_succ,cd,ct];rfl):
    bt P .any ops Q (Sb w3) ds (fuel+1) l a w:=dO l' hi hN (dn D.out hc) hd fun K hK=>by
  rw[←hN];refine Kd.qx d (w0:=w3) w3.heap.size hw so xo t e z bytes ho hu hinfo hz hs0 hb0 (.slice A xs.length c) xs ys A2 ys.length c2 (fun _=>True) (fun _=>False) hs hx hR vY F (fun _ h=>h.elim) (fun _ _=>trivial) hS hS.size hlen ?_;intro v1 w1 u hb _ _;obtain⟨A',c',rfl⟩:=Kd.dz u;rw[hN];exact hK.out _ _ hb fun _=>by rw[ha];exact h A' c' w1 ⟨u⟩ ⟨hb⟩ hb
end
end
class qq (W:outParam World) (W':World) (e:outParam Nat):Prop where out:∀(g:Nat) (cs:Array Value) (t:TypeId),W.heap[g]? =some (.cells cs t (0,0))→e≠t→W'.heap[g]? =some (.cells cs t (0,0))
class iC (e t:Nat):Prop where out:e≠t
section
variable {w w0 W W':World} {g e t:Nat} {cs:Array Value}
instance [h:qq W W' e] [k:aQ W g cs t] [n:iC e t]:aQ W' g cs t:=⟨h.out g cs t k.out n.out⟩
theorem grE {α:Type} {d:Kd α} {v:Value} {xs:List α} {B:Nat} {ok:Nat→Prop} (h:d.R e W B ok v xs) (hg:W.grownBy W' v.ownBlock):qq W W' e:=⟨fun g cs t hb ht=>nV hb hg (Kd.jV h hb ht)⟩
theorem cO {α:Type} {d:Kd α} {w1 w2:World} {A:Option Addr} {c n:Nat} {xs:List α} [h:dI d e w1 w2 A c xs] [k:dF w1 w2 W] [l:From w w1] (hn:n=xs.length):d.R e W w.heap.size (fun _=>True) (.slice A n c) xs:=by rw[hn];exact bj
theorem pX {α:Type} {d:Kd α} {v:Value} {xs:List α} (h:d.R e W w.heap.size (fun _=>True) v xs):∃A c,v= .slice A xs.length c∧dI d e w W A c xs:=by
  obtain⟨A,c,rfl⟩:=Kd.dz h;exact⟨A,c,rfl,⟨h⟩⟩
theorem dJ {α:Type} {d:Kd α} {w1:World} {A:Option Addr} {c n:Nat} {xs:List α} [h:At d e w1 W A c xs] [l:From w w1] (hn:n=xs.length):d.R e W w.heap.size (fun _=>True) (.slice A n c) xs:=by rw[hn];exact bM
class Dj (A B:Option Addr):Prop where out:∀a b:Addr,A=some a→B=some b→a.block≠b.block
instance {B:Option Addr}:Dj none B:=⟨fun _ _ h=>by cases h⟩
instance {A:Option Addr}:Dj A none:=⟨fun _ _ _ h=>by cases h⟩
theorem nh {e:Nat} {w1 w2:World} {a:Addr} {c:Nat} {xs:List Int} (h:dI (Kd.int .i64) e w1 w2 (some a) c xs):w1.heap.size≤a.block∧a.block<w2.heap.size:=⟨Kd.qy h.out a.block rfl,Kd.qz h.out a.block rfl⟩
instance {e e':Nat} {w1 w2 u z:World} {A B:Option Addr} {c c':Nat} {xs ys:List Int} [a:dI (Kd.int .i64) e w1 w2 A c xs] [b:dI (Kd.int .i64) e' u z B c' ys] [s:Sz w2 u]:Dj A B:=
  ⟨by rintro x y rfl rfl h;have h1:=nh a;have h2:=nh b;have:=s.out;omega⟩
instance {e e':Nat} {w1 w2 z u:World} {A B:Option Addr} {c c':Nat} {xs ys:List Int} [a:dI (Kd.int .i64) e w1 w2 A c xs] [b:dI (Kd.int .i64) e' z u B c' ys] [s:Sz u w1]:Dj A B:=
  ⟨by rintro x y rfl rfl h;have h1:=nh a;have h2:=nh b;have:=s.out;omega⟩
theorem fP {α:Type} {d:Kd α} {ok:Nat→Prop} {v:Value} {xs:List α} (h:d.R e W w.heap.size ok v xs):∃A c,v= .slice A xs.length c∧At d e w W A c xs∧aj xs.length c∧∀k,(Value.slice A xs.length c).ownBlock=some k→ok k:=by
  obtain⟨A,c,rfl⟩:=Kd.dz h;exact⟨A,c,rfl,⟨Kd.cJ h (fun _ _=>trivial)⟩,⟨(Kd.cp h).2.1⟩,h.1⟩
end
end V
namespace P
set_option maxHeartbeats 8000000
set_option maxRecDepth 100000
set_option synthInstance.maxHeartbeats 400000
set_option synthInstance.maxSize 100000
open Go.RowKit WW.bk WW.b_ WW.b6 V
attribute [local go_sem] dC dD gl iD iE iO iP
attribute [local go_sem] cR cV cU cY cT cX cS cW
def ek.j0:Nat→Bool→List (ai)→Int→List Int→List (ai)→Int→List Int→Option ((List (ai))×Int×List Int×Bool)
 |0,_,_,_,_,_,_,_=>none
 |k+1,I,z,u,J,F,G,D=>if I=true then(some (F,G,D,false))else((e5.f k z u J u).bind fun H=>(if H=0 then(some (F,G,D,false))else(if 0≤u then(if u<(z.length:Int)then(if 0≤((af z u).f1)then(if((af z u).f1)<(D.length:Int)then(some (F,wrap64 (G+1),(D.set (((af z u).f1):Int).toNat H),true))else(none))else(none))else(none))else(none))))
def ek.f (k:Nat) (D:List (ai)) (z:Int) (F:List Int):Option ((List (ai))×Int×List Int×Bool):=(eC.f D z F).bind fun u=>((fh.f D z F).bind fun G=>(if G=true then(ek.j0 k (z==(D.length:Int)) D z F u.1 u.2.1 u.2.2)else(ek.j0 k true D z F u.1 u.2.1 u.2.2)))
def ek.T7:Bool×List (List Nat×List Nat):=(true,[([],[]),([0],[0]),([],[]),([2],[2]),([],[]),([4],[4]),([3,5],[3,5]),([6],[6]),([7],[7]),([],[]),([1,8,0,1,2,3,4,5,6,7,8,9],[1,8]),([10,9,0,1,2,3,4,5,6,7,8,9],[9,10])])
def ek.B7:List Nat:=[0,1,0,4,0,16,60,124,252,0,1023,2047]
theorem ek.mm:a6 .any (opsOf Tryz.f84 7)=ek.T7:=by kernel_rfl
theorem ek.lT:bT ek.T7.2 ek.B7=true:=by kernel_rfl
theorem ek.c (k:Nat) (H:Option Addr) (K:Nat) (z:List (ai)) (J:Int) (I:Option Addr) (O:Nat) (D:List Int) (r1:List (ai)) (r2:Int) (r3:List Int) (ar:Bool) (w:World) (al:Kd.C aU w H z.length z) (Z:z.length≤K) (am:Kd.C (Kd.int .i64) w I D.length D) (ad:D.length≤O) (h:ek.f k z J D=some (r1,r2,r3,ar)):
  Calls Tryz.prog 84 #[.agg #[.slice H z.length K,.int .i64 J,.slice I D.length O]] w fun e w'=>∃av aB:Value,e= .returned (.tuple #[.agg #[av,.int .i64 r2,aB],.bool ar])∧Kd.R aU 112 w' w.heap.size (fun _=>True) av r1∧Kd.R (Kd.int .i64) 3 w' w.heap.size (fun _=>True) aB r3∧Below w.heap.size w w':=by
 replace al:=aM.mk al;replace Z:=aj.mk Z;replace am:=aM.mk am;replace ad:=aj.mk ad;have aN:=bS.mk (d:=aU) (e:=112) (t:=3) (by decide);have aO:=bS.mk (d:=aU) (e:=112) (t:=34) (by decide);unfold ek.f at h;have aI:=Tryz.underlying34
 all_goals go_enter Tryz.func84,Tryz.ntmps84
 all_goals go_wp2_with ((first
  |((with_reducible refine aJ (N:=1) rfl ?_);refine bV #[.slice H z.length K,.int .i64 J,.slice I D.length O] 34 fun g w1 j1 j2 ao=> ?_)
  |((with_reducible refine aJ (N:=2) rfl ?_);refine bV #[.slice none 0 0,.int .i64 0,.slice none 0 0] 34 fun g w1 j1 j2 ao=> ?_)
  |((with_reducible refine aJ (N:=4) rfl ?_);refine bV #[.slice none 0 0,.int .i64 0,.slice none 0 0] 34 fun g w1 j1 j2 ao=> ?_)
  |(go_at_call 106;(try rw[F.out]);replace h:=bI h;obtain⟨⟨t1,t2,t3⟩,A,h⟩:=h;(try dsimp only at h);refine(eC.c _ _ _ _ _ _ _ _ _ _ _ Rd.out aj.out Rd.out aj.out A).mono ?_;rintro e w2 ⟨v0,v1,rfl,af,ah,hb⟩;obtain⟨aF,b0,rfl,j0,q0⟩:=aH af;obtain⟨B1,b1,rfl,j1,q1⟩:=aH ah;have ap:=aw.mk hb;clear A af ah hb)
  |(go_at_call 76;(try rw[F.out]);replace h:=bI h;obtain⟨t,A,h⟩:=h;(try dsimp only at h);refine(fh.c _ _ _ _ _ _ _ _ _ Rd.out aj.out Rd.out aj.out A).mono ?_;rintro e w2 ⟨rfl,hb⟩;have ap:=aw.mk hb;clear A hb)
  |(go_at_call 121;(try rw[F.out]);replace h:=bI h;obtain⟨t,A,h⟩:=h;(try dsimp only at h);refine(e5.c _ _ _ _ _ _ _ _ _ _ _ Rd.out aj.out Rd.out aj.out A).mono ?_;rintro e w2 ⟨rfl,hb⟩;have ap:=aw.mk hb;clear A hb)
  |(refine qR (id:=7) (ds:=[11]) (l:= #[false,false,false,false,false,false,false,false,false,false,false,false]) ek.mm ek.lT ?_;intro u G w3 aL u0 aK hHeld;refine qA 0 (some 27) u ?_;refine qA 2 (some 29) u ?_;refine qA 4 (some 31) u ?_;refine qA 9 (some 36) u ?_;refine qT 1 (some 28) u G hHeld ?_;refine qT 3 (some 30) u G hHeld ?_;refine qT 5 (some 32) u G hHeld ?_;refine qA 6 (some 33) u ?_;refine qA 7 (some 34) u ?_;refine qT 8 (some 35) u G hHeld ?_;refine qA 10 (some 37) u ?_;refine qL 11 u ?_;refine qD u ?_));(repeat' first|((with_reducible replace h:=bq h);rcases h with ⟨hc,h⟩|⟨hc,h⟩<;>first|exact(bh h).elim|exact absurd hc (by decide)|subst hc|(replace hc:=aD hc;subst hc)|(replace hc:=bH hc;subst hc)|(replace hc:=bJ hc;subst hc)|(have hd:(_==_)=true:=hc)|(have hd:(_==_)=false:=aD hc)|(have hd:=aV hc;have he:=aW hc;clear hc)|(have hd:=bo hc;have he:=bp hc)|(have hd:=ay hc)|(have hd:=ag hc;(try(have hn:=Int.natCast_pos.mp hc;have hm:=ag hn;replace hn:=ax hn));first|(obtain⟨aG,e_,i_⟩:=cQ (by assumption) (by first|assumption|decide) hc;cases e_)|(obtain⟨aE,e_,c_⟩:=bE (by assumption) (by first|assumption|decide) hc;cases e_)|(obtain⟨aE,e_,U,V,X,Y⟩:=dU (aM.out (self:=by assumption)) _ (by first|assumption|decide) hc;cases e_;replace U:=ak.mk U;replace V:=ak.mk V;replace X:=ak.mk X;replace Y:=ak.mk Y))|(have hd:=ag hc)|skip)|((with_reducible have hj:ek.j0 k _ _ _ _ _ _ _=_:=h);clear hj;rcases k with _|k<;>rw[ek.j0]at h<;>first|exact(bh h).elim|skip)|((with_reducible replace h:=bF h);obtain⟨F,h⟩:=h;replace F:=A_ F;(try dsimp only at h))))
 all_goals simp only[Option.some.injEq,Prod.mk.injEq]at h
 all_goals obtain⟨rfl,rfl,rfl,rfl⟩:=h
 all_goals refine bodyPost_ret (eu rfl _ _ _ _ _ (0,0) _ rfl aQ.out Tryz.underlying34 rfl (by kernel_rfl)) rfl ?_
 all_goals exact⟨_,_,rfl,(by first|exact bj|exact Kd.bl _ _ _ _ _|exact bM|exact en (by simp)),(by first|exact bj|exact Kd.bl _ _ _ _ _|exact bM|exact en (by simp)),From.out⟩
def dW.f (k:Nat) (D:List (ai)) (F:Int) (G:List Int):Option ((List (ai))×Int×List Int×Bool):=(eC.f D F G).bind fun u=>((cD.f k D F G).bind fun z=>(if(z.length:Int)=0 then(some (u.1,u.2.1,u.2.2,false))else(if 0<(z.length:Int)then((e5.f k D F G (rd z 0)).bind fun H=>(if H=0 then(some (u.1,u.2.1,u.2.2,false))else(if 0≤(rd z 0)then(if(rd z 0)<(D.length:Int)then(if 0≤((af D (rd z 0)).f1)then(if((af D (rd z 0)).f1)<(u.2.2.length:Int)then(some (u.1,u.2.1,(u.2.2.set (((af D (rd z 0)).f1):Int).toNat H),true))else(none))else(none))else(none))else(none))))else(none))))
def dW.T8:Bool×List (List Nat×List Nat):=(true,[([],[]),([0],[0]),([],[]),([2],[2]),([],[]),([4],[4]),([5],[5]),([3,6],[3,6]),([7],[7]),([8],[8]),([],[]),([1,9,0,1,2,3,4,5,6,7,8,9,10],[1,9]),([11,10,0,1,2,3,4,5,6,7,8,9,10],[10,11])])
def dW.B8:List Nat:=[0,1,0,4,0,16,48,124,252,508,0,2047,4095]
theorem dW.iw:a6 .any (opsOf Tryz.f85 8)=dW.T8:=by kernel_rfl
theorem dW.hE:bT dW.T8.2 dW.B8=true:=by kernel_rfl
noncomputable def dW.T5:Bool×List (List Nat×List Nat):=a6 .any (opsOf Tryz.f85 5)
def dW.B5:List Nat:=[0,0,2,6,15,31]
theorem dW.nu:a6 .any (opsOf Tryz.f85 5)=dW.T5:=rfl
theorem dW.mH:bT dW.T5.2 dW.B5=true:=by kernel_rfl
theorem dW.c (k:Nat) (I:Option Addr) (U:Nat) (D:List (ai)) (O:Int) (J:Option Addr) (V:Nat) (F:List Int) (r1:List (ai)) (r2:Int) (r3:List Int) (av:Bool) (w:World) (am:Kd.C aU w I D.length D) (af:D.length≤U) (ao:Kd.C (Kd.int .i64) w J F.length F) (ah:F.length≤V) (h:dW.f k D O F=some (r1,r2,r3,av)):
  Calls Tryz.prog 85 #[.agg #[.slice I D.length U,.int .i64 O,.slice J F.length V]] w fun e w'=>∃aB aE:Value,e= .returned (.tuple #[.agg #[aB,.int .i64 r2,aE],.bool av])∧Kd.R aU 112 w' w.heap.size (fun _=>True) aB r1∧Kd.R (Kd.int .i64) 3 w' w.heap.size (fun _=>True) aE r3∧Below w.heap.size w w':=by
 replace am:=aM.mk am;replace af:=aj.mk af;replace ao:=aM.mk ao;replace ah:=aj.mk ah;have aO:=bS.mk (d:=aU) (e:=112) (t:=3) (by decide);have aP:=bS.mk (d:=aU) (e:=112) (t:=34) (by decide);unfold dW.f at h;have aN:=Tryz.underlying34
 all_goals go_enter Tryz.func85,Tryz.ntmps85
 all_goals go_wp2_with ((first
  |((with_reducible refine aJ (N:=1) rfl ?_);refine bV #[.slice I D.length U,.int .i64 O,.slice J F.length V] 34 fun g w1 j1 j2 ap=> ?_)
  |((with_reducible refine aJ (N:=2) rfl ?_);refine bV #[.slice none 0 0,.int .i64 0,.slice none 0 0] 34 fun g w1 j1 j2 ap=> ?_)
  |((with_reducible refine aJ (N:=4) rfl ?_);refine bV #[.slice none 0 0,.int .i64 0,.slice none 0 0] 34 fun g w1 j1 j2 ap=> ?_)
  |(go_at_call 106;(try rw[H.out]);replace h:=bI h;obtain⟨⟨t1,t2,t3⟩,A,h⟩:=h;(try dsimp only at h);refine(eC.c _ _ _ _ _ _ _ _ _ _ _ Rd.out aj.out Rd.out aj.out A).mono ?_;rintro e w2 ⟨v0,v1,rfl,G,al,hb⟩;obtain⟨aF,b0,rfl,j0,q0⟩:=aH G;obtain⟨B1,b1,rfl,j1,q1⟩:=aH al;have ar:=aw.mk hb;clear A G al hb)
  |(go_at_call 82;(try rw[H.out]);replace h:=bI h;obtain⟨t,A,h⟩:=h;(try dsimp only at h);refine(cD.c _ _ _ _ _ _ _ _ _ _ Rd.out aj.out Rd.out aj.out A).mono ?_;rintro e w2 ⟨v0,rfl,G,hb⟩;obtain⟨aF,b0,rfl,j0,q0⟩:=aH G;have ar:=aw.mk hb;clear A G hb)
  |(refine qR (id:=5) (ds:=[]) (l:= #[false,false,false,false,false,false]) dW.nu dW.mH ?_;intro u z w3 aK u0 aI hHeld;refine qA 1 (some 16) u ?_;refine qA 2 (some 17) u ?_;refine qT 0 (some 15) u z hHeld ?_;refine qT 3 (some 18) u z hHeld ?_;replace h:=bI h;obtain⟨t,A,h⟩:=h;(try dsimp only at h);refine qC 4 19 Tryz.func121 u fun K hK=> ?_;refine(e5.c _ _ _ _ _ _ _ _ _ _ _ Rd.out aj.out Rd.out aj.out A).mono ?_;rintro e w2 ⟨rfl,hb⟩;have ar:=aw.mk hb;clear A hb;refine⟨_,rfl,hK _ _ From.out fun hHeld=> ?_⟩;clear hK K;refine qN ?_;refine qA 5 (some 6) u ?_;refine qD u ?_)
  |(refine qR (id:=8) (ds:=[12]) (l:= #[false,false,false,false,false,false,false,false,false,false,false,false,false]) dW.iw dW.hE ?_;intro u z w3 aK u0 aI hHeld;refine qA 0 (some 23) u ?_;refine qA 2 (some 25) u ?_;refine qA 4 (some 27) u ?_;refine qA 5 (some 28) u ?_;refine qA 10 (some 33) u ?_;refine qT 1 (some 24) u z hHeld ?_;refine qT 3 (some 26) u z hHeld ?_;refine qT 6 (some 29) u z hHeld ?_;refine qA 7 (some 30) u ?_;refine qA 8 (some 31) u ?_;refine qT 9 (some 32) u z hHeld ?_;refine qA 11 (some 34) u ?_;refine qL 12 u ?_;refine qD u ?_));(repeat' first|((with_reducible replace h:=bq h);rcases h with ⟨hc,h⟩|⟨hc,h⟩<;>first|exact(bh h).elim|exact absurd hc (by decide)|subst hc|(replace hc:=aD hc;subst hc)|(replace hc:=bH hc;subst hc)|(replace hc:=bJ hc;subst hc)|(have hd:(_==_)=true:=hc)|(have hd:(_==_)=false:=aD hc)|(have hd:=aV hc;have he:=aW hc;clear hc)|(have hd:=bo hc;have he:=bp hc)|(have hd:=ay hc)|(have hd:=ag hc;(try(have hn:=Int.natCast_pos.mp hc;have hm:=ag hn;replace hn:=ax hn));first|(obtain⟨aL,e_,i_⟩:=cQ (by assumption) (by first|assumption|decide) hc;cases e_)|(obtain⟨aG,e_,c_⟩:=bE (by assumption) (by first|assumption|decide) hc;cases e_)|(obtain⟨aG,e_,X,Y,Z,ad⟩:=dU (aM.out (self:=by assumption)) _ (by first|assumption|decide) hc;cases e_;replace X:=ak.mk X;replace Y:=ak.mk Y;replace Z:=ak.mk Z;replace ad:=ak.mk ad))|(have hd:=ag hc)|skip)|((with_reducible replace h:=bF h);obtain⟨H,h⟩:=h;replace H:=A_ H;(try dsimp only at h)));all_goals(try have hn:decide (0<t.length)=true:=ag (by omega));all_goals(try have hn:decide (0<t.length)=false:=ay (by omega)))
 all_goals simp only[Option.some.injEq,Prod.mk.injEq]at h
 all_goals obtain⟨rfl,rfl,rfl,rfl⟩:=h
 all_goals refine bodyPost_ret (eu rfl _ _ _ _ _ (0,0) _ rfl aQ.out Tryz.underlying34 rfl (by kernel_rfl)) rfl ?_
 all_goals exact⟨_,_,rfl,(by first|exact bj|exact Kd.bl _ _ _ _ _|exact bM|exact en (by simp)),(by first|exact bj|exact Kd.bl _ _ _ _ _|exact bM|exact en (by simp)),From.out⟩
def dN.j0:Nat→Int→Int→Bool→List (ai)→Int→List Int→List (ai)→Int→List Int→Option ((List (ai))×Int×List Int×Bool)
 |0,_,_,_,_,_,_,_,_,_=>none
 |k+1,x1,x2,I,J,K,O,D,F,u=>if I=true then(some (D,F,u,false))else(if 0≤x1 then(if x1<(u.length:Int)then((some (u.set (x1:Int).toNat (wrap64 ((rd u x1)+x2)):List Int)).bind fun G=>((fh.f D F G).bind fun H=>(if H=true then(some (D,F,G,true))else((eC.f J K O).bind fun z=>(some (z.1,z.2.1,z.2.2,false))))))else(none))else(none))
def dN.f (k:Nat) (F:List (ai)) (D:Int) (z:List Int) (a1:Int) (a2:Int):Option ((List (ai))×Int×List Int×Bool):=(eC.f F D z).bind fun u=>((fh.f F D z).bind fun G=>(if G=true then((cj.f a1 0 11).bind fun H=>(if H=true then(if 0≤a1 then(if a1<(z.length:Int)then(if(rd z a1)=0 then(dN.j0 k a1 a2 true F D z u.1 u.2.1 u.2.2)else((cj.f a2 (-100000) 100000).bind fun I=>(dN.j0 k a1 a2 (!I) F D z u.1 u.2.1 u.2.2)))else(none))else(none))else(dN.j0 k a1 a2 true F D z u.1 u.2.1 u.2.2)))else(dN.j0 k a1 a2 true F D z u.1 u.2.1 u.2.2)))
def dN.T4:Bool×List (List Nat×List Nat):=(true,[([],[]),([0],[0]),([],[]),([],[]),([3],[3]),([],[]),([4,5],[4,5]),([6],[6]),([],[]),([7,8],[7,8]),([1,2,0,1,2,3,4,5,6,7,8,9],[1,2]),([10,9,0,1,2,3,4,5,6,7,8,9],[9,10])])
def dN.B4:List Nat:=[0,1,0,0,8,0,56,120,0,504,1023,2047]
theorem dN.nt:a6 .any (opsOf Tryz.f109 4)=dN.T4:=by kernel_rfl
theorem dN.mG:bT dN.T4.2 dN.B4=true:=by kernel_rfl
theorem dN.c (k:Nat) (G:Option Addr) (K:Nat) (z:List (ai)) (J:Int) (H:Option Addr) (O:Nat) (D:List Int) (a1:Int) (a2:Int) (r1:List (ai)) (r2:Int) (r3:List Int) (ah:Bool) (w:World) (Z:Kd.C aU w G z.length z) (U:z.length≤K) (ad:Kd.C (Kd.int .i64) w H D.length D) (V:D.length≤O) (h:dN.f k z J D a1 a2=some (r1,r2,r3,ah)):
  Calls Tryz.prog 109 #[.agg #[.slice G z.length K,.int .i64 J,.slice H D.length O],.int .i64 a1,.int .i64 a2] w fun e w'=>∃ak al:Value,e= .returned (.tuple #[.agg #[ak,.int .i64 r2,al],.bool ah])∧Kd.R aU 112 w' w.heap.size (fun _=>True) ak r1∧Kd.R (Kd.int .i64) 3 w' w.heap.size (fun _=>True) al r3∧Below w.heap.size w w':=by
 replace Z:=aM.mk Z;replace U:=aj.mk U;replace ad:=aM.mk ad;replace V:=aj.mk V;have aF:=bS.mk (d:=aU) (e:=112) (t:=3) (by decide);have aG:=bS.mk (d:=aU) (e:=112) (t:=34) (by decide);unfold dN.f at h;have av:=Tryz.underlying34
 all_goals go_enter Tryz.func109,Tryz.ntmps109
 all_goals go_wp2_with ((first
  |((with_reducible refine aJ (N:=3) rfl ?_);refine bV #[.slice G z.length K,.int .i64 J,.slice H D.length O] 34 fun g w1 j1 j2 af=> ?_)
  |((with_reducible refine aJ (N:=6) rfl ?_);refine bV #[.slice none 0 0,.int .i64 0,.slice none 0 0] 34 fun g w1 j1 j2 af=> ?_)
  |((with_reducible refine aJ (N:=8) rfl ?_);refine bV #[.slice none 0 0,.int .i64 0,.slice none 0 0] 34 fun g w1 j1 j2 af=> ?_)
  |(go_at_call 106;(try rw[F.out]);replace h:=bI h;obtain⟨⟨t1,t2,t3⟩,A,h⟩:=h;(try dsimp only at h);refine(eC.c _ _ _ _ _ _ _ _ _ _ _ Rd.out aj.out Rd.out aj.out A).mono ?_;rintro e w2 ⟨v0,v1,rfl,X,Y,hb⟩;obtain⟨ao,b0,rfl,j0,q0⟩:=aH X;obtain⟨B1,b1,rfl,j1,q1⟩:=aH Y;have am:=aw.mk hb;clear A X Y hb)
  |(go_at_call 76;(try rw[F.out]);replace h:=bI h;obtain⟨t,A,h⟩:=h;(try dsimp only at h);refine(fh.c _ _ _ _ _ _ _ _ _ Rd.out aj.out Rd.out aj.out A).mono ?_;rintro e w2 ⟨rfl,hb⟩;have am:=aw.mk hb;clear A hb)
  |(go_at_call 79;(try rw[F.out]);replace h:=bI h;obtain⟨t,A,h⟩:=h;(try dsimp only at h);refine(cj.c _ _ _ _ _ A).mono ?_;rintro e w2 ⟨rfl,n,rfl⟩;clear A)
  |(refine qR (id:=4) (ds:=[11]) (l:= #[false,false,false,false,false,false,false,false,false,false,false,false]) dN.nt dN.mG ?_;intro u I w3 aE u0 aB hHeld;refine qA 0 (some 33) u ?_;refine qA 2 (some 35) u ?_;refine qA 3 (some 36) u ?_;refine qA 5 (some 38) u ?_;refine qA 8 (some 41) u ?_;refine qT 1 (some 34) u I hHeld ?_;refine qT 4 (some 37) u I hHeld ?_;refine qA 6 (some 39) u ?_;refine qT 7 (some 40) u I hHeld ?_;refine qA 9 (some 42) u ?_;refine qA 10 (some 43) u ?_;refine qL 11 u ?_;refine qD u ?_));(repeat' first|((with_reducible replace h:=bq h);rcases h with ⟨hc,h⟩|⟨hc,h⟩<;>first|exact(bh h).elim|exact absurd hc (by decide)|subst hc|(replace hc:=aD hc;subst hc)|(replace hc:=bH hc;subst hc)|(replace hc:=bJ hc;subst hc)|(have hd:(_==_)=true:=hc)|(have hd:(_==_)=false:=aD hc)|(have hd:=aV hc;have he:=aW hc;clear hc)|(have hd:=bo hc;have he:=bp hc)|(have hd:=ay hc)|(have hd:=ag hc;(try(have hn:=Int.natCast_pos.mp hc;have hm:=ag hn;replace hn:=ax hn));first|(obtain⟨ar,e_,i_⟩:=cQ (by assumption) (by first|assumption|decide) hc;cases e_)|(obtain⟨ap,e_,c_⟩:=bE (by assumption) (by first|assumption|decide) hc;cases e_))|(have hd:=ag hc)|skip)|((with_reducible have hj:dN.j0 k _ _ _ _ _ _ _ _ _=_:=h);clear hj;rcases k with _|k<;>rw[dN.j0]at h<;>first|exact(bh h).elim|skip)|((with_reducible replace h:=bF h);obtain⟨F,h⟩:=h;replace F:=A_ F;(try dsimp only at h))))
 all_goals simp only[Option.some.injEq,Prod.mk.injEq]at h
 all_goals obtain⟨rfl,rfl,rfl,rfl⟩:=h
 all_goals refine bodyPost_ret (eu rfl _ _ _ _ _ (0,0) _ rfl aQ.out Tryz.underlying34 rfl (by kernel_rfl)) rfl ?_
 all_goals exact⟨_,_,rfl,(by first|exact bj|exact Kd.bl _ _ _ _ _|exact bM|exact en (by simp)),(by first|exact bj|exact Kd.bl _ _ _ _ _|exact bM|exact en (by simp)),From.out⟩
def cZ.l0:Nat→List Int→Int→List (ai)→Int→List Int→Option (List Int)
 |0,_,_,_,_,_=>none
 |k+1,x3,u,z,F,D=>if u<F then(if 0≤u then(if u<(z.length:Int)then(if 0≤((af z u).f1)then(if((af z u).f1)<(D.length:Int)then(if 0≤((af z u).f0)then(if((af z u).f0)<(D.length:Int)then((cm.f k (rd D ((af z u).f0)) ((af z u).f2) ((af z u).f3)).bind fun t135=>(if(rd D ((af z u).f1))=t135 then(cZ.l0 k x3 (wrap64 (u+1)) z F D)else(if x3.length<17592186044416 then(cZ.l0 k (x3++[u]) (wrap64 (u+1)) z F D)else(none))))else(none))else(none))else(none))else(none))else(none))else(none))else(some x3)
def cZ.f (k:Nat) (z:List (ai)) (u:Int) (D:List Int):Option (List Int):=(some (([]:List Int):List Int)).bind fun F=>((cu.f k z u D).bind fun t130=>(if t130=true then(cZ.l0 k F 0 z u D)else(some F)))
def cZ.T8:Bool×List (List Nat×List Nat):=(true,[([],[]),([0],[0]),([],[]),([2],[2]),([1,3],[1,3]),([4],[4]),([],[]),([6],[6]),([],[]),([8],[8]),([7,9],[7,9]),([10],[10]),([],[]),([12],[12]),([],[]),([14],[14]),([11,13,15],[11,13,15]),([5,16],[5,16])])
def cZ.B8:List Nat:=[0,1,0,4,15,31,0,64,0,256,960,1984,0,4096,0,16384,65472,131071]
theorem cZ.iw:a6 .any (opsOf Tryz.f83 8)=cZ.T8:=by kernel_rfl
theorem cZ.hE:bT cZ.T8.2 cZ.B8=true:=by kernel_rfl
theorem cZ.c (k:Nat) (Z:Option Addr) (af:Nat) (J:List (ai)) (Y:Int) (ad:Option Addr) (ah:Nat) (O:List Int) (r:List Int) (w:World) (a1:Kd.C aU w Z J.length J) (aX:J.length≤af) (a2:Kd.C (Kd.int .i64) w ad O.length O) (a0:O.length≤ah) (h:cZ.f k J Y O=some r):
  Calls Tryz.prog 83 #[.agg #[.slice Z J.length af,.int .i64 Y,.slice ad O.length ah]] w fun e w'=>∃a4:Value,e= .returned (a4)∧Kd.R (Kd.int .i64) 3 w' w.heap.size (fun _=>True) a4 r∧Below w.heap.size w w':=by
 have bv:=aM.mk a1;have bt:=aj.mk aX;have bw:=aM.mk a2;have bu:=aj.mk a0;clear a1 aX a2 a0;have bz:=iC.mk (e:=3) (t:=34) (by decide);have bx:=iC.mk (e:=3) (t:=112) (by decide);unfold cZ.f at h
 (try simp only[aA]at h)
 have bs:=Tryz.underlying34;have br:=Tryz.underlying112
 (repeat' first|((with_reducible replace h:=bq h);rcases h with ⟨hc,h⟩|⟨hc,h⟩<;>first|exact(bh h).elim|exact absurd hc (by decide)|subst hc|(replace hc:=aD hc;subst hc)|(replace hc:=bH hc;subst hc)|(replace hc:=bJ hc;subst hc)|(have hd:(_==_)=true:=hc)|(have hd:(_==_)=false:=aD hc)|(have hd:=aV hc;have he:=aW hc;clear hc)|(have hd:=bo hc;have he:=bp hc)|(have hd:=ay hc)|(have hd:=ag hc;(try(have hn:=Int.natCast_pos.mp hc;have hm:=ag hn;replace hn:=ax hn));first|(obtain⟨ao,e_,i_⟩:=cQ (by assumption) (by first|assumption|decide) hc;cases e_)|(obtain⟨U,e_,c_⟩:=bE (by assumption) (by first|assumption|decide) hc;cases e_)|(obtain⟨U,e_,F,G,H,I⟩:=dU (aM.out (self:=by assumption)) _ (by first|assumption|decide) hc;cases e_;replace F:=ak.mk F;replace G:=ak.mk G;replace H:=ak.mk H;replace I:=ak.mk I))|(have hd:=ag hc)|skip)|((with_reducible replace h:=bF h);obtain⟨D,h⟩:=h;replace D:=A_ D;(try dsimp only at h)))
 all_goals go_enter Tryz.func83,Tryz.ntmps83
 all_goals go_wp2_with ((first
  |((with_reducible refine aJ (N:=1) rfl ?_);refine bV #[.slice Z J.length af,.int .i64 Y,.slice ad O.length ah] 34 fun g1 w1 j1 j2 av=> ?_)
  |((with_reducible refine aJ (N:=5) rfl ?_);refine bV #[.int .i64 0,.int .i64 0,.int .i64 0,.int .i64 0] 112 fun g5 w1 j1 j2 av=> ?_)
  |((with_reducible refine aJ (N:=6) rfl ?_);refine Kd.fE (Kd.int .i64) _ 3 ?hg (N:=6) ?hd (xs:=([]:List Int)) (inner:=[]) (ok:=fun _=>True) (bN:=fun _=>True) ?hr ?hp (fun _ hk=>hk) trivial (Below.refl _ _) (Nat.le_refl _) (by simp) ?_;(case hd=>rfl);(case hg=>rfl);(case hr=>first|(go_simp;done)|(go_simp;rfl));(case hp=>exact(aY.none _ _));intro v5 bg ho hb ap ar;obtain⟨a5,c5,rfl⟩:=Kd.dz ho;have aE:=dI.mk ho;have q5:=aj.mk (ky aE);have a9:=aw.mk hb;clear ap ar ho hb)
  |(go_at_call 86;(try rw[D.out]);replace h:=bI h;obtain⟨t,A,h⟩:=h;(try dsimp only at h);refine(cu.c _ _ _ _ _ _ _ _ _ _ Rd.out aj.out Rd.out aj.out A).mono ?_;rintro e w2 ⟨rfl,hb⟩;have aH:=aw.mk hb;clear A hb)
  |(refine qR (id:=8) (ds:=[]) (l:= #[false,false,false,false,false,false,false,false,false,false,false,false,false,false,false,false,false,false]) cZ.iw cZ.hE ?_;intro u z w3 be u0 a7 hHeld;refine qA 0 (some 22) u ?_;refine qA 2 (some 24) u ?_;refine qA 6 (some 28) u ?_;refine qA 8 (some 30) u ?_;refine qA 12 (some 34) u ?_;refine qA 14 (some 36) u ?_;refine qT 1 (some 23) u z hHeld ?_;refine qT 3 (some 25) u z hHeld ?_;refine qA 4 (some 26) u ?_;refine qT 5 (some 27) u z hHeld ?_;refine qT 7 (some 29) u z hHeld ?_;refine qT 9 (some 31) u z hHeld ?_;refine qA 10 (some 32) u ?_;refine qT 11 (some 33) u z hHeld ?_;refine qT 13 (some 35) u z hHeld ?_;refine qT 15 (some 37) u z hHeld ?_;replace h:=bI h;obtain⟨t,A,h⟩:=h;(try dsimp only at h);refine qC 16 38 Tryz.func122 u fun K hK=> ?_;refine(cm.c _ _ _ _ _ _ A).mono ?_;rintro e w2 ⟨rfl,hb⟩;have aH:=aw.mk hb;clear A hb;refine⟨_,rfl,hK _ _ From.out fun hHeld=> ?_⟩;clear hK K;refine qN ?_;refine qA 17 (some 39) u ?_;refine qD u ?_)
  |((with_reducible refine iF (b:= .append) (xs:= #[.tmp 40,.tmp 42]) rfl ?_);at_builtin;refine Kd.kM (Kd.int .i64) (w0:=w) w.heap.size rfl (.tmp 40) (.tmp 42) 23 3 (.int .i64 0) 8 rfl Tryz.underlying23 info3 rfl (by decide) (by omega) (.slice aI V.length aT) V X [.int .i64 X] (fun _=>True) (fun _=>False) rfl rfl ?aP (fun _ hk=>hk.elim) ?aF ?aO ?aB ?aS ?aL ?_;(case aP=>exact rfl);(case aO=>exact bj);(case aB=>exact From.out);(case aF=>exact(fun _ _=>trivial));(case aS=>exact(From.out (w0:=w)).size);(case aL=>omega);intro v7 w7 ho hb hg hat;have bc:=grE (bj (w:=w) (d:=(Kd.int .i64))) hg;obtain⟨a6,c7,rfl,aG⟩:=pX ho;have bf:=aj.mk (ky aG);have bb:From w w7:=⟨hb⟩;have bd:Sz w w7:=⟨hb.size⟩;clear ho hb hg hat));(repeat' first|((with_reducible replace h:=bq h);rcases h with ⟨hc,h⟩|⟨hc,h⟩<;>first|exact(bh h).elim|exact absurd hc (by decide)|subst hc|(replace hc:=aD hc;subst hc)|(replace hc:=bH hc;subst hc)|(replace hc:=bJ hc;subst hc)|(have hd:(_==_)=true:=hc)|(have hd:(_==_)=false:=aD hc)|(have hd:=aV hc;have he:=aW hc;clear hc)|(have hd:=bo hc;have he:=bp hc)|(have hd:=ay hc)|(have hd:=ag hc;(try(have hn:=Int.natCast_pos.mp hc;have hm:=ag hn;replace hn:=ax hn));first|(obtain⟨ao,e_,i_⟩:=cQ (by assumption) (by first|assumption|decide) hc;cases e_)|(obtain⟨U,e_,c_⟩:=bE (by assumption) (by first|assumption|decide) hc;cases e_)|(obtain⟨U,e_,F,G,H,I⟩:=dU (aM.out (self:=by assumption)) _ (by first|assumption|decide) hc;cases e_;replace F:=ak.mk F;replace G:=ak.mk G;replace H:=ak.mk H;replace I:=ak.mk I))|(have hd:=ag hc)|skip)|((with_reducible replace h:=bF h);obtain⟨D,h⟩:=h;replace D:=A_ D;(try dsimp only at h))))
 all_goals first
  |((try obtain rfl:=aC h);go_ret;exact⟨(.slice _ _ _),rfl,(by first|exact bj|exact cO rfl|exact cO (by simp)|exact Kd.bl _ _ _ _ _|exact bM|exact en (by simp)),From.out⟩)
  |skip
 go_loopg [3,4] k (fun a3 v3 v4 w'=>∃(V:List Int) (X:Int),v4= .int .i64 X∧ae (cZ.l0 a3 V X J Y O=some r)∧ae (a3≤k)∧ae (Kd.R (Kd.int .i64) 3 w' w.heap.size (fun _=>True) v3 V)∧ae (w'.heap[g1]? =some (.cells #[(.slice Z J.length af),.int .i64 Y,(.slice ad O.length ah)] 34 (0,0)))∧ae (Below w.heap.size w w'))
 case atStart=>exact⟨_,_,(by first|rfl|(simp;done)),⟨h⟩,⟨Nat.le_refl _⟩,⟨by first|exact bj|exact cO rfl|exact cO (by simp)|exact Kd.bl _ _ _ _ _⟩,⟨aQ.out⟩,⟨From.out⟩⟩
 case round=>
  clear h;obtain⟨V,X,rfl,al,aN,aR,aK,am⟩:=hrel;rcases gk with _|k1
  ·exact absurd al.out (by simp[cZ.l0])
  have h:=al.out;clear al;simp only[cZ.l0]at h;obtain⟨aI,aT,rfl,a_⟩:=pX aR.out;have bA:=aj.mk (ky a_);clear aR;have bk:=aQ.mk aK.out;clear aK;have bm:From w wr:=⟨am.out⟩;have bn:Sz w wr:=⟨am.out.size⟩;clear am
  (repeat' first|((with_reducible replace h:=bq h);rcases h with ⟨hc,h⟩|⟨hc,h⟩<;>first|exact(bh h).elim|exact absurd hc (by decide)|subst hc|(replace hc:=aD hc;subst hc)|(replace hc:=bH hc;subst hc)|(replace hc:=bJ hc;subst hc)|(have hd:(_==_)=true:=hc)|(have hd:(_==_)=false:=aD hc)|(have hd:=aV hc;have he:=aW hc;clear hc)|(have hd:=bo hc;have he:=bp hc)|(have hd:=ay hc)|(have hd:=ag hc;(try(have hn:=Int.natCast_pos.mp hc;have hm:=ag hn;replace hn:=ax hn));first|(obtain⟨ao,e_,i_⟩:=cQ (by assumption) (by first|assumption|decide) hc;cases e_)|(obtain⟨U,e_,c_⟩:=bE (by assumption) (by first|assumption|decide) hc;cases e_)|(obtain⟨U,e_,F,G,H,I⟩:=dU (aM.out (self:=by assumption)) _ (by first|assumption|decide) hc;cases e_;replace F:=ak.mk F;replace G:=ak.mk G;replace H:=ak.mk H;replace I:=ak.mk I))|(have hd:=ag hc)|skip)|((with_reducible replace h:=bF h);obtain⟨D,h⟩:=h;replace D:=A_ D;(try dsimp only at h)))
  all_goals go_wp2_with ((first
   |((with_reducible refine aJ (N:=1) rfl ?_);refine bV #[.slice Z J.length af,.int .i64 Y,.slice ad O.length ah] 34 fun g1 w1 j1 j2 av=> ?_)
   |((with_reducible refine aJ (N:=5) rfl ?_);refine bV #[.int .i64 0,.int .i64 0,.int .i64 0,.int .i64 0] 112 fun g5 w1 j1 j2 av=> ?_)
   |((with_reducible refine aJ (N:=6) rfl ?_);refine Kd.fE (Kd.int .i64) _ 3 ?hg (N:=6) ?hd (xs:=([]:List Int)) (inner:=[]) (ok:=fun _=>True) (bN:=fun _=>True) ?hr ?hp (fun _ hk=>hk) trivial (Below.refl _ _) (Nat.le_refl _) (by simp) ?_;(case hd=>rfl);(case hg=>rfl);(case hr=>first|(go_simp;done)|(go_simp;rfl));(case hp=>exact(aY.none _ _));intro v5 bg ho hb ap ar;obtain⟨a5,c5,rfl⟩:=Kd.dz ho;have aE:=dI.mk ho;have q5:=aj.mk (ky aE);have a9:=aw.mk hb;clear ap ar ho hb)
   |(go_at_call 86;(try rw[D.out]);replace h:=bI h;obtain⟨t,A,h⟩:=h;(try dsimp only at h);refine(cu.c _ _ _ _ _ _ _ _ _ _ Rd.out aj.out Rd.out aj.out A).mono ?_;rintro e w2 ⟨rfl,hb⟩;have aH:=aw.mk hb;clear A hb)
   |(refine qR (id:=8) (ds:=[]) (l:= #[false,false,false,false,false,false,false,false,false,false,false,false,false,false,false,false,false,false]) cZ.iw cZ.hE ?_;intro u z w3 be u0 a7 hHeld;refine qA 0 (some 22) u ?_;refine qA 2 (some 24) u ?_;refine qA 6 (some 28) u ?_;refine qA 8 (some 30) u ?_;refine qA 12 (some 34) u ?_;refine qA 14 (some 36) u ?_;refine qT 1 (some 23) u z hHeld ?_;refine qT 3 (some 25) u z hHeld ?_;refine qA 4 (some 26) u ?_;refine qT 5 (some 27) u z hHeld ?_;refine qT 7 (some 29) u z hHeld ?_;refine qT 9 (some 31) u z hHeld ?_;refine qA 10 (some 32) u ?_;refine qT 11 (some 33) u z hHeld ?_;refine qT 13 (some 35) u z hHeld ?_;refine qT 15 (some 37) u z hHeld ?_;replace h:=bI h;obtain⟨t,A,h⟩:=h;(try dsimp only at h);refine qC 16 38 Tryz.func122 u fun K hK=> ?_;refine(cm.c _ _ _ _ _ _ A).mono ?_;rintro e w2 ⟨rfl,hb⟩;have aH:=aw.mk hb;clear A hb;refine⟨_,rfl,hK _ _ From.out fun hHeld=> ?_⟩;clear hK K;refine qN ?_;refine qA 17 (some 39) u ?_;refine qD u ?_)
   |((with_reducible refine iF (b:= .append) (xs:= #[.tmp 40,.tmp 42]) rfl ?_);at_builtin;refine Kd.kM (Kd.int .i64) (w0:=w) w.heap.size rfl (.tmp 40) (.tmp 42) 23 3 (.int .i64 0) 8 rfl Tryz.underlying23 info3 rfl (by decide) (by omega) (.slice aI V.length aT) V X [.int .i64 X] (fun _=>True) (fun _=>False) rfl rfl ?aP (fun _ hk=>hk.elim) ?aF ?aO ?aB ?aS ?aL ?_;(case aP=>exact rfl);(case aO=>exact bj);(case aB=>exact From.out);(case aF=>exact(fun _ _=>trivial));(case aS=>exact(From.out (w0:=w)).size);(case aL=>omega);intro v7 w7 ho hb hg hat;have bc:=grE (bj (w:=w) (d:=(Kd.int .i64))) hg;obtain⟨a6,c7,rfl,aG⟩:=pX ho;have bf:=aj.mk (ky aG);have bb:From w w7:=⟨hb⟩;have bd:Sz w w7:=⟨hb.size⟩;clear ho hb hg hat));(repeat' first|((with_reducible replace h:=bq h);rcases h with ⟨hc,h⟩|⟨hc,h⟩<;>first|exact(bh h).elim|exact absurd hc (by decide)|subst hc|(replace hc:=aD hc;subst hc)|(replace hc:=bH hc;subst hc)|(replace hc:=bJ hc;subst hc)|(have hd:(_==_)=true:=hc)|(have hd:(_==_)=false:=aD hc)|(have hd:=aV hc;have he:=aW hc;clear hc)|(have hd:=bo hc;have he:=bp hc)|(have hd:=ay hc)|(have hd:=ag hc;(try(have hn:=Int.natCast_pos.mp hc;have hm:=ag hn;replace hn:=ax hn));first|(obtain⟨ao,e_,i_⟩:=cQ (by assumption) (by first|assumption|decide) hc;cases e_)|(obtain⟨U,e_,c_⟩:=bE (by assumption) (by first|assumption|decide) hc;cases e_)|(obtain⟨U,e_,F,G,H,I⟩:=dU (aM.out (self:=by assumption)) _ (by first|assumption|decide) hc;cases e_;replace F:=ak.mk F;replace G:=ak.mk G;replace H:=ak.mk H;replace I:=ak.mk I))|(have hd:=ag hc)|skip)|((with_reducible replace h:=bF h);obtain⟨D,h⟩:=h;replace D:=A_ D;(try dsimp only at h))))
  all_goals first
   |(go_roundg k1;(case measure=>have:=aN.out;omega);(case rel=>exact⟨_,_,(by first|rfl|(simp;done)),⟨h⟩,⟨by have:=aN.out;omega⟩,⟨by first|exact bj|exact cO rfl|exact cO (by simp)|exact Kd.bl _ _ _ _ _⟩,⟨aQ.out⟩,⟨From.out⟩⟩))
   |((try obtain rfl:=aC h);go_ret;exact⟨(.slice _ _ _),rfl,(by first|exact bj|exact cO rfl|exact cO (by simp)|exact Kd.bl _ _ _ _ _|exact bM|exact en (by simp)),From.out⟩)
def fJ.j0:Nat→Int→Bool→Int→Int→Int→Int→Option (Bool)
 |0,_,_,_,_,_,_=>none
 |k+1,F,G,H,u,z,D=>if G=true then(if u=0 then(if z=0 then(some (D==0))else(some false))else(some false))else(if F=2 then((cn.f u (-10) 40).bind fun t183=>(if t183=true then(if z=0 then(some (D==0))else(some false))else(some false)))else(if F=3 then((cn.f u 0 3).bind fun t184=>(if t184=true then((cn.f z 0 39).bind fun t185=>(if t185=true then((cn.f D 0 2).bind fun t186=>(some t186))else(some false)))else(some false)))else(if F=4 then((cn.f u 0 11).bind fun t187=>(if t187=true then((cn.f z (-100000) 100000).bind fun t188=>(if t188=true then(some (D==0))else(some false)))else(some false)))else(if F=7 then((cn.f u 0 11).bind fun t189=>(if t189=true then(if z=0 then(some (D==0))else(some false))else(some false)))else(some false)))))
def fJ.f (k:Nat) (u:Int) (z:Int) (D:Int) (F:Int):Option (Bool):=if u=1 then(fJ.j0 k u (u==1) u z D F)else(if u=5 then(fJ.j0 k u (u==5) u z D F)else(fJ.j0 k u (u==6) u z D F))
theorem fJ.c (k:Nat) (z:Int) (D:Int) (F:Int) (G:Int) (r:Bool) (w:World) (h:fJ.f k z D F G=some r):
  Calls Tryz.prog 46 #[.agg #[.int .i64 z,.int .i64 D,.int .i64 F,.int .i64 G]] w fun e w'=>e= .returned (.bool r)∧Below w.heap.size w w':=by
 unfold fJ.f at h;have J:=Tryz.underlying41
 (repeat' first|((with_reducible replace h:=bq h);rcases h with ⟨hc,h⟩|⟨hc,h⟩<;>first|exact(bh h).elim|exact absurd hc (by decide)|subst hc|(replace hc:=aD hc;subst hc)|(replace hc:=bH hc;subst hc)|(replace hc:=bJ hc;subst hc)|(have hd:(_==_)=true:=hc)|(have hd:(_==_)=false:=aD hc)|(have hd:=aV hc;have he:=aW hc;clear hc)|(have hd:=bo hc;have he:=bp hc)|(have hd:=ay hc)|(have hd:=ag hc;(try(have hn:=Int.natCast_pos.mp hc;have hm:=ag hn;replace hn:=ax hn));first|(obtain⟨I,e_,i_⟩:=cQ (by assumption) (by first|assumption|decide) hc;cases e_)|(obtain⟨H,e_,c_⟩:=bE (by assumption) (by first|assumption|decide) hc;cases e_))|(have hd:=ag hc)|skip)|((with_reducible have hj:fJ.j0 k _ _ _ _ _ _=_:=h);clear hj;rcases k with _|k<;>rw[fJ.j0]at h<;>first|exact(bh h).elim|skip)|((with_reducible replace h:=bF h);obtain⟨u,h⟩:=h;replace u:=A_ u;(try dsimp only at h)))
 all_goals go_enter Tryz.func46,Tryz.ntmps46
 all_goals go_wp2_with ((first
  |((with_reducible refine aJ (N:=1) rfl ?_);refine bV #[.int .i64 z,.int .i64 D,.int .i64 F,.int .i64 G] 41 fun g w1 j1 j2 K=> ?_)
  |(go_at_call 88;(try rw[u.out]);replace h:=bI h;obtain⟨t,A,h⟩:=h;(try dsimp only at h);refine(cn.c _ _ _ _ _ A).mono ?_;rintro e w2 ⟨rfl,n,rfl⟩;clear A));(repeat' first|((with_reducible replace h:=bq h);rcases h with ⟨hc,h⟩|⟨hc,h⟩<;>first|exact(bh h).elim|exact absurd hc (by decide)|subst hc|(replace hc:=aD hc;subst hc)|(replace hc:=bH hc;subst hc)|(replace hc:=bJ hc;subst hc)|(have hd:(_==_)=true:=hc)|(have hd:(_==_)=false:=aD hc)|(have hd:=aV hc;have he:=aW hc;clear hc)|(have hd:=bo hc;have he:=bp hc)|(have hd:=ay hc)|(have hd:=ag hc;(try(have hn:=Int.natCast_pos.mp hc;have hm:=ag hn;replace hn:=ax hn));first|(obtain⟨I,e_,i_⟩:=cQ (by assumption) (by first|assumption|decide) hc;cases e_)|(obtain⟨H,e_,c_⟩:=bE (by assumption) (by first|assumption|decide) hc;cases e_))|(have hd:=ag hc)|skip)|((with_reducible have hj:fJ.j0 k _ _ _ _ _ _=_:=h);clear hj;rcases k with _|k<;>rw[fJ.j0]at h<;>first|exact(bh h).elim|skip)|((with_reducible replace h:=bF h);obtain⟨u,h⟩:=h;replace u:=A_ u;(try dsimp only at h))))
 all_goals obtain rfl:=aC h
 all_goals go_ret
 all_goals exact⟨(by first|rfl|(simp_all;done)),From.out⟩
def dZ.f (k:Nat) (u:List (ai)) (F:Int) (D:List Int):Option ((List (ai))×Int×List Int×Bool):=(gH.f u F D).bind fun z=>((cZ.f k u F D).bind fun t200=>(if(t200.length:Int)=0 then(some (z.1,z.2.1,z.2.2,false))else(if 0<(t200.length:Int)then(if 0≤(rd t200 0)then(if(rd t200 0)<(u.length:Int)then(if 0≤((af u (rd t200 0)).f0)then(if((af u (rd t200 0)).f0)<(D.length:Int)then((cm.f k (rd D ((af u (rd t200 0)).f0)) ((af u (rd t200 0)).f2) ((af u (rd t200 0)).f3)).bind fun t207=>(if t207=0 then(some (z.1,z.2.1,z.2.2,false))else(if 0≤((af u (rd t200 0)).f1)then(if((af u (rd t200 0)).f1)<(z.2.2.length:Int)then(some (z.1,z.2.1,(z.2.2.set (((af u (rd t200 0)).f1):Int).toNat t207),true))else(none))else(none))))else(none))else(none))else(none))else(none))else(none))))
def dZ.T5:Bool×List (List Nat×List Nat):=(true,[([],[]),([0],[0]),([],[]),([2],[2]),([3],[3]),([1,4],[1,4]),([5],[5]),([],[]),([7,6,0,1,2,3,4,5,6,7],[6,7])])
def dZ.B5:List Nat:=[0,1,0,4,12,31,63,0,255]
theorem dZ.nu:a6 .any (opsOf Tryz.f97 5)=dZ.T5:=by kernel_rfl
theorem dZ.mH:bT dZ.T5.2 dZ.B5=true:=by kernel_rfl
def dZ.T6:Bool×List (List Nat×List Nat):=(true,[([],[]),([0],[0]),([],[]),([2],[2]),([1,3],[1,3]),([4],[4]),([],[]),([6],[6]),([],[]),([8],[8]),([5,7,9],[5,7,9]),([10,10,0,1,2,3,4,5,6,7,8,9,10],[10])])
def dZ.B6:List Nat:=[0,1,0,4,15,31,0,64,0,256,1023,2047]
theorem dZ.p9:a6 .any (opsOf Tryz.f97 6)=dZ.T6:=by kernel_rfl
theorem dZ.pw:bT dZ.T6.2 dZ.B6=true:=by kernel_rfl
theorem dZ.c (k:Nat) (I:Option Addr) (U:Nat) (D:List (ai)) (O:Int) (J:Option Addr) (V:Nat) (F:List Int) (r1:List (ai)) (r2:Int) (r3:List Int) (av:Bool) (w:World) (am:Kd.C aU w I D.length D) (af:D.length≤U) (ao:Kd.C (Kd.int .i64) w J F.length F) (ah:F.length≤V) (h:dZ.f k D O F=some (r1,r2,r3,av)):
  Calls Tryz.prog 97 #[.agg #[.slice I D.length U,.int .i64 O,.slice J F.length V]] w fun e w'=>∃aB aE:Value,e= .returned (.tuple #[.agg #[aB,.int .i64 r2,aE],.bool av])∧Kd.R aU 112 w' w.heap.size (fun _=>True) aB r1∧Kd.R (Kd.int .i64) 3 w' w.heap.size (fun _=>True) aE r3∧Below w.heap.size w w':=by
 replace am:=aM.mk am;replace af:=aj.mk af;replace ao:=aM.mk ao;replace ah:=aj.mk ah;have aT:=bS.mk (d:=aU) (e:=112) (t:=3) (by decide);have aX:=bS.mk (d:=aU) (e:=112) (t:=34) (by decide);unfold dZ.f at h;have aO:=Tryz.underlying34;have aN:=Tryz.underlying112
 all_goals go_enter Tryz.func97,Tryz.ntmps97
 all_goals go_wp2_with ((first
  |((with_reducible refine aJ (N:=1) rfl ?_);refine bV #[.slice I D.length U,.int .i64 O,.slice J F.length V] 34 fun g w1 j1 j2 ap=> ?_)
  |((with_reducible refine aJ (N:=2) rfl ?_);refine bV #[.slice none 0 0,.int .i64 0,.slice none 0 0] 34 fun g w1 j1 j2 ap=> ?_)
  |((with_reducible refine aJ (N:=4) rfl ?_);refine bV #[.slice none 0 0,.int .i64 0,.slice none 0 0] 34 fun g w1 j1 j2 ap=> ?_)
  |(go_at_call 95;(try rw[H.out]);replace h:=bI h;obtain⟨⟨t1,t2,t3⟩,A,h⟩:=h;(try dsimp only at h);refine(gH.c _ _ _ _ _ _ _ _ _ _ _ Rd.out aj.out Rd.out aj.out A).mono ?_;rintro e w2 ⟨v0,v1,rfl,G,al,hb⟩;obtain⟨aF,b0,rfl,j0,q0⟩:=aH G;obtain⟨B1,b1,rfl,j1,q1⟩:=aH al;have ar:=aw.mk hb;clear A G al hb)
  |(go_at_call 83;(try rw[H.out]);replace h:=bI h;obtain⟨t,A,h⟩:=h;(try dsimp only at h);refine(cZ.c _ _ _ _ _ _ _ _ _ _ Rd.out aj.out Rd.out aj.out A).mono ?_;rintro e w2 ⟨v0,rfl,G,hb⟩;obtain⟨aF,b0,rfl,j0,q0⟩:=aH G;have ar:=aw.mk hb;clear A G hb)
  |(refine qR (id:=5) (ds:=[]) (l:= #[false,false,false,false,false,false,false,false,false]) dZ.nu dZ.mH ?_;intro u z w3 aK u0 aI hHeld;refine qA 0 (some 16) u ?_;refine qA 2 (some 18) u ?_;refine qA 3 (some 19) u ?_;refine qT 1 (some 17) u z hHeld ?_;refine qT 4 (some 20) u z hHeld ?_;refine qA 5 (some 21) u ?_;refine qT 6 (some 22) u z hHeld ?_;refine qB 7 6 #[.int .i64 0,.int .i64 0,.int .i64 0,.int .i64 0] 112 u hHeld fun gx aP wx aR aS hHeld=> ?_;refine qS 8 u fun hHeld=> ?_;refine qD u ?_)
  |(refine qR (id:=6) (ds:=[]) (l:= #[false,false,false,false,false,false,false,false,false,false,false,false]) dZ.p9 dZ.pw ?_;intro u z w3 aK u0 aI hHeld;refine qA 0 (some 23) u ?_;refine qA 2 (some 25) u ?_;refine qA 6 (some 29) u ?_;refine qA 8 (some 31) u ?_;refine qT 1 (some 24) u z hHeld ?_;refine qT 3 (some 26) u z hHeld ?_;refine qA 4 (some 27) u ?_;refine qT 5 (some 28) u z hHeld ?_;refine qT 7 (some 30) u z hHeld ?_;refine qT 9 (some 32) u z hHeld ?_;replace h:=bI h;obtain⟨t,A,h⟩:=h;(try dsimp only at h);refine qC 10 33 Tryz.func122 u fun K hK=> ?_;refine(cm.c _ _ _ _ _ _ A).mono ?_;rintro e w2 ⟨rfl,hb⟩;have ar:=aw.mk hb;clear A hb;refine⟨_,rfl,hK _ _ From.out fun hHeld=> ?_⟩;clear hK K;refine qN ?_;refine qA 11 (some 7) u ?_;refine qD u ?_));(repeat' first|((with_reducible replace h:=bq h);rcases h with ⟨hc,h⟩|⟨hc,h⟩<;>first|exact(bh h).elim|exact absurd hc (by decide)|subst hc|(replace hc:=aD hc;subst hc)|(replace hc:=bH hc;subst hc)|(replace hc:=bJ hc;subst hc)|(have hd:(_==_)=true:=hc)|(have hd:(_==_)=false:=aD hc)|(have hd:=aV hc;have he:=aW hc;clear hc)|(have hd:=bo hc;have he:=bp hc)|(have hd:=ay hc)|(have hd:=ag hc;(try(have hn:=Int.natCast_pos.mp hc;have hm:=ag hn;replace hn:=ax hn));first|(obtain⟨aL,e_,i_⟩:=cQ (by assumption) (by first|assumption|decide) hc;cases e_)|(obtain⟨aG,e_,c_⟩:=bE (by assumption) (by first|assumption|decide) hc;cases e_)|(obtain⟨aG,e_,X,Y,Z,ad⟩:=dU (aM.out (self:=by assumption)) _ (by first|assumption|decide) hc;cases e_;replace X:=ak.mk X;replace Y:=ak.mk Y;replace Z:=ak.mk Z;replace ad:=ak.mk ad))|(have hd:=ag hc)|skip)|((with_reducible replace h:=bF h);obtain⟨H,h⟩:=h;replace H:=A_ H;(try dsimp only at h)));all_goals(try have hn:decide (0<t.length)=true:=ag (by omega));all_goals(try have hn:decide (0<t.length)=false:=ay (by omega)))
 all_goals simp only[Option.some.injEq,Prod.mk.injEq]at h
 all_goals obtain⟨rfl,rfl,rfl,rfl⟩:=h
 all_goals refine bodyPost_ret (eu rfl _ _ _ _ _ (0,0) _ rfl aQ.out Tryz.underlying34 rfl (by kernel_rfl)) rfl ?_
 all_goals exact⟨_,_,rfl,(by first|exact bj|exact Kd.bl _ _ _ _ _|exact bM|exact en (by simp)),(by first|exact bj|exact Kd.bl _ _ _ _ _|exact bM|exact en (by simp)),From.out⟩
def eo.j0:Nat→Bool→List (ai)→Int→List Int→List (ai)→Int→List Int→Option ((List (ai))×Int×List Int×Bool)
 |0,_,_,_,_,_,_,_=>none
 |k+1,I,z,u,G,F,H,D=>if I=true then(some (F,H,D,false))else(if 0≤u then(if u<(z.length:Int)then(if 0≤((af z u).f0)then(if((af z u).f0)<(G.length:Int)then((cm.f k (rd G ((af z u).f0)) ((af z u).f2) ((af z u).f3)).bind fun t223=>(if t223=0 then(some (F,H,D,false))else(if 0≤((af z u).f1)then(if((af z u).f1)<(D.length:Int)then(some (F,wrap64 (u+1),(D.set (((af z u).f1):Int).toNat t223),true))else(none))else(none))))else(none))else(none))else(none))else(none))
def eo.f (k:Nat) (D:List (ai)) (z:Int) (F:List Int):Option ((List (ai))×Int×List Int×Bool):=(gH.f D z F).bind fun u=>((cu.f k D z F).bind fun t219=>(if t219=true then(eo.j0 k (z==(D.length:Int)) D z F u.1 u.2.1 u.2.2)else(eo.j0 k true D z F u.1 u.2.1 u.2.2)))
def eo.T5:Bool×List (List Nat×List Nat):=(true,[([],[]),([0],[0]),([],[]),([2],[2]),([1,3],[1,3]),([4],[4]),([],[]),([6],[6]),([],[]),([8],[8]),([5,7,9],[5,7,9]),([10,10,0,1,2,3,4,5,6,7,8,9,10],[10])])
def eo.B5:List Nat:=[0,1,0,4,15,31,0,64,0,256,1023,2047]
theorem eo.nu:a6 .any (opsOf Tryz.f98 5)=eo.T5:=by kernel_rfl
theorem eo.mH:bT eo.T5.2 eo.B5=true:=by kernel_rfl
theorem eo.c (k:Nat) (H:Option Addr) (O:Nat) (z:List (ai)) (J:Int) (I:Option Addr) (U:Nat) (D:List Int) (r1:List (ai)) (r2:Int) (r3:List Int) (av:Bool) (w:World) (ao:Kd.C aU w H z.length z) (af:z.length≤O) (ap:Kd.C (Kd.int .i64) w I D.length D) (ah:D.length≤U) (h:eo.f k z J D=some (r1,r2,r3,av)):
  Calls Tryz.prog 98 #[.agg #[.slice H z.length O,.int .i64 J,.slice I D.length U]] w fun e w'=>∃aB aE:Value,e= .returned (.tuple #[.agg #[aB,.int .i64 r2,aE],.bool av])∧Kd.R aU 112 w' w.heap.size (fun _=>True) aB r1∧Kd.R (Kd.int .i64) 3 w' w.heap.size (fun _=>True) aE r3∧Below w.heap.size w w':=by
 replace ao:=aM.mk ao;replace af:=aj.mk af;replace ap:=aM.mk ap;replace ah:=aj.mk ah;have aP:=bS.mk (d:=aU) (e:=112) (t:=3) (by decide);have aR:=bS.mk (d:=aU) (e:=112) (t:=34) (by decide);unfold eo.f at h;have aL:=Tryz.underlying34;have aK:=Tryz.underlying112
 all_goals go_enter Tryz.func98,Tryz.ntmps98
 all_goals go_wp2_with ((first
  |((with_reducible refine aJ (N:=1) rfl ?_);refine bV #[.slice H z.length O,.int .i64 J,.slice I D.length U] 34 fun g w1 j1 j2 V=> ?_)
  |((with_reducible refine aJ (N:=2) rfl ?_);refine bV #[.slice none 0 0,.int .i64 0,.slice none 0 0] 34 fun g w1 j1 j2 V=> ?_)
  |((with_reducible refine aJ (N:=4) rfl ?_);refine bV #[.slice none 0 0,.int .i64 0,.slice none 0 0] 34 fun g w1 j1 j2 V=> ?_)
  |((with_reducible refine aJ (N:=5) rfl ?_);refine bV #[.int .i64 0,.int .i64 0,.int .i64 0,.int .i64 0] 112 fun g w1 j1 j2 V=> ?_)
  |(go_at_call 95;(try rw[G.out]);replace h:=bI h;obtain⟨⟨t1,t2,t3⟩,A,h⟩:=h;(try dsimp only at h);refine(gH.c _ _ _ _ _ _ _ _ _ _ _ Rd.out aj.out Rd.out aj.out A).mono ?_;rintro e w2 ⟨v0,v1,rfl,al,am,hb⟩;obtain⟨aG,b0,rfl,j0,q0⟩:=aH al;obtain⟨B1,b1,rfl,j1,q1⟩:=aH am;have ar:=aw.mk hb;clear A al am hb)
  |(go_at_call 86;(try rw[G.out]);replace h:=bI h;obtain⟨t,A,h⟩:=h;(try dsimp only at h);refine(cu.c _ _ _ _ _ _ _ _ _ _ Rd.out aj.out Rd.out aj.out A).mono ?_;rintro e w2 ⟨rfl,hb⟩;have ar:=aw.mk hb;clear A hb)
  |(refine qR (id:=5) (ds:=[]) (l:= #[false,false,false,false,false,false,false,false,false,false,false,false]) eo.nu eo.mH ?_;intro u F w3 aO u0 aN hHeld;refine qA 0 (some 27) u ?_;refine qA 2 (some 29) u ?_;refine qA 6 (some 33) u ?_;refine qA 8 (some 35) u ?_;refine qT 1 (some 28) u F hHeld ?_;refine qT 3 (some 30) u F hHeld ?_;refine qA 4 (some 31) u ?_;refine qT 5 (some 32) u F hHeld ?_;refine qT 7 (some 34) u F hHeld ?_;refine qT 9 (some 36) u F hHeld ?_;replace h:=bI h;obtain⟨t,A,h⟩:=h;(try dsimp only at h);refine qC 10 37 Tryz.func122 u fun K hK=> ?_;refine(cm.c _ _ _ _ _ _ A).mono ?_;rintro e w2 ⟨rfl,hb⟩;have ar:=aw.mk hb;clear A hb;refine⟨_,rfl,hK _ _ From.out fun hHeld=> ?_⟩;clear hK K;refine qN ?_;refine qA 11 (some 6) u ?_;refine qD u ?_));(repeat' first|((with_reducible replace h:=bq h);rcases h with ⟨hc,h⟩|⟨hc,h⟩<;>first|exact(bh h).elim|exact absurd hc (by decide)|subst hc|(replace hc:=aD hc;subst hc)|(replace hc:=bH hc;subst hc)|(replace hc:=bJ hc;subst hc)|(have hd:(_==_)=true:=hc)|(have hd:(_==_)=false:=aD hc)|(have hd:=aV hc;have he:=aW hc;clear hc)|(have hd:=bo hc;have he:=bp hc)|(have hd:=ay hc)|(have hd:=ag hc;(try(have hn:=Int.natCast_pos.mp hc;have hm:=ag hn;replace hn:=ax hn));first|(obtain⟨aI,e_,i_⟩:=cQ (by assumption) (by first|assumption|decide) hc;cases e_)|(obtain⟨aF,e_,c_⟩:=bE (by assumption) (by first|assumption|decide) hc;cases e_)|(obtain⟨aF,e_,X,Y,Z,ad⟩:=dU (aM.out (self:=by assumption)) _ (by first|assumption|decide) hc;cases e_;replace X:=ak.mk X;replace Y:=ak.mk Y;replace Z:=ak.mk Z;replace ad:=ak.mk ad))|(have hd:=ag hc)|skip)|((with_reducible have hj:eo.j0 k _ _ _ _ _ _ _=_:=h);clear hj;rcases k with _|k<;>rw[eo.j0]at h<;>first|exact(bh h).elim|skip)|((with_reducible replace h:=bF h);obtain⟨G,h⟩:=h;replace G:=A_ G;(try dsimp only at h))))
 all_goals simp only[Option.some.injEq,Prod.mk.injEq]at h
 all_goals obtain⟨rfl,rfl,rfl,rfl⟩:=h
 all_goals refine bodyPost_ret (eu rfl _ _ _ _ _ (0,0) _ rfl aQ.out Tryz.underlying34 rfl (by kernel_rfl)) rfl ?_
 all_goals exact⟨_,_,rfl,(by first|exact bj|exact Kd.bl _ _ _ _ _|exact bM|exact en (by simp)),(by first|exact bj|exact Kd.bl _ _ _ _ _|exact bM|exact en (by simp)),From.out⟩
def dS.j0:Nat→Int→Int→Bool→List (ai)→Int→List Int→List (ai)→Int→List Int→Option ((List (ai))×Int×List Int×Bool)
 |0,_,_,_,_,_,_,_,_,_=>none
 |k+1,x1,x2,I,J,K,O,D,F,u=>if I=true then(some (D,F,u,false))else(if 0≤x1 then(if x1<(u.length:Int)then((some (u.set (x1:Int).toNat (wrap64 ((rd u x1)+x2)):List Int)).bind fun G=>((cu.f k D F G).bind fun H=>(if H=true then(some (D,F,G,true))else((gH.f J K O).bind fun z=>(some (z.1,z.2.1,z.2.2,false))))))else(none))else(none))
def dS.f (k:Nat) (F:List (ai)) (D:Int) (z:List Int) (a1:Int) (a2:Int):Option ((List (ai))×Int×List Int×Bool):=(gH.f F D z).bind fun u=>((cu.f k F D z).bind fun G=>(if G=true then((cn.f a1 0 11).bind fun H=>(if H=true then((cn.f a2 (-100000) 100000).bind fun I=>(if I=true then(if 0≤a1 then(if a1<(z.length:Int)then(dS.j0 k a1 a2 ((rd z a1)==0) F D z u.1 u.2.1 u.2.2)else(none))else(none))else(dS.j0 k a1 a2 true F D z u.1 u.2.1 u.2.2)))else(dS.j0 k a1 a2 true F D z u.1 u.2.1 u.2.2)))else(dS.j0 k a1 a2 true F D z u.1 u.2.1 u.2.2)))
def dS.T4:Bool×List (List Nat×List Nat):=(true,[([],[]),([0],[0]),([],[]),([],[]),([3],[3]),([],[]),([4,5],[4,5]),([6],[6]),([],[]),([7,8],[7,8]),([1,2,0,1,2,3,4,5,6,7,8,9],[1,2]),([10,9,0,1,2,3,4,5,6,7,8,9],[9,10])])
def dS.B4:List Nat:=[0,1,0,0,8,0,56,120,0,504,1023,2047]
theorem dS.nt:a6 .any (opsOf Tryz.f100 4)=dS.T4:=by kernel_rfl
theorem dS.mG:bT dS.T4.2 dS.B4=true:=by kernel_rfl
theorem dS.c (k:Nat) (G:Option Addr) (K:Nat) (z:List (ai)) (J:Int) (H:Option Addr) (O:Nat) (D:List Int) (a1:Int) (a2:Int) (r1:List (ai)) (r2:Int) (r3:List Int) (ah:Bool) (w:World) (Z:Kd.C aU w G z.length z) (U:z.length≤K) (ad:Kd.C (Kd.int .i64) w H D.length D) (V:D.length≤O) (h:dS.f k z J D a1 a2=some (r1,r2,r3,ah)):
  Calls Tryz.prog 100 #[.agg #[.slice G z.length K,.int .i64 J,.slice H D.length O],.int .i64 a1,.int .i64 a2] w fun e w'=>∃ak al:Value,e= .returned (.tuple #[.agg #[ak,.int .i64 r2,al],.bool ah])∧Kd.R aU 112 w' w.heap.size (fun _=>True) ak r1∧Kd.R (Kd.int .i64) 3 w' w.heap.size (fun _=>True) al r3∧Below w.heap.size w w':=by
 replace Z:=aM.mk Z;replace U:=aj.mk U;replace ad:=aM.mk ad;replace V:=aj.mk V;have aF:=bS.mk (d:=aU) (e:=112) (t:=3) (by decide);have aG:=bS.mk (d:=aU) (e:=112) (t:=34) (by decide);unfold dS.f at h;have av:=Tryz.underlying34
 all_goals go_enter Tryz.func100,Tryz.ntmps100
 all_goals go_wp2_with ((first
  |((with_reducible refine aJ (N:=3) rfl ?_);refine bV #[.slice G z.length K,.int .i64 J,.slice H D.length O] 34 fun g w1 j1 j2 af=> ?_)
  |((with_reducible refine aJ (N:=6) rfl ?_);refine bV #[.slice none 0 0,.int .i64 0,.slice none 0 0] 34 fun g w1 j1 j2 af=> ?_)
  |((with_reducible refine aJ (N:=8) rfl ?_);refine bV #[.slice none 0 0,.int .i64 0,.slice none 0 0] 34 fun g w1 j1 j2 af=> ?_)
  |(go_at_call 95;(try rw[F.out]);replace h:=bI h;obtain⟨⟨t1,t2,t3⟩,A,h⟩:=h;(try dsimp only at h);refine(gH.c _ _ _ _ _ _ _ _ _ _ _ Rd.out aj.out Rd.out aj.out A).mono ?_;rintro e w2 ⟨v0,v1,rfl,X,Y,hb⟩;obtain⟨ao,b0,rfl,j0,q0⟩:=aH X;obtain⟨B1,b1,rfl,j1,q1⟩:=aH Y;have am:=aw.mk hb;clear A X Y hb)
  |(go_at_call 86;(try rw[F.out]);replace h:=bI h;obtain⟨t,A,h⟩:=h;(try dsimp only at h);refine(cu.c _ _ _ _ _ _ _ _ _ _ Rd.out aj.out Rd.out aj.out A).mono ?_;rintro e w2 ⟨rfl,hb⟩;have am:=aw.mk hb;clear A hb)
  |(go_at_call 88;(try rw[F.out]);replace h:=bI h;obtain⟨t,A,h⟩:=h;(try dsimp only at h);refine(cn.c _ _ _ _ _ A).mono ?_;rintro e w2 ⟨rfl,n,rfl⟩;clear A)
  |(refine qR (id:=4) (ds:=[11]) (l:= #[false,false,false,false,false,false,false,false,false,false,false,false]) dS.nt dS.mG ?_;intro u I w3 aE u0 aB hHeld;refine qA 0 (some 33) u ?_;refine qA 2 (some 35) u ?_;refine qA 3 (some 36) u ?_;refine qA 5 (some 38) u ?_;refine qA 8 (some 41) u ?_;refine qT 1 (some 34) u I hHeld ?_;refine qT 4 (some 37) u I hHeld ?_;refine qA 6 (some 39) u ?_;refine qT 7 (some 40) u I hHeld ?_;refine qA 9 (some 42) u ?_;refine qA 10 (some 43) u ?_;refine qL 11 u ?_;refine qD u ?_));(repeat' first|((with_reducible replace h:=bq h);rcases h with ⟨hc,h⟩|⟨hc,h⟩<;>first|exact(bh h).elim|exact absurd hc (by decide)|subst hc|(replace hc:=aD hc;subst hc)|(replace hc:=bH hc;subst hc)|(replace hc:=bJ hc;subst hc)|(have hd:(_==_)=true:=hc)|(have hd:(_==_)=false:=aD hc)|(have hd:=aV hc;have he:=aW hc;clear hc)|(have hd:=bo hc;have he:=bp hc)|(have hd:=ay hc)|(have hd:=ag hc;(try(have hn:=Int.natCast_pos.mp hc;have hm:=ag hn;replace hn:=ax hn));first|(obtain⟨ar,e_,i_⟩:=cQ (by assumption) (by first|assumption|decide) hc;cases e_)|(obtain⟨ap,e_,c_⟩:=bE (by assumption) (by first|assumption|decide) hc;cases e_))|(have hd:=ag hc)|skip)|((with_reducible have hj:dS.j0 k _ _ _ _ _ _ _ _ _=_:=h);clear hj;rcases k with _|k<;>rw[dS.j0]at h<;>first|exact(bh h).elim|skip)|((with_reducible replace h:=bF h);obtain⟨F,h⟩:=h;replace F:=A_ F;(try dsimp only at h))))
 all_goals simp only[Option.some.injEq,Prod.mk.injEq]at h
 all_goals obtain⟨rfl,rfl,rfl,rfl⟩:=h
 all_goals refine bodyPost_ret (eu rfl _ _ _ _ _ (0,0) _ rfl aQ.out Tryz.underlying34 rfl (by kernel_rfl)) rfl ?_
 all_goals exact⟨_,_,rfl,(by first|exact bj|exact Kd.bl _ _ _ _ _|exact bM|exact en (by simp)),(by first|exact bj|exact Kd.bl _ _ _ _ _|exact bM|exact en (by simp)),From.out⟩
end P

end Go.Proofs.YtanhnhkcpbdfmaaGreat
