/- What functions of the program come to (f), that their calls come to just this (calls), and the plain laws over lists and numbers. No condition but those of the given row. -/
import Derived.Test.YtanhnhkcpbdfmaaGreatH2
set_option linter.unusedVariables false
set_option linter.unusedSimpArgs false
namespace Go.Proofs.YtanhnhkcpbdfmaaGreat
namespace P
set_option maxHeartbeats 8000000
set_option maxRecDepth 100000
set_option synthInstance.maxHeartbeats 400000
set_option synthInstance.maxSize 100000
open Go.RowKit WW.bk WW.b_ WW.b6 V
attribute [local go_sem] dC dD gl iD iE iO iP
attribute [local go_sem] cR cV cU cY cT cX cS cW
def fT.f (k:Nat) (a0:Int) (l1:List (ai)):Option ((List (ai))×Int×List Int×Bool):=(cw.f k a0 l1).bind fun z=>(if z.2=true then((iq.f l1).bind fun D=>(if 12≤35184372088832 then((some (List.replicate 12 0:List Int)).bind fun u=>(if 0<(u.length:Int)then(some (D,0,(u.set (0:Int).toNat a0),true))else(none)))else(none)))else(some (([]:List (ai)),0,([]:List Int),false)))
noncomputable def fT.T4:Bool×List (List Nat×List Nat):=a6 .any (opsOf Tryz.f144 4)
def fT.B4:List Nat:=[0,1,0,7,0,31]
theorem fT.nt:a6 .any (opsOf Tryz.f144 4)=fT.T4:=rfl
theorem fT.mG:bT fT.T4.2 fT.B4=true:=by kernel_rfl
theorem fT.c (k:Nat) (a0:Int) (D:Option Addr) (c1:Nat) (l1:List (ai)) (r1:List (ai)) (r2:Int) (r3:List Int) (X:Bool) (w:World) (hr1:Kd.C aU w D l1.length l1) (hc1:l1.length≤c1) (h:fT.f k a0 l1=some (r1,r2,r3,X)):
  Calls Tryz.prog 144 #[.int .i64 a0,.slice D l1.length c1] w fun e w'=>∃Y Z:Value,e= .returned (.tuple #[.agg #[Y,.int .i64 r2,Z],.bool X])∧Kd.R aU 112 w' w.heap.size (fun _=>True) Y r1∧Kd.R (Kd.int .i64) 3 w' w.heap.size (fun _=>True) Z r3∧Below w.heap.size w w':=by
 replace hr1:=aM.mk hr1;replace hc1:=aj.mk hc1;have ap:=bS.mk (d:=aU) (e:=112) (t:=3) (by decide);have ar:=bS.mk (d:=aU) (e:=112) (t:=34) (by decide);unfold fT.f at h;have ak:=Tryz.underlying34
 all_goals go_enter Tryz.func144,Tryz.ntmps144
 all_goals go_wp2_with ((first
  |((with_reducible refine aJ (N:=4) rfl ?_);refine bV #[.slice none 0 0,.int .i64 0,.slice none 0 0] 34 fun g w1 j1 j2 am=> ?_)
  |(go_at_call 150;(try rw[F.out]);replace h:=bI h;obtain⟨⟨t1,t2⟩,A,h⟩:=h;(try dsimp only at h);refine(cw.c _ _ _ _ _ _ _ _ Rd.out aj.out A).mono ?_;rintro e w2 ⟨v0,rfl,z,hb⟩;obtain⟨G,b0,rfl,j0,q0⟩:=aH z;have H:=aw.mk hb;clear A z hb)
  |(refine qR (id:=4) (ds:=[]) (l:= #[false,false,false,false,false,false]) fT.nt fT.mG ?_;intro u ah w3 ao u0 al hHeld;replace h:=bI h;obtain⟨av,D,h⟩:=h;(try dsimp only at h);refine qA 0 (some 18) u ?_;refine xY 1 2 4 (some 19) (some 20) (some 8) u (fun K hK=> ?_) (fun K hK=> ?_) (fun K hK=> ?_);(focus (refine df Tryz.func126 (by kernel_rfl) rfl _ (by rfl) rfl rfl (by(try simp only[List.map_toArray,List.map_cons,List.map_nil]);rfl) ?_;refine(iq.c _ _ _ _ _ Rd.out aj.out D).mono ?_;rintro e u1 ⟨v0,rfl,z,hb⟩;obtain⟨G,b0,rfl,j0,q0⟩:=aH z;have H:=aw.mk hb;(try clear z hb);refine⟨_,rfl,hK.out _ _ From.out fun hHeld=> ?_⟩;clear hK K;refine qN ?_;refine ly 2 4 (some 20) (some 8) u (fun K hK=> ?_) (fun K hK=> ?_);(focus (refine nc 3 20 23 _ _ 12 8 Tryz.underlying23 info3 (by decide) (by decide) ?_;intro B2 b2 u2 j2 J;generalize List.replicate 12 (0:Int)=V at h j2 ⊢;refine hK.out _ _ From.out fun hHeld=> ?_;clear hK K;refine qN ?_;refine qA 3 (some 21) u ?_;refine ie 4 (some 8) u fun K hK=> ?_;refine jI 8 #[.slice none 0 0,.int .i64 0,.slice none 0 0] 34 ?_;intro g4 I u4 O U;refine hK.out _ _ From.out fun hHeld=> ?_;clear hK K;refine qN ?_;refine qS 5 u fun hHeld=> ?_;refine qD u ?_));rotate_left 1;(focus (refine jI 8 #[.slice none 0 0,.int .i64 0,.slice none 0 0] 34 ?_;intro g4 I u4 O U;refine hK.out _ _ From.out fun hHeld=> ?_;clear hK K;refine qN ?_;refine ie 2 (some 20) u fun K hK=> ?_;refine nc 3 20 23 _ _ 12 8 Tryz.underlying23 info3 (by decide) (by decide) ?_;intro B2 b2 u2 j2 J;generalize List.replicate 12 (0:Int)=V at h j2 ⊢;refine hK.out _ _ From.out fun hHeld=> ?_;clear hK K;refine qN ?_;refine qA 3 (some 21) u ?_;refine qS 5 u fun hHeld=> ?_;refine qD u ?_))));rotate_left 2;(focus (refine nc 3 20 23 _ _ 12 8 Tryz.underlying23 info3 (by decide) (by decide) ?_;intro B2 b2 u2 j2 J;generalize List.replicate 12 (0:Int)=V at h j2 ⊢;refine hK.out _ _ From.out fun hHeld=> ?_;clear hK K;refine qN ?_;refine ly 1 4 (some 19) (some 8) u (fun K hK=> ?_) (fun K hK=> ?_);(focus (refine df Tryz.func126 (by kernel_rfl) rfl _ (by rfl) rfl rfl (by(try simp only[List.map_toArray,List.map_cons,List.map_nil]);rfl) ?_;refine(iq.c _ _ _ _ _ Rd.out aj.out D).mono ?_;rintro e u1 ⟨v0,rfl,z,hb⟩;obtain⟨G,b0,rfl,j0,q0⟩:=aH z;have H:=aw.mk hb;(try clear z hb);refine⟨_,rfl,hK.out _ _ From.out fun hHeld=> ?_⟩;clear hK K;refine qN ?_;refine qA 3 (some 21) u ?_;refine ie 4 (some 8) u fun K hK=> ?_;refine jI 8 #[.slice none 0 0,.int .i64 0,.slice none 0 0] 34 ?_;intro g4 I u4 O U;refine hK.out _ _ From.out fun hHeld=> ?_;clear hK K;refine qN ?_;refine qS 5 u fun hHeld=> ?_;refine qD u ?_));rotate_left 1;(focus (refine jI 8 #[.slice none 0 0,.int .i64 0,.slice none 0 0] 34 ?_;intro g4 I u4 O U;refine hK.out _ _ From.out fun hHeld=> ?_;clear hK K;refine qN ?_;refine ie 1 (some 19) u fun K hK=> ?_;refine df Tryz.func126 (by kernel_rfl) rfl _ (by rfl) rfl rfl (by(try simp only[List.map_toArray,List.map_cons,List.map_nil]);rfl) ?_;refine(iq.c _ _ _ _ _ Rd.out aj.out D).mono ?_;rintro e u1 ⟨v0,rfl,z,hb⟩;obtain⟨G,b0,rfl,j0,q0⟩:=aH z;have H:=aw.mk hb;(try clear z hb);refine⟨_,rfl,hK.out _ _ From.out fun hHeld=> ?_⟩;clear hK K;refine qN ?_;refine qA 3 (some 21) u ?_;refine qS 5 u fun hHeld=> ?_;refine qD u ?_))));rotate_left 2;(focus (refine jI 8 #[.slice none 0 0,.int .i64 0,.slice none 0 0] 34 ?_;intro g4 I u4 O U;refine hK.out _ _ From.out fun hHeld=> ?_;clear hK K;refine qN ?_;refine ly 1 2 (some 19) (some 20) u (fun K hK=> ?_) (fun K hK=> ?_);(focus (refine df Tryz.func126 (by kernel_rfl) rfl _ (by rfl) rfl rfl (by(try simp only[List.map_toArray,List.map_cons,List.map_nil]);rfl) ?_;refine(iq.c _ _ _ _ _ Rd.out aj.out D).mono ?_;rintro e u1 ⟨v0,rfl,z,hb⟩;obtain⟨G,b0,rfl,j0,q0⟩:=aH z;have H:=aw.mk hb;(try clear z hb);refine⟨_,rfl,hK.out _ _ From.out fun hHeld=> ?_⟩;clear hK K;refine qN ?_;refine ie 2 (some 20) u fun K hK=> ?_;refine nc 3 20 23 _ _ 12 8 Tryz.underlying23 info3 (by decide) (by decide) ?_;intro B2 b2 u2 j2 J;generalize List.replicate 12 (0:Int)=V at h j2 ⊢;refine hK.out _ _ From.out fun hHeld=> ?_;clear hK K;refine qN ?_;refine qA 3 (some 21) u ?_;refine qS 5 u fun hHeld=> ?_;refine qD u ?_));rotate_left 1;(focus (refine nc 3 20 23 _ _ 12 8 Tryz.underlying23 info3 (by decide) (by decide) ?_;intro B2 b2 u2 j2 J;generalize List.replicate 12 (0:Int)=V at h j2 ⊢;refine hK.out _ _ From.out fun hHeld=> ?_;clear hK K;refine qN ?_;refine ie 1 (some 19) u fun K hK=> ?_;refine df Tryz.func126 (by kernel_rfl) rfl _ (by rfl) rfl rfl (by(try simp only[List.map_toArray,List.map_cons,List.map_nil]);rfl) ?_;refine(iq.c _ _ _ _ _ Rd.out aj.out D).mono ?_;rintro e u1 ⟨v0,rfl,z,hb⟩;obtain⟨G,b0,rfl,j0,q0⟩:=aH z;have H:=aw.mk hb;(try clear z hb);refine⟨_,rfl,hK.out _ _ From.out fun hHeld=> ?_⟩;clear hK K;refine qN ?_;refine qA 3 (some 21) u ?_;refine qS 5 u fun hHeld=> ?_;refine qD u ?_))));all_goals((try simp only[aA]at h);(repeat' first|((with_reducible replace h:=bq h);rcases h with ⟨hc,h⟩|⟨hc,h⟩<;>first|exact(bh h).elim|exact absurd hc (by decide)|subst hc|(replace hc:=aD hc;subst hc)|(replace hc:=bH hc;subst hc)|(replace hc:=bJ hc;subst hc)|(have hd:(_==_)=true:=hc)|(have hd:(_==_)=false:=aD hc)|(have hd:=aV hc;have he:=aW hc;clear hc)|(have hd:=bo hc;have he:=bp hc)|(have hd:=ay hc)|(have hd:=ag hc;(try(have hn:=Int.natCast_pos.mp hc;have hm:=ag hn;replace hn:=ax hn));first|(obtain⟨af,e_,i_⟩:=cQ (by assumption) (by first|assumption|decide) hc;cases e_)|(obtain⟨ad,e_,c_⟩:=bE (by assumption) (by first|assumption|decide) hc;cases e_))|(have hd:=ag hc)|skip)|((with_reducible replace h:=bF h);obtain⟨F,h⟩:=h;replace F:=A_ F;(try dsimp only at h))))));(repeat' first|((with_reducible replace h:=bq h);rcases h with ⟨hc,h⟩|⟨hc,h⟩<;>first|exact(bh h).elim|exact absurd hc (by decide)|subst hc|(replace hc:=aD hc;subst hc)|(replace hc:=bH hc;subst hc)|(replace hc:=bJ hc;subst hc)|(have hd:(_==_)=true:=hc)|(have hd:(_==_)=false:=aD hc)|(have hd:=aV hc;have he:=aW hc;clear hc)|(have hd:=bo hc;have he:=bp hc)|(have hd:=ay hc)|(have hd:=ag hc;(try(have hn:=Int.natCast_pos.mp hc;have hm:=ag hn;replace hn:=ax hn));first|(obtain⟨af,e_,i_⟩:=cQ (by assumption) (by first|assumption|decide) hc;cases e_)|(obtain⟨ad,e_,c_⟩:=bE (by assumption) (by first|assumption|decide) hc;cases e_))|(have hd:=ag hc)|skip)|((with_reducible replace h:=bF h);obtain⟨F,h⟩:=h;replace F:=A_ F;(try dsimp only at h))))
 all_goals simp only[Option.some.injEq,Prod.mk.injEq]at h
 all_goals obtain⟨rfl,rfl,rfl,rfl⟩:=h
 all_goals refine bodyPost_ret (eu rfl _ _ _ _ _ (0,0) _ rfl aQ.out Tryz.underlying34 rfl (by kernel_rfl)) rfl ?_
 all_goals exact⟨_,_,(by first|rfl|(simp_all;done)),(by first|exact bj|exact Kd.bl _ _ _ _ _|exact bM|exact en (by simp)),(by first|exact bj|exact Kd.bl _ _ _ _ _|exact bM|exact en (by simp)),From.out⟩
end P
namespace Q
open Go.RowKit P WW.bk WW.b6
theorem vF (p:List ai) (hp:p.length≤4000000):kg.f p=some p:=by
  unfold kg.f;simp only[aA];rw[aq (by simp;omega)];simp
theorem rL (p:List ai) (hp:p.length≤4000000):iq.f p=some p:=by
  unfold iq.f;simp only[aA];rw[aq (by simp;omega)];simp
theorem wO (p:List Int) (hp:p.length≤4000000):ml.f p=some p:=by
  unfold ml.f;simp only[aA];rw[aq (by simp;omega)];simp
theorem mO (p:List ai) (d:Int) (q:List Int) (hp:p.length≤4000000) (hq:q.length≤4000000):eC.f p d q=some (p,d,q):=by
  unfold eC.f;rw[vF p hp];simp only[aA];rw[aq (by simp;omega)];simp
theorem mW (p:List ai) (d:Int) (q:List Int) (hp:p.length≤4000000) (hq:q.length≤4000000):gH.f p d q=some (p,d,q):=by
  unfold gH.f;rw[rL p hp];simp only[aA];rw[wO q hq];rfl
def gY (p:List ai) (d:Int) (q:List Int):List ai×Int×List Int×Bool:=
  if bR p d q=true then
    if d=(p.length:Int)then(p,d,q,false)
    else if dT p q d.toNat=0 then(p,d,q,false)
    else(p,d+1,q.set (p.getD d.toNat cG).f1.toNat (dT p q d.toNat),true)
  else(p,d,q,false)
theorem yL (p:List ai) (d:Int) (q:List Int) (hp:p.length≤4000000) (hq:q.length≤4000000):Ev (fun n=>ek.f n p d q) (gY p d q):=by
  have u:Ev (fun n=>ek.j0 n true p d q p d q) (p,d,q,false):=Ev.step (fun n=>by rw[ek.j0]) (ar rfl (Ev.now _));unfold ek.f gY;refine aX (mO p d q hp hq) (aX (oM p d q) ?_);by_cases h:bR p d q=true;rotate_left
  · exact br h<|aI h u
  refine bK h<|ar h ?_;have hp:=mn h;have hd:=nB h;have hq:=kI h;have hl:=kr hp;obtain⟨m,rfl⟩:=Int.eq_ofNat_of_zero_le hd.1;by_cases he:(m:Int)=(p.length:Int)
  · rw[show((m:Int)==(p.length:Int))=true by simpa using he];exact bK he u
  rw[show((m:Int)==(p.length:Int))=false by simpa using he];refine br he ?_;have hm:m<p.length:=by omega
  obtain⟨k0,k1,k2,k3,k4⟩:=iW hp p[m] (List.getElem_mem hm);refine Ev.step (fun n=>by rw[ek.j0]) ?_;refine aI (by decide) (Ev.bind (qh p m q m hp hq hm) ?_);simp only[Int.toNat_natCast];by_cases hz:dT p q m=0
  · exact bK hz<|ar hz (Ev.now _)
  refine br hz<|aI hz (ar (by omega) (ar (by omega) ?_));rw[iJ p m hm,iG p m hm,bW (n:=(m:Int)+1) (by omega) (by omega)];exact ar k2 (ar (by omega) (Ev.now _))
theorem yM (p:List ai) (d:Int) (q:List Int) (hp:p.length≤4000000) (hq:q.length≤4000000):Ev (fun n=>eo.f n p d q) (gY p d q):=by
  have u:Ev (fun n=>eo.j0 n true p d q p d q) (p,d,q,false):=Ev.step (fun n=>by rw[eo.j0]) (ar rfl (Ev.now _));unfold eo.f gY;refine aX (mW p d q hp hq) (Ev.bind (nD p d q) ?_);by_cases h:bR p d q=true;rotate_left
  · exact br h<|aI h u
  refine bK h<|ar h ?_;have hp:=mn h;have hd:=nB h;have hq:=kI h;have hl:=kr hp;obtain⟨m,rfl⟩:=Int.eq_ofNat_of_zero_le hd.1;by_cases he:(m:Int)=(p.length:Int)
  · rw[show((m:Int)==(p.length:Int))=true by simpa using he];exact bK he u
  rw[show((m:Int)==(p.length:Int))=false by simpa using he];refine br he ?_;have hm:m<p.length:=by omega
  obtain⟨k0,k1,k2,k3,k4⟩:=iW hp p[m] (List.getElem_mem hm);refine Ev.step (fun n=>by rw[eo.j0]) ?_;refine aI (by decide) (ar (by omega) (ar (by omega) ?_));rw[iJ p m hm];refine ar k0 (ar (by omega) (Ev.bind (oL _ _ _) ?_));rw[ij];have et:fe (q.getD p[m].f0.toNat 0) p[m].f2 p[m].f3=dT p q m:=by unfold dT;rw[iG p m hm]
  rw[et,iG p ((m:Int).toNat) hm];simp only[Int.toNat_natCast];by_cases hz:dT p q m=0
  · exact bK hz<|ar hz (Ev.now _)
  refine br hz<|aI hz ?_;rw[bW (n:=(m:Int)+1) (by omega) (by omega)];exact ar k2 (ar (by omega) (Ev.now _))
def gb (p:List ai) (q:List Int) (i:Nat):Bool:=decide (q.getD (p.getD i cG).f1.toNat 0≠dT p q i)
def dy (p:List ai) (q:List Int) (l:List Nat):List Int:=(l.filter (gb p q)).map (fun(i:Nat)=>(i:Int))
def gi (p:List ai) (d:Int) (q:List Int):List Int:=if bR p d q=true then dy p q (List.range d.toNat)else[]
theorem nE (p:List ai) (q:List Int) (i:Nat) (l:List Nat):dy p q (i::l)=if gb p q i=true then(i:Int)::dy p q l else dy p q l:=by
  unfold dy;rw[List.filter_cons];split<;>rfl
theorem qj (p:List ai) (d:Int) (q:List Int):Ev (fun n=>cD.f n p d q) (gi p d q):=by
  unfold cD.f gi;refine aX (oM p d q) ?_;by_cases h:bR p d q=true;rotate_left
  · exact br h<|aI h (Ev.now _)
  have hp:=mn h;have hd:=nB h;have hq:=kI h;have hl:=kr hp;obtain⟨m,rfl⟩:=Int.eq_ofNat_of_zero_le hd.1;refine bK h<|ar h (ar hd.1 (ar hd.2 ?_));simp only[aA,Int.toNat_natCast]
  have key:∀i,i≤m→∀acc:List Int,acc.length≤i→Ev (fun n=>cD.l0 n acc (p.take m) ((p.take m).length:Int) (i:Int) p m q) (acc++dy p q ((List.range m).drop i)):=by
    refine down (n:=m) ?_ ?_
    · intro acc ha;refine Ev.step (fun n=>by rw[cD.l0]) (aI (by rw[List.length_take];omega) (evs ?_));rw[List.drop_eq_nil_of_le (by simp)];simp[dy]
    · intro i hi ih acc ha;obtain⟨k0,k1,k2,k3,k4⟩:=iW hp p[i] (List.getElem_mem (by omega));have e:(p.take m)[i]'(by rw[List.length_take];omega)=p[i]:=(by simp);refine Ev.step (fun n=>by rw[cD.l0]) ?_;refine ar (by rw[List.length_take];omega) (ar (by omega) (ar (by rw[List.length_take];omega) ?_));rw[iJ (p.take m) i (by rw[List.length_take];omega),e];refine ar k2 (ar (by omega) (Ev.bind (qh p _ q i hp hq (by omega)) ?_));rw[drop_cons _ i (by simpa using hi),List.getElem_range,ij,bW (n:=(i:Int)+1) (by omega) (by omega)];have g:=iG p i (by omega);have eb:gb p q i=decide (q.getD p[i].f1.toNat 0≠dT p q i):=(by unfold gb;rw[g]);by_cases hb:q.getD p[i].f1.toNat 0=dT p q i
      · rw[show dy p q (i::(List.range m).drop (i+1))=dy p q ((List.range m).drop (i+1))by rw[nE,eb,au (by simp only[decide_eq_true_eq];exact fun h=>h hb)]];refine ar hb ?_;exact ih acc (by omega)
      · rw[show dy p q (i::(List.range m).drop (i+1))=(i:Int)::dy p q ((List.range m).drop (i+1))by rw[nE,eb,aq (by simp only[decide_eq_true_eq];exact hb)]];refine aI hb (ar (by omega) ?_);have:=ih (acc++[(i:Int)]) (by simp;omega);rw[List.append_assoc]at this;exact this
  have:=key 0 (Nat.zero_le _) [] (Nat.le_refl _);simpa using this
theorem ql (p:List ai) (d:Int) (q:List Int):Ev (fun n=>cZ.f n p d q) (gi p d q):=by
  unfold cZ.f gi;simp only[aA];refine Ev.bind (nD p d q) ?_;by_cases h:bR p d q=true;rotate_left
  · exact br h<|aI h (Ev.now _)
  have hp:=mn h;have hd:=nB h;have hq:=kI h;have hl:=kr hp;obtain⟨m,rfl⟩:=Int.eq_ofNat_of_zero_le hd.1;refine bK h<|ar h ?_;simp only[Int.toNat_natCast]
  have key:∀i,i≤m→∀acc:List Int,acc.length≤i→Ev (fun n=>cZ.l0 n acc (i:Int) p m q) (acc++dy p q ((List.range m).drop i)):=by
    refine down (n:=m) ?_ ?_
    · intro acc ha;refine Ev.step (fun n=>by rw[cZ.l0]) (aI (by omega) (evs ?_));rw[List.drop_eq_nil_of_le (by simp)];simp[dy]
    · intro i hi ih acc ha;obtain⟨k0,k1,k2,k3,k4⟩:=iW hp p[i] (List.getElem_mem (by omega));refine Ev.step (fun n=>by rw[cZ.l0]) ?_;refine ar (by omega) (ar (by omega) (ar (by omega) ?_));rw[iJ p i (by omega)];refine ar k2 (ar (by omega) (ar k0 (ar (by omega) (Ev.bind (oL _ _ _) ?_))));rw[drop_cons _ i (by simpa using hi),List.getElem_range,ij,ij,bW (n:=(i:Int)+1) (by omega) (by omega)];have g:=iG p i (by omega);have eb:gb p q i=decide (q.getD p[i].f1.toNat 0≠dT p q i):=(by unfold gb;rw[g]);by_cases hb:q.getD p[i].f1.toNat 0=dT p q i
      · rw[show dy p q (i::(List.range m).drop (i+1))=dy p q ((List.range m).drop (i+1))by rw[nE,eb,au (by simp only[decide_eq_true_eq];exact fun h=>h hb)]];refine ar (by rw[hb];unfold dT;rw[g]) ?_;exact ih acc (by omega)
      · rw[show dy p q (i::(List.range m).drop (i+1))=(i:Int)::dy p q ((List.range m).drop (i+1))by rw[nE,eb,aq (by simp only[decide_eq_true_eq];exact hb)]];refine aI (by unfold dT at hb;rw[g]at hb;exact hb) (ar (by omega) ?_);have:=ih (acc++[(i:Int)]) (by simp;omega);rw[List.append_assoc]at this;exact this
  have:=key 0 (Nat.zero_le _) [] (Nat.le_refl _);simpa using this
def iH (p:List ai) (d:Int) (q:List Int):List ai×Int×List Int×Bool:=
  match gi p d q with
  |[]=>(p,d,q,false)
  |i::_=>if dT p q i.toNat=0 then(p,d,q,false)else(p,d,q.set (p.getD i.toNat cG).f1.toNat (dT p q i.toNat),true)
theorem tN {p:List ai} {d:Int} {q:List Int} {i:Int} {r:List Int} (h:gi p d q=i::r):bR p d q=true∧∃j:Nat,i=j∧(j:Int)<d∧j<p.length:=by
  unfold gi at h;by_cases hw:bR p d q=true;rotate_left
  · rw[au hw]at h;exact absurd h (by simp)
  rw[aq hw]at h;refine⟨hw,?_⟩;have hi:i∈dy p q (List.range d.toNat):=by rw[h];exact List.mem_cons_self
  unfold dy at hi;obtain⟨j,hj,rfl⟩:=List.mem_map.1 hi;have hd:=nB hw;have:=List.mem_range.1 (List.mem_filter.1 hj).1;exact⟨j,rfl,by omega,by omega⟩
theorem xb (p:List ai) (d:Int) (q:List Int) (hp:p.length≤4000000) (hq:q.length≤4000000):Ev (fun n=>dW.f n p d q) (iH p d q):=by
  unfold dW.f iH;refine aX (mO p d q hp hq) (Ev.bind (qj p d q) ?_);cases h:gi p d q with
  |nil=>exact ar rfl (Ev.now _)
  |cons i r=>
   obtain⟨hw,j,rfl,hj,hj2⟩:=tN h;have hp:=mn hw;have hq:=kI hw;obtain⟨k0,k1,k2,k3,k4⟩:=iW hp p[j] (List.getElem_mem hj2);refine aI (by simp;omega) (ar (by simp) ?_);rw[show rd ((j:Int)::r) 0=(j:Int)from rfl];refine Ev.bind (qh p d q j hp hq hj2) ?_;simp only[Int.toNat_natCast];by_cases hz:dT p q j=0
   · exact bK hz<|ar hz (Ev.now _)
   refine br hz<|aI hz (ar (by omega) (ar (by omega) ?_));rw[iJ p j hj2,iG p j hj2];exact ar k2 (ar (by omega) (Ev.now _))
theorem xc (p:List ai) (d:Int) (q:List Int) (hp:p.length≤4000000) (hq:q.length≤4000000):Ev (fun n=>dZ.f n p d q) (iH p d q):=by
  unfold dZ.f iH;refine aX (mW p d q hp hq) (Ev.bind (ql p d q) ?_);cases h:gi p d q with
  |nil=>exact ar rfl (Ev.now _)
  |cons i r=>
   obtain⟨hw,j,rfl,hj,hj2⟩:=tN h;have hp:=mn hw;have hq:=kI hw;obtain⟨k0,k1,k2,k3,k4⟩:=iW hp p[j] (List.getElem_mem hj2);refine aI (by simp;omega) (ar (by simp) ?_);rw[show rd ((j:Int)::r) 0=(j:Int)from rfl];refine ar (by omega) (ar (by omega) ?_);rw[iJ p j hj2];refine ar k0 (ar (by omega) (Ev.bind (oL _ _ _) ?_));rw[ij];have et:fe (q.getD p[j].f0.toNat 0) p[j].f2 p[j].f3=dT p q j:=(by unfold dT;rw[iG p j hj2]);simp only[Int.toNat_natCast];rw[et,iG p j hj2];by_cases hz:dT p q j=0
   · exact bK hz<|ar hz (Ev.now _)
   exact br hz<|aI hz (ar k2 (ar (by omega) (Ev.now _)))
def iT (q:List Int) (c x:Int):List Int:=q.set c.toNat (wrap64 (q.getD c.toNat 0+x))
def gw (p:List ai) (d:Int) (q:List Int) (c x:Int):List ai×Int×List Int×Bool:=
  if bR p d q=true∧(0≤c∧c≤11)∧(-100000≤x∧x≤100000)∧q.getD c.toNat 0≠0 then
    if bR p d (iT q c x)=true then(p,d,iT q c x,true)else(p,d,q,false)
  else(p,d,q,false)
theorem wM (p:List ai) (d:Int) (q:List Int) (c x:Int) (hp:p.length≤4000000) (hq:q.length≤4000000):Ev (fun n=>dN.f n p d q c x) (gw p d q c x):=by
  have u:Ev (fun n=>dN.j0 n c x true p d q p d q) (p,d,q,false):=Ev.step (fun n=>by rw[dN.j0]) (ar rfl (Ev.now _));unfold dN.f gw;refine aX (mO p d q hp hq) (aX (oM p d q) ?_);by_cases h:bR p d q=true;rotate_left
  · exact br (fun h2=>h h2.1)<|aI h u
  have hl:=kI h;refine ar h (aX (gX _ _ _) ?_);by_cases hc:0≤c∧c≤11;rotate_left
  · exact br (fun h2=>hc h2.2.1)<|aI (nR hc) u
  refine ar (nW hc) (ar hc.1 (ar (by omega) ?_));rw[ij];by_cases hz:q.getD c.toNat 0=0
  · exact br (fun h2=>h2.2.2.2 hz)<|ar hz u
  refine aI hz (aX (gX _ _ _) ?_);by_cases hx: -100000≤x∧x≤100000;rotate_left
  · rw[ay hx];exact br (fun h2=>hx h2.2.2.1) u
  rw[ag hx];refine bK ⟨h,hc,hx,hz⟩ ?_;refine Ev.step (fun n=>by rw[dN.j0]) ?_;refine aI (by decide) (ar hc.1 (ar (by show c<(q.length:Int);omega) ?_));simp only[aA,ij];refine aX (oM p d _) ?_;by_cases h3:bR p d (iT q c x)=true
  · exact bK h3<|ar h3 (Ev.now _)
  · exact br h3<|aI h3 (aX (mO p d q hp hq) (Ev.now _))
theorem wN (p:List ai) (d:Int) (q:List Int) (c x:Int) (hp:p.length≤4000000) (hq:q.length≤4000000):Ev (fun n=>dS.f n p d q c x) (gw p d q c x):=by
  have u:Ev (fun n=>dS.j0 n c x true p d q p d q) (p,d,q,false):=Ev.step (fun n=>by rw[dS.j0]) (ar rfl (Ev.now _));unfold dS.f gw;refine aX (mW p d q hp hq) (Ev.bind (nD p d q) ?_);by_cases h:bR p d q=true;rotate_left
  · exact br (fun h2=>h h2.1)<|aI h u
  have hl:=kI h;refine ar h (aX (fQ _ _ _) ?_);by_cases hc:0≤c∧c≤11;rotate_left
  · exact br (fun h2=>hc h2.2.1)<|aI (nR hc) u
  refine ar (nW hc) (aX (fQ _ _ _) ?_);by_cases hx: -100000≤x∧x≤100000;rotate_left
  · exact br (fun h2=>hx h2.2.2.1)<|aI (nR hx) u
  refine ar (nW hx) (ar hc.1 (ar (by omega) ?_));rw[ij];by_cases hz:q.getD c.toNat 0=0
  · rw[show(q.getD c.toNat 0==0)=true by rw[hz];rfl];exact br (fun h2=>h2.2.2.2 hz) u
  rw[show(q.getD c.toNat 0==0)=false from beq_eq_false_iff_ne.mpr hz];refine bK ⟨h,hc,hx,hz⟩ ?_;refine Ev.step (fun n=>by rw[dS.j0]) ?_;refine aI (by decide) (ar hc.1 (ar (by show c<(q.length:Int);omega) ?_));simp only[aA,ij];refine Ev.bind (nD p d _) ?_;by_cases h3:bR p d (iT q c x)=true
  · exact bK h3<|ar h3 (Ev.now _)
  · exact br h3<|aI h3 (aX (mW p d q hp hq) (Ev.now _))
def jD (a:Int) (p:List ai):List ai×Int×List Int×Bool:=if(iX a p).2=true then(p,0,begun a,true)else([],0,[],false)
theorem yq {a:Int} {p:List ai} (h:(iX a p).2=true):dQ p=true∧fine a=true:=by
  unfold iX at h;by_cases h2:dQ p=true∧fine a=true
  · exact h2
  · rw[au h2]at h;exact absurd h (by simp)
theorem xg (a:Int) (p:List ai):Ev (fun n=>fT.f n a p) (jD a p):=by
  unfold fT.f jD;refine Ev.bind (yr a p) ?_;by_cases h:(iX a p).2=true;rotate_left
  · exact br h<|aI h (Ev.now _)
  refine bK h<|ar h (aX (rL p (by have:=kr (yq h).1;omega)) (ar (by decide) ?_));simp only[aA];exact ar (by simp) (Ev.now _)
def eJ (p:List ai) (q:List Int) (i:Nat):Prop:=∀k:Nat,k≤i→q.getD k 0=fk p (q.getD 0 0) k
theorem sU (p:List ai) (q:List Int):eJ p q 0:=by
  intro k hk;obtain rfl:k=0:=by omega
  rfl
theorem sT (p:List ai) (s:Int) (n:Nat) (hn:n<12):eJ p (cM p s n) n:=fun k hk=>by
  rw[gT p s n k (by omega),aq hk,gT p s n 0 (by omega),aq (Nat.zero_le _)];rfl
section
variable {p:List ai} (g:dm p)
include g
theorem oJ {q:List Int} {i:Nat} (hi:i<p.length) (h:q.getD i 0=fk p (q.getD 0 0) i):dT p q i=fk p (q.getD 0 0) (i+1):=by
  unfold dT;rw[(mR g i hi).1,Int.toNat_natCast,h];rfl
theorem rJ {q:List Int} {i:Nat} (hi:i<p.length):gb p q i=true↔q.getD (i+1) 0≠dT p q i:=by
  unfold gb;rw[(mR g i hi).2.1,show((i:Int)+1).toNat=i+1 by omega,decide_eq_true_iff]
theorem ym {q:List Int} {i:Nat} (hi:i<p.length) (h:eJ p q i) (hb:¬gb p q i=true):eJ p q (i+1):=by
  rw[rJ g hi]at hb;have hb2:q.getD (i+1) 0=dT p q i:=Classical.byContradiction hb;intro k hk;by_cases e:k=i+1
  · subst e;rw[hb2];exact oJ g hi (h i (Nat.le_refl _))
  · exact h k (by omega)
theorem se {q:List Int} {i j:Nat} (hi:i≤p.length) (h:eJ p q i) (hj:j<i):gb p q j=false:=by
  have:¬gb p q j=true:=by
    rw[rJ g (by omega),Classical.not_not,oJ g (by omega) (h j (by omega))];exact h (j+1) (by omega)
  simpa using this
theorem tO {q:List Int} {i:Nat} (hi:i≤p.length) (h:eJ p q i) (r:List Nat):dy p q (List.range i++r)=dy p q r:=by
  unfold dy;rw[List.filter_append,List.filter_eq_nil_iff.2 (fun j hj=>by rw[se g hi h (List.mem_range.1 hj)];simp)];rfl
theorem qm {q:List Int} {i:Nat} (hi:i≤p.length) (h:eJ p q i):dy p q (List.range i)=[]:=by
  have:=tO g hi h [];rw[List.append_nil]at this;rw[this];rfl
theorem oP {q:List Int} {i j:Nat} (hi:i+(j+1)≤p.length) (h:eJ p q i) (hb:gb p q i=true):∃r,dy p q (List.range (i+(j+1)))=(i:Int)::r:=by
  rw[List.range_add,tO g (by omega) h,List.range_succ_eq_map,List.map_cons,Nat.add_zero,nE,aq hb];exact⟨_,rfl⟩
theorem pW {q:List Int} {n:Nat} (hn:n≤p.length) (hw:bR p (n:Int) q=true) (h:eJ p q n):q=cM p (q.getD 0 0) n:=by
  obtain⟨h1,h2,h3⟩:=(lK g n hn q).1 hw;refine pL h1 (lx _ _ _) (fun k hk=> ?_);rw[gT _ _ n k hk];by_cases e:k≤n
  · rw[aq e];exact h k e
  · rw[au e];exact h3 k (by omega) hk
theorem mended {q:List Int} {i n:Nat} (hn:n≤p.length) (hi:i<n) (hw:bR p (n:Int) q=true) (hs:155000≤q.getD 0 0∧q.getD 0 0≤345000) (h:eJ p q i):
    bR p (n:Int) (q.set (i+1) (fk p (q.getD 0 0) (i+1)))=true∧(q.set (i+1) (fk p (q.getD 0 0) (i+1))).getD 0 0=q.getD 0 0∧eJ p (q.set (i+1) (fk p (q.getD 0 0) (i+1))) (i+1):=by
  obtain⟨h1,h2,h3⟩:=(lK g n hn q).1 hw;have hl:=g.1;have hf:=na g hs (i+1) (by omega);have e0:(q.set (i+1) (fk p (q.getD 0 0) (i+1))).getD 0 0=q.getD 0 0:=getD_set_ne _ _ _ _ (by omega);refine⟨(lK g n hn _).2 ⟨by simpa using h1,fun k hk=> ?_,fun k hk hk2=> ?_⟩,e0,fun k hk=> ?_⟩
  · by_cases e:i+1=k
    · subst e;rw[oa _ _ _ (by omega)];omega
    · rw[getD_set_ne _ _ _ _ e];exact h2 k hk
  · rw[getD_set_ne _ _ _ _ (by omega)];exact h3 k hk hk2
  · rw[e0];by_cases e:i+1=k
    · subst e;rw[oa _ _ _ (by omega)]
    · rw[getD_set_ne _ _ _ _ e];exact h k (by omega)
omit g in
theorem mo {q:List Int} {n:Nat} (hw:bR p (n:Int) q=true):gi p (n:Int) q=dy p q (List.range n):=by
  unfold gi;rw[aq hw,Int.toNat_natCast]
theorem rV {q:List Int} {i j n:Nat} (hn:n≤p.length) (hij:n=i+(j+1)) (hw:bR p (n:Int) q=true) (hs:155000≤q.getD 0 0∧q.getD 0 0≤345000) (h:eJ p q i) (hb:gb p q i=true):
    iH p (n:Int) q=(p,(n:Int),q.set (i+1) (fk p (q.getD 0 0) (i+1)),true):=by
  obtain⟨r,hr⟩:=oP g (by omega:i+(j+1)≤p.length) h hb;have hf:=na g hs (i+1) (by omega);unfold iH;rw[mo hw,hij,hr];simp only[Int.toNat_natCast];rw[oJ g (by omega) (h i (Nat.le_refl _)),au (by omega),(mR g i (by omega)).2.1,show((i:Int)+1).toNat=i+1 by omega]
theorem tL {s:Int} (hs:155000≤s∧s≤345000) {n:Nat} (hn:n<p.length):gY p (n:Int) (cM p s n)=(p,((n+1:Nat):Int),cM p s (n+1),true):=by
  have hl:=g.1;have hf:=na g hs (n+1) hn;have e0:(cM p s n).getD 0 0=s:=by rw[gT p s n 0 (by omega),aq (Nat.zero_le _)];rfl
  have e1:dT p (cM p s n) n=fk p s (n+1):=by
    have:=oJ g hn (q:=cM p s n) (sT p s n (by omega) n (Nat.le_refl _))
    rwa [e0]at this
  unfold gY;rw[aq (nC g hs n (by omega)),au (by omega),Int.toNat_natCast,e1,au (by omega),(mR g n hn).2.1,show((n:Int)+1).toNat=n+1 by omega,sA p s n (by omega)];rfl
theorem zi {s:Int} (hs:155000≤s∧s≤345000):gY p (p.length:Int) (cM p s p.length)=(p,(p.length:Int),cM p s p.length,false):=by
  unfold gY;rw[aq (nC g hs p.length (Nat.le_refl _)),aq rfl]
theorem xf {s:Int} (hs:155000≤s∧s≤345000):jD s p=(p,((0:Nat):Int),cM p s 0,true):=by
  unfold jD;rw[sW g hs,aq rfl,sB];rfl
theorem wL {q:List Int} {n:Nat} (hn:n≤p.length) (hw:bR p (n:Int) q=true) (c x:Int) (hx: -1000≤x∧x≤1000):
    (gw p (n:Int) q c x).1=p∧(gw p (n:Int) q c x).2.1=(n:Int)∧bR p (n:Int) (gw p (n:Int) q c x).2.2.1=true∧
      q.getD 0 0-1000≤(gw p (n:Int) q c x).2.2.1.getD 0 0∧(gw p (n:Int) q c x).2.2.1.getD 0 0≤q.getD 0 0+1000:=by
  obtain⟨h1,h2,h3⟩:=(lK g n hn q).1 hw;have u:=h2 0 (Nat.zero_le _);unfold gw
  split
  · rename_i hk
    split
    · rename_i hok
      refine⟨rfl,rfl,hok,?_⟩;show _≤(iT q c x).getD 0 0∧(iT q c x).getD 0 0≤_;unfold iT;by_cases e:c.toNat=0
      · rw[e,oa _ _ _ (by omega),bW (by omega) (by omega)];omega
      · rw[getD_set_ne _ _ _ _ e];omega
    · exact⟨rfl,rfl,hw,by dsimp only;omega⟩
  · exact⟨rfl,rfl,hw,by dsimp only;omega⟩
end
theorem kU (p:List ai) (d:Int) (q:List Int) (a m:Int) (l:List ah) (hp:p.length≤4000000) (hq:q.length≤4000000) (hl:l.length≤4000000):eB.f p d q a m l=some (p,d,q,a,m,l):=by
  unfold eB.f;rw[mO p d q hp hq,aA,mN l hl];rfl
theorem km (p:List ai) (d:Int) (q:List Int) (a m:Int) (l:List ah) (hp:p.length≤4000000) (hq:q.length≤4000000) (hl:l.length≤4000000):fz.f p d q a m l=some (p,d,q,a,m,l):=by
  unfold fz.f;rw[mW p d q hp hq,aA,mV l hl];rfl
end Q
namespace P
set_option maxHeartbeats 8000000
set_option maxRecDepth 100000
set_option synthInstance.maxHeartbeats 400000
set_option synthInstance.maxSize 100000
open Go.RowKit WW.bk WW.b_ WW.b6 V
attribute [local go_sem] dC dD gl iD iE iO iP
attribute [local go_sem] cR cV cU cY cT cX cS cW
attribute [local go_sem high] vL
def fI.j0:Nat→Int→Bool→Int→Int→Int→Int→Option (Bool)
 |0,_,_,_,_,_,_=>none
 |k+1,F,V,X,u,z,D=>if V=true then(some (u==0&&(z==0&&(D==0))))else(if F=2 then(if(z==0&&(D==0))=true then((eZ.f u).bind fun G=>(some G))else(some false))else(if F=3 then((cj.f u 0 3).bind fun H=>(if H=true then((cj.f z 0 39).bind fun I=>(if I=true then((cj.f D 0 2).bind fun J=>(some J))else(some false)))else(some false)))else(if F=4 then(if(D==0)=true then((cj.f u 0 11).bind fun K=>(if K=true then((cj.f z (-100000) 100000).bind fun O=>(some O))else(some false)))else(some false))else(if F=7 then(if(z==0&&(D==0))=true then((cj.f u 0 11).bind fun U=>(some U))else(some false))else(some false)))))
def fI.f (k:Nat) (u:Int) (z:Int) (D:Int) (F:Int):Option (Bool):=if u=1 then(fI.j0 k u (u==1) u z D F)else(if u=5 then(fI.j0 k u (u==5) u z D F)else(fI.j0 k u (u==6) u z D F))
theorem fI.c (k:Nat) (z:Int) (D:Int) (F:Int) (G:Int) (r:Bool) (w:World) (h:fI.f k z D F G=some r):
  Calls Tryz.prog 56 #[.agg #[.int .i64 z,.int .i64 D,.int .i64 F,.int .i64 G]] w fun e w'=>e= .returned (.bool r)∧Below w.heap.size w w':=by
 unfold fI.f at h;have J:=Tryz.underlying41
 (repeat' first|((with_reducible replace h:=bq h);rcases h with ⟨hc,h⟩|⟨hc,h⟩<;>first|exact(bh h).elim|exact absurd hc (by decide)|subst hc|(replace hc:=aD hc;subst hc)|(replace hc:=bH hc;subst hc)|(replace hc:=bJ hc;subst hc)|(have hd:(_==_)=true:=hc)|(have hd:(_==_)=false:=aD hc)|(have hd:=aV hc;have he:=aW hc;clear hc)|(have hd:=bo hc;have he:=bp hc)|(have hd:=ay hc)|(have hd:=ag hc;(try(have hn:=Int.natCast_pos.mp hc;have hm:=ag hn;replace hn:=ax hn));first|(obtain⟨I,e_,i_⟩:=cQ (by assumption) (by first|assumption|decide) hc;cases e_)|(obtain⟨H,e_,c_⟩:=bE (by assumption) (by first|assumption|decide) hc;cases e_))|(have hd:=ag hc)|skip)|((with_reducible have hj:fI.j0 k _ _ _ _ _ _=_:=h);clear hj;rcases k with _|k<;>rw[fI.j0]at h<;>first|exact(bh h).elim|skip)|((with_reducible replace h:=bF h);obtain⟨u,h⟩:=h;replace u:=A_ u;(try dsimp only at h)))
 all_goals go_enter Tryz.func56,Tryz.ntmps56
 all_goals go_wp2_with ((first
  |((with_reducible refine aJ (N:=1) rfl ?_);refine bV #[.int .i64 z,.int .i64 D,.int .i64 F,.int .i64 G] 41 fun g w1 j1 j2 K=> ?_)
  |(go_at_call 78;(try rw[u.out]);replace h:=bI h;obtain⟨t,A,h⟩:=h;(try dsimp only at h);refine(eZ.c _ _ _ A).mono ?_;rintro e w2 ⟨rfl,n,rfl⟩;clear A)
  |(go_at_call 79;(try rw[u.out]);replace h:=bI h;obtain⟨t,A,h⟩:=h;(try dsimp only at h);refine(cj.c _ _ _ _ _ A).mono ?_;rintro e w2 ⟨rfl,n,rfl⟩;clear A));(repeat' first|((with_reducible replace h:=bq h);rcases h with ⟨hc,h⟩|⟨hc,h⟩<;>first|exact(bh h).elim|exact absurd hc (by decide)|subst hc|(replace hc:=aD hc;subst hc)|(replace hc:=bH hc;subst hc)|(replace hc:=bJ hc;subst hc)|(have hd:(_==_)=true:=hc)|(have hd:(_==_)=false:=aD hc)|(have hd:=aV hc;have he:=aW hc;clear hc)|(have hd:=bo hc;have he:=bp hc)|(have hd:=ay hc)|(have hd:=ag hc;(try(have hn:=Int.natCast_pos.mp hc;have hm:=ag hn;replace hn:=ax hn));first|(obtain⟨I,e_,i_⟩:=cQ (by assumption) (by first|assumption|decide) hc;cases e_)|(obtain⟨H,e_,c_⟩:=bE (by assumption) (by first|assumption|decide) hc;cases e_))|(have hd:=ag hc)|skip)|((with_reducible have hj:fI.j0 k _ _ _ _ _ _=_:=h);clear hj;rcases k with _|k<;>rw[fI.j0]at h<;>first|exact(bh h).elim|skip)|((with_reducible replace h:=bF h);obtain⟨u,h⟩:=h;replace u:=A_ u;(try dsimp only at h))))
 all_goals obtain rfl:=aC h
 all_goals go_ret
 all_goals exact⟨(by first|rfl|(simp_all;done)),From.out⟩
end P
namespace V
open Go.RowKit P WW.bk WW.b_
class St (w0:outParam World) (W:World) (g:Nat) (s:outParam (List Int)) (i h:outParam Int):Prop where out:aZ w0 W g s i h
class Kb (W:outParam World) (W':World) (g:outParam Nat):Prop where out:a8 W W' g none
class cH (w W:World) (g:Nat):Prop where out:a8 w W g none
section
variable {w w0 w1 w2 W W':World} {g g':Nat} {s:List Int} {i h x:Int} {cs:Array Value} {t:TypeId} {o:Obj} {n j:Nat} {v:Value}
instance [k:St w0 W g s i h]:St w0 (W.alloc o) g s i h:=⟨k.out.alloc o⟩
instance [k:St w0 W g s i h]:St w0 W.drew g s i h:=⟨k.out.drew⟩
instance [k:St w0 W g s i h]:St w0 (W.drewN n) g s i h:=⟨k.out.drewN n⟩
instance [b:aw w W] [k:St w0 w g s i h]:St w0 W g s i h:=⟨k.out.below b.out⟩
instance [b:eU w W] [k:St w0 w g s i h]:St w0 W g s i h:=⟨k.out.below b.out⟩
instance [k:St w0 W g s i h] [m:dw g g']:St w0 (W.setCell ⟨g',j,none⟩ v) g s i h:=⟨k.out.far m.out v⟩
instance [k:St w0 W g s i h] [b:aQ W g' cs t] [n:iC t 132]:St w0 (W.setCell ⟨g',j,none⟩ v) g s i h:=⟨k.out.far (k.out.rZ b.out n.out) v⟩
instance [b:fC W g'] [k:St w0 W g s i h]:dw g g':=⟨by rw[b.out];exact Nat.ne_of_lt k.out.lt⟩
instance [b:fC W g'] [k:St w0 W g s i h]:dw g' g:=⟨by rw[b.out];exact Nat.ne_of_gt k.out.lt⟩
instance [k:St w0 w1 g s i h]:ji w1 w2 g:=⟨.inl k.out.lt⟩
instance [b:Kb W W' g] [k:aQ W g' cs t] [m:dw g' g]:aQ W' g' cs t:=⟨a8.blk b.out k.out m.out (by simp)⟩
instance [b:Kb W W' g] [q:St w0 W g s i h] [k:aQ W g' cs t] [n:iC t 132]:aQ W' g' cs t:=⟨a8.blk b.out k.out (fun e=>(q.out.rZ k.out n.out) e.symm) (by simp)⟩
instance [b:Kb W W' g] [k:dF w1 w2 W] [f:ji w1 w2 g]:dF w1 w2 W':=⟨fun j h1 h2=>(b.out.2 j (mU k h1 h2) (by have:=f.out;omega) (by simp)).trans (k.out j h1 h2)⟩
instance {α:Type} {d:Kd α} {e c:Nat} {A:Option Addr} {xs:List α} [b:Kb W W' g] [q:St w0 W g s i h] [k:At d e w1 W A c xs] [m:bS d e 132]:At d e w1 W' A c xs:=
  ⟨Kd.cJ (Kd.lQ (aZ.apart q.out k.out m.out) (fun j hj hl=>b.out.2 j hl hj.2 (by simp))) (fun _ _=>trivial)⟩
instance [b:Kb W W' g] [k:Sz w W]:Sz w W':=⟨Nat.le_trans k.out b.out.1⟩
instance:cH w w g:=⟨a8.refl w g none⟩
instance [k:cH w W g]:cH w (W.alloc o) g:=⟨kj k.out o⟩
instance [k:cH w W g]:cH w W.drew g:=⟨k.out⟩
instance [k:cH w W g]:cH w (W.drewN n) g:=⟨k.out⟩
instance [b:aw W W'] [k:cH w W g]:cH w W' g:=⟨k.out.trans (a8.ko (row:=none) b.out g) (.inl rfl)⟩
instance [b:eU W W'] [k:cH w W g]:cH w W' g:=⟨k.out.trans (a8.ko (row:=none) b.out g) (.inl rfl)⟩
instance [b:Kb W W' g] [k:cH w W g]:cH w W' g:=⟨k.out.trans b.out (.inl rfl)⟩
instance [k:cH w W g] [m:Nw w g']:cH w (W.setCell ⟨g',j,none⟩ v) g:=⟨pF (p:=⟨g',j,none⟩) k.out m.out v⟩
theorem vN {e c n:Nat} {A:Option Addr} {xs:List Int} [r:dI (Kd.int .i64) e w1 w2 A c xs] [k:St w0 w1 g s i h]:∀ad,A=some ad→0<n→ad.block≠g:=by
  rintro ad rfl _;have h1:=nh r;have h2:=k.out.lt;omega
theorem di {α:Type} {d:Kd α} {e c n:Nat} {A:Option Addr} {xs:List α} [h:dI d e w1 w2 A c xs] [k:dF w1 w2 W] [l:Sz w w1] (hn:n=xs.length:=by rfl):d.R e W w.heap.size (fun _=>True) (.slice A n c) xs:=by rw[hn];exact Kd.dg (ni (h:=h) (k:=k)) l.out
end
end V
namespace V
open Go.RowKit WW.bk WW.b_
section
variable {gC:Nat} {P:Program} {ops:Array Oper} {Q:Exit→Act→World→Prop} {T:Bool×List (List Nat×List Nat)} {B:List Nat} {oi:Oper} {v:Value} {fuel:Nat} {l l':Array Bool} {ds:List Nat} {a a':Act} {w w1 w3:World}
abbrev Sk (w3:World) (gC:Nat):World→Prop:=fun w'=>a8 w3 w' gC none
theorem kR {id n:Nat} (hT:a6 .any ops=T) (hB:bT T.2 B=true) (h:ae (a6 .any ops=T)→ae (bT T.2 B=true)→∀w3,aw w w3→∀u,aw w3 u→Sk w3 gC u→bt P .any ops Q (Sk w3 gC) ds n l a u)
    (hn:ops.size=n:=by rfl) (hl:Array.replicate n false=l:=by rfl) (hm:P.follows .mixedOrders=true:=by kernel_rfl):(Code.region id ops true).wp P Q a w:=
  fB (S:=Sk w gC) (ds:=ds) l hm hn hl (show a8 w w.drew gC none from a8.refl w gC none) fun hS=>h ⟨hT⟩ ⟨hB⟩ w ⟨Below.refl _ _⟩ w.drew ⟨cg (Below.refl _ _)⟩ hS
theorem kA (i:Nat) (N:Option Tmp) (u:ae (a6 .any ops=T)) (h:bt P .any ops Q (Sk w3 gC) ds fuel l' a' w) (hi:ops[i]? =some oi:=by rfl) (hN:oi.dst=N:=by rfl)
    (hl:l.setIfInBounds i true=l':=by simp only[List.setIfInBounds_toArray,List.set_cons_zero,List.set_cons_succ];rfl) (hc:lR T l.toList l'.toList i=true:=by kernel_rfl)
    (hQ:∀c a w,Q (.panic c) (a.put oi.dst v) w→Q (.panic c) a w:=by exact fun _ _ _ h=>h) (hw:Region.wanted oi (yielded ops a.tmps)=true:=by rfl)
    (hy:∀w',(execOp a.eval oi).run P w'= .ok (.value v) w':=by intro w';go_simp;with_reducible rfl) (ha:a.put N v=a':=by simp only[Act.put,List.setIfInBounds_toArray,List.set_cons_zero,List.set_cons_succ,cd,ct];rfl):
    bt P .any ops Q (Sk w3 gC) ds (fuel+1) l a w:=oy l' hi hN (nQ u.out hc) hQ (Or.inl ⟨hw,hy⟩) ha h
theorem kT (i:Nat) (N:Option Tmp) (u:ae (a6 .any ops=T)) (HW:ae (bT T.2 B=true)) (hS:Sk w3 gC w) (h:bt P .any ops Q (Sk w3 gC) ds fuel l' a' w) (hi:ops[i]? =some oi:=by rfl) (hN:oi.dst=N:=by rfl)
    (hl:l.setIfInBounds i true=l':=by simp only[List.setIfInBounds_toArray,List.set_cons_zero,List.set_cons_succ];rfl) (hc:nw T B ds l.toList l'.toList i=true:=by kernel_rfl)
    (hQ:∀c a w,Q (.panic c) (a.put oi.dst v) w→Q (.panic c) a w:=by exact fun _ _ _ h=>h) (hw:Region.wanted oi (yielded ops a.tmps)=true:=by rfl)
    (hy:∀w',Kb w3 w' gC→(execOp a.eval oi).run P w'= .ok (.value v) w':=by intro w' jS;go_simp;with_reducible rfl) (ha:a.put N v=a':=by simp only[Act.put,List.setIfInBounds_toArray,List.set_cons_zero,List.set_cons_succ,cd,ct];rfl):
    bt P .any ops Q (Sk w3 gC) ds (fuel+1) l a w:=nx l' hi hN (qf u.out HW.out hc) hQ (Or.inl ⟨hw,fun w' hS=>hy w' ⟨hS⟩⟩) hS ha h
theorem kL (i:Nat) (u:ae (a6 .any ops=T)) (h:bt P .any ops Q (Sk w3 gC) ds fuel l' a w1) (hi:ops[i]? =some oi:=by rfl) (hN:oi.dst=none:=by rfl)
    (hl:l.setIfInBounds i true=l':=by simp only[List.setIfInBounds_toArray,List.set_cons_zero,List.set_cons_succ];rfl) (hc:(e8 T.2 l.toList==[i]&&l.toList.set i true==l'.toList)=true:=by kernel_rfl) (hd:i∈ds:=by decide) (hw:Region.wanted oi (yielded ops a.tmps)=true:=by rfl)
    (hr:(execOp a.eval oi).run P w= .ok .skip w1:=by go_simp;rfl):
    bt P .any ops Q (Sk w3 gC) ds (fuel+1) l a w:=oq l' hi hN (dn u.out hc) hd fun K hK=>mh hw hN hr (hK.out _ _ h)
theorem kC {f:FuncId} {args:Array Value} {xs:Array Operand} {ts:Array TypeId} (i N:Nat) {fn:Func} (hf:P.funcs[f]? =some fn) (u:ae (a6 .any ops=T)) (h:∀K:Act→World→Prop,(∀a' w',Sk w3 gC w'→(Sk w3 gC w'→bt P .any ops Q (Sk w3 gC) ds fuel l' a' w')→K a' w')→Calls P f args w fun e w'=>∃v,e= .returned v∧K (a.put (some N) v) w') (hi:ops[i]? =some oi:=by rfl) (hN:oi.dst=some N:=by rfl)
    (hl:l.setIfInBounds i true=l':=by simp only[List.setIfInBounds_toArray,List.set_cons_zero,List.set_cons_succ];rfl) (hc:(e8 T.2 l.toList==[i]&&l.toList.set i true==l'.toList)=true:=by kernel_rfl) (hd:i∉ds:=by decide) (hw:Region.wanted oi (yielded ops a.tmps)=true:=by rfl)
    (hop:oi.op= .call {callee:= .value (.func f),args:=xs,argTypes:=ts}:=by rfl) (hname:(fn.name== "runtime.NumGoroutine")=false:=by kernel_rfl) (hb:fn.body.isSome=true:=by rfl)
    (hargs:xs.map a.eval=args:=by(try simp only[List.map_toArray,List.map_cons,List.map_nil]);first|done|rfl):
    bt P .any ops Q (Sk w3 gC) ds (fuel+1) l a w:=dO l' hi hN (dn u.out hc) hd fun K hK=>df hf hname hb args hw hN hop hargs (h K (fun a' w' h1 h2=>hK.out a' w' h1 h2))
theorem kN (h:bt P .any ops Q (Sk w3 gC) ds fuel l a' w) (ha:a=a':=by show Act.put _ (some _) _=_;simp only[Act.put,List.setIfInBounds_toArray,List.set_cons_zero,List.set_cons_succ,cd,ct];rfl):bt P .any ops Q (Sk w3 gC) ds fuel l a w:=dX ha h
theorem kD (u:ae (a6 .any ops=T)) (h:Q .normal a w) (hr:(e8 T.2 l.toList==[])=true:=by kernel_rfl):bt P .any ops Q (Sk w3 gC) ds fuel l a w:=eW (fp u.out hr) h
section
variable {α:Type} {xs ys:List α} {inner:List Value} {K:Act→World→Prop} {N:Nat}
end
end
end V
namespace P
set_option maxHeartbeats 8000000
set_option maxRecDepth 100000
set_option synthInstance.maxHeartbeats 400000
set_option synthInstance.maxSize 100000
open Go.RowKit WW.bk WW.b_ WW.b6 V
attribute [local go_sem] dC dD gl iD iE iO iP
attribute [local go_sem] cR cV cU cY cT cX cS cW
def kE.f (D:List Int) (F:Int) (G:Int):Option (Int×Int×Int×Int):=(cf.f D F G 2).bind fun u=>((cf.f D u.2.1 u.2.2 6).bind fun z=>(some (u.1,z.1,z.2.1,z.2.2)))
theorem kE.c (g:Nat) (z:List Int) (F:Int) (G:Int) (r1:Int) (r2:Int) (r3:Int) (D:Int) (w0 w:World) (hI:aZ w0 w g z F G) (hB:Below w0.heap.size w0 w) (h:kE.f z F G=some (r1,r2,r3,D)):
  Calls Tryz.prog 138 #[.pointer (some ⟨g,0,none⟩)] w fun e w'=>e= .returned (.agg #[.int .i64 r1,.int .i64 r2])∧aZ w0 w' g z r3 D∧Below w0.heap.size w0 w'∧a8 w w' g none:=by
 replace hI:=St.mk hI;have iS:Sz w0 w:=⟨hB.size⟩;replace hB:=From.mk hB;have Y:=iC.mk (e:=74) (t:=132) (by decide);unfold kE.f at h;have K:=Tryz.underlying74
 all_goals go_enter Tryz.func138,Tryz.ntmps138
 all_goals go_wp2_with ((first
  |((with_reducible refine aJ (N:=2) rfl ?_);refine kS rfl (N:=2) rfl (cs:= #[.int .i64 0,.int .i64 0]) (t:=74) (by first|(go_simp;done)|(go_simp;rfl)) ?_;intro J hg w1 hk hb;have j1:=fC.mk hg;have j2:=aw.mk hb;have O:=aQ.mk hk;clear hg hb hk)
  |(go_at_call 75;(try rw[u.out]);replace h:=bI h;obtain⟨⟨t1,t2,t3⟩,A,h⟩:=h;(try dsimp only at h);refine(cf.c _ _ _ _ _ _ _ _ _ _ St.out From.out A).mono ?_;rintro e w2 ⟨rfl,hs,hb0,hk⟩;have X:=St.mk hs;have U:=From.mk hb0;have V:=Kb.mk hk;clear A hs hb0 hk));(repeat' first|((with_reducible replace h:=bq h);rcases h with ⟨hc,h⟩|⟨hc,h⟩<;>first|exact(bh h).elim|exact absurd hc (by decide)|subst hc|(replace hc:=aD hc;subst hc)|(replace hc:=bH hc;subst hc)|(replace hc:=bJ hc;subst hc)|(have hd:(_==_)=true:=hc)|(have hd:(_==_)=false:=aD hc)|(have hd:=aV hc;have he:=aW hc;clear hc)|(have hd:=bo hc;have he:=bp hc)|(have hd:=ay hc)|(have hd:=ag hc;(try(have hn:=Int.natCast_pos.mp hc;have hm:=ag hn;replace hn:=ax hn));first|(obtain⟨I,e_,i_⟩:=cQ (by assumption) (by first|assumption|decide) hc;cases e_)|(obtain⟨H,e_,c_⟩:=bE (by assumption) (by first|assumption|decide) hc;cases e_))|(have hd:=ag hc)|skip)|((with_reducible replace h:=bF h);obtain⟨u,h⟩:=h;replace u:=A_ u;(try dsimp only at h))))
 all_goals simp only[Option.some.injEq,Prod.mk.injEq]at h
 all_goals obtain⟨rfl,rfl,rfl,rfl⟩:=h
 all_goals refine bodyPost_ret (results_cell_row rfl _ _ _ _ _ (0,0) _ rfl aQ.out Tryz.underlying74 rfl (by kernel_rfl)) rfl ?_
 all_goals exact⟨(by first|rfl|(simp_all;done)),St.out,From.out,cH.out⟩
def lF.f (z:List Int) (O:Int) (U:Int):Option (Int×Int×Int×Int×Int×Int):=(cf.f z O U 12).bind fun u=>(if u.1=0 then((cf.f z u.2.1 u.2.2 40).bind fun D=>(some (2,wrap64 (D.1-5),0,0,D.2.1,D.2.2)))else(if u.1=1 then((jO.f z u.2.1 u.2.2 (([0,0,1]:List Int))).bind fun F=>((cf.f z F.2.1 F.2.2 6).bind fun G=>((cf.f z G.2.1 G.2.2 3).bind fun H=>(some (3,F.1,G.1,H.1,H.2.1,H.2.2)))))else(if u.1=2 then((cf.f z u.2.1 u.2.2 12).bind fun I=>((cf.f z I.2.1 I.2.2 2001).bind fun J=>(some (4,I.1,wrap64 (J.1-1000),0,J.2.1,J.2.2))))else(if u.1=3 then(some (5,0,0,0,u.2.1,u.2.2))else(if u.1=4 then(some (6,0,0,0,u.2.1,u.2.2))else(if u.1=5 then((cf.f z u.2.1 u.2.2 12).bind fun K=>(some (7,K.1,0,0,K.2.1,K.2.2)))else(some (1,0,0,0,u.2.1,u.2.2))))))))
theorem lF.c (g:Nat) (z:List Int) (H:Int) (I:Int) (r1:Int) (r2:Int) (r3:Int) (D:Int) (F:Int) (G:Int) (w0 w:World) (hI:aZ w0 w g z H I) (hB:Below w0.heap.size w0 w) (h:lF.f z H I=some (r1,r2,r3,D,F,G)):
  Calls Tryz.prog 118 #[.pointer (some ⟨g,0,none⟩)] w fun e w'=>e= .returned (.agg #[.int .i64 r1,.int .i64 r2,.int .i64 r3,.int .i64 D])∧aZ w0 w' g z F G∧Below w0.heap.size w0 w'∧a8 w w' g none:=by
 replace hI:=St.mk hI;have iS:Sz w0 w:=⟨hB.size⟩;replace hB:=From.mk hB;have al:=iC.mk (e:=41) (t:=132) (by decide);unfold lF.f at h;have ah:=Tryz.underlying41
 all_goals go_enter Tryz.func118,Tryz.ntmps118
 all_goals go_wp2_with ((first
  |((with_reducible refine aJ (N:=2) rfl ?_);refine kS rfl (N:=2) rfl (cs:= #[.int .i64 0,.int .i64 0,.int .i64 0,.int .i64 0]) (t:=41) (by first|(go_simp;done)|(go_simp;rfl)) ?_;intro af hg w1 hk hb;have j1:=fC.mk hg;have j2:=aw.mk hb;have ai:=aQ.mk hk;clear hg hb hk)
  |(go_at_call 75;(try rw[u.out]);replace h:=bI h;obtain⟨⟨t1,t2,t3⟩,A,h⟩:=h;(try dsimp only at h);refine(cf.c _ _ _ _ _ _ _ _ _ _ St.out From.out A).mono ?_;rintro e w2 ⟨rfl,hs,hb0,hk⟩;have X:=St.mk hs;have U:=From.mk hb0;have V:=Kb.mk hk;clear A hs hb0 hk)
  |(go_at_call 139;(try rw[u.out]);replace h:=bI h;obtain⟨⟨t1,t2,t3⟩,A,h⟩:=h;(try dsimp only at h);refine(jO.c _ _ _ _ _ _ _ _ _ _ _ _ St.out From.out Rd.out aj.out vN A).mono ?_;rintro e w2 ⟨rfl,hs,hb0,hk⟩;have X:=St.mk hs;have U:=From.mk hb0;have V:=Kb.mk hk;clear A hs hb0 hk)
  |((with_reducible refine aJ (N:=14) rfl ?_);refine Kd.fE (Kd.int .i64) _ 3 ?hg (N:=14) ?hd (xs:=([0,0,1]:List Int)) (inner:=[.int .i64 0,.int .i64 0,.int .i64 1]) (ok:=fun _=>True) (bN:=fun _=>True) ?hr ?hp (fun _ hk=>hk) trivial (Below.refl _ _) (Nat.le_refl _) (by simp) ?_;(case hd=>rfl);(case hg=>rfl);(case hr=>first|(go_simp;done)|(go_simp;rfl));(case hp=>exact(aY.one (show Kd.M (Kd.int .i64) _ _ _ 0 [.int .i64 0]from rfl) (aY.one (show Kd.M (Kd.int .i64) _ _ _ 0 [.int .i64 0]from rfl) (aY.one (show Kd.M (Kd.int .i64) _ _ _ 1 [.int .i64 1]from rfl) (aY.none _ _)))));intro v5 am ho hb J K;obtain⟨Y,c5,rfl⟩:=Kd.dz ho;have O:=dI.mk ho;have q5:=aj.mk (ky O);have ak:=aw.mk hb;clear J K ho hb));(repeat' first|((with_reducible replace h:=bq h);rcases h with ⟨hc,h⟩|⟨hc,h⟩<;>first|exact(bh h).elim|exact absurd hc (by decide)|subst hc|(replace hc:=aD hc;subst hc)|(replace hc:=bH hc;subst hc)|(replace hc:=bJ hc;subst hc)|(have hd:(_==_)=true:=hc)|(have hd:(_==_)=false:=aD hc)|(have hd:=aV hc;have he:=aW hc;clear hc)|(have hd:=bo hc;have he:=bp hc)|(have hd:=ay hc)|(have hd:=ag hc;(try(have hn:=Int.natCast_pos.mp hc;have hm:=ag hn;replace hn:=ax hn));first|(obtain⟨ad,e_,i_⟩:=cQ (by assumption) (by first|assumption|decide) hc;cases e_)|(obtain⟨Z,e_,c_⟩:=bE (by assumption) (by first|assumption|decide) hc;cases e_))|(have hd:=ag hc)|skip)|((with_reducible replace h:=bF h);obtain⟨u,h⟩:=h;replace u:=A_ u;(try dsimp only at h))))
 all_goals simp only[Option.some.injEq,Prod.mk.injEq]at h
 all_goals obtain⟨rfl,rfl,rfl,rfl,rfl,rfl⟩:=h
 all_goals refine bodyPost_ret (results_cell_row rfl _ _ _ _ _ (0,0) _ rfl aQ.out Tryz.underlying41 rfl (by kernel_rfl)) rfl ?_
 all_goals exact⟨(by first|rfl|(simp_all;done)),St.out,From.out,cH.out⟩
end P
namespace P
set_option maxHeartbeats 8000000
set_option maxRecDepth 100000
set_option synthInstance.maxHeartbeats 400000
set_option synthInstance.maxSize 100000
open Go.RowKit WW.bk WW.b_ WW.b6 V
attribute [local go_sem] dC dD
attribute [local go_sem] cR cV cU cY cT cX cS cW
def iY.f (k:Nat) (a0:Int) (l1:List (ai)):Option ((List (ai))×Int×List Int×Int×Int×(List (ah))×Bool):=(fT.f k a0 l1).bind fun u=>(if u.2.2.2=true then(some (u.1,u.2.1,u.2.2.1,15,0,([]:List (ah)),true))else(some (([]:List (ai)),0,([]:List Int),0,0,([]:List (ah)),false)))
theorem iY.c (k:Nat) (a0:Int) (u:Option Addr) (c1:Nat) (l1:List (ai)) (r1:List (ai)) (r2:Int) (r3:List Int) (F:Int) (G:Int) (H:List (ah)) (I:Bool) (w:World) (hr1:Kd.C aU w u l1.length l1) (hc1:l1.length≤c1) (h:iY.f k a0 l1=some (r1,r2,r3,F,G,H,I)):
  Calls Tryz.prog 135 #[.int .i64 a0,.slice u l1.length c1] w fun e w'=>∃J K O:Value,e= .returned (.tuple #[.agg #[J,.int .i64 r2,K,.int .i64 F,.int .i64 G,O],.bool I])∧Kd.R aU 112 w' w.heap.size (fun _=>True) J r1∧Kd.R (Kd.int .i64) 3 w' w.heap.size (fun _=>True) K r3∧Kd.R aT 104 w' w.heap.size (fun _=>True) O H∧Below w.heap.size w w':=by
 replace hr1:=aM.mk hr1;replace hc1:=aj.mk hc1;unfold iY.f at h;have X:=Tryz.underlying34;have Y:=Tryz.underlying37
 all_goals go_enter Tryz.func135,Tryz.ntmps135
 all_goals go_wp2_with ((first
  |((with_reducible refine aJ (N:=4) rfl ?_);refine bV #[.slice none 0 0,.int .i64 0,.slice none 0 0,.int .i64 0,.int .i64 0,.slice none 0 0] 37 fun g w1 j1 j2 U=> ?_)
  |((with_reducible refine aJ (N:=6) rfl ?_);refine bV #[.slice none 0 0,.int .i64 0,.slice none 0 0] 34 fun g w1 j1 j2 U=> ?_)
  |(go_at_call 144;replace h:=bI h;obtain⟨⟨t1,t2,t3,t4⟩,A,h⟩:=h;(try dsimp only at h);refine(fT.c _ _ _ _ _ _ _ _ _ _ Rd.out aj.out A).mono ?_;rintro e w2 ⟨v0,v1,rfl,z,D,hb⟩;obtain⟨V,b0,rfl,j0,q0⟩:=aH z;obtain⟨B1,b1,rfl,j1,q1⟩:=aH D;have Z:=aw.mk hb;clear A z D hb));(repeat' first|((with_reducible replace h:=bq h);rcases h with ⟨hc,h⟩|⟨hc,h⟩<;>first|exact(bh h).elim|exact absurd hc (by decide)|subst hc|(replace hc:=aD hc;subst hc)|(have hd:=aV hc;have he:=aW hc;clear hc)|(have hd:=bo hc;have he:=bp hc)|(have hd:=ay hc)|(have hd:=ag hc)|skip)))
 all_goals simp only[Option.some.injEq,Prod.mk.injEq]at h
 all_goals obtain⟨rfl,rfl,rfl,rfl,rfl,rfl,rfl⟩:=h
 all_goals refine bodyPost_ret (eu rfl _ _ _ _ _ (0,0) _ rfl aQ.out Tryz.underlying37 rfl (by kernel_rfl)) rfl ?_
 all_goals exact⟨_,_,_,rfl,(by first|exact bj|exact Kd.bl _ _ _ _ _),(by first|exact bj|exact Kd.bl _ _ _ _ _),(by first|exact bj|exact Kd.bl _ _ _ _ _),From.out⟩
def lD.f (k:Nat):Option ((List (ai))×Int×List Int×Int×Int×(List (ah))):=(ew.f k 700).bind fun z=>((iY.f k 264000 z).bind fun u=>(some (u.1,u.2.1,u.2.2.1,u.2.2.2.1,u.2.2.2.2.1,u.2.2.2.2.2.1)))
theorem lD.c (k:Nat)  (r1:List (ai)) (r2:Int) (r3:List Int) (F:Int) (G:Int) (H:List (ah)) (w:World) (h:lD.f k=some (r1,r2,r3,F,G,H)):
  Calls Tryz.prog 116 #[] w fun e w'=>∃I J K:Value,e= .returned (.agg #[I,.int .i64 r2,J,.int .i64 F,.int .i64 G,K])∧Kd.R aU 112 w' w.heap.size (fun _=>True) I r1∧Kd.R (Kd.int .i64) 3 w' w.heap.size (fun _=>True) J r3∧Kd.R aT 104 w' w.heap.size (fun _=>True) K H∧Below w.heap.size w w':=by
 unfold lD.f at h;have X:=Tryz.underlying37
 all_goals go_enter Tryz.func116,Tryz.ntmps116
 all_goals go_wp2_with ((first
  |((with_reducible refine aJ (N:=0) rfl ?_);refine bV #[.slice none 0 0,.int .i64 0,.slice none 0 0,.int .i64 0,.int .i64 0,.slice none 0 0] 37 fun g w1 j1 j2 U=> ?_)
  |((with_reducible refine aJ (N:=1) rfl ?_);refine bV #[.slice none 0 0,.int .i64 0,.slice none 0 0,.int .i64 0,.int .i64 0,.slice none 0 0] 37 fun g w1 j1 j2 U=> ?_)
  |(go_at_call 136;replace h:=bI h;obtain⟨t,A,h⟩:=h;(try dsimp only at h);refine(ew.c _ _ _ _ A).mono ?_;rintro e w2 ⟨v0,rfl,u,hb⟩;obtain⟨O,b0,rfl,j0,q0⟩:=aH u;have V:=aw.mk hb;clear A u hb)
  |(go_at_call 135;replace h:=bI h;obtain⟨⟨t1,t2,t3,t4,t5,t6,t7⟩,A,h⟩:=h;(try dsimp only at h);refine(iY.c _ _ _ _ _ _ _ _ _ _ _ _ _ Rd.out aj.out A).mono ?_;rintro e w2 ⟨v0,v1,v2,rfl,u,z,D,hb⟩;obtain⟨O,b0,rfl,j0,q0⟩:=aH u;obtain⟨B1,b1,rfl,j1,q1⟩:=aH z;obtain⟨B2,b2,rfl,j2,q2⟩:=aH D;have V:=aw.mk hb;clear A u z D hb));(repeat' first|((with_reducible replace h:=bq h);rcases h with ⟨hc,h⟩|⟨hc,h⟩<;>first|exact(bh h).elim|exact absurd hc (by decide)|subst hc|(replace hc:=aD hc;subst hc)|(have hd:=aV hc;have he:=aW hc;clear hc)|(have hd:=bo hc;have he:=bp hc)|(have hd:=ay hc)|(have hd:=ag hc)|skip));all_goals(try have hn:decide (0<t.length)=true:=ag (by omega));all_goals(try have hn:decide (0<t.length)=false:=ay (by omega)))
 all_goals simp only[Option.some.injEq,Prod.mk.injEq]at h
 all_goals obtain⟨rfl,rfl,rfl,rfl,rfl,rfl⟩:=h
 all_goals refine bodyPost_ret (results_cell_row rfl _ _ _ _ _ (0,0) _ rfl aQ.out Tryz.underlying37 rfl (by kernel_rfl)) rfl ?_
 all_goals exact⟨_,_,_,rfl,(by first|exact bj|exact Kd.bl _ _ _ _ _),(by first|exact bj|exact Kd.bl _ _ _ _ _),(by first|exact bj|exact Kd.bl _ _ _ _ _),From.out⟩
end P
namespace Q
open Go.RowKit P WW.bk WW.b6
def gg (x:Int) (p:List ai):List ai×Int×List Int×Int×Int×List ah×Bool:=
  if(jD x p).2.2.2=true then((jD x p).1,(jD x p).2.1,(jD x p).2.2.1,15,0,[],true)else([],0,[],0,0,[],false)
theorem r_ (x:Int) (p:List ai):Ev (fun k=>iY.f k x p) (gg x p):=by
  unfold iY.f gg;refine Ev.bind (xg x p) ?_;by_cases h:(jD x p).2.2.2=true
  · exact bK h<|ar h (Ev.now _)
  · exact br h<|aI h (Ev.now _)
def sX:List ai×Int×List Int×Int×Int×List ah:=((gg 264000 (gW 700)).1,(gg 264000 (gW 700)).2.1,(gg 264000 (gW 700)).2.2.1,(gg 264000 (gW 700)).2.2.2.1,(gg 264000 (gW 700)).2.2.2.2.1,(gg 264000 (gW 700)).2.2.2.2.2.1)
theorem yu:Ev (fun k=>lD.f k) sX:=by
  unfold lD.f;exact Ev.bind (tH 700) (Ev.bind (r_ 264000 _) (Ev.now _))
theorem wz (a:Int):eZ.f a=some (decide (-10≤a∧a≤40)):=by
  unfold eZ.f;rw[gX];rfl
def eV (n a b c:Int):Bool:=
  if n=1∨n=5∨n=6 then decide (a=0∧b=0∧c=0)
  else if n=2 then decide ((-10≤a∧a≤40)∧b=0∧c=0)
  else if n=3 then decide ((0≤a∧a≤3)∧(0≤b∧b≤39)∧(0≤c∧c≤2))
  else if n=4 then decide ((0≤a∧a≤11)∧(-100000≤b∧b≤100000)∧c=0)
  else if n=7 then decide ((0≤a∧a≤11)∧b=0∧c=0)else false
theorem uT (n a b c:Int):Ev (fun k=>fI.f k n a b c) (eV n a b c):=by
  have J:∀x:Bool,x=decide (n=1∨n=5∨n=6)→Ev (fun k=>fI.j0 k n x n a b c) (eV n a b c):=by
    intro x hx;refine Ev.step (fun k=>by rw[fI.j0]) ?_;unfold eV;by_cases h:n=1∨n=5∨n=6
    · refine ar (by simp[hx,h]) (evs ?_);rw[aq h,Bool.eq_iff_iff];simp
    rw[au h];refine aI (by simp[hx,h]) ?_;by_cases h2:n=2
    · refine ar h2 ?_;rw[aq h2];by_cases hz:b=0∧c=0
      · refine ar (by simp[hz]) (aX (wz _) (evs ?_));simp[hz]
      · refine aI (by simpa using hz) (evs ?_);rw[Bool.eq_iff_iff];simp;intros;omega
    refine aI h2 ?_;rw[au h2];by_cases h3:n=3
    · refine ar h3 ?_;rw[aq h3];refine aX (gX _ _ _) ?_;by_cases p1:0≤a∧a≤3;rotate_left
      · exact aI (by simpa using p1) (evs (by simp[p1]))
      refine ar (by simpa using p1) (aX (gX _ _ _) ?_);by_cases p2:0≤b∧b≤39;rotate_left
      · exact aI (by simpa using p2) (evs (by simp[p2]))
      refine ar (by simpa using p2) (aX (gX _ _ _) (evs ?_));simp[p1,p2]
    refine aI h3 ?_;rw[au h3];by_cases h4:n=4
    · refine ar h4 ?_;rw[aq h4];by_cases p0:c=0;rotate_left
      · exact aI (by simpa using p0) (evs (by simp[p0]))
      refine ar (by simpa using p0) (aX (gX _ _ _) ?_);by_cases p1:0≤a∧a≤11;rotate_left
      · exact aI (by simpa using p1) (evs (by simp[p1]))
      refine ar (by simpa using p1) (aX (gX _ _ _) (evs ?_));simp[p0,p1]
    refine aI h4 ?_;rw[au h4];by_cases h7:n=7
    · refine ar h7 ?_;rw[aq h7];by_cases hz:b=0∧c=0
      · refine ar (by simp[hz]) (aX (gX _ _ _) (evs ?_));simp[hz]
      · refine aI (by simpa using hz) (evs ?_);rw[Bool.eq_iff_iff];simp;intros;omega
    refine aI h7 ?_;rw[au h7];exact Ev.now _
  unfold fI.f;refine n7 (fun h=>J _ (by simp[h])) (fun h=>n7 (fun h5=>J _ (by simp[h5])) (fun h5=>J _ ?_));rw[Bool.eq_iff_iff];simp[h,h5]
theorem uV (n a b c:Int):Ev (fun k=>fJ.f k n a b c) (eV n a b c):=by
  have Z:∀(p:Prop) [Decidable p],p→Ev (fun _=>if b=0 then some (c==0)else some false) (decide (p∧b=0∧c=0)):=by
    intro p _ hp;by_cases hb:b=0
    · refine ar hb (evs ?_);rw[Bool.eq_iff_iff];simp[hp,hb]
    · refine aI hb (evs ?_);simp[hb]
  have J:∀x:Bool,x=decide (n=1∨n=5∨n=6)→Ev (fun k=>fJ.j0 k n x n a b c) (eV n a b c):=by
    intro x hx;refine Ev.step (fun k=>by rw[fJ.j0]) ?_;unfold eV;by_cases h:n=1∨n=5∨n=6
    · rw[aq h];refine ar (by simp[hx,h]) ?_;by_cases ha:a=0
      · exact ar ha (Z (a=0) ha)
      · exact aI ha (evs (by simp[ha]))
    rw[au h];refine aI (by simp[hx,h]) ?_;by_cases h2:n=2
    · refine ar h2 ?_;rw[aq h2];refine aX (fQ _ _ _) ?_;by_cases p1: -10≤a∧a≤40
      · exact ar (by simpa using p1) (Z _ p1)
      · exact aI (by simpa using p1) (evs (by simp[p1]))
    refine aI h2 ?_;rw[au h2];by_cases h3:n=3
    · refine ar h3 ?_;rw[aq h3];refine aX (fQ _ _ _) ?_;by_cases p1:0≤a∧a≤3;rotate_left
      · exact aI (by simpa using p1) (evs (by simp[p1]))
      refine ar (by simpa using p1) (aX (fQ _ _ _) ?_);by_cases p2:0≤b∧b≤39;rotate_left
      · exact aI (by simpa using p2) (evs (by simp[p2]))
      refine ar (by simpa using p2) (aX (fQ _ _ _) (evs ?_));simp[p1,p2]
    refine aI h3 ?_;rw[au h3];by_cases h4:n=4
    · refine ar h4 ?_;rw[aq h4];refine aX (fQ _ _ _) ?_;by_cases p1:0≤a∧a≤11;rotate_left
      · exact aI (by simpa using p1) (evs (by simp[p1]))
      refine ar (by simpa using p1) (aX (fQ _ _ _) ?_);by_cases p2: -100000≤b∧b≤100000
      · refine ar (by simpa using p2) (evs ?_);rw[Bool.eq_iff_iff];simp[p1,p2]
      · refine aI (by simpa using p2) (evs ?_);simp[p2]
    refine aI h4 ?_;rw[au h4];by_cases h7:n=7
    · refine ar h7 ?_;rw[aq h7];refine aX (fQ _ _ _) ?_;by_cases p1:0≤a∧a≤11
      · exact ar (by simpa using p1) (Z _ p1)
      · exact aI (by simpa using p1) (evs (by simp[p1]))
    refine aI h7 ?_;rw[au h7];exact Ev.now _
  unfold fJ.f;refine n7 (fun h=>J _ (by simp[h])) (fun h=>n7 (fun h5=>J _ (by simp[h5])) (fun h5=>J _ ?_));rw[Bool.eq_iff_iff];simp[h,h5]
theorem uU {n a b c:Int} (h:eV n a b c=true):1≤n∧n≤7:=by
  unfold eV at h;by_cases h1:n=1∨n=5∨n=6
  · omega
  rw[au h1]at h;by_cases h2:n=2
  · omega
  rw[au h2]at h;by_cases h3:n=3
  · omega
  rw[au h3]at h;by_cases h4:n=4
  · omega
  rw[au h4]at h;by_cases h7:n=7
  · omega
  rw[au h7]at h;cases h
end Q
namespace P
set_option maxHeartbeats 8000000
set_option maxRecDepth 100000
open Go.RowKit WW.bk WW.b_ WW.b6
attribute [local go_sem] cR cV cU cY cT cX cS cW
def fA.l0:Nat→List (dh)→Int→Int→List Int→Int→Int→Option ((List (dh))×Int×Int)
 |0,_,_,_,_,_,_=>none
 |k+1,x3,G,H,z,D,F=>if H<G then((lF.f z D F).bind fun u=>(if x3.length<4398046511104 then(fA.l0 k (x3++[(⟨u.1,u.2.1,u.2.2.1,u.2.2.2.1⟩:dh)]) G (wrap64 (H+1)) z u.2.2.2.2.1 u.2.2.2.2.2)else(none)))else(some (x3,D,F))
def fA.f (k:Nat) (z:List Int) (D:Int) (F:Int):Option ((List (dh))×Int×Int):=(cf.f z D F 26).bind fun u=>(fA.l0 k (([]:List (dh))) u.1 0 z u.2.1 u.2.2)
theorem fA.c (k:Nat) (g:Nat) (D:List Int) (ai:Int) (aj:Int) (r1:List (dh)) (r2:Int) (r3:Int) (w0 w:World) (hI:aZ w0 w g D ai aj) (hB:Below w0.heap.size w0 w) (h:fA.f k D ai aj=some (r1,r2,r3)):
  Calls Tryz.prog 74 #[.pointer (some ⟨g,0,none⟩)] w fun e w'=>∃a2:Value,e= .returned (a2)∧Kd.R gR 41 w' w.heap.size (fun _=>True) a2 r1∧aZ w0 w' g D r2 r3∧Below w0.heap.size w0 w'∧a8 w w' g none:=by
 have bB:=Tryz.underlying41;have u:=A_ hI;have HK:=A_ (a8.refl w g none);have a7:=A_ hB.size;clear hI;have a_:=A_ hB.size;have z:=A_ hB;clear hB;have H:((cf.f D ai aj 26).bind fun ah=>(fA.l0 k (([]:List (dh))) ah.1 0 D ah.2.1 ah.2.2))=some (r1,r2,r3):=h;clear h;obtain⟨a3,ar⟩:∃aH:List (dh),aH=(([]:List (dh))):=⟨_,rfl⟩;replace H:((cf.f D ai aj 26).bind fun ah=>(fA.l0 k a3 ah.1 0 D ah.2.1 ah.2.2))=some (r1,r2,r3):=by first|(rw[ar];with_reducible exact H)|(have af:=(aA _ _).symm.trans H;rw[ar];with_reducible exact af)|(have af:=(aA _ _).symm.trans H;with_reducible exact af)|with_reducible exact H|(rw[ar];exact H)|exact H
 have aQ:=A_ ar;clear ar;replace H:=az H;obtain⟨⟨ak,a0,a1⟩,aI,H⟩:=H
 (try dsimp only at H)
 have A2:=A_ aI;clear aI;have H':=A_ H;clear H;go_enter Tryz.func74,Tryz.ntmps74
 go_wp2_with (first|((with_reducible refine aJ (N:=7) rfl ?_);refine Kd.fE gR _ 41 ?hg (N:=7) ?hd (xs:=([]:List (dh))) (inner:=[]) (ok:=fun _=>True) (bN:=fun _=>True) ?hr ?hp (fun _ hk=>hk) trivial (Below.refl _ _) (Nat.le_refl _) (by simp) ?_;(case hd=>rfl);(case hg=>rfl);(case hr=>first|(go_simp;done)|(go_simp;rfl));(case hp=>exact(aY.none _ _));intro bD w3 ap hb bk bl;clear bk bl;(first|rw[←aQ.out]at ap|(simp only[Int.reduceToNat]at ap;rw[←aQ.out]at ap));have G:=A_ (Kd.dg ap (l4 (w:=w) (g:=g) (row:=none) (by repeat(first|(with_reducible first|exact HK.out|apply a8.kz|apply lh|apply lg|apply kj)|exact HK.out))));have I:=A_ (aZ.below (b7 u) hb);have J:=A_ (a8.trans (cB HK) (a8.ko hb g none) (.inl rfl));have K:=A_ (bn (cL z) hb);clear u HK z;have aE:=G;have u:=I;have HK:=J;have z:=K;clear G I J K hb ap)|((with_reducible refine bC (f:=75) rfl ?_);refine gL (some 9) Tryz.func75 #[.pointer (some ⟨g,0,none⟩),.int .i64 26] ?_;(with_reducible refine(cf.c g D ai aj 26 ak a0 a1 w0 _ ?bc ?bf A2.out).mono ?_);(case bc=>exact b7 u);(case bf=>exact cL z);rintro e bI ⟨rfl,hi,hb,hk⟩;refine⟨_,rfl,?_⟩;have G:=A_ (Kd.cJ (Kd.jl (aZ.apart (show aZ w0 _ g D ai aj from b7 u) (oR aE) (by decide)) hk (fun _ h=>h.2)) (fun _ h=>h.1));have I:=A_ (a8.trans (cB HK) hk (.inl rfl));have J:=A_ (hb);have K:=A_ (hi);clear aE HK z u;have aE:=G;have HK:=I;have z:=J;have u:=K;clear G I J K;(try clear hb);(try clear hb2);(try clear hk);(try clear hi)))
 go_loopg [3,5] k (fun aT v3 v5 w'=>∃(ao:List (dh)) (ad:Int) (aB:Int) (aD:Int),v5= .int .i64 ad∧ae (fA.l0 aT ao ak ad D aB aD=some (r1,r2,r3))∧ae (aT≤k)∧ae (Kd.R gR 41 w' w.heap.size (fun _=>True) v3 ao)∧ae (aZ w0 w' g D aB aD)∧ae (a8 w w' g none)∧ae (Below w0.heap.size w0 w'))
 case atStart=>exact⟨(a3),(0),(a0),(a1),eS,H',⟨Nat.le_refl _⟩,⟨oR aE⟩,⟨b7 u⟩,⟨cB HK⟩,⟨cL z⟩⟩
 case round=>
  clear H'
  try clear p2
  obtain⟨ao,ad,aB,aD,rfl,aG,aN,V,u,HK,z⟩:=hrel;cases gk with
  |zero=>exact absurd aG.out (by simp[fA.l0])
  |succ k1=>
   have H:=aG.out;clear aG;simp only[fA.l0]at H;by_cases c6:ad<ak
   ·rw[aq c6]at H;have bh:decide (ad<ak)=true:=ag c6;clear c6;replace H:=az H;obtain⟨⟨O,X,Y,Z,al,am⟩,aM,H⟩:=H
    (try dsimp only at H)
    have a5:=A_ aM;clear aM;by_cases c8:ao.length<4398046511104
    ·rw[aq c8]at H;have bb:=A_ c8;clear c8;obtain⟨a4,av⟩:∃aH:List (dh),aH=(ao++[(⟨O,X,Y,Z⟩:dh)]):=⟨_,rfl⟩;replace H:(fA.l0 k1 a4 ak (wrap64 (ad+1)) D al am)=some (r1,r2,r3):=by first|(rw[av];with_reducible exact H)|(have af:=(aA _ _).symm.trans H;rw[av];with_reducible exact af)|(have af:=(aA _ _).symm.trans H;with_reducible exact af)|with_reducible exact H|(rw[av];exact H)|exact H
     have bg:=A_ av;clear av;have H':=A_ H;clear H
     go_wp2_with (first|((with_reducible refine bC (f:=118) rfl ?_);refine gL (some 16) Tryz.func118 #[.pointer (some ⟨g,0,none⟩)] ?_;(with_reducible refine(lF.c g D aB aD O X Y Z al am w0 _ ?bc ?bf a5.out).mono ?_);(case bc=>exact b7 u);(case bf=>exact cL z);rintro e bJ ⟨rfl,hi,hb,hk⟩;refine⟨_,rfl,?_⟩;have G:=A_ (Kd.cJ (Kd.jl (aZ.apart (show aZ w0 _ g D aB aD from b7 u) (oR V) (by decide)) hk (fun _ h=>h.2)) (fun _ h=>h.1));have I:=A_ (a8.trans (cB HK) hk (.inl rfl));have J:=A_ (hb);have K:=A_ (hi);clear V HK z u;have V:=G;have HK:=I;have z:=J;have u:=K;clear G I J K;(try clear hb);(try clear hb2);(try clear hk);(try clear hi))|((with_reducible refine aJ (N:=6) rfl ?_);refine bX (N:=6) (cs:= #[.int .i64 0,.int .i64 0,.int .i64 0,.int .i64 0]) (t:=41) ?_;intro F hg bF aR hb;have G:=A_ (Kd.dG (Kd.uD (oR V) F (Nat.le_of_eq hg.symm)) hb);have I:=A_ (aZ.below (b7 u) hb);have J:=A_ (a8.trans (cB HK) (a8.ko hb g none) (.inl rfl));have K:=A_ (bn (cL z) hb);have aw:=A_ (aR);have aU:=A_ ((by rw[hg];exact(l4 (w:=w) (g:=g) (row:=none) (by repeat(first|(with_reducible first|exact HK.out|apply a8.kz|apply lh|apply lg|apply kj)|exact HK.out))):w.heap.size≤F));have aV:=A_ ((Nat.le_trans a_.out (by rw[hg];exact(l4 (w:=w) (g:=g) (row:=none) (by repeat(first|(with_reducible first|exact HK.out|apply a8.kz|apply lh|apply lg|apply kj)|exact HK.out))):w.heap.size≤F):w0.heap.size≤F));have aW:=A_ ((by rw[hg];exact Nat.ne_of_lt (aZ.lt (show aZ w0 _ g D al am from b7 u)):g≠F));have aX:=A_ ((by rw[hg];exact Nat.ne_of_gt (aZ.lt (show aZ w0 _ g D al am from b7 u)):F≠g));clear V u HK z;have V:=G;have u:=I;have HK:=J;have z:=K;have U:=aw;have a6:=aU;have bm:=aV;have bd:=aW;have be:=aX;clear G I J K aw aU aV aW aX hb aR hg;have bx:=be.out;have bA:=bd.out;have bo:=cz U 0;have bp:=cz U 1;have bq:=cz U 2;have br:=cz U 3;have bs:=aK U.out 0;have bt:=aK U.out 1;have bv:=aK U.out 2;have bw:=aK U.out 3)|((with_reducible refine iF (b:= .append) (xs:= #[.tmp 17,.tmp 19]) rfl ?_);at_builtin;refine Kd.kM gR w.heap.size rfl (.tmp 17) (.tmp 19) 50 41 (.agg #[(.int .i64 0),(.int .i64 0),(.int .i64 0),(.int .i64 0)]) 32 rfl Tryz.underlying50 wq rfl (by decide) (by omega) u3 ao (⟨O,X,Y,Z⟩:dh) [.int .i64 O,.int .i64 X,.int .i64 Y,.int .i64 Z] (fun k_=>k_≠F) (fun _=>False) rfl (by first|(go_simp;done)|(go_simp;rfl)) ?aP (fun _ hk=>hk.elim) ?aF ?aO (Below.refl _ _) ?aS ?aL ?_;(case aP=>exact wF _ _ _ (⟨O,X,Y,Z⟩:dh));(case aF=>exact(fun k_ hk=>Kd.vT (g:=F) (o:= .cells #[.int .i64 O,.int .i64 X,.int .i64 Y,.int .i64 Z] 41 (0,0)) (by(with_reducible repeat(first|refine bG ?_ _|refine bz ?_|refine bu ?_ _));refine cr (cs:= #[.int .i64 O,.int .i64 X,.int .i64 Y,.int .i64 0]) ?_ 3 _ rfl;(with_reducible repeat(first|refine bG ?_ _|refine bz ?_|refine bu ?_ _));refine cr (cs:= #[.int .i64 O,.int .i64 X,.int .i64 0,.int .i64 0]) ?_ 2 _ rfl;(with_reducible repeat(first|refine bG ?_ _|refine bz ?_|refine bu ?_ _));refine cr (cs:= #[.int .i64 O,.int .i64 0,.int .i64 0,.int .i64 0]) ?_ 1 _ rfl;(with_reducible repeat(first|refine bG ?_ _|refine bz ?_|refine bu ?_ _));refine cr (cs:= #[.int .i64 0,.int .i64 0,.int .i64 0,.int .i64 0]) ?_ 0 _ rfl;(with_reducible repeat(first|refine bG ?_ _|refine bz ?_|refine bu ?_ _));exact U.out) k_ hk));(case aO=>exact(by(with_reducible repeat(first|apply Kd.fg|apply Kd.fX|apply Kd.dH));exact Kd.cJ (Kd.dp (p:=⟨F,3,none⟩) (Kd.dp (p:=⟨F,2,none⟩) (Kd.dp (p:=⟨F,1,none⟩) (Kd.dp (p:=⟨F,0,none⟩) (Kd.cJ V.out (fun k_ hk=>(⟨hk,hk.2⟩:_∧k_≠F))) (fun _ hk=>hk.2) (.int .i64 O)) (fun _ hk=>hk.2) (.int .i64 X)) (fun _ hk=>hk.2) (.int .i64 Y)) (fun _ hk=>hk.2) (.int .i64 Z)) (fun _ hk=>hk.1.2)));(case aS=>exact(l4 (w:=w) (g:=g) (row:=none) (by repeat(first|(with_reducible first|exact HK.out|apply a8.kz|apply lh|apply lg|apply kj|refine pF ?_ a6.out _)|exact HK.out))));(case aL=>have:=bb.out;omega);intro bE bH ho hb hg hat;rw[←bg.out]at ho;have G:=A_ (aZ.grown (show aZ w0 _ g D al am from b7 u) hg (aZ.kp u.out V.out (by decide)));have I:=A_ (nV (g:=F) (o:= .cells #[.int .i64 O,.int .i64 X,.int .i64 Y,.int .i64 Z] 41 (0,0)) (by(with_reducible repeat(first|refine bG ?_ _|refine bz ?_|refine bu ?_ _));refine cr (cs:= #[.int .i64 O,.int .i64 X,.int .i64 Y,.int .i64 0]) ?_ 3 _ rfl;(with_reducible repeat(first|refine bG ?_ _|refine bz ?_|refine bu ?_ _));refine cr (cs:= #[.int .i64 O,.int .i64 X,.int .i64 0,.int .i64 0]) ?_ 2 _ rfl;(with_reducible repeat(first|refine bG ?_ _|refine bz ?_|refine bu ?_ _));refine cr (cs:= #[.int .i64 O,.int .i64 0,.int .i64 0,.int .i64 0]) ?_ 1 _ rfl;(with_reducible repeat(first|refine bG ?_ _|refine bz ?_|refine bu ?_ _));refine cr (cs:= #[.int .i64 0,.int .i64 0,.int .i64 0,.int .i64 0]) ?_ 0 _ rfl;(with_reducible repeat(first|refine bG ?_ _|refine bz ?_|refine bu ?_ _));exact U.out) hg (Kd.uA V.out (fun _ hk=>hk.2)));have J:=A_ (qW (cL z) a7.out hb);have K:=A_ (a8.trans (cB HK) (a8.l8 hg g) (Kd.nJ V.out));have aw:=A_ (ho);clear u U z HK V;have u:=G;have U:=I;have z:=J;have HK:=K;have a9:=aw;clear G I J K aw ho hb hg hat))
     go_roundg k1
     case measure=>have:=aN.out;omega
     case rel=>exact⟨(a4),(wrap64 (ad+1)),(al),(am),eS,H',⟨by have:=aN.out;omega⟩,⟨by(with_reducible repeat(first|apply Kd.fg|apply Kd.fX|apply Kd.dH));exact Kd.cJ a9.out (fun _ hk=>trivial)⟩,⟨b7 u⟩,⟨cB HK⟩,⟨cL z⟩⟩
    ·rw[au c8]at H;exact absurd H (by simp)
   ·rw[au c6]at H;have bh:decide (ad<ak)=false:=ay c6;clear c6;simp only[Option.some.injEq,Prod.mk.injEq]at H;obtain⟨rfl,rfl,rfl⟩:=H;go_wp2;go_ret;exact⟨_,eR,oR V,b7 u,cL z,cB HK⟩
end P
namespace P
set_option maxHeartbeats 8000000
set_option maxRecDepth 100000
set_option synthInstance.maxHeartbeats 400000
set_option synthInstance.maxSize 100000
open Go.RowKit WW.bk WW.b_ WW.b6 V
attribute [local go_sem] dC dD
attribute [local go_sem] cR cV cU cY cT cX cS cW
def eX.f (k:Nat) (l0:List (ah)):Option (Bool):=some (Q.cI l0)
attribute [local go_sem] gl
theorem eX.c (k:Nat) (af:Option Addr) (c0:Nat) (l0:List (ah)) (r:Bool) (w:World) (Z:Kd.C aT w af l0.length l0) (hc0:l0.length≤c0) (h:eX.f k l0=some r):
  Calls Tryz.prog 77 #[.slice af l0.length c0] w fun e w'=>e= .returned (.bool r)∧Below w.heap.size w w':=by
 have win:∀(a b c:Int) (d:Bool),decide (b≤a∧a≤c)=d→ae (∀W:World,Calls Tryz.prog 79 #[.int .i64 a,.int .i64 b,.int .i64 c] W fun e w'=>e= .returned (.bool d)∧bw W w'):=fun a b c d hd=>
  ⟨fun W=>cj.c a b c d W (by rw[←hd];unfold cj.f;by_cases hh:b≤a<;>simp[hh])⟩
 have hm:l0.length≤9223372036854775807:=Kd.mr Z;have u:ae ((Q.e6 (Q.dY l0 0) (l0.drop 0)&&decide (l0.length≤30))=r):=⟨aC h⟩;have F:=A_ Z;have K:=A_ win;clear Z h win;have hu:=Tryz.underlying104;go_enter Tryz.func77,Tryz.ntmps77;go_wp2
 go_loopg [7] (l0.length+1) (fun ao v7 w'=>∃(i:Nat),v7= .int .i64 (i:Int)∧ae (i+ao=l0.length+1)∧ae (i≤l0.length)∧ae ((Q.e6 (Q.dY l0 i) (l0.drop i)&&decide (l0.length≤30))=r)∧ae (Below w.heap.size w w'))
 case atStart=>exact⟨0,rfl,⟨by omega⟩,⟨by omega⟩,u,⟨by repeat(first|exact Below.refl _ _|apply bO|apply cN|apply cg)⟩⟩
 case round=>
  clear u;obtain⟨i,rfl,ai,aj,u,G⟩:=hrel;have aB:From w wr:=⟨G.out⟩;have aD:Sz w wr:=⟨G.out.size⟩;by_cases hlt:i<l0.length;rotate_left
  ·have hb3:decide ((i:Int)<(l0.length:Int))=false:=ay (by omega);have hb4:decide (i<l0.length)=false:=ay (by omega);obtain rfl:i=l0.length:=(by have:=aj.out;omega);have ak:ae (decide (l0.length≤30)=r):=⟨by rw[←u.out,List.drop_eq_nil_of_le (Nat.le_refl _)];simp[Q.e6]⟩;have hx1:decide ((l0.length:Int)≤30)=r:=(by rw[←ak.out];exact decide_eq_decide.mpr (by omega));clear u F K;go_wp2;go_ret;exact⟨by first|rfl|(simp[hx1];done),G.out⟩
  ·have hb3:decide ((i:Int)<(l0.length:Int))=true:=ag (by omega);have hb4:decide (i<l0.length)=true:=ag hlt;obtain⟨ad,e,hx0,hx1,hx2,hx3⟩:=er F.out (i:Int) (by omega) (by omega);cases e;obtain⟨x,hx⟩:∃x,av l0 (i:Int)=x:=⟨_,rfl⟩;rw[hx]at hx0 hx1 hx2 hx3;simp only[Int.toNat_natCast]at hx0 hx1 hx2 hx3;have j0:dt wr _ _:=⟨hW G hx0⟩;have j1:dt wr _ _:=⟨hW G hx1⟩;have j2:dt wr _ _:=⟨hW G hx2⟩;have J:dt wr _ _:=⟨hW G hx3⟩;have e0:l0[i]=x:=(by rw[←hx];simp[av,List.getD_eq_getElem?_getD,hlt]);have HD:=A_ (Q.rR l0 i hlt);rw[e0]at HD;obtain⟨b1,hb1⟩:∃b,decide (0≤x.f0.f0∧x.f0.f0≤3)=b:=⟨_,rfl⟩;obtain⟨b2,hb2⟩:∃b,decide (0≤x.f0.f1∧x.f0.f1≤39)=b:=⟨_,rfl⟩;obtain⟨b3,Y⟩:∃b,decide (0≤x.f1∧x.f1≤2)=b:=⟨_,rfl⟩;obtain⟨b4,U⟩:∃b,decide (0≤x.f2∧x.f2≤100000)=b:=⟨_,rfl⟩;have W1:=K.out _ _ _ _ hb1;have W2:=K.out _ _ _ _ hb2;have W3:=K.out _ _ _ _ Y;have D:=K.out _ _ _ _ U;have z:ae (Q.lV x=(b1&&(b2&&(b3&&b4)))):=⟨by rw[←hb1,←hb2,←Y,←U];rfl⟩;have I:ae (0<i→Q.dY l0 i=(av l0 ((i-1:Nat):Int)).f2):=⟨fun h0=>by rw[Q.sI l0 i h0 hlt];simp[av,List.getD_eq_getElem?_getD,show i-1<l0.length by omega]⟩;have H:ae (b4=true→i=0→Q.dY l0 i≤x.f2):=⟨fun h4 h0=>by subst h0;rw[h4,decide_eq_true_eq]at U;exact U.1⟩;clear hx hx0 hx1 hx2 hx3 e0 K hb1 hb2 Y U;cases b1 with
   |false=>
    obtain rfl:false=r:=(by rw[←u.out,HD.out,z.out];rfl);clear F u HD z I H
    go_wp2_with (first|((with_reducible refine aJ (N:=4) rfl ?_);refine bV #[.int .i64 0,.int .i64 0,.int .i64 0,.int .i64 0] 104 fun g w1 j1 j2 J=> ?_)|(go_at_call 79;(first|(with_reducible refine(W1.out _).mono ?_)|(with_reducible refine(W2.out _).mono ?_)|(with_reducible refine(W3.out _).mono ?_)|(with_reducible refine(D.out _).mono ?_));rintro e w' ⟨rfl,⟨nd,rfl⟩⟩))
    repeat(go_quiet (first|(go_at_call 79;(first|(with_reducible refine(W1.out _).mono ?_)|(with_reducible refine(W2.out _).mono ?_)|(with_reducible refine(W3.out _).mono ?_)|(with_reducible refine(D.out _).mono ?_));rintro e w' ⟨rfl,⟨nd,rfl⟩⟩;exact⟨rfl,_,World.drewN_drewN _ _ _⟩));try go_wp2)
    go_ret;exact⟨rfl,From.out⟩
   |true=>
    cases b2 with
    |false=>
     obtain rfl:false=r:=(by rw[←u.out,HD.out,z.out];rfl);clear F u HD z I H
     go_wp2_with (first|((with_reducible refine aJ (N:=4) rfl ?_);refine bV #[.int .i64 0,.int .i64 0,.int .i64 0,.int .i64 0] 104 fun g w1 j1 j2 J=> ?_)|(go_at_call 79;(first|(with_reducible refine(W1.out _).mono ?_)|(with_reducible refine(W2.out _).mono ?_)|(with_reducible refine(W3.out _).mono ?_)|(with_reducible refine(D.out _).mono ?_));rintro e w' ⟨rfl,⟨nd,rfl⟩⟩))
     repeat(go_quiet (first|(go_at_call 79;(first|(with_reducible refine(W1.out _).mono ?_)|(with_reducible refine(W2.out _).mono ?_)|(with_reducible refine(W3.out _).mono ?_)|(with_reducible refine(D.out _).mono ?_));rintro e w' ⟨rfl,⟨nd,rfl⟩⟩;exact⟨rfl,_,World.drewN_drewN _ _ _⟩));try go_wp2)
     go_ret;exact⟨rfl,From.out⟩
    |true=>
     cases b3 with
     |false=>
      obtain rfl:false=r:=(by rw[←u.out,HD.out,z.out];rfl);clear F u HD z I H
      go_wp2_with (first|((with_reducible refine aJ (N:=4) rfl ?_);refine bV #[.int .i64 0,.int .i64 0,.int .i64 0,.int .i64 0] 104 fun g w1 j1 j2 J=> ?_)|(go_at_call 79;(first|(with_reducible refine(W1.out _).mono ?_)|(with_reducible refine(W2.out _).mono ?_)|(with_reducible refine(W3.out _).mono ?_)|(with_reducible refine(D.out _).mono ?_));rintro e w' ⟨rfl,⟨nd,rfl⟩⟩))
      repeat(go_quiet (first|(go_at_call 79;(first|(with_reducible refine(W1.out _).mono ?_)|(with_reducible refine(W2.out _).mono ?_)|(with_reducible refine(W3.out _).mono ?_)|(with_reducible refine(D.out _).mono ?_));rintro e w' ⟨rfl,⟨nd,rfl⟩⟩;exact⟨rfl,_,World.drewN_drewN _ _ _⟩));try go_wp2)
      go_ret;exact⟨rfl,From.out⟩
     |true=>
      cases b4 with
      |false=>
       obtain rfl:false=r:=(by rw[←u.out,HD.out,z.out];rfl);clear F u HD z I H
       go_wp2_with (first|((with_reducible refine aJ (N:=4) rfl ?_);refine bV #[.int .i64 0,.int .i64 0,.int .i64 0,.int .i64 0] 104 fun g w1 j1 j2 J=> ?_)|(go_at_call 79;(first|(with_reducible refine(W1.out _).mono ?_)|(with_reducible refine(W2.out _).mono ?_)|(with_reducible refine(W3.out _).mono ?_)|(with_reducible refine(D.out _).mono ?_));rintro e w' ⟨rfl,⟨nd,rfl⟩⟩))
       repeat(go_quiet (first|(go_at_call 79;(first|(with_reducible refine(W1.out _).mono ?_)|(with_reducible refine(W2.out _).mono ?_)|(with_reducible refine(W3.out _).mono ?_)|(with_reducible refine(D.out _).mono ?_));rintro e w' ⟨rfl,⟨nd,rfl⟩⟩;exact⟨rfl,_,World.drewN_drewN _ _ _⟩));try go_wp2)
       go_ret;exact⟨rfl,From.out⟩
      |true=>
       have hs:(i:Int)+1≤9223372036854775807:=(by omega);by_cases hz:i=0
       ·have hz1:decide ((i:Int)>0)=false:=ay (by omega);have hz2:decide ((0:Int)<(i:Int))=false:=ay (by omega);have hz3:decide (0<i)=false:=ay (by omega);have X:ae ((Q.e6 (Q.dY l0 (i+1)) (l0.drop (i+1))&&decide (l0.length≤30))=r):=⟨by rw[←u.out,HD.out,z.out,show decide (Q.dY l0 i≤x.f2)=true from ag (H.out rfl hz)];rfl⟩;clear u HD z I H hz
        go_wp2_with (first|((with_reducible refine aJ (N:=4) rfl ?_);refine bV #[.int .i64 0,.int .i64 0,.int .i64 0,.int .i64 0] 104 fun g w1 j1 j2 J=> ?_)|(go_at_call 79;(first|(with_reducible refine(W1.out _).mono ?_)|(with_reducible refine(W2.out _).mono ?_)|(with_reducible refine(W3.out _).mono ?_)|(with_reducible refine(D.out _).mono ?_));rintro e w' ⟨rfl,⟨nd,rfl⟩⟩))
        repeat(go_quiet (first|(go_at_call 79;(first|(with_reducible refine(W1.out _).mono ?_)|(with_reducible refine(W2.out _).mono ?_)|(with_reducible refine(W3.out _).mono ?_)|(with_reducible refine(D.out _).mono ?_));rintro e w' ⟨rfl,⟨nd,rfl⟩⟩;exact⟨rfl,_,World.drewN_drewN _ _ _⟩));try go_wp2)
        go_roundg (l0.length-i)
        case measure=>have:=ai.out;omega
        case rel=>exact⟨i+1,by go_num,⟨by omega⟩,⟨by omega⟩,X,⟨From.out⟩⟩
       ·obtain⟨j,hj⟩:∃j,j=i-1:=⟨_,rfl⟩;have hz1:decide ((i:Int)>0)=true:=ag (by omega);have hz2:decide ((0:Int)<(i:Int))=true:=ag (by omega);have hz3:decide (0<i)=true:=ag (by omega);have hw1:wrap64 ((i:Int)-1)=(j:Int):=(by unfold wrap64;omega);have hw2:IntKind.i64.wrap ((i:Int)-1)=(j:Int):=(by rw[cd];exact hw1);have hj1:(j:Int)<(l0.length:Int):=(by omega);have hj2:j<l0.length:=(by omega);have ar:decide ((j:Int)<(l0.length:Int))=true:=ag (by omega);have hl2:decide (j<l0.length)=true:=ag (by omega);obtain⟨ap,e2,_,_,_,V⟩:=er F.out (j:Int) (by omega) (by omega);cases e2;obtain⟨y,hy⟩:∃y,av l0 (j:Int)=y:=⟨_,rfl⟩;have O:=A_ (I.out (by omega));rw[←hj,hy]at O;rw[hy]at V;simp only[Int.toNat_natCast]at V;have aw:dt wr _ _:=⟨hW G V⟩;clear hy V I hj;by_cases h5:y.f2≤x.f2
        ·have al:decide (y.f2>x.f2)=false:=ay (by omega);have am:decide (x.f2<y.f2)=false:=ay (by omega);have X:ae ((Q.e6 (Q.dY l0 (i+1)) (l0.drop (i+1))&&decide (l0.length≤30))=r):=⟨by rw[←u.out,HD.out,z.out,show decide (Q.dY l0 i≤x.f2)=true from ag (by rw[O.out];exact h5)];rfl⟩;clear u HD z O H F
         go_wp2_with (first|((with_reducible refine aJ (N:=4) rfl ?_);refine bV #[.int .i64 0,.int .i64 0,.int .i64 0,.int .i64 0] 104 fun g w1 j1 j2 J=> ?_)|(go_at_call 79;(first|(with_reducible refine(W1.out _).mono ?_)|(with_reducible refine(W2.out _).mono ?_)|(with_reducible refine(W3.out _).mono ?_)|(with_reducible refine(D.out _).mono ?_));rintro e w' ⟨rfl,⟨nd,rfl⟩⟩))
         repeat(go_quiet (first|(go_at_call 79;(first|(with_reducible refine(W1.out _).mono ?_)|(with_reducible refine(W2.out _).mono ?_)|(with_reducible refine(W3.out _).mono ?_)|(with_reducible refine(D.out _).mono ?_));rintro e w' ⟨rfl,⟨nd,rfl⟩⟩;exact⟨rfl,_,World.drewN_drewN _ _ _⟩));try go_wp2)
         go_roundg (l0.length-i)
         case measure=>have:=ai.out;omega
         case rel=>exact⟨i+1,by go_num,⟨by omega⟩,⟨by omega⟩,X,⟨From.out⟩⟩
        ·have al:decide (y.f2>x.f2)=true:=ag (by omega);have am:decide (x.f2<y.f2)=true:=ag (by omega);obtain rfl:false=r:=(by rw[←u.out,HD.out,z.out,show decide (Q.dY l0 i≤x.f2)=false from ay (by rw[O.out];exact h5)];rfl);clear u HD z O H F
         go_wp2_with (first|((with_reducible refine aJ (N:=4) rfl ?_);refine bV #[.int .i64 0,.int .i64 0,.int .i64 0,.int .i64 0] 104 fun g w1 j1 j2 J=> ?_)|(go_at_call 79;(first|(with_reducible refine(W1.out _).mono ?_)|(with_reducible refine(W2.out _).mono ?_)|(with_reducible refine(W3.out _).mono ?_)|(with_reducible refine(D.out _).mono ?_));rintro e w' ⟨rfl,⟨nd,rfl⟩⟩))
         repeat(go_quiet (first|(go_at_call 79;(first|(with_reducible refine(W1.out _).mono ?_)|(with_reducible refine(W2.out _).mono ?_)|(with_reducible refine(W3.out _).mono ?_)|(with_reducible refine(D.out _).mono ?_));rintro e w' ⟨rfl,⟨nd,rfl⟩⟩;exact⟨rfl,_,World.drewN_drewN _ _ _⟩));try go_wp2)
         go_ret;exact⟨rfl,From.out⟩
end P
namespace P
set_option maxHeartbeats 8000000
set_option maxRecDepth 100000
set_option synthInstance.maxHeartbeats 400000
set_option synthInstance.maxSize 100000
open Go.RowKit WW.bk WW.b_ WW.b6 V
attribute [local go_sem] dC dD gl iD iE iO iP
attribute [local go_sem] cR cV cU cY cT cX cS cW
def fq.f (k:Nat) (l0:List (ah)) (F:Int) (G:Int) (H:Int) (I:Int):Option ((List (ah))×Bool):=(gu.f l0).bind fun u=>((some (([(⟨(⟨F,G⟩:bL),H,I⟩:ah)]:List (ah)):List (ah))).bind fun z=>(if u.length+z.length<4398046511104 then((some (u++z:List (ah))).bind fun D=>((eX.f k l0).bind fun J=>(if J=true then((eX.f k D).bind fun K=>(if K=true then(some (D,true))else((gu.f l0).bind fun O=>(some (O,false)))))else((gu.f l0).bind fun U=>(some (U,false))))))else(none)))
noncomputable def fq.T1:Bool×List (List Nat×List Nat):=a6 .any (opsOf Tryz.f108 1)
def fq.B1:List Nat:=[0,1,0,4,15,31]
theorem fq.np:a6 .any (opsOf Tryz.f108 1)=fq.T1:=rfl
theorem fq.mE:bT fq.T1.2 fq.B1=true:=by kernel_rfl
theorem fq.c (k:Nat) (O:Option Addr) (c0:Nat) (l0:List (ah)) (u:Int) (z:Int) (D:Int) (F:Int) (r1:List (ah)) (r2:Bool) (w:World) (V:Kd.C aT w O l0.length l0) (hc0:l0.length≤c0) (h:fq.f k l0 u z D F=some (r1,r2)):
  Calls Tryz.prog 108 #[.slice O l0.length c0,.agg #[.int .i64 u,.int .i64 z,.int .i64 D,.int .i64 F]] w fun e w'=>∃Y:Value,e= .returned (.tuple #[Y,.bool r2])∧Kd.R aT 104 w' w.heap.size (fun _=>True) Y r1∧Below w.heap.size w w':=by
 replace V:=aM.mk V;replace hc0:=aj.mk hc0;unfold fq.f at h;have ap:=Tryz.underlying104
 all_goals go_enter Tryz.func108,Tryz.ntmps108
 all_goals go_wp2_with ((first
  |((with_reducible refine aJ (N:=3) rfl ?_);refine bV #[.int .i64 u,.int .i64 z,.int .i64 D,.int .i64 F] 104 fun g w1 j1 j2 av=> ?_)
  |(go_at_call 107;(try rw[I.out]);replace h:=bI h;obtain⟨t,A,h⟩:=h;(try dsimp only at h);refine(gu.c _ _ _ _ _ Rd.out aj.out A).mono ?_;rintro e w2 ⟨v0,rfl,H,hb⟩;obtain⟨U,b0,rfl,j0,q0⟩:=aH H;have J:=aw.mk hb;clear A H hb)
  |(go_at_call 77;(try rw[I.out]);replace h:=bI h;obtain⟨t,A,h⟩:=h;(try dsimp only at h);refine(eX.c _ _ _ _ _ _ Rd.out aj.out A).mono ?_;rintro e w2 ⟨rfl,hb⟩;have J:=aw.mk hb;clear A hb)
  |(refine qR (id:=1) (ds:=[]) (l:= #[false,false,false,false,false,false]) fq.np fq.mE ?_;intro G Z w3 aE u0 ar hHeld;refine qA 0 (some 7) G ?_;refine qT 2 (some 9) G Z hHeld ?_;replace h:=bI h;obtain⟨t,A,h⟩:=h;(try dsimp only at h);simp only[aA]at h;(repeat' first|((with_reducible replace h:=bq h);rcases h with ⟨hc,h⟩|⟨hc,h⟩<;>first|exact(bh h).elim|exact absurd hc (by decide)|subst hc|(replace hc:=aD hc;subst hc)|(replace hc:=bH hc;subst hc)|(replace hc:=bJ hc;subst hc)|(have hd:(_==_)=true:=hc)|(have hd:(_==_)=false:=aD hc)|(have hd:=aV hc;have he:=aW hc;clear hc)|(have hd:=bo hc;have he:=bp hc)|(have hd:=ay hc)|(have hd:=ag hc;(try(have hn:=Int.natCast_pos.mp hc;have hm:=ag hn;replace hn:=ax hn));first|(obtain⟨ai,e_,i_⟩:=cQ (by assumption) (by first|assumption|decide) hc;cases e_)|(obtain⟨ad,e_,c_⟩:=bE (by assumption) (by first|assumption|decide) hc;cases e_))|(have hd:=ag hc)|skip)|((with_reducible replace h:=bF h);obtain⟨I,h⟩:=h;replace I:=A_ I;(try dsimp only at h)));refine ly 1 3 (some 8) (some 10) G (fun K hK=> ?_) (fun K hK=> ?_);(focus (refine df Tryz.func107 (by kernel_rfl) rfl _ (by rfl) rfl rfl (by(try simp only[List.map_toArray,List.map_cons,List.map_nil]);rfl) ?_;refine(gu.c _ _ _ _ _ Rd.out aj.out A).mono ?_;rintro e u1 ⟨v0,rfl,H,hb⟩;obtain⟨U,b0,rfl,j0,q0⟩:=aH H;have J:=aw.mk hb;(try clear H hb);refine⟨_,rfl,hK.out _ _ From.out fun hHeld=> ?_⟩;clear hK K;refine qN ?_;refine qI aT 3 104 10 ([(⟨(⟨u,z⟩:bL),D,F⟩:ah)]:List (ah)) [.int .i64 u,.int .i64 z,.int .i64 D,.int .i64 F] G hHeld (aY.c4 (show Kd.M aT _ _ _ (⟨(⟨u,z⟩:bL),D,F⟩:ah) [.int .i64 u,.int .i64 z,.int .i64 D,.int .i64 F]from(iR _ _ _ (⟨(⟨u,z⟩:bL),D,F⟩:ah))) (aY.none _ _)) ?_;intro B9 af u9 ak al hHeld));rotate_left;(focus (refine pR aT 104 10 ([(⟨(⟨u,z⟩:bL),D,F⟩:ah)]:List (ah)) [.int .i64 u,.int .i64 z,.int .i64 D,.int .i64 F] (aY.c4 (show Kd.M aT _ _ _ (⟨(⟨u,z⟩:bL),D,F⟩:ah) [.int .i64 u,.int .i64 z,.int .i64 D,.int .i64 F]from(iR _ _ _ (⟨(⟨u,z⟩:bL),D,F⟩:ah))) (aY.none _ _)) ?_;intro B9 af u9 ak al;refine hK.out _ _ From.out fun hHeld=> ?_;clear hK K;refine qN ?_;refine qC 1 8 Tryz.func107 G fun K hK=> ?_;refine(gu.c _ _ _ _ _ Rd.out aj.out A).mono ?_;rintro e u1 ⟨v0,rfl,H,hb⟩;obtain⟨U,b0,rfl,j0,q0⟩:=aH H;have J:=aw.mk hb;(try clear H hb);refine⟨_,rfl,hK _ _ From.out fun hHeld=> ?_⟩;clear hK K;refine qN ?_));all_goals(refine qP aT t ([(⟨(⟨u,z⟩:bL),D,F⟩:ah)]:List (ah)) 4 11 (.tmp 8) (.tmp 10) 35 (.agg #[(.int .i64 0),(.int .i64 0),(.int .i64 0),(.int .i64 0)]) 32 G hHeld Tryz.underlying35 lX rfl (by decide) (by omega) (fun _ _ h=>h) (by simp at hc ⊢;omega) ?_;intro B8 ao u8 X aB hHeld;have am:=aj.mk (ky X);generalize t++([(⟨(⟨u,z⟩:bL),D,F⟩:ah)]:List (ah))=aF at h X am ⊢;refine qA 5 (some 6) G ?_;refine qD G ?_)));(repeat' first|((with_reducible replace h:=bq h);rcases h with ⟨hc,h⟩|⟨hc,h⟩<;>first|exact(bh h).elim|exact absurd hc (by decide)|subst hc|(replace hc:=aD hc;subst hc)|(replace hc:=bH hc;subst hc)|(replace hc:=bJ hc;subst hc)|(have hd:(_==_)=true:=hc)|(have hd:(_==_)=false:=aD hc)|(have hd:=aV hc;have he:=aW hc;clear hc)|(have hd:=bo hc;have he:=bp hc)|(have hd:=ay hc)|(have hd:=ag hc;(try(have hn:=Int.natCast_pos.mp hc;have hm:=ag hn;replace hn:=ax hn));first|(obtain⟨ai,e_,i_⟩:=cQ (by assumption) (by first|assumption|decide) hc;cases e_)|(obtain⟨ad,e_,c_⟩:=bE (by assumption) (by first|assumption|decide) hc;cases e_))|(have hd:=ag hc)|skip)|((with_reducible replace h:=bF h);obtain⟨I,h⟩:=h;replace I:=A_ I;(try dsimp only at h)));all_goals(try have hn:decide (0<t.length)=true:=ag (by omega));all_goals(try have hn:decide (0<t.length)=false:=ay (by omega)))
 all_goals simp only[Option.some.injEq,Prod.mk.injEq]at h
 all_goals obtain⟨rfl,rfl⟩:=h
 all_goals go_ret2
 all_goals exact⟨_,rfl,(by first|exact bj|exact Kd.bl _ _ _ _ _|exact bM|exact en (by simp)),From.out⟩
end P
namespace P
set_option maxRecDepth 100000
set_option synthInstance.maxHeartbeats 400000
set_option synthInstance.maxSize 100000
open Go.RowKit WW.bk WW.b_ WW.b6 V
attribute [local go_sem] dC dD
attribute [local go_sem] cR cV cU cY cT cX cS cW
def eA.f (k:Nat) (F:List (ai)) (u:Int) (G:List Int) (z:Int) (D:Int) (H:List (ah)):Option (Bool):=some (Q.cE F u G z D H)
attribute [local go_sem] gl
set_option maxHeartbeats 2000000 in
theorem eA.c (k:Nat) (K:Option Addr) (U:Nat) (D:List (ai)) (J:Int) (O:Option Addr) (V:Nat) (F:List Int) (G:Int) (z:Int) (Y:Option Addr) (X:Nat) (u:List (ah)) (r:Bool) (w:World) (aG:Kd.C aU w K D.length D) (aD:D.length≤U) (aH:Kd.C (Kd.int .i64) w O F.length F) (aE:F.length≤V) (ap:Kd.C aT w Y u.length u) (aF:u.length≤X) (h:eA.f k D J F G z u=some r):
  Calls Tryz.prog 32 #[.agg #[.slice K D.length U,.int .i64 J,.slice O F.length V,.int .i64 G,.int .i64 z,.slice Y u.length X]] w fun e w'=>e= .returned (.bool r)∧Below w.heap.size w w':=by
 obtain⟨b1,hb1⟩:∃b,bR D J F=b:=⟨_,rfl⟩;obtain⟨b2,hb2⟩:∃b,Q.cI u=b:=⟨_,rfl⟩;obtain⟨b3,hb3⟩:∃b,decide (-10≤G∧G≤40)=b:=⟨_,rfl⟩;obtain⟨b4,hb4⟩:∃b,decide (0≤z∧z≤100000)=b:=⟨_,rfl⟩;obtain⟨am,aB⟩:∃b,decide (Q.ic u z)=b:=⟨_,rfl⟩;have H:ae ((b1&&(b2&&(b3&&(b4&&am))))=r):=⟨by rw[←hb1,←hb2,←hb3,←hb4,←aB];exact aC h⟩;have af:ae (fh.f D J F=some b1):=⟨by rw[←hb1];rfl⟩;have A2:ae (eX.f k u=some b2):=⟨by rw[←hb2];rfl⟩;have al:ae (cj.f z 0 100000=some b4):=⟨by rw[←hb4];unfold cj.f;by_cases hh:0≤z<;>simp[hh]⟩;have ak:ae (eZ.f G=some b3):=⟨by rw[←hb3];unfold eZ.f cj.f;by_cases hh: -10≤G<;>simp[hh]⟩;have H5:=A_ aB;have ad:=A_ ap;have Z:=A_ (Kd.mr ap);have i0:=aM.mk aG;have i1:=aj.mk aD;have i2:=aM.mk aH;have i3:=aj.mk aE;have i4:=aM.mk ap;have i5:=aj.mk aF;have hu:=Tryz.underlying37;clear aG aD aH aE ap aF h hb1 hb2 hb3 hb4 aB;cases b1 with
 |false=>
  obtain rfl:false=r:=H.out;clear H H5 ad Z;go_enter Tryz.func32,Tryz.ntmps32
  go_wp2_with (first|((with_reducible refine aJ (N:=1) rfl ?_);(try(refine ke (by rfl) ?_;dsimp only));refine bV #[.slice K D.length U,.int .i64 J,.slice O F.length V,.int .i64 G,.int .i64 z,.slice Y u.length X] 37 fun g w1 j1 j2 ao=> ?_)|(go_at_call 76;refine(fh.c _ _ _ _ _ _ _ _ _ Rd.out aj.out Rd.out aj.out af.out).mono ?_;rintro e w2 ⟨rfl,hb⟩;have I:=aw.mk hb;clear hb)|(go_at_call 77;refine(eX.c k _ _ _ _ _ Rd.out aj.out A2.out).mono ?_;rintro e w2 ⟨rfl,hb⟩;have I:=aw.mk hb;clear hb)|(go_at_call 78;refine(eZ.c _ _ _ ak.out).mono ?_;rintro e w2 ⟨rfl,n,rfl⟩)|(go_at_call 79;refine(cj.c _ _ _ _ _ al.out).mono ?_;rintro e w2 ⟨rfl,n,rfl⟩))
  repeat(go_quiet (fail);try go_wp2)
  go_ret;exact⟨rfl,From.out⟩
 |true=>
  cases b2 with
  |false=>
   obtain rfl:false=r:=H.out;clear H H5 ad Z;go_enter Tryz.func32,Tryz.ntmps32
   go_wp2_with (first|((with_reducible refine aJ (N:=1) rfl ?_);(try(refine ke (by rfl) ?_;dsimp only));refine bV #[.slice K D.length U,.int .i64 J,.slice O F.length V,.int .i64 G,.int .i64 z,.slice Y u.length X] 37 fun g w1 j1 j2 ao=> ?_)|(go_at_call 76;refine(fh.c _ _ _ _ _ _ _ _ _ Rd.out aj.out Rd.out aj.out af.out).mono ?_;rintro e w2 ⟨rfl,hb⟩;have I:=aw.mk hb;clear hb)|(go_at_call 77;refine(eX.c k _ _ _ _ _ Rd.out aj.out A2.out).mono ?_;rintro e w2 ⟨rfl,hb⟩;have I:=aw.mk hb;clear hb)|(go_at_call 78;refine(eZ.c _ _ _ ak.out).mono ?_;rintro e w2 ⟨rfl,n,rfl⟩)|(go_at_call 79;refine(cj.c _ _ _ _ _ al.out).mono ?_;rintro e w2 ⟨rfl,n,rfl⟩))
   repeat(go_quiet (fail);try go_wp2)
   go_ret;exact⟨rfl,From.out⟩
  |true=>
   cases b3 with
   |false=>
    obtain rfl:false=r:=H.out;clear H H5 ad Z;go_enter Tryz.func32,Tryz.ntmps32
    go_wp2_with (first|((with_reducible refine aJ (N:=1) rfl ?_);(try(refine ke (by rfl) ?_;dsimp only));refine bV #[.slice K D.length U,.int .i64 J,.slice O F.length V,.int .i64 G,.int .i64 z,.slice Y u.length X] 37 fun g w1 j1 j2 ao=> ?_)|(go_at_call 76;refine(fh.c _ _ _ _ _ _ _ _ _ Rd.out aj.out Rd.out aj.out af.out).mono ?_;rintro e w2 ⟨rfl,hb⟩;have I:=aw.mk hb;clear hb)|(go_at_call 77;refine(eX.c k _ _ _ _ _ Rd.out aj.out A2.out).mono ?_;rintro e w2 ⟨rfl,hb⟩;have I:=aw.mk hb;clear hb)|(go_at_call 78;refine(eZ.c _ _ _ ak.out).mono ?_;rintro e w2 ⟨rfl,n,rfl⟩)|(go_at_call 79;refine(cj.c _ _ _ _ _ al.out).mono ?_;rintro e w2 ⟨rfl,n,rfl⟩))
    repeat(go_quiet (fail);try go_wp2)
    go_ret;exact⟨rfl,From.out⟩
   |true=>
    cases b4 with
    |false=>
     obtain rfl:false=r:=H.out;clear H H5 ad Z;go_enter Tryz.func32,Tryz.ntmps32
     go_wp2_with (first|((with_reducible refine aJ (N:=1) rfl ?_);(try(refine ke (by rfl) ?_;dsimp only));refine bV #[.slice K D.length U,.int .i64 J,.slice O F.length V,.int .i64 G,.int .i64 z,.slice Y u.length X] 37 fun g w1 j1 j2 ao=> ?_)|(go_at_call 76;refine(fh.c _ _ _ _ _ _ _ _ _ Rd.out aj.out Rd.out aj.out af.out).mono ?_;rintro e w2 ⟨rfl,hb⟩;have I:=aw.mk hb;clear hb)|(go_at_call 77;refine(eX.c k _ _ _ _ _ Rd.out aj.out A2.out).mono ?_;rintro e w2 ⟨rfl,hb⟩;have I:=aw.mk hb;clear hb)|(go_at_call 78;refine(eZ.c _ _ _ ak.out).mono ?_;rintro e w2 ⟨rfl,n,rfl⟩)|(go_at_call 79;refine(cj.c _ _ _ _ _ al.out).mono ?_;rintro e w2 ⟨rfl,n,rfl⟩))
     repeat(go_quiet (fail);try go_wp2)
     go_ret;exact⟨rfl,From.out⟩
    |true=>
     obtain rfl:am=r:=H.out;by_cases hz:u.length=0
     ·have aK:((u.length:Int)==0)=true:=beq_iff_eq.mpr (by omega);have z2:((u.length:Int) != 0)=false:=bne_eq_false_iff_eq.mpr (by omega);have z3:decide ((u.length:Int)=0)=true:=ag (by omega);obtain rfl:true=am:=(by rw[←H5.out];exact(ag (.inl hz)).symm);clear H H5 ad Z hz;go_enter Tryz.func32,Tryz.ntmps32
      go_wp2_with (first|((with_reducible refine aJ (N:=1) rfl ?_);(try(refine ke (by rfl) ?_;dsimp only));refine bV #[.slice K D.length U,.int .i64 J,.slice O F.length V,.int .i64 G,.int .i64 z,.slice Y u.length X] 37 fun g w1 j1 j2 ao=> ?_)|(go_at_call 76;refine(fh.c _ _ _ _ _ _ _ _ _ Rd.out aj.out Rd.out aj.out af.out).mono ?_;rintro e w2 ⟨rfl,hb⟩;have I:=aw.mk hb;clear hb)|(go_at_call 77;refine(eX.c k _ _ _ _ _ Rd.out aj.out A2.out).mono ?_;rintro e w2 ⟨rfl,hb⟩;have I:=aw.mk hb;clear hb)|(go_at_call 78;refine(eZ.c _ _ _ ak.out).mono ?_;rintro e w2 ⟨rfl,n,rfl⟩)|(go_at_call 79;refine(cj.c _ _ _ _ _ al.out).mono ?_;rintro e w2 ⟨rfl,n,rfl⟩))
      repeat(go_quiet (fail);try go_wp2)
      go_ret;exact⟨rfl,From.out⟩
     ·obtain⟨j,hj⟩:∃j,j+1=u.length:=⟨u.length-1,by omega⟩;have aK:((u.length:Int)==0)=false:=beq_eq_false_iff_ne.mpr (by omega);have z2:((u.length:Int) != 0)=true:=bne_iff_ne.mpr (by omega);have z3:decide ((u.length:Int)=0)=false:=ay (by omega);have hM:=Z.out;have hw1:wrap64 ((u.length:Int)-1)=(j:Int):=(by unfold wrap64;omega);have hw2:IntKind.i64.wrap ((u.length:Int)-1)=(j:Int):=(by rw[cd];exact hw1);have hj1:(j:Int)<(u.length:Int):=(by omega);have hj2:j<u.length:=(by omega);obtain⟨aI,e2,_,_,_,ar⟩:=er ad.out (j:Int) (by omega) (by omega);subst e2;obtain⟨y,hy⟩:∃y,av u (j:Int)=y:=⟨_,rfl⟩;rw[hy]at ar;simp only[Int.toNat_natCast]at ar;have aL:dt w _ _:=⟨ar⟩
      have h6:decide (y.f2≤z)=am:=by
       rw[←H5.out,←hy];refine decide_eq_decide.mpr ?_;unfold Q.ic;rw[show u.length-1=j by omega];simp[av,hz]
      have h7:decide (z≥y.f2)=am:=h6;clear H H5 ad Z hM hy ar hz hj;go_enter Tryz.func32,Tryz.ntmps32
      go_wp2_with (first|((with_reducible refine aJ (N:=1) rfl ?_);(try(refine ke (by rfl) ?_;dsimp only));refine bV #[.slice K D.length U,.int .i64 J,.slice O F.length V,.int .i64 G,.int .i64 z,.slice (some aI) u.length X] 37 fun g w1 j1 j2 ao=> ?_)|(go_at_call 76;refine(fh.c _ _ _ _ _ _ _ _ _ Rd.out aj.out Rd.out aj.out af.out).mono ?_;rintro e w2 ⟨rfl,hb⟩;have I:=aw.mk hb;clear hb)|(go_at_call 77;refine(eX.c k _ _ _ _ _ Rd.out aj.out A2.out).mono ?_;rintro e w2 ⟨rfl,hb⟩;have I:=aw.mk hb;clear hb)|(go_at_call 78;refine(eZ.c _ _ _ ak.out).mono ?_;rintro e w2 ⟨rfl,n,rfl⟩)|(go_at_call 79;refine(cj.c _ _ _ _ _ al.out).mono ?_;rintro e w2 ⟨rfl,n,rfl⟩))
      repeat(go_quiet (fail);try go_wp2)
      go_ret;exact⟨by first|rfl|(simp[h6];done),From.out⟩
end P
namespace P
set_option maxHeartbeats 8000000
set_option maxRecDepth 100000
set_option synthInstance.maxHeartbeats 400000
set_option synthInstance.maxSize 100000
open Go.RowKit WW.bk WW.b_ WW.b6 V
attribute [local go_sem] dC dD
attribute [local go_sem] cR cV cU cY cT cX cS cW
def jC.f (k:Nat) (D:List (ai)) (z:Int) (F:List Int) (I:Int) (J:Int) (K:List (ah)):Option ((List (ai))×Int×List Int×Int×Int×(List (ah))×Bool):=(eB.f D z F I J K).bind fun u=>((eA.f k D z F I J K).bind fun O=>(if O=true then((ek.f k D z F).bind fun G=>((cD.f k D z F).bind fun U=>(if(U.length:Int)>0 then((dW.f k D z F).bind fun H=>(if H.2.2.2=true then(some (H.1,H.2.1,H.2.2.1,u.2.2.2.1,u.2.2.2.2.1,u.2.2.2.2.2,true))else(some (u.1,u.2.1,u.2.2.1,u.2.2.2.1,u.2.2.2.2.1,u.2.2.2.2.2,false))))else(if G.2.2.2=true then(some (G.1,G.2.1,G.2.2.1,u.2.2.2.1,u.2.2.2.2.1,u.2.2.2.2.2,true))else(some (u.1,u.2.1,u.2.2.1,u.2.2.2.1,u.2.2.2.2.1,u.2.2.2.2.2,false))))))else(some (u.1,u.2.1,u.2.2.1,u.2.2.2.1,u.2.2.2.2.1,u.2.2.2.2.2,false))))
theorem jC.c (k:Nat) (I:Option Addr) (Y:Nat) (D:List (ai)) (U:Int) (J:Option Addr) (Z:Nat) (F:List Int) (V:Int) (X:Int) (K:Option Addr) (ad:Nat) (G:List (ah)) (r1:List (ai)) (r2:Int) (r3:List Int) (aB:Int) (aE:Int) (aF:List (ah)) (aG:Bool) (w:World) (ap:Kd.C aU w I D.length D) (ak:D.length≤Y) (ar:Kd.C (Kd.int .i64) w J F.length F) (al:F.length≤Z) (av:Kd.C aT w K G.length G) (am:G.length≤ad) (h:jC.f k D U F V X G=some (r1,r2,r3,aB,aE,aF,aG)):
  Calls Tryz.prog 36 #[.agg #[.slice I D.length Y,.int .i64 U,.slice J F.length Z,.int .i64 V,.int .i64 X,.slice K G.length ad]] w fun e w'=>∃aI aK aL:Value,e= .returned (.tuple #[.agg #[aI,.int .i64 r2,aK,.int .i64 aB,.int .i64 aE,aL],.bool aG])∧Kd.R aU 112 w' w.heap.size (fun _=>True) aI r1∧Kd.R (Kd.int .i64) 3 w' w.heap.size (fun _=>True) aK r3∧Kd.R aT 104 w' w.heap.size (fun _=>True) aL aF∧Below w.heap.size w w':=by
 replace ap:=aM.mk ap;replace ak:=aj.mk ak;replace ar:=aM.mk ar;replace al:=aj.mk al;replace av:=aM.mk av;replace am:=aj.mk am;unfold jC.f at h;have aN:=Tryz.underlying34;have aO:=Tryz.underlying37
 all_goals go_enter Tryz.func36,Tryz.ntmps36
 all_goals go_wp2_with ((first
  |((with_reducible refine aJ (N:=1) rfl ?_);refine bV #[.slice I D.length Y,.int .i64 U,.slice J F.length Z,.int .i64 V,.int .i64 X,.slice K G.length ad] 37 fun g w1 j1 j2 af=> ?_)
  |((with_reducible refine aJ (N:=2) rfl ?_);refine bV #[.slice none 0 0,.int .i64 0,.slice none 0 0,.int .i64 0,.int .i64 0,.slice none 0 0] 37 fun g w1 j1 j2 af=> ?_)
  |((with_reducible refine aJ (N:=4) rfl ?_);refine bV #[.slice none 0 0,.int .i64 0,.slice none 0 0,.int .i64 0,.int .i64 0,.slice none 0 0] 37 fun g w1 j1 j2 af=> ?_)
  |((with_reducible refine aJ (N:=5) rfl ?_);refine bV #[.slice none 0 0,.int .i64 0,.slice none 0 0] 34 fun g w1 j1 j2 af=> ?_)
  |(go_at_call 57;replace h:=bI h;obtain⟨⟨t1,t2,t3,t4,t5,t6⟩,A,h⟩:=h;(try dsimp only at h);refine(eB.c _ _ _ _ _ _ _ _ _ _ _ _ _ _ _ _ _ _ _ Rd.out aj.out Rd.out aj.out Rd.out aj.out A).mono ?_;rintro e w2 ⟨v0,v1,v2,rfl,u,z,ao,hb⟩;obtain⟨O,b0,rfl,j0,q0⟩:=aH u;obtain⟨B1,b1,rfl,j1,q1⟩:=aH z;obtain⟨B2,b2,rfl,j2,q2⟩:=aH ao;have H:=aw.mk hb;clear A u z ao hb)
  |(go_at_call 32;replace h:=bI h;obtain⟨t,A,h⟩:=h;(try dsimp only at h);refine(eA.c _ _ _ _ _ _ _ _ _ _ _ _ _ _ _ Rd.out aj.out Rd.out aj.out Rd.out aj.out A).mono ?_;rintro e w2 ⟨rfl,hb⟩;have H:=aw.mk hb;clear A hb)
  |(go_at_call 84;replace h:=bI h;obtain⟨⟨t1,t2,t3,t4⟩,A,h⟩:=h;(try dsimp only at h);refine(ek.c _ _ _ _ _ _ _ _ _ _ _ _ _ Rd.out aj.out Rd.out aj.out A).mono ?_;rintro e w2 ⟨v0,v1,rfl,u,z,hb⟩;obtain⟨O,b0,rfl,j0,q0⟩:=aH u;obtain⟨B1,b1,rfl,j1,q1⟩:=aH z;have H:=aw.mk hb;clear A u z hb)
  |(go_at_call 82;replace h:=bI h;obtain⟨t,A,h⟩:=h;(try dsimp only at h);refine(cD.c _ _ _ _ _ _ _ _ _ _ Rd.out aj.out Rd.out aj.out A).mono ?_;rintro e w2 ⟨v0,rfl,u,hb⟩;obtain⟨O,b0,rfl,j0,q0⟩:=aH u;have H:=aw.mk hb;clear A u hb)
  |(go_at_call 85;replace h:=bI h;obtain⟨⟨t1,t2,t3,t4⟩,A,h⟩:=h;(try dsimp only at h);refine(dW.c _ _ _ _ _ _ _ _ _ _ _ _ _ Rd.out aj.out Rd.out aj.out A).mono ?_;rintro e w2 ⟨v0,v1,rfl,u,z,hb⟩;obtain⟨O,b0,rfl,j0,q0⟩:=aH u;obtain⟨B1,b1,rfl,j1,q1⟩:=aH z;have H:=aw.mk hb;clear A u z hb));(repeat' first|((with_reducible replace h:=bq h);rcases h with ⟨hc,h⟩|⟨hc,h⟩<;>first|exact(bh h).elim|exact absurd hc (by decide)|subst hc|(replace hc:=aD hc;subst hc)|(have hd:=aV hc;have he:=aW hc;clear hc)|(have hd:=bo hc;have he:=bp hc)|(have hd:=ay hc)|(have hd:=ag hc)|skip));all_goals(try have hn:decide (0<t.length)=true:=ag (by omega));all_goals(try have hn:decide (0<t.length)=false:=ay (by omega)))
 all_goals simp only[Option.some.injEq,Prod.mk.injEq]at h
 all_goals obtain⟨rfl,rfl,rfl,rfl,rfl,rfl,rfl⟩:=h
 all_goals refine bodyPost_ret (eu rfl _ _ _ _ _ (0,0) _ rfl aQ.out Tryz.underlying37 rfl (by kernel_rfl)) rfl ?_
 all_goals exact⟨_,_,_,rfl,(by first|exact bj|exact Kd.bl _ _ _ _ _),(by first|exact bj|exact Kd.bl _ _ _ _ _),(by first|exact bj|exact Kd.bl _ _ _ _ _),From.out⟩
def ld.f (k:Nat) (I:List (ai)) (F:Int) (J:List Int) (G:Int) (H:Int) (K:List (ah)) (a1:Int):Option ((List (ai))×Int×List Int×Int×Int×(List (ah))×Bool):=(eB.f I F J G H K).bind fun u=>((eA.f k I F J G H K).bind fun O=>(if O=true then((eA.f k u.1 u.2.1 u.2.2.1 a1 (wrap64 (u.2.2.2.2.1+1)) u.2.2.2.2.2).bind fun U=>(if U=true then(some (u.1,u.2.1,u.2.2.1,a1,wrap64 (u.2.2.2.2.1+1),u.2.2.2.2.2,true))else((eB.f I F J G H K).bind fun z=>(some (z.1,z.2.1,z.2.2.1,z.2.2.2.1,z.2.2.2.2.1,z.2.2.2.2.2,false)))))else((eB.f I F J G H K).bind fun D=>(some (D.1,D.2.1,D.2.2.1,D.2.2.2.1,D.2.2.2.2.1,D.2.2.2.2.2,false)))))
theorem ld.c (k:Nat) (F:Option Addr) (O:Nat) (u:List (ai)) (I:Int) (G:Option Addr) (U:Nat) (z:List Int) (J:Int) (K:Int) (H:Option Addr) (V:Nat) (D:List (ah)) (a1:Int) (r1:List (ai)) (r2:Int) (r3:List Int) (ar:Int) (av:Int) (aB:List (ah)) (aE:Bool) (w:World) (al:Kd.C aU w F u.length u) (X:u.length≤O) (am:Kd.C (Kd.int .i64) w G z.length z) (Y:z.length≤U) (ao:Kd.C aT w H D.length D) (Z:D.length≤V) (h:ld.f k u I z J K D a1=some (r1,r2,r3,ar,av,aB,aE)):
  Calls Tryz.prog 59 #[.agg #[.slice F u.length O,.int .i64 I,.slice G z.length U,.int .i64 J,.int .i64 K,.slice H D.length V],.int .i64 a1] w fun e w'=>∃aF aG aI:Value,e= .returned (.tuple #[.agg #[aF,.int .i64 r2,aG,.int .i64 ar,.int .i64 av,aI],.bool aE])∧Kd.R aU 112 w' w.heap.size (fun _=>True) aF r1∧Kd.R (Kd.int .i64) 3 w' w.heap.size (fun _=>True) aG r3∧Kd.R aT 104 w' w.heap.size (fun _=>True) aI aB∧Below w.heap.size w w':=by
 replace al:=aM.mk al;replace X:=aj.mk X;replace am:=aM.mk am;replace Y:=aj.mk Y;replace ao:=aM.mk ao;replace Z:=aj.mk Z;unfold ld.f at h;have aN:=Tryz.underlying37
 all_goals go_enter Tryz.func59,Tryz.ntmps59
 all_goals go_wp2_with ((first
  |((with_reducible refine aJ (N:=2) rfl ?_);refine bV #[.slice F u.length O,.int .i64 I,.slice G z.length U,.int .i64 J,.int .i64 K,.slice H D.length V] 37 fun g w1 j1 j2 ap=> ?_)
  |((with_reducible refine aJ (N:=4) rfl ?_);refine bV #[.slice none 0 0,.int .i64 0,.slice none 0 0,.int .i64 0,.int .i64 0,.slice none 0 0] 37 fun g w1 j1 j2 ap=> ?_)
  |((with_reducible refine aJ (N:=6) rfl ?_);refine bV #[.slice none 0 0,.int .i64 0,.slice none 0 0,.int .i64 0,.int .i64 0,.slice none 0 0] 37 fun g w1 j1 j2 ap=> ?_)
  |(go_at_call 57;replace h:=bI h;obtain⟨⟨t1,t2,t3,t4,t5,t6⟩,A,h⟩:=h;(try dsimp only at h);refine(eB.c _ _ _ _ _ _ _ _ _ _ _ _ _ _ _ _ _ _ _ Rd.out aj.out Rd.out aj.out Rd.out aj.out A).mono ?_;rintro e w2 ⟨v0,v1,v2,rfl,ad,af,ak,hb⟩;obtain⟨aL,b0,rfl,j0,q0⟩:=aH ad;obtain⟨B1,b1,rfl,j1,q1⟩:=aH af;obtain⟨B2,b2,rfl,j2,q2⟩:=aH ak;have aK:=aw.mk hb;clear A ad af ak hb)
  |(go_at_call 32;replace h:=bI h;obtain⟨t,A,h⟩:=h;(try dsimp only at h);refine(eA.c _ _ _ _ _ _ _ _ _ _ _ _ _ _ _ Rd.out aj.out Rd.out aj.out Rd.out aj.out A).mono ?_;rintro e w2 ⟨rfl,hb⟩;have aK:=aw.mk hb;clear A hb));(repeat' first|((with_reducible replace h:=bq h);rcases h with ⟨hc,h⟩|⟨hc,h⟩<;>first|exact(bh h).elim|exact absurd hc (by decide)|subst hc|(replace hc:=aD hc;subst hc)|(have hd:=aV hc;have he:=aW hc;clear hc)|(have hd:=bo hc;have he:=bp hc)|(have hd:=ay hc)|(have hd:=ag hc)|skip)))
 all_goals simp only[Option.some.injEq,Prod.mk.injEq]at h
 all_goals obtain⟨rfl,rfl,rfl,rfl,rfl,rfl,rfl⟩:=h
 all_goals refine bodyPost_ret (eu rfl _ _ _ _ _ (0,0) _ rfl aQ.out Tryz.underlying37 rfl (by kernel_rfl)) rfl ?_
 all_goals exact⟨_,_,_,rfl,(by first|exact bj|exact Kd.bl _ _ _ _ _),(by first|exact bj|exact Kd.bl _ _ _ _ _),(by first|exact bj|exact Kd.bl _ _ _ _ _),From.out⟩
def k8.f (k:Nat) (I:List (ai)) (F:Int) (J:List Int) (G:Int) (z:Int) (D:List (ah)) (K:Int) (O:Int) (a2:Int):Option ((List (ai))×Int×List Int×Int×Int×(List (ah))×Bool):=(eB.f I F J G z D).bind fun u=>((eA.f k I F J G z D).bind fun U=>(if U=true then((fq.f k D K O a2 z).bind fun H=>(if H.2=true then(some (u.1,u.2.1,u.2.2.1,u.2.2.2.1,u.2.2.2.2.1,H.1,true))else(some (u.1,u.2.1,u.2.2.1,u.2.2.2.1,u.2.2.2.2.1,u.2.2.2.2.2,false))))else(some (u.1,u.2.1,u.2.2.1,u.2.2.2.1,u.2.2.2.2.1,u.2.2.2.2.2,false))))
theorem k8.c (k:Nat) (G:Option Addr) (X:Nat) (u:List (ai)) (J:Int) (H:Option Addr) (Y:Nat) (z:List Int) (K:Int) (O:Int) (I:Option Addr) (Z:Nat) (D:List (ah)) (U:Int) (V:Int) (a2:Int) (r1:List (ai)) (r2:Int) (r3:List Int) (aE:Int) (aF:Int) (aG:List (ah)) (aI:Bool) (w:World) (ap:Kd.C aU w G u.length u) (af:u.length≤X) (ar:Kd.C (Kd.int .i64) w H z.length z) (ak:z.length≤Y) (av:Kd.C aT w I D.length D) (al:D.length≤Z) (h:k8.f k u J z K O D U V a2=some (r1,r2,r3,aE,aF,aG,aI)):
  Calls Tryz.prog 60 #[.agg #[.slice G u.length X,.int .i64 J,.slice H z.length Y,.int .i64 K,.int .i64 O,.slice I D.length Z],.agg #[.int .i64 U,.int .i64 V],.int .i64 a2] w fun e w'=>∃aK aL aN:Value,e= .returned (.tuple #[.agg #[aK,.int .i64 r2,aL,.int .i64 aE,.int .i64 aF,aN],.bool aI])∧Kd.R aU 112 w' w.heap.size (fun _=>True) aK r1∧Kd.R (Kd.int .i64) 3 w' w.heap.size (fun _=>True) aL r3∧Kd.R aT 104 w' w.heap.size (fun _=>True) aN aG∧Below w.heap.size w w':=by
 replace ap:=aM.mk ap;replace af:=aj.mk af;replace ar:=aM.mk ar;replace ak:=aj.mk ak;replace av:=aM.mk av;replace al:=aj.mk al;unfold k8.f at h;have aP:=Tryz.underlying37;have aR:=Tryz.underlying74
 all_goals go_enter Tryz.func60,Tryz.ntmps60
 all_goals go_wp2_with ((first
  |((with_reducible refine aJ (N:=3) rfl ?_);refine bV #[.slice G u.length X,.int .i64 J,.slice H z.length Y,.int .i64 K,.int .i64 O,.slice I D.length Z] 37 fun g w1 j1 j2 ad=> ?_)
  |((with_reducible refine aJ (N:=4) rfl ?_);refine bV #[.int .i64 U,.int .i64 V] 74 fun g w1 j1 j2 ad=> ?_)
  |((with_reducible refine aJ (N:=6) rfl ?_);refine bV #[.slice none 0 0,.int .i64 0,.slice none 0 0,.int .i64 0,.int .i64 0,.slice none 0 0] 37 fun g w1 j1 j2 ad=> ?_)
  |((with_reducible refine aJ (N:=8) rfl ?_);refine bV #[.slice none 0 0,.int .i64 0,.slice none 0 0,.int .i64 0,.int .i64 0,.slice none 0 0] 37 fun g w1 j1 j2 ad=> ?_)
  |(go_at_call 57;replace h:=bI h;obtain⟨⟨t1,t2,t3,t4,t5,t6⟩,A,h⟩:=h;(try dsimp only at h);refine(eB.c _ _ _ _ _ _ _ _ _ _ _ _ _ _ _ _ _ _ _ Rd.out aj.out Rd.out aj.out Rd.out aj.out A).mono ?_;rintro e w2 ⟨v0,v1,v2,rfl,F,am,ao,hb⟩;obtain⟨aO,b0,rfl,j0,q0⟩:=aH F;obtain⟨B1,b1,rfl,j1,q1⟩:=aH am;obtain⟨B2,b2,rfl,j2,q2⟩:=aH ao;have aB:=aw.mk hb;clear A F am ao hb)
  |(go_at_call 32;replace h:=bI h;obtain⟨t,A,h⟩:=h;(try dsimp only at h);refine(eA.c _ _ _ _ _ _ _ _ _ _ _ _ _ _ _ Rd.out aj.out Rd.out aj.out Rd.out aj.out A).mono ?_;rintro e w2 ⟨rfl,hb⟩;have aB:=aw.mk hb;clear A hb)
  |(go_at_call 108;replace h:=bI h;obtain⟨⟨t1,t2⟩,A,h⟩:=h;(try dsimp only at h);refine(fq.c _ _ _ _ _ _ _ _ _ _ _ Rd.out aj.out A).mono ?_;rintro e w2 ⟨v0,rfl,F,hb⟩;obtain⟨aO,b0,rfl,j0,q0⟩:=aH F;have aB:=aw.mk hb;clear A F hb));(repeat' first|((with_reducible replace h:=bq h);rcases h with ⟨hc,h⟩|⟨hc,h⟩<;>first|exact(bh h).elim|exact absurd hc (by decide)|subst hc|(replace hc:=aD hc;subst hc)|(have hd:=aV hc;have he:=aW hc;clear hc)|(have hd:=bo hc;have he:=bp hc)|(have hd:=ay hc)|(have hd:=ag hc)|skip)))
 all_goals simp only[Option.some.injEq,Prod.mk.injEq]at h
 all_goals obtain⟨rfl,rfl,rfl,rfl,rfl,rfl,rfl⟩:=h
 all_goals refine bodyPost_ret (eu rfl _ _ _ _ _ (0,0) _ rfl aQ.out Tryz.underlying37 rfl (by kernel_rfl)) rfl ?_
 all_goals exact⟨_,_,_,rfl,(by first|exact bj|exact Kd.bl _ _ _ _ _),(by first|exact bj|exact Kd.bl _ _ _ _ _),(by first|exact bj|exact Kd.bl _ _ _ _ _),From.out⟩
def k9.f (k:Nat) (F:List (ai)) (D:Int) (G:List Int) (H:Int) (I:Int) (J:List (ah)) (a1:Int) (a2:Int):Option ((List (ai))×Int×List Int×Int×Int×(List (ah))×Bool):=(eB.f F D G H I J).bind fun u=>((eA.f k F D G H I J).bind fun K=>(if K=true then((dN.f k F D G a1 a2).bind fun z=>(some (z.1,z.2.1,z.2.2.1,u.2.2.2.1,u.2.2.2.2.1,u.2.2.2.2.2,z.2.2.2)))else(some (u.1,u.2.1,u.2.2.1,u.2.2.2.1,u.2.2.2.2.1,u.2.2.2.2.2,false))))
theorem k9.c (k:Nat) (H:Option Addr) (V:Nat) (u:List (ai)) (K:Int) (I:Option Addr) (X:Nat) (z:List Int) (O:Int) (U:Int) (J:Option Addr) (Y:Nat) (D:List (ah)) (a1:Int) (a2:Int) (r1:List (ai)) (r2:Int) (r3:List Int) (av:Int) (aB:Int) (aE:List (ah)) (aF:Bool) (w:World) (am:Kd.C aU w H u.length u) (ad:u.length≤V) (ao:Kd.C (Kd.int .i64) w I z.length z) (af:z.length≤X) (ap:Kd.C aT w J D.length D) (ak:D.length≤Y) (h:k9.f k u K z O U D a1 a2=some (r1,r2,r3,av,aB,aE,aF)):
  Calls Tryz.prog 61 #[.agg #[.slice H u.length V,.int .i64 K,.slice I z.length X,.int .i64 O,.int .i64 U,.slice J D.length Y],.int .i64 a1,.int .i64 a2] w fun e w'=>∃aG aI aK:Value,e= .returned (.tuple #[.agg #[aG,.int .i64 r2,aI,.int .i64 av,.int .i64 aB,aK],.bool aF])∧Kd.R aU 112 w' w.heap.size (fun _=>True) aG r1∧Kd.R (Kd.int .i64) 3 w' w.heap.size (fun _=>True) aI r3∧Kd.R aT 104 w' w.heap.size (fun _=>True) aK aE∧Below w.heap.size w w':=by
 replace am:=aM.mk am;replace ad:=aj.mk ad;replace ao:=aM.mk ao;replace af:=aj.mk af;replace ap:=aM.mk ap;replace ak:=aj.mk ak;unfold k9.f at h;have aN:=Tryz.underlying34;have aO:=Tryz.underlying37
 all_goals go_enter Tryz.func61,Tryz.ntmps61
 all_goals go_wp2_with ((first
  |((with_reducible refine aJ (N:=3) rfl ?_);refine bV #[.slice H u.length V,.int .i64 K,.slice I z.length X,.int .i64 O,.int .i64 U,.slice J D.length Y] 37 fun g w1 j1 j2 Z=> ?_)
  |((with_reducible refine aJ (N:=6) rfl ?_);refine bV #[.slice none 0 0,.int .i64 0,.slice none 0 0,.int .i64 0,.int .i64 0,.slice none 0 0] 37 fun g w1 j1 j2 Z=> ?_)
  |((with_reducible refine aJ (N:=8) rfl ?_);refine bV #[.slice none 0 0,.int .i64 0,.slice none 0 0,.int .i64 0,.int .i64 0,.slice none 0 0] 37 fun g w1 j1 j2 Z=> ?_)
  |((with_reducible refine aJ (N:=9) rfl ?_);refine bV #[.slice none 0 0,.int .i64 0,.slice none 0 0] 34 fun g w1 j1 j2 Z=> ?_)
  |(go_at_call 57;replace h:=bI h;obtain⟨⟨t1,t2,t3,t4,t5,t6⟩,A,h⟩:=h;(try dsimp only at h);refine(eB.c _ _ _ _ _ _ _ _ _ _ _ _ _ _ _ _ _ _ _ Rd.out aj.out Rd.out aj.out Rd.out aj.out A).mono ?_;rintro e w2 ⟨v0,v1,v2,rfl,F,G,al,hb⟩;obtain⟨aL,b0,rfl,j0,q0⟩:=aH F;obtain⟨B1,b1,rfl,j1,q1⟩:=aH G;obtain⟨B2,b2,rfl,j2,q2⟩:=aH al;have ar:=aw.mk hb;clear A F G al hb)
  |(go_at_call 32;replace h:=bI h;obtain⟨t,A,h⟩:=h;(try dsimp only at h);refine(eA.c _ _ _ _ _ _ _ _ _ _ _ _ _ _ _ Rd.out aj.out Rd.out aj.out Rd.out aj.out A).mono ?_;rintro e w2 ⟨rfl,hb⟩;have ar:=aw.mk hb;clear A hb)
  |(go_at_call 109;replace h:=bI h;obtain⟨⟨t1,t2,t3,t4⟩,A,h⟩:=h;(try dsimp only at h);refine(dN.c _ _ _ _ _ _ _ _ _ _ _ _ _ _ _ Rd.out aj.out Rd.out aj.out A).mono ?_;rintro e w2 ⟨v0,v1,rfl,F,G,hb⟩;obtain⟨aL,b0,rfl,j0,q0⟩:=aH F;obtain⟨B1,b1,rfl,j1,q1⟩:=aH G;have ar:=aw.mk hb;clear A F G hb));(repeat' first|((with_reducible replace h:=bq h);rcases h with ⟨hc,h⟩|⟨hc,h⟩<;>first|exact(bh h).elim|exact absurd hc (by decide)|subst hc|(replace hc:=aD hc;subst hc)|(have hd:=aV hc;have he:=aW hc;clear hc)|(have hd:=bo hc;have he:=bp hc)|(have hd:=ay hc)|(have hd:=ag hc)|skip)))
 all_goals simp only[Option.some.injEq,Prod.mk.injEq]at h
 all_goals obtain⟨rfl,rfl,rfl,rfl,rfl,rfl,rfl⟩:=h
 all_goals refine bodyPost_ret (eu rfl _ _ _ _ _ (0,0) _ rfl aQ.out Tryz.underlying37 rfl (by kernel_rfl)) rfl ?_
 all_goals exact⟨_,_,_,rfl,(by first|exact bj|exact Kd.bl _ _ _ _ _),(by first|exact bj|exact Kd.bl _ _ _ _ _),(by first|exact bj|exact Kd.bl _ _ _ _ _),From.out⟩
end P
namespace P
set_option maxHeartbeats 8000000
set_option maxRecDepth 100000
open Go.RowKit WW.bk WW.b_ WW.b6
attribute [local go_sem] cR cV cU cY cT cX cS cW
def eY.f (k:Nat) (z:List (ai)) (u:Int) (D:List Int) (F:Int) (G:Int) (H:List (ah)):Option (Int):=(eA.f k z u D F G H).bind fun I=>(if I=true then((cD.f k z u D).bind fun J=>(some (wrap64 ((wrap64 ((z.length:Int)-u))+(J.length:Int)))))else(some 0))
def eY.T3:Bool×List (List Nat×List Nat):=(true,[([],[]),([0],[0]),([1],[1]),([2],[2]),([],[]),([4],[4]),([5],[5]),([3,6],[3,6]),([],[]),([8],[8]),([9],[9]),([10],[10]),([7,11],[7,11]),([12,10,0,1,2,3,4,5,6,7,8,9,10,11,12],[12])])
def eY.B3:List Nat:=[0,1,3,7,0,16,48,127,0,256,768,1792,4095,8191]
theorem eY.lH:a6 .any (opsOf Tryz.f34 3)=eY.T3:=by kernel_rfl
theorem eY.kQ:bT eY.T3.2 eY.B3=true:=by kernel_rfl
theorem eY.c (k:Nat) (Z:Option Addr) (af:Nat) (D:List (ai)) (O:Int) (ad:Option Addr) (aj:Nat) (I:List Int) (X:Int) (Y:Int) (al:Option Addr) (am:Nat) (U:List (ah)) (r:Int) (w:World) (aV:Kd.C aU w Z D.length D) (aP:D.length≤af) (aW:Kd.C (Kd.int .i64) w ad I.length I) (aQ:I.length≤aj) (aX:Kd.C aT w al U.length U) (aR:U.length≤am) (h:eY.f k D O I X Y U=some r):
  Calls Tryz.prog 34 #[.agg #[.slice Z D.length af,.int .i64 O,.slice ad I.length aj,.int .i64 X,.int .i64 Y,.slice al U.length am]] w fun e w'=>e= .returned (.int .i64 r)∧Below w.heap.size w w':=by
 have bI:=Tryz.underlying37;have bH:=Tryz.underlying34;have aw:=A_ aV;have ar:=A_ aP;clear aV aP;have aB:=A_ aW;have av:=A_ aQ;clear aW aQ;have aL:=A_ aX;have aI:=A_ aR;clear aX aR;have z:=A_ (Below.refl w.heap.size w);have H:((eA.f k D O I X Y U).bind fun aE=>(if aE=true then((cD.f k D O I).bind fun aF=>(some (wrap64 ((wrap64 ((D.length:Int)-O))+(aF.length:Int)))))else(some 0)))=some r:=h;clear h;replace H:=az H;obtain⟨aE,aG,H⟩:=H
 (try dsimp only at H)
 have A2:=A_ aG;clear aG;by_cases c3:aE=true
 ·subst c3;rw[aq rfl]at H;replace H:=az H;obtain⟨aF,aH,H⟩:=H
  (try dsimp only at H)
  have aY:=A_ aH;clear aH;obtain rfl:=aC H;go_enter Tryz.func34,Tryz.ntmps34
  try go_wp2_with (first|((with_reducible refine aJ (N:=1) rfl ?_);refine bX (N:=1) (cs:= #[.slice Z D.length af,.int .i64 O,.slice ad I.length aj,.int .i64 X,.int .i64 Y,.slice al U.length am]) (t:=37) ?_;intro V hg bM ao hb;have F:=A_ (bn (oB z) hb);have G:=A_ (ao);have ak:=A_ ((by rw[hg];exact(bm (oB z)):w.heap.size≤V));have ap:=A_ ((by rw[hg];exact(bm (oB z)):w.heap.size≤V));clear z;have z:=F;have u:=G;have a1:=ak;have a0:=ap;clear F G ak ap hb ao hg;have bk:=cz u 0;have bl:=cz u 1;have bo:=cz u 2;have bp:=cz u 3;have bq:=cz u 4;have br:=cz u 5;have bA:=aK u.out 0;have bB:=aK u.out 1;have bD:=aK u.out 2;have bE:=aK u.out 3;have bF:=aK u.out 4;have bG:=aK u.out 5)|((with_reducible refine bC (f:=32) rfl ?_);refine gL (some 4) Tryz.func32 #[.agg #[.slice Z D.length af,.int .i64 O,.slice ad I.length aj,.int .i64 X,.int .i64 Y,.slice al U.length am]] ?_;(with_reducible refine(eA.c k _ _ D O _ _ I X Y _ _ U true _ ?bc ?bf ?eK ?eL ?jN ?lA A2.out).mono ?_);(case bc=>exact bP aw.out);(case bf=>exact ar.out);(case eK=>exact bP aB.out);(case eL=>exact av.out);(case jN=>exact bP aL.out);(case lA=>exact aI.out);rintro e w7 ⟨rfl,hb⟩;refine⟨_,rfl,?_⟩;have F:=A_ (bb u hb);have G:=A_ (bn (oB z) hb);clear u z;have u:=F;have z:=G;clear F G;(try clear hb);(try clear hb2);(try clear hk);(try clear hi)))
  have F:=A_ (bz u.out);have G:=A_ (cg z.out);clear u z;have u:=F;have z:=G;clear F G;refine fB (n:=14) (S:=fun w'=>w'.cell? ⟨V,0,none⟩=some (.slice Z D.length af)∧w'.cell? ⟨V,1,none⟩=some (.int .i64 O)∧w'.cell? ⟨V,2,none⟩=some (.slice ad I.length aj)∧w'.cell? ⟨V,3,none⟩=some (.int .i64 X)∧w'.cell? ⟨V,4,none⟩=some (.int .i64 Y)∧w'.cell? ⟨V,5,none⟩=some (.slice al U.length am)) (ds:=[]) #[false,false,false,false,false,false,false,false,false,false,false,false,false,false] (by kernel_rfl) rfl rfl ⟨cz u 0,cz u 1,cz u 2,cz u 3,cz u 4,cz u 5⟩ (fun hHeld=> ?_);refine fU eY.lH eY.kQ (fun J aD=> ?_);generalize w7.drew=bN at u z hHeld ⊢;refine pA 0 (some 6) J.out ?_;refine pA 1 (some 7) J.out ?_;refine pA 4 (some 10) J.out ?_;refine pA 5 (some 11) J.out ?_;refine pA 8 (some 14) J.out ?_;refine pT 2 (some 8) J.out aD.out hHeld ?_;refine pA 3 (some 9) J.out ?_;refine pT 6 (some 12) J.out aD.out hHeld ?_;refine pA 7 (some 13) J.out ?_;refine pT 9 (some 15) J.out aD.out hHeld ?_;refine dO (i:=10) (N:=some 16) #[true,true,true,true,true,true,true,true,true,true,true,false,false,false] rfl rfl (dn J.out (by kernel_rfl)) (by decide) (fun K hK=> ?_);refine df Tryz.func82 (by kernel_rfl) rfl #[.agg #[.slice Z D.length af,.int .i64 O,.slice ad I.length aj]] (by rfl) rfl rfl (by(try simp only[List.map_toArray,List.map_cons,List.map_nil]);first|done|rfl|(simp only[List.length_drop,List.length_take];rfl)) ?_
  with_reducible refine(cD.c k _ _ D O _ _ I aF _ ?bc ?bf ?eK ?eL aY.out).mono ?_
  (case bc=>exact bP aw.out)
  (case bf=>exact ar.out)
  (case eK=>exact bP aB.out)
  (case eL=>exact av.out)
  rintro e bQ ⟨bJ,rfl,aS,hb⟩;refine⟨_,rfl,?_⟩;have F:=A_ (Kd.dg aS (bm (oB z)));have G:=A_ (bb u hb);have ak:=A_ (bn (oB z) hb);clear u z;have a2:=F;have u:=G;have z:=ak;clear F G ak
  (try clear hb)
  (try clear hb2)
  (try clear hk)
  (try clear hi)
  (try clear aS)
  obtain⟨a6,a7,aM⟩:=Kd.dz a2.out
  (first|subst aM|(injection aM with aN a3 aO;have a4:=aN.symm;have a5:=aO.symm;clear aN a3 aO;subst a4;subst a5))
  refine hK.out _ _ ⟨cz u 0,cz u 1,cz u 2,cz u 3,cz u 4,cz u 5⟩ (fun hHeld=> ?_);clear hK K;refine dX (a':= ?_) ?_ ?_;rotate_left
  ·show Act.put _ (some 16) _=_;simp only[Act.put,List.setIfInBounds_toArray,List.set_cons_zero,List.set_cons_succ,cd,ct];rfl
  refine pA 11 (some 17) J.out ?_;refine pA 12 (some 18) J.out ?_;refine pA 13 (some 2) J.out ?_;refine eW (fp J.out (by kernel_rfl)) ?_
  try go_wp2
  go_ret;exact⟨eR,oB z⟩
 ·replace c3:=Bool.eq_false_iff.mpr c3;subst c3;rw[au (show¬(false=true)by decide)]at H;obtain rfl:=aC H;go_enter Tryz.func34,Tryz.ntmps34
  go_wp2_with (first|((with_reducible refine aJ (N:=1) rfl ?_);refine bX (N:=1) (cs:= #[.slice Z D.length af,.int .i64 O,.slice ad I.length aj,.int .i64 X,.int .i64 Y,.slice al U.length am]) (t:=37) ?_;intro V hg bK ao hb;have F:=A_ (bn (oB z) hb);have G:=A_ (ao);have ak:=A_ ((by rw[hg];exact(bm (oB z)):w.heap.size≤V));have ap:=A_ ((by rw[hg];exact(bm (oB z)):w.heap.size≤V));clear z;have z:=F;have u:=G;have a1:=ak;have a0:=ap;clear F G ak ap hb ao hg;have a9:=cz u 0;have a_:=cz u 1;have bd:=cz u 2;have be:=cz u 3;have bg:=cz u 4;have bh:=cz u 5;have bs:=aK u.out 0;have bt:=aK u.out 1;have bu:=aK u.out 2;have bv:=aK u.out 3;have bw:=aK u.out 4;have bx:=aK u.out 5)|((with_reducible refine bC (f:=32) rfl ?_);refine gL (some 4) Tryz.func32 #[.agg #[.slice Z D.length af,.int .i64 O,.slice ad I.length aj,.int .i64 X,.int .i64 Y,.slice al U.length am]] ?_;(with_reducible refine(eA.c k _ _ D O _ _ I X Y _ _ U false _ ?bc ?bf ?eK ?eL ?jN ?lA A2.out).mono ?_);(case bc=>exact bP aw.out);(case bf=>exact ar.out);(case eK=>exact bP aB.out);(case eL=>exact av.out);(case jN=>exact bP aL.out);(case lA=>exact aI.out);rintro e bL ⟨rfl,hb⟩;refine⟨_,rfl,?_⟩;have F:=A_ (bb u hb);have G:=A_ (bn (oB z) hb);clear u z;have u:=F;have z:=G;clear F G;(try clear hb);(try clear hb2);(try clear hk);(try clear hi)))
  go_ret;exact⟨eR,oB z⟩
end P
namespace P
set_option maxHeartbeats 8000000
set_option maxRecDepth 100000
set_option synthInstance.maxHeartbeats 400000
set_option synthInstance.maxSize 100000
open Go.RowKit WW.bk WW.b_ WW.b6 V
attribute [local go_sem] dC dD
attribute [local go_sem] cR cV cU cY cT cX cS cW
def gF.f (k:Nat) (l0:List (ah)):Option (Bool):=some (Q.cI l0)
attribute [local go_sem] gl
theorem gF.c (k:Nat) (af:Option Addr) (c0:Nat) (l0:List (ah)) (r:Bool) (w:World) (Z:Kd.C aT w af l0.length l0) (hc0:l0.length≤c0) (h:gF.f k l0=some r):
  Calls Tryz.prog 87 #[.slice af l0.length c0] w fun e w'=>e= .returned (.bool r)∧Below w.heap.size w w':=by
 have win:∀(a b c:Int) (d:Bool),decide (b≤a∧a≤c)=d→ae (∀W:World,Calls Tryz.prog 88 #[.int .i64 a,.int .i64 b,.int .i64 c] W fun e w'=>e= .returned (.bool d)∧bw W w'):=fun a b c d hd=>
  ⟨fun W=>cn.c a b c d W (by rw[←hd];unfold cn.f;by_cases hh:a≥b<;>simp[hh]<;>omega)⟩
 have hm:l0.length≤9223372036854775807:=Kd.mr Z;have u:ae ((Q.e6 (Q.dY l0 0) (l0.drop 0)&&decide (l0.length≤30))=r):=⟨aC h⟩;have F:=A_ Z;have K:=A_ win;clear Z h win;have hu:=Tryz.underlying104;go_enter Tryz.func87,Tryz.ntmps87;go_wp2
 go_loopg [3] (l0.length+1) (fun ao v3 w'=>∃(i:Nat),v3= .int .i64 (i:Int)∧ae (i+ao=l0.length+1)∧ae (i≤l0.length)∧ae ((Q.e6 (Q.dY l0 i) (l0.drop i)&&decide (l0.length≤30))=r)∧ae (Below w.heap.size w w'))
 case atStart=>exact⟨0,rfl,⟨by omega⟩,⟨by omega⟩,u,⟨by repeat(first|exact Below.refl _ _|apply bO|apply cN|apply cg)⟩⟩
 case round=>
  clear u;obtain⟨i,rfl,ai,aj,u,G⟩:=hrel;have aB:From w wr:=⟨G.out⟩;have aD:Sz w wr:=⟨G.out.size⟩;by_cases hlt:i<l0.length;rotate_left
  ·have hb3:decide ((i:Int)<(l0.length:Int))=false:=ay (by omega);have hb4:decide (i<l0.length)=false:=ay (by omega);obtain rfl:i=l0.length:=(by have:=aj.out;omega);have ak:ae (decide (l0.length≤30)=r):=⟨by rw[←u.out,List.drop_eq_nil_of_le (Nat.le_refl _)];simp[Q.e6]⟩;have hx1:decide ((l0.length:Int)≤30)=r:=(by rw[←ak.out];exact decide_eq_decide.mpr (by omega));clear u F K;go_wp2;go_ret;exact⟨by first|rfl|(simp[hx1];done),G.out⟩
  ·have hb3:decide ((i:Int)<(l0.length:Int))=true:=ag (by omega);have hb4:decide (i<l0.length)=true:=ag hlt;obtain⟨ad,e,hx0,hx1,hx2,hx3⟩:=er F.out (i:Int) (by omega) (by omega);cases e;obtain⟨x,hx⟩:∃x,av l0 (i:Int)=x:=⟨_,rfl⟩;rw[hx]at hx0 hx1 hx2 hx3;simp only[Int.toNat_natCast]at hx0 hx1 hx2 hx3;have j0:dt wr _ _:=⟨hW G hx0⟩;have j1:dt wr _ _:=⟨hW G hx1⟩;have j2:dt wr _ _:=⟨hW G hx2⟩;have J:dt wr _ _:=⟨hW G hx3⟩;have e0:l0[i]=x:=(by rw[←hx];simp[av,List.getD_eq_getElem?_getD,hlt]);have HD:=A_ (Q.rR l0 i hlt);rw[e0]at HD;obtain⟨b1,hb1⟩:∃b,decide (0≤x.f0.f0∧x.f0.f0≤3)=b:=⟨_,rfl⟩;obtain⟨b2,hb2⟩:∃b,decide (0≤x.f0.f1∧x.f0.f1≤39)=b:=⟨_,rfl⟩;obtain⟨b3,Y⟩:∃b,decide (0≤x.f1∧x.f1≤2)=b:=⟨_,rfl⟩;obtain⟨b4,U⟩:∃b,decide (0≤x.f2∧x.f2≤100000)=b:=⟨_,rfl⟩;have W1:=K.out _ _ _ _ hb1;have W2:=K.out _ _ _ _ hb2;have W3:=K.out _ _ _ _ Y;have D:=K.out _ _ _ _ U;have z:ae (Q.lV x=(b1&&(b2&&(b3&&b4)))):=⟨by rw[←hb1,←hb2,←Y,←U];rfl⟩;have I:ae (0<i→Q.dY l0 i=(av l0 ((i-1:Nat):Int)).f2):=⟨fun h0=>by rw[Q.sI l0 i h0 hlt];simp[av,List.getD_eq_getElem?_getD,show i-1<l0.length by omega]⟩;have H:ae (b4=true→i=0→Q.dY l0 i≤x.f2):=⟨fun h4 h0=>by subst h0;rw[h4,decide_eq_true_eq]at U;exact U.1⟩;clear hx hx0 hx1 hx2 hx3 e0 K hb1 hb2 Y U;cases b1 with
   |false=>
    obtain rfl:false=r:=(by rw[←u.out,HD.out,z.out];rfl);clear F u HD z I H
    go_wp2_with (first|((with_reducible refine aJ (N:=4) rfl ?_);refine bV #[.int .i64 0,.int .i64 0,.int .i64 0,.int .i64 0] 104 fun g w1 j1 j2 J=> ?_)|(go_at_call 88;(first|(with_reducible refine(W1.out _).mono ?_)|(with_reducible refine(W2.out _).mono ?_)|(with_reducible refine(W3.out _).mono ?_)|(with_reducible refine(D.out _).mono ?_));rintro e w' ⟨rfl,⟨nd,rfl⟩⟩))
    repeat(go_quiet (first|(go_at_call 88;(first|(with_reducible refine(W1.out _).mono ?_)|(with_reducible refine(W2.out _).mono ?_)|(with_reducible refine(W3.out _).mono ?_)|(with_reducible refine(D.out _).mono ?_));rintro e w' ⟨rfl,⟨nd,rfl⟩⟩;exact⟨rfl,_,World.drewN_drewN _ _ _⟩));try go_wp2)
    go_ret;exact⟨rfl,From.out⟩
   |true=>
    cases b2 with
    |false=>
     obtain rfl:false=r:=(by rw[←u.out,HD.out,z.out];rfl);clear F u HD z I H
     go_wp2_with (first|((with_reducible refine aJ (N:=4) rfl ?_);refine bV #[.int .i64 0,.int .i64 0,.int .i64 0,.int .i64 0] 104 fun g w1 j1 j2 J=> ?_)|(go_at_call 88;(first|(with_reducible refine(W1.out _).mono ?_)|(with_reducible refine(W2.out _).mono ?_)|(with_reducible refine(W3.out _).mono ?_)|(with_reducible refine(D.out _).mono ?_));rintro e w' ⟨rfl,⟨nd,rfl⟩⟩))
     repeat(go_quiet (first|(go_at_call 88;(first|(with_reducible refine(W1.out _).mono ?_)|(with_reducible refine(W2.out _).mono ?_)|(with_reducible refine(W3.out _).mono ?_)|(with_reducible refine(D.out _).mono ?_));rintro e w' ⟨rfl,⟨nd,rfl⟩⟩;exact⟨rfl,_,World.drewN_drewN _ _ _⟩));try go_wp2)
     go_ret;exact⟨rfl,From.out⟩
    |true=>
     cases b3 with
     |false=>
      obtain rfl:false=r:=(by rw[←u.out,HD.out,z.out];rfl);clear F u HD z I H
      go_wp2_with (first|((with_reducible refine aJ (N:=4) rfl ?_);refine bV #[.int .i64 0,.int .i64 0,.int .i64 0,.int .i64 0] 104 fun g w1 j1 j2 J=> ?_)|(go_at_call 88;(first|(with_reducible refine(W1.out _).mono ?_)|(with_reducible refine(W2.out _).mono ?_)|(with_reducible refine(W3.out _).mono ?_)|(with_reducible refine(D.out _).mono ?_));rintro e w' ⟨rfl,⟨nd,rfl⟩⟩))
      repeat(go_quiet (first|(go_at_call 88;(first|(with_reducible refine(W1.out _).mono ?_)|(with_reducible refine(W2.out _).mono ?_)|(with_reducible refine(W3.out _).mono ?_)|(with_reducible refine(D.out _).mono ?_));rintro e w' ⟨rfl,⟨nd,rfl⟩⟩;exact⟨rfl,_,World.drewN_drewN _ _ _⟩));try go_wp2)
      go_ret;exact⟨rfl,From.out⟩
     |true=>
      cases b4 with
      |false=>
       obtain rfl:false=r:=(by rw[←u.out,HD.out,z.out];rfl);clear F u HD z I H
       go_wp2_with (first|((with_reducible refine aJ (N:=4) rfl ?_);refine bV #[.int .i64 0,.int .i64 0,.int .i64 0,.int .i64 0] 104 fun g w1 j1 j2 J=> ?_)|(go_at_call 88;(first|(with_reducible refine(W1.out _).mono ?_)|(with_reducible refine(W2.out _).mono ?_)|(with_reducible refine(W3.out _).mono ?_)|(with_reducible refine(D.out _).mono ?_));rintro e w' ⟨rfl,⟨nd,rfl⟩⟩))
       repeat(go_quiet (first|(go_at_call 88;(first|(with_reducible refine(W1.out _).mono ?_)|(with_reducible refine(W2.out _).mono ?_)|(with_reducible refine(W3.out _).mono ?_)|(with_reducible refine(D.out _).mono ?_));rintro e w' ⟨rfl,⟨nd,rfl⟩⟩;exact⟨rfl,_,World.drewN_drewN _ _ _⟩));try go_wp2)
       go_ret;exact⟨rfl,From.out⟩
      |true=>
       have hs:(i:Int)+1≤9223372036854775807:=(by omega);by_cases hz:i=0
       ·have hz1:decide ((i:Int)>0)=false:=ay (by omega);have hz2:decide ((0:Int)<(i:Int))=false:=ay (by omega);have hz3:decide (0<i)=false:=ay (by omega);have X:ae ((Q.e6 (Q.dY l0 (i+1)) (l0.drop (i+1))&&decide (l0.length≤30))=r):=⟨by rw[←u.out,HD.out,z.out,show decide (Q.dY l0 i≤x.f2)=true from ag (H.out rfl hz)];rfl⟩;clear u HD z I H hz
        go_wp2_with (first|((with_reducible refine aJ (N:=4) rfl ?_);refine bV #[.int .i64 0,.int .i64 0,.int .i64 0,.int .i64 0] 104 fun g w1 j1 j2 J=> ?_)|(go_at_call 88;(first|(with_reducible refine(W1.out _).mono ?_)|(with_reducible refine(W2.out _).mono ?_)|(with_reducible refine(W3.out _).mono ?_)|(with_reducible refine(D.out _).mono ?_));rintro e w' ⟨rfl,⟨nd,rfl⟩⟩))
        repeat(go_quiet (first|(go_at_call 88;(first|(with_reducible refine(W1.out _).mono ?_)|(with_reducible refine(W2.out _).mono ?_)|(with_reducible refine(W3.out _).mono ?_)|(with_reducible refine(D.out _).mono ?_));rintro e w' ⟨rfl,⟨nd,rfl⟩⟩;exact⟨rfl,_,World.drewN_drewN _ _ _⟩));try go_wp2)
        go_roundg (l0.length-i)
        case measure=>have:=ai.out;omega
        case rel=>exact⟨i+1,by go_num,⟨by omega⟩,⟨by omega⟩,X,⟨From.out⟩⟩
       ·obtain⟨j,hj⟩:∃j,j=i-1:=⟨_,rfl⟩;have hz1:decide ((i:Int)>0)=true:=ag (by omega);have hz2:decide ((0:Int)<(i:Int))=true:=ag (by omega);have hz3:decide (0<i)=true:=ag (by omega);have hw1:wrap64 ((i:Int)-1)=(j:Int):=(by unfold wrap64;omega);have hw2:IntKind.i64.wrap ((i:Int)-1)=(j:Int):=(by rw[cd];exact hw1);have hj1:(j:Int)<(l0.length:Int):=(by omega);have hj2:j<l0.length:=(by omega);have ar:decide ((j:Int)<(l0.length:Int))=true:=ag (by omega);have hl2:decide (j<l0.length)=true:=ag (by omega);obtain⟨ap,e2,_,_,_,V⟩:=er F.out (j:Int) (by omega) (by omega);cases e2;obtain⟨y,hy⟩:∃y,av l0 (j:Int)=y:=⟨_,rfl⟩;have O:=A_ (I.out (by omega));rw[←hj,hy]at O;rw[hy]at V;simp only[Int.toNat_natCast]at V;have aw:dt wr _ _:=⟨hW G V⟩;clear hy V I hj;by_cases h5:y.f2≤x.f2
        ·have al:decide (y.f2>x.f2)=false:=ay (by omega);have am:decide (x.f2<y.f2)=false:=ay (by omega);have X:ae ((Q.e6 (Q.dY l0 (i+1)) (l0.drop (i+1))&&decide (l0.length≤30))=r):=⟨by rw[←u.out,HD.out,z.out,show decide (Q.dY l0 i≤x.f2)=true from ag (by rw[O.out];exact h5)];rfl⟩;clear u HD z O H F
         go_wp2_with (first|((with_reducible refine aJ (N:=4) rfl ?_);refine bV #[.int .i64 0,.int .i64 0,.int .i64 0,.int .i64 0] 104 fun g w1 j1 j2 J=> ?_)|(go_at_call 88;(first|(with_reducible refine(W1.out _).mono ?_)|(with_reducible refine(W2.out _).mono ?_)|(with_reducible refine(W3.out _).mono ?_)|(with_reducible refine(D.out _).mono ?_));rintro e w' ⟨rfl,⟨nd,rfl⟩⟩))
         repeat(go_quiet (first|(go_at_call 88;(first|(with_reducible refine(W1.out _).mono ?_)|(with_reducible refine(W2.out _).mono ?_)|(with_reducible refine(W3.out _).mono ?_)|(with_reducible refine(D.out _).mono ?_));rintro e w' ⟨rfl,⟨nd,rfl⟩⟩;exact⟨rfl,_,World.drewN_drewN _ _ _⟩));try go_wp2)
         go_roundg (l0.length-i)
         case measure=>have:=ai.out;omega
         case rel=>exact⟨i+1,by go_num,⟨by omega⟩,⟨by omega⟩,X,⟨From.out⟩⟩
        ·have al:decide (y.f2>x.f2)=true:=ag (by omega);have am:decide (x.f2<y.f2)=true:=ag (by omega);obtain rfl:false=r:=(by rw[←u.out,HD.out,z.out,show decide (Q.dY l0 i≤x.f2)=false from ay (by rw[O.out];exact h5)];rfl);clear u HD z O H F
         go_wp2_with (first|((with_reducible refine aJ (N:=4) rfl ?_);refine bV #[.int .i64 0,.int .i64 0,.int .i64 0,.int .i64 0] 104 fun g w1 j1 j2 J=> ?_)|(go_at_call 88;(first|(with_reducible refine(W1.out _).mono ?_)|(with_reducible refine(W2.out _).mono ?_)|(with_reducible refine(W3.out _).mono ?_)|(with_reducible refine(D.out _).mono ?_));rintro e w' ⟨rfl,⟨nd,rfl⟩⟩))
         repeat(go_quiet (first|(go_at_call 88;(first|(with_reducible refine(W1.out _).mono ?_)|(with_reducible refine(W2.out _).mono ?_)|(with_reducible refine(W3.out _).mono ?_)|(with_reducible refine(D.out _).mono ?_));rintro e w' ⟨rfl,⟨nd,rfl⟩⟩;exact⟨rfl,_,World.drewN_drewN _ _ _⟩));try go_wp2)
         go_ret;exact⟨rfl,From.out⟩
end P
namespace P
set_option maxHeartbeats 8000000
set_option maxRecDepth 100000
open Go.RowKit WW.bk WW.b_ WW.b6
attribute [local go_sem] cR cV cU cY cT cX cS cW
attribute [local go_sem high] vM
mutual
def bA.l0:Nat→List (ah)→List (ah)→Int→Option ((List (ah)))
 |0,_,_,_=>none
 |k+1,x0,x3,u=>if u<(x0.length:Int)then((gF.f k x0).bind fun z=>(bA.j1 k x0 x3 u z))else(bA.j1 k x0 x3 u false)
def bA.j1:Nat→List (ah)→List (ah)→Int→Bool→Option ((List (ah)))
 |0,_,_,_,_=>none
 |k+1,x0,x3,u,z=>if z=true then(if 0≤u then(if u<(x0.length:Int)then(bA.l1 k x0 x3 u (((av x0 u).f1) != 0) (wrap64 (u+1)))else(none))else(none))else(some x3)
def bA.l1:Nat→List (ah)→List (ah)→Int→Bool→Int→Option ((List (ah)))
 |0,_,_,_,_,_=>none
 |k+1,x0,x3,u,D,z=>if z<(x0.length:Int)then(if D=true then(if 0≤z then(if 0≤u then(if u<(x0.length:Int)then(bA.l1 k x0 x3 u (!(((av x0 z).f0.f0)==((av x0 u).f0.f0))||(!(((av x0 z).f0.f1)==((av x0 u).f0.f1)))) (wrap64 (z+1)))else(none))else(none))else(none))else(bA.l1 k x0 x3 u false (wrap64 (z+1))))else(if D=true then(if 0≤u then(if u<(x0.length:Int)then(if x3.length<4398046511104 then(bA.l2 k x0 (x3++[(⟨(⟨(av x0 u).f0.f0,(av x0 u).f0.f1⟩:bL),(av x0 u).f1,(av x0 u).f2⟩:ah)]) u (x3.length:Int))else(none))else(none))else(none))else(bA.l0 k x0 x3 (wrap64 (u+1))))
def bA.l2:Nat→List (ah)→List (ah)→Int→Int→Option ((List (ah)))
 |0,_,_,_,_=>none
 |k+1,x0,x3,z,u=>if u>0 then(if 0≤z then(if z<(x0.length:Int)then(if 0≤(wrap64 (u-1))then(if(wrap64 (u-1))<(x3.length:Int)then((kF.f ((av x0 z).f0.f0) ((av x0 z).f0.f1) ((av x0 z).f1) ((av x0 z).f2) ((av x3 (wrap64 (u-1))).f0.f0) ((av x3 (wrap64 (u-1))).f0.f1) ((av x3 (wrap64 (u-1))).f1) ((av x3 (wrap64 (u-1))).f2)).bind fun D=>(if D=true then(if 0≤u then(if u<(x3.length:Int)then(bA.l2 k x0 (x3.set (u:Int).toNat (⟨(⟨(av x3 (wrap64 (u-1))).f0.f0,(av x3 (wrap64 (u-1))).f0.f1⟩:bL),(av x3 (wrap64 (u-1))).f1,(av x3 (wrap64 (u-1))).f2⟩:ah)) z (wrap64 (u-1)))else(none))else(none))else(if 0≤u then(if u<(x3.length:Int)then(bA.l0 k x0 (x3.set (u:Int).toNat (⟨(⟨(av x0 z).f0.f0,(av x0 z).f0.f1⟩:bL),(av x0 z).f1,(av x0 z).f2⟩:ah)) (wrap64 (z+1)))else(none))else(none))))else(none))else(none))else(none))else(none))else(if 0≤z then(if z<(x0.length:Int)then(if 0≤u then(if u<(x3.length:Int)then(bA.l0 k x0 (x3.set (u:Int).toNat (⟨(⟨(av x0 z).f0.f0,(av x0 z).f0.f1⟩:bL),(av x0 z).f1,(av x0 z).f2⟩:ah)) (wrap64 (z+1)))else(none))else(none))else(none))else(none))
end
def bA.f (k:Nat) (l0:List (ah)):Option ((List (ah))):=bA.l0 k l0 (([]:List (ah))) 0
def bA.T9:Bool×List (List Nat×List Nat):=(true,[([],[]),([0],[0]),([1],[1]),([1],[1]),([2,3,1],[1,2,3]),([4,1],[1,4]),([5,1],[1,5]),([1],[1]),([1],[1]),([7,8,1],[1,7,8]),([9,1],[1,9]),([10,1],[1,10]),([6,11,1],[1,6,11]),([1,12],[1,12]),([13,1,0,1,2,3,4,5,6,7,8,9,10,11,12,13],[0,13])])
def bA.B9:List Nat:=[0,1,3,3,15,31,63,3,3,387,899,1923,4095,8191,16383]
theorem bA.jQ:a6 .any (opsOf Tryz.f128 9)=bA.T9:=by kernel_rfl
theorem bA.jo:bT bA.T9.2 bA.B9=true:=by kernel_rfl
def bA.qG:Bool×List (List Nat×List Nat):=(true,[([],[]),([0],[0]),([1],[1]),([2],[2]),([2],[2]),([3,4,2],[2,3,4]),([5,2],[2,5]),([2],[2]),([2],[2]),([8,2],[2,8]),([7,9,2],[2,7,9]),([10,2],[2,10]),([6,11,2,2],[2,6,11]),([2,12],[2,12])])
def bA.tP:List Nat:=[0,1,3,7,7,31,63,7,7,263,903,1927,4095,8191]
theorem bA.p5:a6 .any (opsOf Tryz.f128 13)=bA.qG:=by kernel_rfl
theorem bA.po:bT bA.qG.2 bA.tP=true:=by kernel_rfl
theorem bA.c (k:Nat) (c7:Option Addr) (c0:Nat) (l0:List (ah)) (r:List (ah)) (w:World) (dS:Kd.C aT w c7 l0.length l0) (hc0:l0.length≤c0) (h:bA.f k l0=some r):
  Calls Tryz.prog 128 #[.slice c7 l0.length c0] w fun e w'=>∃d6:Value,e= .returned (d6)∧Kd.R aT 104 w' w.heap.size (fun _=>True) d6 r∧Below w.heap.size w w':=by
 have gi:=Tryz.underlying74;have gh:=Tryz.underlying104;have aH:=A_ dS;have d':=A_ hc0;clear dS hc0;have z:=A_ (Below.refl w.heap.size w);have H:(bA.l0 k l0 (([]:List (ah))) 0)=some r:=h;clear h;obtain⟨d7,bM⟩:∃aQ:List (ah),aQ=(([]:List (ah))):=⟨_,rfl⟩;replace H:(bA.l0 k l0 d7 0)=some r:=by first|(rw[bM];with_reducible exact H)|(have Y:=(aA _ _).symm.trans H;rw[bM];with_reducible exact Y)|(have Y:=(aA _ _).symm.trans H;with_reducible exact Y)|with_reducible exact H|(rw[bM];exact H)|exact H
 have dj:=A_ bM;clear bM;have H':=A_ H;clear H;go_enter Tryz.func128,Tryz.ntmps128
 go_wp2_with (first|((with_reducible refine aJ (N:=8) rfl ?_);refine Kd.fE aT _ 104 ?hg (N:=8) ?hd (xs:=([]:List (ah))) (inner:=[]) (ok:=fun _=>True) (bN:=fun _=>True) ?hr ?hp (fun _ hk=>hk) trivial (Below.refl _ _) (Nat.le_refl _) (by simp) ?_;(case hd=>rfl);(case hg=>rfl);(case hr=>first|(go_simp;done)|(go_simp;rfl));(case hp=>exact(aY.none _ _));intro gA w2 bw hb e2 e3;clear e2 e3;(first|rw[←dj.out]at bw|(simp only[Int.reduceToNat]at bw;rw[←dj.out]at bw));have O:=A_ (Kd.dg bw (bm (oB z)));have U:=A_ (bn (oB z) hb);clear z;have ea:=O;have z:=U;clear O U hb bw))
 go_loopg [3,4] k (fun ao v3 v4 w'=>∃(am:List (ah)) (u:Int),v4= .int .i64 u∧ae (bA.l0 ao l0 am u=some r)∧ae (ao≤k)∧ae (Kd.R aT 104 w' w.heap.size (fun _=>True) v3 am)∧ae (Below w.heap.size w w'))
 case atStart=>exact⟨(d7),(0),eS,H',⟨Nat.le_refl _⟩,⟨oR ea⟩,⟨oB z⟩⟩
 case round=>
  clear H'
  try clear c1
  try clear p2
  obtain⟨am,u,rfl,ad,ak,J,z⟩:=hrel;cases gk with
  |zero=>exact absurd ad.out (by simp[bA.l0])
  |succ k1=>
   have H:=ad.out;clear ad;simp only[bA.l0]at H;have co:=A_ H;clear H
   go_upto_region 3 with (fail)
   go_cut [16] (fun v16 wc=>∃(ao:Nat) (cn:Bool),v16= .bool cn∧ae (bA.j1 ao l0 am u cn=some r)∧ae (ao≤k1)∧ae (Kd.R aT 104 wc w.heap.size (fun _=>True) u3 am)∧ae (Below w.heap.size w wc))
   case first=>
    have H:=co.out;clear co;by_cases c5:u<(l0.length:Int)
    ·rw[aq c5]at H;have aR:decide (u<(l0.length:Int))=true:=ag c5;clear c5
     (first|rw[aR]|(simp only[cd,ct];rw[aR])|skip)
     replace H:=az H;obtain⟨d5,da,H⟩:=H
     (try dsimp only at H)
     have d9:=A_ da;clear da;have H':=A_ H;clear H
     go_wp2_with (first|(go_at_call 87;(with_reducible refine(gF.c k1 _ _ l0 d5 _ ?bc ?bf d9.out).mono ?_);(case bc=>exact bP aH.out);(case bf=>exact d'.out);rintro e w7 ⟨rfl,hb⟩;have O:=A_ (Kd.dG (oR J) hb);have U:=A_ (bn (oB z) hb);clear J z;have J:=O;have z:=U;clear O U;(try clear hb);(try clear hb2);(try clear hk);(try clear hi)))
     go_meet
     case rel=>exact⟨_,(d5),eS,H',⟨by have:=ak.out;first|omega|exact Nat.le_refl _⟩,⟨oR J⟩,⟨oB z⟩⟩
    ·rw[au c5]at H;have aR:decide (u<(l0.length:Int))=false:=ay c5;clear c5
     (first|rw[aR]|(simp only[cd,ct];rw[aR])|skip)
     have H':=A_ H;clear H;go_wp2
     go_meet
     case rel=>exact⟨_,(false),eS,H',⟨by have:=ak.out;first|omega|exact Nat.le_refl _⟩,⟨oR J⟩,⟨oB z⟩⟩
   case rest=>
    clear co
    try clear c1
    try clear p2
    try clear c5
    try clear aR
    try clear p2
    obtain⟨ao,cn,rfl,ad,ap,J,z⟩:=hcut;cases ao with
    |zero=>exact absurd ad.out (by simp[bA.j1])
    |succ d2=>
     have H:=ad.out;clear ad;simp only[bA.j1]at H;by_cases c8:cn=true
     ·subst c8;rw[aq rfl]at H;by_cases c9:0≤u
      ·rw[aq c9]at H;have dm:decide (0≤u)=true:=ag c9;clear c9;by_cases c10:u<(l0.length:Int)
       ·rw[aq c10]at H;have dk:decide (u<(l0.length:Int))=true:=ag c10;clear c10;have H':=A_ H;clear H;have bU:0≤(u:Int):=oD;have bV:u<(l0.length:Int):=oD;obtain⟨V,ey,cb,cc,ce,cf⟩:=er aH.out u bU bV;cases ey;replace cb:=hW z cb;replace cc:=hW z cc;replace ce:=hW z ce;replace cf:=hW z cf;replace bU:=ax bU;replace bV:=ax bV;go_wp2
        go_loopg [5,6] d2 (fun ao v5 v6 w'=>∃(bW:Bool) (X:Int),v5= .bool bW∧v6= .int .i64 X∧ae (bA.l1 ao l0 am u bW X=some r)∧ae (ao≤d2)∧ae (Kd.R aT 104 w' w.heap.size (fun _=>True) u3 am)∧ae (Below w.heap.size w w'))
        case atStart=>exact⟨((((av l0 u).f1) != 0)),(wrap64 (u+1)),eS,eS,H',⟨Nat.le_refl _⟩,⟨oR J⟩,⟨oB z⟩⟩
        case round=>
         clear H'
         try clear c1
         try clear p2
         try clear d3
         try clear q4
         try clear fg
         try clear c5
         try clear aR
         try clear d4
         try clear c8
         try clear c9
         try clear dm
         try clear c10
         try clear dk
         try clear cb
         try clear cc
         try clear ce
         try clear cf
         try clear p2
         try clear bU
         try clear bV
         obtain⟨bW,X,rfl,rfl,ad,ar,J,z⟩:=hrel;cases gk with
         |zero=>exact absurd ad.out (by simp[bA.l1])
         |succ k3=>
          have H:=ad.out;clear ad;simp only[bA.l1]at H;by_cases c11:X<(l0.length:Int)
          ·rw[aq c11]at H;have dl:decide (X<(l0.length:Int))=true:=ag c11;clear c11;by_cases c12:bW=true
           ·subst c12;rw[aq rfl]at H;by_cases c13:0≤X
            ·rw[aq c13]at H;have ep:decide (0≤X)=true:=ag c13;clear c13;by_cases c14:0≤u
             ·rw[aq c14]at H;have es:decide (0≤u)=true:=ag c14;clear c14;by_cases c15:u<(l0.length:Int)
              ·rw[aq c15]at H;have et:decide (u<(l0.length:Int))=true:=ag c15;clear c15;have H':=A_ H;clear H
               try go_wp2
               have O:=A_ (Kd.dH J.out);have U:=A_ (cg z.out);clear J z;have J:=O;have z:=U;clear O U;have ch:0≤(X:Int):=oD;have ck:X<(l0.length:Int):=oD;obtain⟨ej,ez,bD,bE,bF,bG⟩:=er aH.out X ch ck;have e7:=bG;have e6:=bF;have e5:=bE;have e4:=bD;obtain rfl:V=ej:=(by injection ez);replace bD:=hW z bD;replace bE:=hW z bE;replace bF:=hW z bF;replace bG:=hW z bG;replace ch:=ax ch;replace ck:=ax ck;have ci:0≤(u:Int):=oD;have cl:u<(l0.length:Int):=oD;obtain⟨ek,eA,bH,bI,bJ,bK⟩:=er aH.out u ci cl;have fb:=bK;have fa:=bJ;have e':=bI;have e9:=bH;obtain rfl:V=ek:=(by injection eA);replace bH:=hW z bH;replace bI:=hW z bI;replace bJ:=hW z bJ;replace bK:=hW z bK;replace ci:=ax ci;replace cl:=ax cl;refine fB (n:=15) (S:=fun w'=>w'.cell? (V.add ((X).toNat*4))=some (.int .i64 ((av l0 X).f0.f0))∧w'.cell? ⟨(V.add ((X).toNat*4)).block,(V.add ((X).toNat*4)).off+1,none⟩=some (.int .i64 ((av l0 X).f0.f1))∧w'.cell? ⟨(V.add ((X).toNat*4)).block,(V.add ((X).toNat*4)).off+2,none⟩=some (.int .i64 ((av l0 X).f1))∧w'.cell? ⟨(V.add ((X).toNat*4)).block,(V.add ((X).toNat*4)).off+3,none⟩=some (.int .i64 ((av l0 X).f2))∧w'.cell? (V.add ((u).toNat*4))=some (.int .i64 ((av l0 u).f0.f0))∧w'.cell? ⟨(V.add ((u).toNat*4)).block,(V.add ((u).toNat*4)).off+1,none⟩=some (.int .i64 ((av l0 u).f0.f1))∧w'.cell? ⟨(V.add ((u).toNat*4)).block,(V.add ((u).toNat*4)).off+2,none⟩=some (.int .i64 ((av l0 u).f1))∧w'.cell? ⟨(V.add ((u).toNat*4)).block,(V.add ((u).toNat*4)).off+3,none⟩=some (.int .i64 ((av l0 u).f2))) (ds:=[]) #[false,false,false,false,false,false,false,false,false,false,false,false,false,false,false] (by kernel_rfl) rfl rfl ⟨(hW z e4),(hW z e5),(hW z e6),(hW z e7),(hW z e9),(hW z e'),(hW z fa),(hW z fb)⟩ (fun hHeld=> ?_);refine fU bA.jQ bA.jo (fun I aG=> ?_);generalize wr.drew=gB at J z bD bE bF bG bH bI bJ bK hHeld ⊢;refine pA 0 (some 33) I.out ?_;refine pA 1 (some 34) I.out ?_;refine pA 2 (some 35) I.out ?_;refine pA 3 (some 36) I.out ?_;refine pA 4 (some 37) I.out ?_;refine pA 5 (some 38) I.out ?_;refine pA 7 (some 40) I.out ?_;refine pA 8 (some 41) I.out ?_;refine pA 9 (some 42) I.out ?_;refine pA 10 (some 43) I.out ?_;refine pT 6 (some 39) I.out aG.out hHeld ?_;refine pT 11 (some 44) I.out aG.out hHeld ?_;refine pA 12 (some 45) I.out ?_;refine pA 13 (some 46) I.out ?_;refine pA 14 (some 5) I.out ?_;refine eW (fp I.out (by kernel_rfl)) ?_
               try go_wp2
               go_roundg k3
               case measure=>have:=ak.out;have:=ap.out;have:=ar.out;omega
               case rel=>exact⟨((!(((av l0 X).f0.f0)==((av l0 u).f0.f0))||(!(((av l0 X).f0.f1)==((av l0 u).f0.f1))))),(wrap64 (X+1)),eS,eS,H',⟨by have:=ak.out;have:=ap.out;have:=ar.out;omega⟩,⟨oR J⟩,⟨oB z⟩⟩
              ·rw[au c15]at H;exact absurd H (by simp)
             ·rw[au c14]at H;exact absurd H (by simp)
            ·rw[au c13]at H;exact absurd H (by simp)
           ·replace c12:=Bool.eq_false_iff.mpr c12;subst c12;rw[au (show¬(false=true)by decide)]at H;have H':=A_ H;clear H
            try go_wp2
            have O:=A_ (Kd.dH J.out);have U:=A_ (cg z.out);clear J z;have J:=O;have z:=U;clear O U;refine fB (n:=15) (S:=fun w'=>True) (ds:=[]) #[false,false,false,false,false,false,false,false,false,false,false,false,false,false,false] (by kernel_rfl) rfl rfl trivial (fun hHeld=> ?_);refine fU bA.jQ bA.jo (fun I aG=> ?_);generalize wr.drew=gD at J z hHeld ⊢;refine pA 0 (some 33) I.out ?_;refine pA 1 (some 34) I.out ?_;refine pU 2 (some 35) I.out ?_;refine pU 3 (some 36) I.out ?_;refine pU 4 (some 37) I.out ?_;refine pU 5 (some 38) I.out ?_;refine pU 6 (some 39) I.out ?_;refine pU 7 (some 40) I.out ?_;refine pU 8 (some 41) I.out ?_;refine pU 9 (some 42) I.out ?_;refine pU 10 (some 43) I.out ?_;refine pU 11 (some 44) I.out ?_;refine pU 12 (some 45) I.out ?_;refine pA 13 (some 46) I.out ?_;refine pA 14 (some 5) I.out ?_;refine eW (fp I.out (by kernel_rfl)) ?_
            try go_wp2
            go_roundg k3
            case measure=>have:=ak.out;have:=ap.out;have:=ar.out;omega
            case rel=>exact⟨(false),(wrap64 (X+1)),eS,eS,H',⟨by have:=ak.out;have:=ap.out;have:=ar.out;omega⟩,⟨oR J⟩,⟨oB z⟩⟩
          ·rw[au c11]at H;have dl:decide (X<(l0.length:Int))=false:=ay c11;clear c11;by_cases c18:bW=true
           ·subst c18;rw[aq rfl]at H;by_cases c19:0≤u
            ·rw[aq c19]at H;have eu:decide (0≤u)=true:=ag c19;clear c19;by_cases c20:u<(l0.length:Int)
             ·rw[aq c20]at H;have ev:decide (u<(l0.length:Int))=true:=ag c20;clear c20;by_cases bd:am.length<4398046511104
              ·rw[aq bd]at H;have ec:=A_ bd;clear bd;obtain⟨d8,bQ⟩:∃aQ:List (ah),aQ=(am++[(⟨(⟨(av l0 u).f0.f0,(av l0 u).f0.f1⟩:bL),(av l0 u).f1,(av l0 u).f2⟩:ah)]):=⟨_,rfl⟩;replace H:(bA.l2 k3 l0 d8 u (am.length:Int))=some r:=by first|(rw[bQ];with_reducible exact H)|(have Y:=(aA _ _).symm.trans H;rw[bQ];with_reducible exact Y)|(have Y:=(aA _ _).symm.trans H;with_reducible exact Y)|with_reducible exact H|(rw[bQ];exact H)|exact H
               have ef:=A_ bQ;clear bQ;have H':=A_ H;clear H;obtain⟨d_,ex,eF⟩:=Kd.dz J.out;subst eF;have cj:0≤(u:Int):=oD;have cm:u<(l0.length:Int):=oD;obtain⟨el,eB,cF,cG,cH,cI⟩:=er aH.out u cj cm;obtain rfl:V=el:=(by injection eB);replace cF:=hW z cF;replace cG:=hW z cG;replace cH:=hW z cH;replace cI:=hW z cI;replace cj:=ax cj;replace cm:=ax cm
               go_wp2_with (first|((with_reducible refine iF (b:= .append) (xs:= #[.tmp 51,.tmp 56]) rfl ?_);at_builtin;refine Kd.kM aT (w0:=w) w.heap.size rfl (.tmp 51) (.tmp 56) 35 104 (.agg #[(.int .i64 0),(.int .i64 0),(.int .i64 0),(.int .i64 0)]) 32 rfl Tryz.underlying35 lX rfl (by decide) (by omega) (.slice d_ am.length ex) am (⟨(⟨(av l0 u).f0.f0,(av l0 u).f0.f1⟩:bL),(av l0 u).f1,(av l0 u).f2⟩:ah) [.int .i64 ((av l0 u).f0.f0),.int .i64 ((av l0 u).f0.f1),.int .i64 ((av l0 u).f1),.int .i64 ((av l0 u).f2)] (fun _=>True) (fun _=>False) rfl rfl ?aP (fun _ hk=>hk.elim) ?aF ?aO ?aB ?aS ?aL ?_;(case aP=>exact iR _ _ _ (⟨(⟨(av l0 u).f0.f0,(av l0 u).f0.f1⟩:bL),(av l0 u).f1,(av l0 u).f2⟩:ah));(case aB=>exact(oB z));(case aF=>exact(fun _ _=>trivial));(case aO=>exact(oR J));(case aS=>exact(bm (oB z)));(case aL=>have:=ec.out;omega);intro fw gE ho hb hg hat;rw[←ef.out]at ho;have O:=A_ (hb);have U:=A_ (ho);clear z J;have z:=O;have eb:=U;clear O U ho hb hg hat))
               go_loopg [7] k3 (fun ao v7 w'=>∃(D:List (ah)) (F:Int),v7= .int .i64 F∧ae (bA.l2 ao l0 D u F=some r)∧ae (ao≤k3)∧ae (Kd.R aT 104 w' w.heap.size (fun _=>True) fw D)∧ae (Below w.heap.size w w'))
               case atStart=>exact⟨(d8),((am.length:Int)),eS,H',⟨Nat.le_refl _⟩,⟨oR eb⟩,⟨oB z⟩⟩
               case round=>
                clear H'
                try clear c1
                try clear c2
                try clear p2
                try clear d3
                try clear q4
                try clear fg
                try clear c5
                try clear aR
                try clear d4
                try clear c8
                try clear c9
                try clear dm
                try clear c10
                try clear dk
                try clear c11
                try clear dl
                try clear c12
                try clear c13
                try clear ep
                try clear c14
                try clear es
                try clear c15
                try clear et
                try clear c18
                try clear c19
                try clear eu
                try clear c20
                try clear ev
                try clear bd
                try clear cb
                try clear cc
                try clear ce
                try clear cf
                try clear bD
                try clear bE
                try clear bF
                try clear bG
                try clear bH
                try clear bI
                try clear bJ
                try clear bK
                try clear cF
                try clear cG
                try clear cH
                try clear cI
                try clear p2
                try clear d3
                try clear bU
                try clear ch
                try clear ci
                try clear cj
                try clear d4
                try clear q4
                try clear bV
                try clear ck
                try clear cl
                try clear cm
                obtain⟨D,F,rfl,ad,a5,J,z⟩:=hrel;cases gk with
                |zero=>exact absurd ad.out (by simp[bA.l2])
                |succ k4=>
                 have H:=ad.out;clear ad;simp only[bA.l2]at H;by_cases a6:F>0
                 ·rw[aq a6]at H;have ew:decide (0<F)=true:=ag a6;clear a6;by_cases b0:0≤u
                  ·rw[aq b0]at H;have fD:decide (0≤u)=true:=ag b0;clear b0;by_cases b1:u<(l0.length:Int)
                   ·rw[aq b1]at H;have fF:decide (u<(l0.length:Int))=true:=ag b1;clear b1;obtain⟨G,bb⟩:∃fv:Int,(wrap64 (F-1))=fv:=⟨_,rfl⟩;replace H:(if 0≤(G)then(if(G)<(D.length:Int)then((kF.f ((av l0 u).f0.f0) ((av l0 u).f0.f1) ((av l0 u).f1) ((av l0 u).f2) ((av D (G)).f0.f0) ((av D (G)).f0.f1) ((av D (G)).f1) ((av D (G)).f2)).bind fun cW=>(if cW=true then(if 0≤F then(if F<(D.length:Int)then(bA.l2 k4 l0 (D.set (F:Int).toNat (⟨(⟨(av D (G)).f0.f0,(av D (G)).f0.f1⟩:bL),(av D (G)).f1,(av D (G)).f2⟩:ah)) u G)else(none))else(none))else(if 0≤F then(if F<(D.length:Int)then(bA.l0 k4 l0 (D.set (F:Int).toNat (⟨(⟨(av l0 u).f0.f0,(av l0 u).f0.f1⟩:bL),(av l0 u).f1,(av l0 u).f2⟩:ah)) (wrap64 (u+1)))else(none))else(none))))else(none))else(none))=some r:=by first|(rw[bb]at H;exact H)|(simp only[bb]at H ⊢;exact H)
                    have gg:(IntKind.i64.wrap (F-1))=G:=(cd _).trans bb;by_cases b2:0≤(G)
                    ·rw[aq b2]at H;have fG:decide (0≤(G))=true:=ag b2;clear b2;by_cases b3:(G)<(D.length:Int)
                     ·rw[aq b3]at H;have fH:decide ((G)<(D.length:Int))=true:=ag b3;clear b3;replace H:=az H;obtain⟨cW,c',H⟩:=H
                      (try dsimp only at H)
                      have c_:=A_ c';clear c';by_cases b4:cW=true
                      ·subst b4;rw[aq rfl]at H;by_cases b5:0≤F
                       ·rw[aq b5]at H;have fI:decide (0≤F)=true:=ag b5;clear b5;by_cases b6:F<(D.length:Int)
                        ·rw[aq b6]at H;have fJ:decide (F<(D.length:Int))=true:=ag b6;clear b6;obtain⟨c3,bR⟩:∃aQ:List (ah),aQ=(D.set (F:Int).toNat (⟨(⟨(av D (G)).f0.f0,(av D (G)).f0.f1⟩:bL),(av D (G)).f1,(av D (G)).f2⟩:ah)):=⟨_,rfl⟩;replace H:(bA.l2 k4 l0 c3 u G)=some r:=by first|(rw[bR];with_reducible exact H)|(have Y:=(aA _ _).symm.trans H;rw[bR];with_reducible exact Y)|(have Y:=(aA _ _).symm.trans H;with_reducible exact Y)|with_reducible exact H|(rw[bR];exact H)|exact H
                         have eg:=A_ bR;clear bR;have H':=A_ H;clear H
                         try go_wp2
                         have O:=A_ (Kd.dH J.out);have U:=A_ (cg z.out);clear J z;have J:=O;have z:=U;clear O U;have a1:0≤(u:Int):=oD;have a3:u<(l0.length:Int):=oD;obtain⟨cz,cA,aI,aK,aM,aN⟩:=er aH.out u a1 a3;have bC:=aN;have bB:=aM;have bz:=aK;have bx:=aI;obtain rfl:V=cz:=(by injection cA);replace aI:=hW z aI;replace aK:=hW z aK;replace aM:=hW z aM;replace aN:=hW z aN;replace a1:=ax a1;replace a3:=ax a3;obtain⟨fx,dp,dv⟩:=Kd.dz J.out
                         (first|subst dv|(injection dv with bh cC bk;have cD:=bh.symm;have cE:=bk.symm;clear bh cC bk;subst cD;subst cE))
                         have a2:0≤((G):Int):=oD;have a4:(G)<(D.length:Int):=oD;obtain⟨Z,cB,aV,aW,aX,a0⟩:=er (Kd.cp J.out).2.2 (G) a2 a4;cases cB;replace a2:=ax a2;replace a4:=ax a4;refine fB (n:=14) (S:=fun w'=>w'.cell? (V.add ((u).toNat*4))=some (.int .i64 ((av l0 u).f0.f0))∧w'.cell? ⟨(V.add ((u).toNat*4)).block,(V.add ((u).toNat*4)).off+1,none⟩=some (.int .i64 ((av l0 u).f0.f1))∧w'.cell? ⟨(V.add ((u).toNat*4)).block,(V.add ((u).toNat*4)).off+2,none⟩=some (.int .i64 ((av l0 u).f1))∧w'.cell? ⟨(V.add ((u).toNat*4)).block,(V.add ((u).toNat*4)).off+3,none⟩=some (.int .i64 ((av l0 u).f2))∧w'.cell? (Z.add (((G)).toNat*4))=some (.int .i64 ((av D (G)).f0.f0))∧w'.cell? ⟨(Z.add (((G)).toNat*4)).block,(Z.add (((G)).toNat*4)).off+1,none⟩=some (.int .i64 ((av D (G)).f0.f1))∧w'.cell? ⟨(Z.add (((G)).toNat*4)).block,(Z.add (((G)).toNat*4)).off+2,none⟩=some (.int .i64 ((av D (G)).f1))∧w'.cell? ⟨(Z.add (((G)).toNat*4)).block,(Z.add (((G)).toNat*4)).off+3,none⟩=some (.int .i64 ((av D (G)).f2))) (ds:=[]) #[false,false,false,false,false,false,false,false,false,false,false,false,false,false] (by kernel_rfl) rfl rfl ⟨(hW z bx),(hW z bz),(hW z bB),(hW z bC),aV,aW,aX,a0⟩ (fun hHeld=> ?_);refine fU bA.p5 bA.po (fun I aG=> ?_);generalize wr.drew=gG at J z aI aK aM aN aV aW aX a0 hHeld ⊢;refine pA 0 (some 58) I.out ?_;refine pA 1 (some 59) I.out ?_;refine pA 2 (some 60) I.out ?_;refine pA 3 (some 61) I.out ?_;refine pA 4 (some 62) I.out ?_;refine pA 5 (some 63) I.out ?_;refine pA 7 (some 65) I.out ?_;refine pA 8 (some 66) I.out ?_;refine pA 9 (some 67) I.out ?_;refine pA 10 (some 68) I.out ?_;refine pT 6 (some 64) I.out aG.out hHeld ?_;refine pT 11 (some 69) I.out aG.out hHeld ?_;refine dO (i:=12) (N:=some 70) #[true,true,true,true,true,true,true,true,true,true,true,true,true,false] rfl rfl (dn I.out (by kernel_rfl)) (by decide) (fun K hK=> ?_);refine df Tryz.func140 (by kernel_rfl) rfl #[.agg #[.int .i64 ((av l0 u).f0.f0),.int .i64 ((av l0 u).f0.f1),.int .i64 ((av l0 u).f1),.int .i64 ((av l0 u).f2)],.agg #[.int .i64 ((av D (G)).f0.f0),.int .i64 ((av D (G)).f0.f1),.int .i64 ((av D (G)).f1),.int .i64 ((av D (G)).f2)]] (by rfl) rfl rfl (by(try simp only[List.map_toArray,List.map_cons,List.map_nil]);first|done|(simp only[bb];rfl)|rfl|(simp only[List.length_drop,List.length_take];rfl)) ?_
                         with_reducible refine(kF.c ((av l0 u).f0.f0) ((av l0 u).f0.f1) ((av l0 u).f1) ((av l0 u).f2) ((av D (G)).f0.f0) ((av D (G)).f0.f1) ((av D (G)).f1) ((av D (G)).f2) true _ c_.out).mono ?_
                         rintro e aw ⟨rfl,hb⟩;have cv:=(hb.cell (World.block_lt_of_cell? _ _ (hHeld.2.2.2.2.1))).trans (hHeld.2.2.2.2.1);have cw:=(hb.cell (World.block_lt_of_cell? _ _ (hHeld.2.2.2.2.2.1))).trans (hHeld.2.2.2.2.2.1);have cx:=(hb.cell (World.block_lt_of_cell? _ _ (hHeld.2.2.2.2.2.2.1))).trans (hHeld.2.2.2.2.2.2.1);have cy:=(hb.cell (World.block_lt_of_cell? _ _ (hHeld.2.2.2.2.2.2.2))).trans (hHeld.2.2.2.2.2.2.2);refine⟨_,rfl,?_⟩;have O:=A_ (Kd.dG (oR J) hb);have U:=A_ (bn (oB z) hb);clear J z;have J:=O;have z:=U;clear O U
                         (try clear hb)
                         (try clear hb2)
                         (try clear hk)
                         (try clear hi)
                         refine hK.out _ _ ⟨(hW z bx),(hW z bz),(hW z bB),(hW z bC),cv,cw,cx,cy⟩ (fun hHeld=> ?_);clear hK K;refine dX (a':= ?_) ?_ ?_;rotate_left
                         ·show Act.put _ (some 70) _=_;simp only[Act.put,List.setIfInBounds_toArray,List.set_cons_zero,List.set_cons_succ,cd,ct];rfl
                         refine pA 13 (some 71) I.out ?_;refine eW (fp I.out (by kernel_rfl)) ?_;have cK:0≤((G):Int):=oD;have cR:(G)<(D.length:Int):=oD;obtain⟨em,eC,fh,fi,fj,fk⟩:=er (Kd.cp J.out).2.2 (G) cK cR;obtain rfl:Z=em:=(by injection eC);replace cK:=ax cK;replace cR:=ax cR;have cJ:0≤(F:Int):=oD;have cQ:(F:Int)<((D.length:Int):Int):=oD;obtain⟨af,f3,du,dB,eG,fX,db⟩:=Kd.iN J.out (by omega)
                         (first|cases du|(injection du with al bg be;(first|subst al|(injection al with al;subst al));subst be;clear bg))
                         have bX:=A_ dB;have fz:=A_ db;clear dB eG db
                         (first|simp only[add_plain]at aV|skip)
                         (first|simp only[add_plain]at aW|skip)
                         (first|simp only[add_plain]at aX|skip)
                         (first|simp only[add_plain]at a0|skip)
                         (first|simp only[add_plain]at fh|skip)
                         (first|simp only[add_plain]at fi|skip)
                         (first|simp only[add_plain]at fj|skip)
                         (first|simp only[add_plain]at fk|skip)
                         obtain⟨fQ,eJ,dE,bl,bq⟩:=Kd.gZ J.out dr (F:Int) cJ cQ;obtain rfl:=lY dE;have gj:aw.cell? ⟨af,(F:Int).toNat*4,none⟩=some (.int .i64 ((av D F).f0.f0)):=bl 0 _ rfl;have gl:aw.cell? ⟨af,(F:Int).toNat*4+1,none⟩=some (.int .i64 ((av D F).f0.f1)):=bl 1 _ rfl;have gm:aw.cell? ⟨af,(F:Int).toNat*4+2,none⟩=some (.int .i64 ((av D F).f1)):=bl 2 _ rfl;have gn:aw.cell? ⟨af,(F:Int).toNat*4+3,none⟩=some (.int .i64 ((av D F).f2)):=bl 3 _ rfl;have f5:aw.frozen? ⟨af,(F:Int).toNat*4,none⟩=false:=bq 0;have f6:aw.frozen? ⟨af,(F:Int).toNat*4+1,none⟩=false:=bq 1;have f7:aw.frozen? ⟨af,(F:Int).toNat*4+2,none⟩=false:=bq 2;have f8:aw.frozen? ⟨af,(F:Int).toNat*4+3,none⟩=false:=bq 3;clear eJ bl bq dE;replace cJ:=ax cJ;replace cQ:=ax cQ;have de:=A_ (show Kd.R aT 104 aw w.heap.size (fun _=>True) (.slice (some ⟨af,0,none⟩) D.length dp) D from(oR J));obtain⟨fR,dP,dF,a7,br⟩:=Kd.gZ de.out dr (F:Int) (oD) (by have h_:(F:Int)<((D.length:Int):Int):=oD;first|exact h_|(have e_:=(Kd.cp J.out).1;omega)|simpa using h_);obtain rfl:=lY dF;have cq:=Kd.lO de.out (F:Int) (oD) (by have h_:(F:Int)<((D.length:Int):Int):=oD;first|exact h_|(have e_:=(Kd.cp J.out).1;omega)|simpa using h_) (seg:=[.int .i64 ((av D (G)).f0.f0),.int .i64 ((av D (G)).f0.f1),.int .i64 ((av D (G)).f1),.int .i64 ((av D (G)).f2)]) (j:=0) dP a7 (show 4≤4 from by decide) (x':=(⟨(⟨(av D (G)).f0.f0,(av D (G)).f0.f1⟩:bL),(av D (G)).f1,(av D (G)).f2⟩:ah)) (iR _ _ _ (⟨(⟨(av D (G)).f0.f0,(av D (G)).f0.f1⟩:bL),(av D (G)).f1,(av D (G)).f2⟩:ah)) (fun _ hk=>hk);have fc:=a7 0 _ rfl
                         (try simp only[show(aT).sz=4 from rfl,Nat.mul_one,Nat.add_zero]at fc)
                         have eM:=br 0
                         (try simp only[show(aT).sz=4 from rfl,Nat.mul_one,Nat.add_zero]at eM)
                         have fd:=a7 1 _ rfl
                         (try simp only[show(aT).sz=4 from rfl,Nat.mul_one,Nat.add_zero]at fd)
                         have eN:=br 1
                         (try simp only[show(aT).sz=4 from rfl,Nat.mul_one,Nat.add_zero]at eN)
                         have fe:=a7 2 _ rfl
                         (try simp only[show(aT).sz=4 from rfl,Nat.mul_one,Nat.add_zero]at fe)
                         have eO:=br 2
                         (try simp only[show(aT).sz=4 from rfl,Nat.mul_one,Nat.add_zero]at eO)
                         have ff:=a7 3 _ rfl
                         (try simp only[show(aT).sz=4 from rfl,Nat.mul_one,Nat.add_zero]at ff)
                         have eP:=br 3
                         (try simp only[show(aT).sz=4 from rfl,Nat.mul_one,Nat.add_zero]at eP)
                         clear dP a7 br dF
                         try go_wp2_with (first|((with_reducible refine ju (t:=104) (p:=79) rfl ?_);refine jP (t:=104) (p:=79) (v:= ?zC) (w1:=((((aw.setCell ⟨af,(F:Int).toNat*4,none⟩ (.int .i64 ((av D (G)).f0.f0))).setCell ⟨af,(F:Int).toNat*4+1,none⟩ (.int .i64 ((av D (G)).f0.f1))).setCell ⟨af,(F:Int).toNat*4+2,none⟩ (.int .i64 ((av D (G)).f1))).setCell ⟨af,(F:Int).toNat*4+3,none⟩ (.int .i64 ((av D (G)).f2)))) ?hg ?ho ?hn ?hr ?_;(case ho=>rfl);(case hg=>rfl);(case hn=>rfl);(case hr=>first|(go_simp;done)|(go_simp;rfl));intro cX hw;have hg:aw.grownBy cX (some af):=(by rw[hw];exact cq.2);have aU:Kd.R aT 104 cX w.heap.size (fun _=>True) (.slice (some ⟨af,0,none⟩) D.length dp) c3:=(by rw[hw,eg.out];exact cq.1);clear cq;have O:=A_ (aU);have U:=A_ ((by rw[hw];exact dA (dA (dA (dA (z.out) bX.out) bX.out) bX.out) bX.out:Below w.heap.size w cX));clear J z;have J:=O;have z:=U;clear O U hg hw aU))
                         go_roundg k4
                         case measure=>have:=ak.out;have:=ap.out;have:=ar.out;have:=a5.out;omega
                         case rel=>exact⟨(c3),(G),(by first|rfl|(simp;done)|(simp only[←bb]<;>(first|rfl|simp))|(simp[*];done)),H',⟨by have:=ak.out;have:=ap.out;have:=ar.out;have:=a5.out;omega⟩,⟨oR J⟩,⟨oB z⟩⟩
                        ·rw[au b6]at H;exact absurd H (by simp)
                       ·rw[au b5]at H;exact absurd H (by simp)
                      ·replace b4:=Bool.eq_false_iff.mpr b4;subst b4;rw[au (show¬(false=true)by decide)]at H;by_cases b7:0≤F
                       ·rw[aq b7]at H;have fK:decide (0≤F)=true:=ag b7;clear b7;by_cases b8:F<(D.length:Int)
                        ·rw[aq b8]at H;have fL:decide (F<(D.length:Int))=true:=ag b8;clear b8;obtain⟨c4,bS⟩:∃aQ:List (ah),aQ=(D.set (F:Int).toNat (⟨(⟨(av l0 u).f0.f0,(av l0 u).f0.f1⟩:bL),(av l0 u).f1,(av l0 u).f2⟩:ah)):=⟨_,rfl⟩;replace H:(bA.l0 k4 l0 c4 (wrap64 (u+1)))=some r:=by first|(rw[bS];with_reducible exact H)|(have Y:=(aA _ _).symm.trans H;rw[bS];with_reducible exact Y)|(have Y:=(aA _ _).symm.trans H;with_reducible exact Y)|with_reducible exact H|(rw[bS];exact H)|exact H
                         have eh:=A_ bS;clear bS;have H':=A_ H;clear H
                         try go_wp2
                         have O:=A_ (Kd.dH J.out);have U:=A_ (cg z.out);clear J z;have J:=O;have z:=U;clear O U;have a1:0≤(u:Int):=oD;have a3:u<(l0.length:Int):=oD;obtain⟨cz,cA,aI,aK,aM,aN⟩:=er aH.out u a1 a3;have bC:=aN;have bB:=aM;have bz:=aK;have bx:=aI;obtain rfl:V=cz:=(by injection cA);replace aI:=hW z aI;replace aK:=hW z aK;replace aM:=hW z aM;replace aN:=hW z aN;replace a1:=ax a1;replace a3:=ax a3;obtain⟨fy,dq,dx⟩:=Kd.dz J.out
                         (first|subst dx|(injection dx with bh cC bk;have cD:=bh.symm;have cE:=bk.symm;clear bh cC bk;subst cD;subst cE))
                         have a2:0≤((G):Int):=oD;have a4:(G)<(D.length:Int):=oD;obtain⟨Z,cB,aV,aW,aX,a0⟩:=er (Kd.cp J.out).2.2 (G) a2 a4;cases cB;replace a2:=ax a2;replace a4:=ax a4;refine fB (n:=14) (S:=fun w'=>w'.cell? (V.add ((u).toNat*4))=some (.int .i64 ((av l0 u).f0.f0))∧w'.cell? ⟨(V.add ((u).toNat*4)).block,(V.add ((u).toNat*4)).off+1,none⟩=some (.int .i64 ((av l0 u).f0.f1))∧w'.cell? ⟨(V.add ((u).toNat*4)).block,(V.add ((u).toNat*4)).off+2,none⟩=some (.int .i64 ((av l0 u).f1))∧w'.cell? ⟨(V.add ((u).toNat*4)).block,(V.add ((u).toNat*4)).off+3,none⟩=some (.int .i64 ((av l0 u).f2))∧w'.cell? (Z.add (((G)).toNat*4))=some (.int .i64 ((av D (G)).f0.f0))∧w'.cell? ⟨(Z.add (((G)).toNat*4)).block,(Z.add (((G)).toNat*4)).off+1,none⟩=some (.int .i64 ((av D (G)).f0.f1))∧w'.cell? ⟨(Z.add (((G)).toNat*4)).block,(Z.add (((G)).toNat*4)).off+2,none⟩=some (.int .i64 ((av D (G)).f1))∧w'.cell? ⟨(Z.add (((G)).toNat*4)).block,(Z.add (((G)).toNat*4)).off+3,none⟩=some (.int .i64 ((av D (G)).f2))) (ds:=[]) #[false,false,false,false,false,false,false,false,false,false,false,false,false,false] (by kernel_rfl) rfl rfl ⟨(hW z bx),(hW z bz),(hW z bB),(hW z bC),aV,aW,aX,a0⟩ (fun hHeld=> ?_);refine fU bA.p5 bA.po (fun I aG=> ?_);generalize wr.drew=gH at J z aI aK aM aN aV aW aX a0 hHeld ⊢;refine pA 0 (some 58) I.out ?_;refine pA 1 (some 59) I.out ?_;refine pA 2 (some 60) I.out ?_;refine pA 3 (some 61) I.out ?_;refine pA 4 (some 62) I.out ?_;refine pA 5 (some 63) I.out ?_;refine pA 7 (some 65) I.out ?_;refine pA 8 (some 66) I.out ?_;refine pA 9 (some 67) I.out ?_;refine pA 10 (some 68) I.out ?_;refine pT 6 (some 64) I.out aG.out hHeld ?_;refine pT 11 (some 69) I.out aG.out hHeld ?_;refine dO (i:=12) (N:=some 70) #[true,true,true,true,true,true,true,true,true,true,true,true,true,false] rfl rfl (dn I.out (by kernel_rfl)) (by decide) (fun K hK=> ?_);refine df Tryz.func140 (by kernel_rfl) rfl #[.agg #[.int .i64 ((av l0 u).f0.f0),.int .i64 ((av l0 u).f0.f1),.int .i64 ((av l0 u).f1),.int .i64 ((av l0 u).f2)],.agg #[.int .i64 ((av D (G)).f0.f0),.int .i64 ((av D (G)).f0.f1),.int .i64 ((av D (G)).f1),.int .i64 ((av D (G)).f2)]] (by rfl) rfl rfl (by(try simp only[List.map_toArray,List.map_cons,List.map_nil]);first|done|(simp only[bb];rfl)|rfl|(simp only[List.length_drop,List.length_take];rfl)) ?_
                         with_reducible refine(kF.c ((av l0 u).f0.f0) ((av l0 u).f0.f1) ((av l0 u).f1) ((av l0 u).f2) ((av D (G)).f0.f0) ((av D (G)).f0.f1) ((av D (G)).f1) ((av D (G)).f2) false _ c_.out).mono ?_
                         rintro e aD ⟨rfl,hb⟩;have cv:=(hb.cell (World.block_lt_of_cell? _ _ (hHeld.2.2.2.2.1))).trans (hHeld.2.2.2.2.1);have cw:=(hb.cell (World.block_lt_of_cell? _ _ (hHeld.2.2.2.2.2.1))).trans (hHeld.2.2.2.2.2.1);have cx:=(hb.cell (World.block_lt_of_cell? _ _ (hHeld.2.2.2.2.2.2.1))).trans (hHeld.2.2.2.2.2.2.1);have cy:=(hb.cell (World.block_lt_of_cell? _ _ (hHeld.2.2.2.2.2.2.2))).trans (hHeld.2.2.2.2.2.2.2);refine⟨_,rfl,?_⟩;have O:=A_ (Kd.dG (oR J) hb);have U:=A_ (bn (oB z) hb);clear J z;have J:=O;have z:=U;clear O U
                         (try clear hb)
                         (try clear hb2)
                         (try clear hk)
                         (try clear hi)
                         refine hK.out _ _ ⟨(hW z bx),(hW z bz),(hW z bB),(hW z bC),cv,cw,cx,cy⟩ (fun hHeld=> ?_);clear hK K;refine dX (a':= ?_) ?_ ?_;rotate_left
                         ·show Act.put _ (some 70) _=_;simp only[Act.put,List.setIfInBounds_toArray,List.set_cons_zero,List.set_cons_succ,cd,ct];rfl
                         refine pA 13 (some 71) I.out ?_;refine eW (fp I.out (by kernel_rfl)) ?_;have cL:0≤(u:Int):=oD;have cS:u<(l0.length:Int):=oD;obtain⟨en,eD,dT,dU,dV,dW⟩:=er aH.out u cL cS;obtain rfl:V=en:=(by injection eD);replace dT:=hW z dT;replace dU:=hW z dU;replace dV:=hW z dV;replace dW:=hW z dW;replace cL:=ax cL;replace cS:=ax cS;have cM:0≤(F:Int):=oD;have cT:(F:Int)<((D.length:Int):Int):=oD;obtain⟨ai,f4,dw,dC,eH,fY,dc⟩:=Kd.iN J.out (by omega)
                         (first|cases dw|(injection dw with al bg be;(first|subst al|(injection al with al;subst al));subst be;clear bg))
                         have bY:=A_ dC;have fA:=A_ dc;clear dC eH dc
                         (first|simp only[add_plain]at aV|skip)
                         (first|simp only[add_plain]at aW|skip)
                         (first|simp only[add_plain]at aX|skip)
                         (first|simp only[add_plain]at a0|skip)
                         obtain⟨fS,eK,dI,bo,bs⟩:=Kd.gZ J.out dr (F:Int) cM cT;obtain rfl:=lY dI;have gp:aD.cell? ⟨ai,(F:Int).toNat*4,none⟩=some (.int .i64 ((av D F).f0.f0)):=bo 0 _ rfl;have gq:aD.cell? ⟨ai,(F:Int).toNat*4+1,none⟩=some (.int .i64 ((av D F).f0.f1)):=bo 1 _ rfl;have gs:aD.cell? ⟨ai,(F:Int).toNat*4+2,none⟩=some (.int .i64 ((av D F).f1)):=bo 2 _ rfl;have gu:aD.cell? ⟨ai,(F:Int).toNat*4+3,none⟩=some (.int .i64 ((av D F).f2)):=bo 3 _ rfl;have f9:aD.frozen? ⟨ai,(F:Int).toNat*4,none⟩=false:=bs 0;have f_:aD.frozen? ⟨ai,(F:Int).toNat*4+1,none⟩=false:=bs 1;have f':aD.frozen? ⟨ai,(F:Int).toNat*4+2,none⟩=false:=bs 2;have ga:aD.frozen? ⟨ai,(F:Int).toNat*4+3,none⟩=false:=bs 3;clear eK bo bs dI;replace cM:=ax cM;replace cT:=ax cT;have dh:=A_ (show Kd.R aT 104 aD w.heap.size (fun _=>True) (.slice (some ⟨ai,0,none⟩) D.length dq) D from(oR J));obtain⟨fT,dQ,dJ,a9,bt⟩:=Kd.gZ dh.out dr (F:Int) (oD) (by have h_:(F:Int)<((D.length:Int):Int):=oD;first|exact h_|(have e_:=(Kd.cp J.out).1;omega)|simpa using h_);obtain rfl:=lY dJ;have cr:=Kd.lO dh.out (F:Int) (oD) (by have h_:(F:Int)<((D.length:Int):Int):=oD;first|exact h_|(have e_:=(Kd.cp J.out).1;omega)|simpa using h_) (seg:=[.int .i64 ((av l0 u).f0.f0),.int .i64 ((av l0 u).f0.f1),.int .i64 ((av l0 u).f1),.int .i64 ((av l0 u).f2)]) (j:=0) dQ a9 (show 4≤4 from by decide) (x':=(⟨(⟨(av l0 u).f0.f0,(av l0 u).f0.f1⟩:bL),(av l0 u).f1,(av l0 u).f2⟩:ah)) (iR _ _ _ (⟨(⟨(av l0 u).f0.f0,(av l0 u).f0.f1⟩:bL),(av l0 u).f1,(av l0 u).f2⟩:ah)) (fun _ hk=>hk);have fl:=a9 0 _ rfl
                         (try simp only[show(aT).sz=4 from rfl,Nat.mul_one,Nat.add_zero]at fl)
                         have eQ:=bt 0
                         (try simp only[show(aT).sz=4 from rfl,Nat.mul_one,Nat.add_zero]at eQ)
                         have fm:=a9 1 _ rfl
                         (try simp only[show(aT).sz=4 from rfl,Nat.mul_one,Nat.add_zero]at fm)
                         have eT:=bt 1
                         (try simp only[show(aT).sz=4 from rfl,Nat.mul_one,Nat.add_zero]at eT)
                         have fo:=a9 2 _ rfl
                         (try simp only[show(aT).sz=4 from rfl,Nat.mul_one,Nat.add_zero]at fo)
                         have eV:=bt 2
                         (try simp only[show(aT).sz=4 from rfl,Nat.mul_one,Nat.add_zero]at eV)
                         have fq:=a9 3 _ rfl
                         (try simp only[show(aT).sz=4 from rfl,Nat.mul_one,Nat.add_zero]at fq)
                         have eX:=bt 3
                         (try simp only[show(aT).sz=4 from rfl,Nat.mul_one,Nat.add_zero]at eX)
                         clear dQ a9 bt dJ
                         try go_wp2_with (first|((with_reducible refine ju (t:=104) (p:=88) rfl ?_);refine jP (t:=104) (p:=88) (v:= ?zD) (w1:=((((aD.setCell ⟨ai,(F:Int).toNat*4,none⟩ (.int .i64 ((av l0 u).f0.f0))).setCell ⟨ai,(F:Int).toNat*4+1,none⟩ (.int .i64 ((av l0 u).f0.f1))).setCell ⟨ai,(F:Int).toNat*4+2,none⟩ (.int .i64 ((av l0 u).f1))).setCell ⟨ai,(F:Int).toNat*4+3,none⟩ (.int .i64 ((av l0 u).f2)))) ?hg ?ho ?hn ?hr ?_;(case ho=>rfl);(case hg=>rfl);(case hn=>rfl);(case hr=>first|(go_simp;done)|(go_simp;rfl));intro cY hw;have hg:aD.grownBy cY (some ai):=(by rw[hw];exact cr.2);have aU:Kd.R aT 104 cY w.heap.size (fun _=>True) (.slice (some ⟨ai,0,none⟩) D.length dq) c4:=(by rw[hw,eh.out];exact cr.1);clear cr;have O:=A_ (aU);have U:=A_ ((by rw[hw];exact dA (dA (dA (dA (z.out) bY.out) bY.out) bY.out) bY.out:Below w.heap.size w cY));clear J z;have J:=O;have z:=U;clear O U hg hw aU))
                         go_roundg k4
                         case measure=>have:=ak.out;have:=ap.out;have:=ar.out;have:=a5.out;omega
                         case rel=>exact⟨(c4),(wrap64 (u+1)),eS,H',⟨by have:=ak.out;have:=ap.out;have:=ar.out;have:=a5.out;omega⟩,⟨oR J⟩,⟨oB z⟩⟩
                        ·rw[au b8]at H;exact absurd H (by simp)
                       ·rw[au b7]at H;exact absurd H (by simp)
                     ·rw[au b3]at H;exact absurd H (by simp)
                    ·rw[au b2]at H;exact absurd H (by simp)
                   ·rw[au b1]at H;exact absurd H (by simp)
                  ·rw[au b0]at H;exact absurd H (by simp)
                 ·rw[au a6]at H;have ew:decide (0<F)=false:=ay a6;clear a6;by_cases b9:0≤u
                  ·rw[aq b9]at H;have fM:decide (0≤u)=true:=ag b9;clear b9;by_cases b_:u<(l0.length:Int)
                   ·rw[aq b_]at H;have fN:decide (u<(l0.length:Int))=true:=ag b_;clear b_;by_cases b':0≤F
                    ·rw[aq b']at H;have fO:decide (0≤F)=true:=ag b';clear b';by_cases ca:F<(D.length:Int)
                     ·rw[aq ca]at H;have fP:decide (F<(D.length:Int))=true:=ag ca;clear ca;obtain⟨c6,bT⟩:∃aQ:List (ah),aQ=(D.set (F:Int).toNat (⟨(⟨(av l0 u).f0.f0,(av l0 u).f0.f1⟩:bL),(av l0 u).f1,(av l0 u).f2⟩:ah)):=⟨_,rfl⟩;replace H:(bA.l0 k4 l0 c6 (wrap64 (u+1)))=some r:=by first|(rw[bT];with_reducible exact H)|(have Y:=(aA _ _).symm.trans H;rw[bT];with_reducible exact Y)|(have Y:=(aA _ _).symm.trans H;with_reducible exact Y)|with_reducible exact H|(rw[bT];exact H)|exact H
                      have ei:=A_ bT;clear bT;have H':=A_ H;clear H
                      try go_wp2
                      have O:=A_ (Kd.dH J.out);have U:=A_ (cg z.out);clear J z;have J:=O;have z:=U;clear O U;refine fB (n:=14) (S:=fun w'=>True) (ds:=[]) #[false,false,false,false,false,false,false,false,false,false,false,false,false,false] (by kernel_rfl) rfl rfl trivial (fun hHeld=> ?_);refine fU bA.p5 bA.po (fun I aG=> ?_);generalize wr.drew=aE at J z hHeld ⊢;refine pA 0 (some 58) I.out ?_;refine pA 1 (some 59) I.out ?_;refine pA 2 (some 60) I.out ?_;refine pU 3 (some 61) I.out ?_;refine pU 4 (some 62) I.out ?_;refine pU 5 (some 63) I.out ?_;refine pU 6 (some 64) I.out ?_;refine pU 7 (some 65) I.out ?_;refine pU 8 (some 66) I.out ?_;refine pU 9 (some 67) I.out ?_;refine pU 10 (some 68) I.out ?_;refine pU 11 (some 69) I.out ?_;refine pU 12 (some 70) I.out ?_;refine pA 13 (some 71) I.out ?_;refine eW (fp I.out (by kernel_rfl)) ?_;have cO:0≤(u:Int):=oD;have cU:u<(l0.length:Int):=oD;obtain⟨eo,eE,dY,dZ,d0,d1⟩:=er aH.out u cO cU;obtain rfl:V=eo:=(by injection eE);replace dY:=hW z dY;replace dZ:=hW z dZ;replace d0:=hW z d0;replace d1:=hW z d1;replace cO:=ax cO;replace cU:=ax cU;have cP:0≤(F:Int):=oD;have cV:(F:Int)<((D.length:Int):Int):=oD;obtain⟨aj,dt,dy,dD,eI,fZ,dd⟩:=Kd.iN J.out (by omega)
                      (first|cases dy|(injection dy with al bg be;(first|subst al|(injection al with al;subst al));subst be;clear bg))
                      have bZ:=A_ dD;have fC:=A_ dd;clear dD eI dd;obtain⟨fV,eL,dK,bp,bu⟩:=Kd.gZ J.out dr (F:Int) cP cV;obtain rfl:=lY dK;have gv:aE.cell? ⟨aj,(F:Int).toNat*4,none⟩=some (.int .i64 ((av D F).f0.f0)):=bp 0 _ rfl;have gw:aE.cell? ⟨aj,(F:Int).toNat*4+1,none⟩=some (.int .i64 ((av D F).f0.f1)):=bp 1 _ rfl;have gx:aE.cell? ⟨aj,(F:Int).toNat*4+2,none⟩=some (.int .i64 ((av D F).f1)):=bp 2 _ rfl;have gy:aE.cell? ⟨aj,(F:Int).toNat*4+3,none⟩=some (.int .i64 ((av D F).f2)):=bp 3 _ rfl;have gb:aE.frozen? ⟨aj,(F:Int).toNat*4,none⟩=false:=bu 0;have gc:aE.frozen? ⟨aj,(F:Int).toNat*4+1,none⟩=false:=bu 1;have gd:aE.frozen? ⟨aj,(F:Int).toNat*4+2,none⟩=false:=bu 2;have gf:aE.frozen? ⟨aj,(F:Int).toNat*4+3,none⟩=false:=bu 3;clear eL bp bu dK;replace cP:=ax cP;replace cV:=ax cV;have di:=A_ (show Kd.R aT 104 aE w.heap.size (fun _=>True) (.slice (some ⟨aj,0,none⟩) D.length dt) D from(oR J));obtain⟨fW,dR,dN,a_,bv⟩:=Kd.gZ di.out dr (F:Int) (oD) (by have h_:(F:Int)<((D.length:Int):Int):=oD;first|exact h_|(have e_:=(Kd.cp J.out).1;omega)|simpa using h_);obtain rfl:=lY dN;have cu:=Kd.lO di.out (F:Int) (oD) (by have h_:(F:Int)<((D.length:Int):Int):=oD;first|exact h_|(have e_:=(Kd.cp J.out).1;omega)|simpa using h_) (seg:=[.int .i64 ((av l0 u).f0.f0),.int .i64 ((av l0 u).f0.f1),.int .i64 ((av l0 u).f1),.int .i64 ((av l0 u).f2)]) (j:=0) dR a_ (show 4≤4 from by decide) (x':=(⟨(⟨(av l0 u).f0.f0,(av l0 u).f0.f1⟩:bL),(av l0 u).f1,(av l0 u).f2⟩:ah)) (iR _ _ _ (⟨(⟨(av l0 u).f0.f0,(av l0 u).f0.f1⟩:bL),(av l0 u).f1,(av l0 u).f2⟩:ah)) (fun _ hk=>hk);have fr:=a_ 0 _ rfl
                      (try simp only[show(aT).sz=4 from rfl,Nat.mul_one,Nat.add_zero]at fr)
                      have eY:=bv 0
                      (try simp only[show(aT).sz=4 from rfl,Nat.mul_one,Nat.add_zero]at eY)
                      have fs:=a_ 1 _ rfl
                      (try simp only[show(aT).sz=4 from rfl,Nat.mul_one,Nat.add_zero]at fs)
                      have eZ:=bv 1
                      (try simp only[show(aT).sz=4 from rfl,Nat.mul_one,Nat.add_zero]at eZ)
                      have ft:=a_ 2 _ rfl
                      (try simp only[show(aT).sz=4 from rfl,Nat.mul_one,Nat.add_zero]at ft)
                      have e0:=bv 2
                      (try simp only[show(aT).sz=4 from rfl,Nat.mul_one,Nat.add_zero]at e0)
                      have fu:=a_ 3 _ rfl
                      (try simp only[show(aT).sz=4 from rfl,Nat.mul_one,Nat.add_zero]at fu)
                      have e1:=bv 3
                      (try simp only[show(aT).sz=4 from rfl,Nat.mul_one,Nat.add_zero]at e1)
                      clear dR a_ bv dN
                      try go_wp2_with (first|((with_reducible refine ju (t:=104) (p:=88) rfl ?_);refine jP (t:=104) (p:=88) (v:= ?zE) (w1:=((((aE.setCell ⟨aj,(F:Int).toNat*4,none⟩ (.int .i64 ((av l0 u).f0.f0))).setCell ⟨aj,(F:Int).toNat*4+1,none⟩ (.int .i64 ((av l0 u).f0.f1))).setCell ⟨aj,(F:Int).toNat*4+2,none⟩ (.int .i64 ((av l0 u).f1))).setCell ⟨aj,(F:Int).toNat*4+3,none⟩ (.int .i64 ((av l0 u).f2)))) ?hg ?ho ?hn ?hr ?_;(case ho=>rfl);(case hg=>rfl);(case hn=>rfl);(case hr=>first|(go_simp;done)|(go_simp;rfl));intro cZ hw;have hg:aE.grownBy cZ (some aj):=(by rw[hw];exact cu.2);have aU:Kd.R aT 104 cZ w.heap.size (fun _=>True) (.slice (some ⟨aj,0,none⟩) D.length dt) c6:=(by rw[hw,ei.out];exact cu.1);clear cu;have O:=A_ (aU);have U:=A_ ((by rw[hw];exact dA (dA (dA (dA (z.out) bZ.out) bZ.out) bZ.out) bZ.out:Below w.heap.size w cZ));clear J z;have J:=O;have z:=U;clear O U hg hw aU))
                      go_roundg k4
                      case measure=>have:=ak.out;have:=ap.out;have:=ar.out;have:=a5.out;omega
                      case rel=>exact⟨(c6),(wrap64 (u+1)),eS,H',⟨by have:=ak.out;have:=ap.out;have:=ar.out;have:=a5.out;omega⟩,⟨oR J⟩,⟨oB z⟩⟩
                     ·rw[au ca]at H;exact absurd H (by simp)
                    ·rw[au b']at H;exact absurd H (by simp)
                   ·rw[au b_]at H;exact absurd H (by simp)
                  ·rw[au b9]at H;exact absurd H (by simp)
              ·rw[au bd]at H;exact absurd H (by simp)
             ·rw[au c20]at H;exact absurd H (by simp)
            ·rw[au c19]at H;exact absurd H (by simp)
           ·replace c18:=Bool.eq_false_iff.mpr c18;subst c18;rw[au (show¬(false=true)by decide)]at H;have H':=A_ H;clear H;go_wp2
            go_roundg k3
            case measure=>have:=ak.out;have:=ap.out;have:=ar.out;omega
            case rel=>exact⟨(am),(wrap64 (u+1)),eS,H',⟨by have:=ak.out;have:=ap.out;have:=ar.out;omega⟩,⟨oR J⟩,⟨oB z⟩⟩
       ·rw[au c10]at H;exact absurd H (by simp)
      ·rw[au c9]at H;exact absurd H (by simp)
     ·replace c8:=Bool.eq_false_iff.mpr c8;subst c8;rw[au (show¬(false=true)by decide)]at H;obtain rfl:=aC H;go_wp2;go_ret;exact⟨_,eR,oR J,oB z⟩
mutual
def dE.l0:Nat→List (ah)→Int→Int→Int→Int→Option (Int)
 |0,_,_,_,_,_=>none
 |k+1,x0,F,u,z,D=>if u<(x0.length:Int)then((gF.f k x0).bind fun G=>(dE.j1 k x0 F u G z D))else(dE.j1 k x0 F u false z D)
def dE.j1:Nat→List (ah)→Int→Int→Bool→Int→Int→Option (Int)
 |0,_,_,_,_,_,_=>none
 |k+1,x0,F,u,G,z,D=>if G=true then(if 0≤u then(if u<(x0.length:Int)then(if(((av x0 u).f0.f0)==z&&(((av x0 u).f0.f1)==D))=true then(dE.l0 k x0 ((av x0 u).f1) (wrap64 (u+1)) z D)else(dE.l0 k x0 F (wrap64 (u+1)) z D))else(none))else(none))else(some F)
end
def dE.f (k:Nat) (l0:List (ah)) (u:Int) (z:Int):Option (Int):=dE.l0 k l0 0 0 u z
theorem dE.c (k:Nat) (aL:Option Addr) (c0:Nat) (l0:List (ah)) (F:Int) (G:Int) (r:Int) (w:World) (aQ:Kd.C aT w aL l0.length l0) (hc0:l0.length≤c0) (h:dE.f k l0 F G=some r):
  Calls Tryz.prog 102 #[.slice aL l0.length c0,.agg #[.int .i64 F,.int .i64 G]] w fun e w'=>e= .returned (.int .i64 r)∧Below w.heap.size w w':=by
 have bk:=Tryz.underlying74;have ai:=A_ aQ;have aE:=A_ hc0;clear aQ hc0;have u:=A_ (Below.refl w.heap.size w);have H:(dE.l0 k l0 0 0 F G)=some r:=h;clear h;have H':=A_ H;clear H;go_enter Tryz.func102,Tryz.ntmps102
 go_wp2_with (first|((with_reducible refine aJ (N:=3) rfl ?_);refine bX (N:=3) (cs:= #[.int .i64 F,.int .i64 G]) (t:=74) ?_;intro K hg w3 O hb;have I:=A_ (bn (oB u) hb);have J:=A_ (O);have U:=A_ ((by rw[hg];exact(bm (oB u)):w.heap.size≤K));have V:=A_ ((by rw[hg];exact(bm (oB u)):w.heap.size≤K));clear u;have u:=I;have D:=J;have aO:=U;have aN:=V;clear I J U V hb O hg))
 repeat(go_quiet (first|((with_reducible refine aJ (N:=3) rfl ?_);refine bX (N:=3) (cs:= #[.int .i64 F,.int .i64 G]) (t:=74) ?_;intro K hg w3 O hb;have I:=A_ (bn (oB u) hb);have J:=A_ (O);have U:=A_ ((by rw[hg];exact(bm (oB u)):w.heap.size≤K));have V:=A_ ((by rw[hg];exact(bm (oB u)):w.heap.size≤K));clear u;have u:=I;have D:=J;have aO:=U;have aN:=V;clear I J U V hb O hg));try go_wp2_with (first|((with_reducible refine aJ (N:=3) rfl ?_);refine bX (N:=3) (cs:= #[.int .i64 F,.int .i64 G]) (t:=74) ?_;intro K hg w3 O hb;have I:=A_ (bn (oB u) hb);have J:=A_ (O);have U:=A_ ((by rw[hg];exact(bm (oB u)):w.heap.size≤K));have V:=A_ ((by rw[hg];exact(bm (oB u)):w.heap.size≤K));clear u;have u:=I;have D:=J;have aO:=U;have aN:=V;clear I J U V hb O hg)))
 go_loopg [5,6] k (fun Y v5 v6 w'=>∃(ap:Int) (z:Int),v5= .int .i64 ap∧v6= .int .i64 z∧ae (dE.l0 Y l0 ap z F G=some r)∧ae (Y≤k)∧ae (w'.heap[K]? =some (.cells #[.int .i64 F,.int .i64 G] 74 (0,0)))∧ae (Below w.heap.size w w'))
 case atStart=>exact⟨(0),(0),eS,eS,H',⟨Nat.le_refl _⟩,⟨oK D⟩,⟨oB u⟩⟩
 case round=>
  clear H'
  try clear c1
  try clear p2
  obtain⟨ap,z,rfl,rfl,X,af,D,u⟩:=hrel;cases gk with
  |zero=>exact absurd X.out (by simp[dE.l0])
  |succ k1=>
   have H:=X.out;clear X;simp only[dE.l0]at H;have aF:=A_ H;clear H
   go_upto_region 3 with (fail)
   repeat(go_quiet (fail);go_upto_region 3 with (fail))
   go_cut [14] (fun v14 wc=>∃(Y:Nat) (aB:Bool),v14= .bool aB∧ae (dE.j1 Y l0 ap z aB F G=some r)∧ae (Y≤k1)∧ae (wc.heap[K]? =some (.cells #[.int .i64 F,.int .i64 G] 74 (0,0)))∧ae (Below w.heap.size w wc))
   case first=>
    have H:=aF.out;clear aF;by_cases c5:z<(l0.length:Int)
    ·rw[aq c5]at H;have aj:decide (z<(l0.length:Int))=true:=ag c5;clear c5
     (first|rw[aj]|(simp only[cd,ct];rw[aj])|skip)
     replace H:=az H;obtain⟨aw,aM,H⟩:=H
     (try dsimp only at H)
     have aD:=A_ aM;clear aM;have H':=A_ H;clear H
     go_wp2_with (first|(go_at_call 87;(with_reducible refine(gF.c k1 _ _ l0 aw _ ?bc ?bf aD.out).mono ?_);(case bc=>exact bP ai.out);(case bf=>exact aE.out);rintro e w7 ⟨rfl,hb⟩;have I:=A_ (bb D hb);have J:=A_ (bn (oB u) hb);clear D u;have D:=I;have u:=J;clear I J;(try clear hb);(try clear hb2);(try clear hk);(try clear hi)))
     repeat(go_quiet (first|(go_at_call 87;(with_reducible refine(gF.c k1 _ _ l0 aw _ ?bc ?bf aD.out).mono ?_);(case bc=>exact bP ai.out);(case bf=>exact aE.out);rintro e w7 ⟨rfl,hb⟩;have I:=A_ (bb D hb);have J:=A_ (bn (oB u) hb);clear D u;have D:=I;have u:=J;clear I J;(try clear hb);(try clear hb2);(try clear hk);(try clear hi)));try go_wp2_with (first|(go_at_call 87;(with_reducible refine(gF.c k1 _ _ l0 aw _ ?bc ?bf aD.out).mono ?_);(case bc=>exact bP ai.out);(case bf=>exact aE.out);rintro e w7 ⟨rfl,hb⟩;have I:=A_ (bb D hb);have J:=A_ (bn (oB u) hb);clear D u;have D:=I;have u:=J;clear I J;(try clear hb);(try clear hb2);(try clear hk);(try clear hi))))
     go_meet
     case rel=>exact⟨_,(aw),eS,H',⟨by have:=af.out;first|omega|exact Nat.le_refl _⟩,⟨oK D⟩,⟨oB u⟩⟩
    ·rw[au c5]at H;have aj:decide (z<(l0.length:Int))=false:=ay c5;clear c5
     (first|rw[aj]|(simp only[cd,ct];rw[aj])|skip)
     have H':=A_ H;clear H;go_wp2
     repeat(go_quiet (fail);try go_wp2)
     go_meet
     case rel=>exact⟨_,(false),eS,H',⟨by have:=af.out;first|omega|exact Nat.le_refl _⟩,⟨oK D⟩,⟨oB u⟩⟩
   case rest=>
    clear aF
    try clear c1
    try clear p2
    try clear c5
    try clear aj
    try clear p2
    obtain⟨Y,aB,rfl,X,ar,D,u⟩:=hcut;cases Y with
    |zero=>exact absurd X.out (by simp[dE.j1])
    |succ aW=>
     have H:=X.out;clear X;simp only[dE.j1]at H;by_cases c8:aB=true
     ·subst c8;rw[aq rfl]at H;by_cases c9:0≤z
      ·rw[aq c9]at H;have a5:decide (0≤z)=true:=ag c9;clear c9;by_cases c10:z<(l0.length:Int)
       ·rw[aq c10]at H;have a3:decide (z<(l0.length:Int))=true:=ag c10;clear c10;by_cases c11:(((av l0 z).f0.f0)==F&&(((av l0 z).f0.f1)==G))=true
        ·rw[aq c11]at H;have aY:(((av l0 z).f0.f0)==F&&(((av l0 z).f0.f1)==G))=true:=c11
         (try(have a0:decide (((av l0 z).f0.f0)=F&&(((av l0 z).f0.f1)==G))=true:=by simpa using c11))
         (try(have a1:(((av l0 z).f0.f0)==F&&(((av l0 z).f0.f1)==G))=true:=by simpa using c11))
         clear c11;have H':=A_ H;clear H;have Z:0≤(z:Int):=oD;have ad:z<(l0.length:Int):=oD;obtain⟨aP,aG,ak,al,am,ao⟩:=er ai.out z Z ad;cases aG;replace ak:=hW u ak;replace al:=hW u al;replace am:=hW u am;replace ao:=hW u ao;replace Z:=ax Z;replace ad:=ax ad;have a6:=cz D 0;have a7:=cz D 1;have bd:=aK D.out 0;have be:=aK D.out 1;have aH:0≤(z:Int):=oD;have aI:z<(l0.length:Int):=oD;obtain⟨aX,a2,aR,aS,aU,aV⟩:=er ai.out z aH aI;obtain rfl:aP=aX:=(by injection a2);replace aR:=hW u aR;replace aS:=hW u aS;replace aU:=hW u aU;replace aV:=hW u aV;replace aH:=ax aH;replace aI:=ax aI;go_wp2
         repeat(go_quiet (fail);try go_wp2)
         go_roundg aW
         case measure=>have:=af.out;have:=ar.out;omega
         case rel=>exact⟨((av l0 z).f1),(wrap64 (z+1)),eS,eS,H',⟨by have:=af.out;have:=ar.out;omega⟩,⟨oK D⟩,⟨oB u⟩⟩
        ·rw[au c11]at H;have aY:(((av l0 z).f0.f0)==F&&(((av l0 z).f0.f1)==G))=false:=by simpa using c11
         (try(have a0:decide (((av l0 z).f0.f0)=F&&(((av l0 z).f0.f1)==G))=false:=by simpa using c11))
         (try(have a1:(((av l0 z).f0.f0)==F&&(((av l0 z).f0.f1)==G))=false:=by simpa using c11))
         (try(have a4:¬(((av l0 z).f0.f0)=F&&(((av l0 z).f0.f1)==G)):=by simpa using c11))
         clear c11;have H':=A_ H;clear H;have Z:0≤(z:Int):=oD;have ad:z<(l0.length:Int):=oD;obtain⟨aP,aG,ak,al,am,ao⟩:=er ai.out z Z ad;cases aG;replace ak:=hW u ak;replace al:=hW u al;replace am:=hW u am;replace ao:=hW u ao;replace Z:=ax Z;replace ad:=ax ad;have a9:=cz D 0;have a_:=cz D 1;have bg:=aK D.out 0;have bh:=aK D.out 1;go_wp2
         repeat(go_quiet (fail);try go_wp2)
         go_roundg aW
         case measure=>have:=af.out;have:=ar.out;omega
         case rel=>exact⟨(ap),(wrap64 (z+1)),eS,eS,H',⟨by have:=af.out;have:=ar.out;omega⟩,⟨oK D⟩,⟨oB u⟩⟩
       ·rw[au c10]at H;exact absurd H (by simp)
      ·rw[au c9]at H;exact absurd H (by simp)
     ·replace c8:=Bool.eq_false_iff.mpr c8;subst c8;rw[au (show¬(false=true)by decide)]at H;obtain rfl:=aC H;go_wp2
      repeat(go_quiet (fail);try go_wp2)
      go_ret;exact⟨eR,oB u⟩
end P
namespace Q
open Go.RowKit P WW.bk WW.b6
theorem ov (l:List ah) (hl:l.length≤1048577):Ev (fun k=>gF.f k l) (cI l):=Ev.now _
theorem ou (l:List ah) (hl:l.length≤1048577):Ev (fun k=>eX.f k l) (cI l):=Ev.now _
def aG (a b:ah):Bool:=if a.f1=b.f1 then(if a.f2=b.f2 then(if a.f0.f0=b.f0.f0 then decide (a.f0.f1<b.f0.f1)else decide (a.f0.f0<b.f0.f0))else decide (a.f2<b.f2))else decide (a.f1>b.f1)
theorem u_ (a b:ah):kF.f a.f0.f0 a.f0.f1 a.f1 a.f2 b.f0.f0 b.f0.f1 b.f1 b.f2=some (aG a b):=by
  unfold kF.f aG;by_cases h1:a.f1=b.f1<;>by_cases h2:a.f2=b.f2<;>by_cases h3:a.f0.f0=b.f0.f0<;>simp[h1,h2,h3]
theorem entry_eq {a b:ah} (h0:a.f0.f0=b.f0.f0) (h1:a.f0.f1=b.f0.f1) (h2:a.f1=b.f1) (h3:a.f2=b.f2):a=b:=by
  obtain⟨⟨x,y⟩,z,u⟩:=a;obtain⟨⟨x',y'⟩,z',u'⟩:=b;simp only at h0 h1 h2 h3;rw[h0,h1,h2,h3]
theorem before_total {a b:ah} (h:a≠b):aG a b=true∨aG b a=true:=by
  unfold aG;by_cases h1:a.f1=b.f1
  · by_cases h2:a.f2=b.f2
    · by_cases h3:a.f0.f0=b.f0.f0
      · by_cases h4:a.f0.f1=b.f0.f1
        · exact absurd (entry_eq h3 h4 h1 h2) h
        · simp[h1,h2,h3];omega
      · simp[h1,h2,h3,Ne.symm h3];omega
    · simp[h1,h2,Ne.symm h2];omega
  · simp[h1,Ne.symm h1];omega
theorem u7 {a b:ah} (h:aG a b=true):aG b a=false:=by
  unfold aG at h ⊢;by_cases h1:a.f1=b.f1
  · by_cases h2:a.f2=b.f2
    · by_cases h3:a.f0.f0=b.f0.f0
      · simp[h1,h2,h3]at h ⊢;omega
      · simp[h1,h2,h3,Ne.symm h3]at h ⊢;omega
    · simp[h1,h2,Ne.symm h2]at h ⊢;omega
  · simp[h1,Ne.symm h1]at h ⊢;omega
theorem before_irrefl (a:ah):aG a a=false:=by simp[aG]
theorem qU {a b:ah}:aG a b=true↔a.f1>b.f1∨(a.f1=b.f1∧(a.f2<b.f2∨(a.f2=b.f2∧(a.f0.f0<b.f0.f0∨(a.f0.f0=b.f0.f0∧a.f0.f1<b.f0.f1))))):=by
  unfold aG;by_cases h1:a.f1=b.f1
  · by_cases h2:a.f2=b.f2
    · by_cases h3:a.f0.f0=b.f0.f0
      · rw[aq h1,aq h2,aq h3,decide_eq_true_eq];omega
      · rw[aq h1,aq h2,au h3,decide_eq_true_eq];omega
    · rw[aq h1,au h2,decide_eq_true_eq];omega
  · rw[au h1,decide_eq_true_eq];omega
theorem before_trans {a b c:ah} (h:aG a b=true) (k:aG b c=true):aG a c=true:=by
  rw[qU]at h k ⊢;omega
theorem td:∀{xs ys:List ah},xs.Pairwise (fun a b=>aG a b=true)→ys.Pairwise (fun a b=>aG a b=true)→(∀a,a∈xs↔a∈ys)→xs=ys
  |[],[],_,_,_=>rfl
  |[],y::_,_,_,h=>by have:=(h y).mpr (by simp);simp at this
  |x::_,[],_,_,h=>by have:=(h x).mp (by simp);simp at this
  |x::xs,y::ys,hx,hy,h=>by
   obtain⟨hx1,hx2⟩:=List.pairwise_cons.1 hx;obtain⟨hy1,hy2⟩:=List.pairwise_cons.1 hy
   have e:x=y:=by
     rcases List.mem_cons.1 ((h x).mp (by simp))with e|e
     · exact e
     rcases List.mem_cons.1 ((h y).mpr (by simp))with e'|e'
     · exact e'.symm
     have a1:=hy1 x e;have a2:=hx1 y e';rw[u7 a1]at a2;cases a2
   subst e
   rw[td hx2 hy2 (fun a=>⟨fun ha=>by
     rcases List.mem_cons.1 ((h a).mp (List.mem_cons_of_mem _ ha))with e|e
     · subst e;have:=hx1 a ha;rw[before_irrefl]at this;cases this
     · exact e,fun ha=>by
     rcases List.mem_cons.1 ((h a).mpr (List.mem_cons_of_mem _ ha))with e|e
     · subst e;have:=hy1 a ha;rw[before_irrefl]at this;cases this
     · exact e⟩)]
def f_ (x:ah) (out:List ah):Nat→List ah
  |0=>x::out
  |n+1=>if aG x (out.getD n dr)=true then f_ x out n else out.take (n+1)++x::out.drop (n+1)
theorem rU (x:ah) (out:List ah) (a:ah):∀n,a∈f_ x out n↔a=x∨a∈out
  |0=>by simp[f_]
  |n+1=>by
   unfold f_
   split
   · exact rU x out a n
   · rw[List.mem_append,List.mem_cons];constructor
     · rintro(h|h|h)
       · exact .inr (List.mem_of_mem_take h)
       · exact .inl h
       · exact .inr (List.mem_of_mem_drop h)
     · rintro(h|h)
       · exact .inr (.inl h)
       · rw[←List.take_append_drop (n+1) out,List.mem_append]at h;rcases h with h|h
         · exact .inl h
         · exact .inr (.inr h)
theorem rH (x:ah) (out:List ah):∀n,(f_ x out n).length=out.length+1
  |0=>by simp[f_]
  |n+1=>by
   unfold f_
   split
   · exact rH x out n
   · have:=congrArg List.length (List.take_append_drop (n+1) out);simp only[List.length_append,List.length_cons]at this ⊢;omega
theorem th (x:ah) (out:List ah) (hs:out.Pairwise (fun a b=>aG a b=true)) (hx:∀a∈out,a≠x):
    ∀n,n≤out.length→(∀a∈out.drop n,aG x a=true)→(f_ x out n).Pairwise (fun a b=>aG a b=true)
  |0,_,h=>by
   unfold f_;exact List.pairwise_cons.2 ⟨fun a ha=>h a (by simpa using ha),hs⟩
  |n+1,hn,h=>by
   have hlt:n<out.length:=(by omega);have e:out.getD n dr=out[n]:=(by simp[List.getD_eq_getElem?_getD,hlt]);unfold f_;rw[e]
   split
   · rename_i hb
     refine th x out hs hx n (by omega) fun a ha=> ?_;rw[List.drop_eq_getElem_cons hlt]at ha;rcases List.mem_cons.1 ha with rfl|ha
     · exact hb
     · exact h a ha
   · rename_i hb
     have u:aG out[n] x=true:=by
       rcases before_total (hx out[n] (List.getElem_mem hlt))with h'|h'
       · exact h'
       · exact absurd h' hb
     have hs':=hs;rw[←List.take_append_drop (n+1) out]at hs';obtain⟨p1,p2,p3⟩:=List.pairwise_append.1 hs';refine List.pairwise_append.2 ⟨p1,List.pairwise_cons.2 ⟨h,p2⟩,fun a ha b hb'=> ?_⟩
     have z:aG a x=true:=by
       rw[List.take_succ_eq_append_getElem hlt,List.mem_append,List.mem_singleton]at ha;rcases ha with ha|rfl
       · rw[List.take_succ_eq_append_getElem hlt]at p1;exact before_trans ((List.pairwise_append.1 p1).2.2 a ha out[n] (by simp)) u
       · exact u
     rcases List.mem_cons.1 hb' with rfl|hb'
     · exact z
     · exact p3 a ha b hb'
def mZ (x y:ah):Bool:= !(y.f0.f0==x.f0.f0)|| !(y.f0.f1==x.f0.f1)
def l5 (l:List ah) (i:Nat):Bool:=((l.getD i dr).f1 != 0)&&(l.drop (i+1)).all (mZ (l.getD i dr))
def dP (l:List ah):Nat→List ah
  |0=>[]
  |i+1=>if l5 l i=true then f_ (l.getD i dr) (dP l i) (dP l i).length else dP l i
theorem sg (l:List ah):∀i,(dP l i).length≤i
  |0=>by simp[dP]
  |i+1=>by
   have:=sg l i;unfold dP
   split
   · rw[rH];omega
   · omega
theorem n5 (x:ah):(⟨(⟨x.f0.f0,x.f0.f1⟩:bL),x.f1,x.f2⟩:ah)=x:=rfl
theorem wk (out:List ah) (y:ah) (n:Nat) (h:n<out.length):av (out.take (n+1)++y::out.drop (n+1)) (n:Int)=out.getD n dr:=by
  unfold av;rw[Int.toNat_natCast,List.getD_eq_getElem?_getD,List.getElem?_append_left (by rw[List.length_take];omega),List.getD_eq_getElem?_getD];simp[List.getElem?_take]
theorem rF (out:List ah) (y x:ah) (n:Nat) (h:n≤out.length):(out.take n++y::out.drop n).set n x=out.take n++x::out.drop n:=by
  have e:(out.take n).length=n:=by rw[List.length_take];omega
  rw[List.set_append_right _ _ (by omega),e,Nat.sub_self];rfl
theorem rE (out:List ah) (y:ah) (n:Nat) (h:n≤out.length):(out.take n++y::out.drop n).length=out.length+1:=by
  simp only[List.length_append,List.length_cons,List.length_take,List.length_drop];omega
theorem wm (out:List ah) (n:Nat) (h:n<out.length):out.take (n+1)++out.getD n dr::out.drop (n+1)=out.take n++out.getD n dr::out.drop n:=by
  have e:out.getD n dr=out[n]:=by simp[List.getD_eq_getElem?_getD,h]
  rw[e,List.take_succ_eq_append_getElem h,List.drop_eq_getElem_cons h,List.append_assoc];rfl
theorem si (l:List ah) (i:Nat) (hi:i<l.length) (hl:l.length≤1048577) (out:List ah) (ho:out.length≤1048577) (R:List ah):
    ∀n,n≤out.length→Ev (fun k=>bA.l0 k l (f_ l[i] out n) ((i:Int)+1)) R→∀y,Ev (fun k=>bA.l2 k l (out.take n++y::out.drop n) (i:Int) (n:Int)) R
  |0,hn,H,y=>by
   refine Ev.step (fun k=>by rw[bA.l2]) (aI (by omega) ?_);rw[rE out y 0 (by omega)];refine ar (by omega) (ar (by omega) (ar (by omega) (ar (by omega) ?_)));rw[lz l i hi,bW (n:=(i:Int)+1) (by omega) (by omega),n5];simpa[f_]using H
  |n+1,hn,H,y=>by
   refine Ev.step (fun k=>by rw[bA.l2]) ?_;have e1:((n+1:Nat):Int)-1=(n:Int):=(by omega);rw[bW (n:=((n+1:Nat):Int)-1) (by omega) (by omega),e1];rw[rE out y (n+1) hn,wk out y n (by omega)];refine ar (by omega) (ar (by omega) (ar (by omega) (ar (by omega) (ar (by omega) ?_))));rw[lz l i hi];refine aX (u_ _ _) ?_;have et:(((n+1:Nat):Int)).toNat=n+1:=(by omega);rw[et,rF out y _ (n+1) hn,rF out y _ (n+1) hn,n5,n5];by_cases hb:aG l[i] (out.getD n dr)=true
   · refine ar hb (ar (by omega) (ar (by omega) ?_));rw[wm out n (by omega)];refine si l i hi hl out ho R n (by omega) ?_ _;unfold f_ at H
     rwa [aq hb]at H
   · refine aI hb (ar (by omega) (ar (by omega) ?_));rw[bW (n:=(i:Int)+1) (by omega) (by omega)];unfold f_ at H
     rwa [au hb]at H
theorem xq (l:List ah) (hl:l.length≤1048577):Ev (fun k=>bA.f k l) (if cI l=true then dP l l.length else[]):=by
  have u:=ov l hl;by_cases h0:cI l=true;rotate_left
  · rw[au h0];replace h0:=Bool.eq_false_iff.mpr h0;rw[h0]at u;unfold bA.f;by_cases hz:l.length=0
    · have:l=[]:=List.length_eq_zero_iff.mp hz;subst this;exact absurd h0 (by decide)
    refine Ev.step (fun k=>by rw[bA.l0]) (ar (by omega) (Ev.bind u ?_));exact Ev.step (fun k=>by rw[bA.j1]) (aI (by decide) (evs rfl))
  rw[aq h0];rw[h0]at u;obtain⟨R,hR⟩:∃R,dP l l.length=R:=⟨_,rfl⟩
  have key:∀i,i≤l.length→Ev (fun k=>bA.l0 k l (dP l i) (i:Int)) R:=by
    refine down (n:=l.length) ?_ ?_
    · refine Ev.step (fun k=>by rw[bA.l0]) (aI (by omega) ?_);exact Ev.step (fun k=>by rw[bA.j1]) (aI (by decide) (evs hR))
    · intro i hi ih;have eg:l.getD i dr=l[i]:=(by simp[List.getD_eq_getElem?_getD,hi]);refine Ev.step (fun k=>by rw[bA.l0]) (ar (by omega) (Ev.bind u ?_));refine Ev.step (fun k=>by rw[bA.j1]) (ar rfl (ar (by omega) (ar (by omega) ?_)));rw[lz l i hi,bW (n:=(i:Int)+1) (by omega) (by omega)]
      have z:∀j,j≤l.length→∀b,(b&&(l.drop j).all (mZ l[i]))=l5 l i→Ev (fun k=>bA.l1 k l (dP l i) (i:Int) b (j:Int)) R:=by
        refine down (n:=l.length) ?_ ?_
        · intro b hb;rw[kd]at hb;simp only[List.all_nil,Bool.and_true]at hb;refine Ev.step (fun k=>by rw[bA.l1]) (aI (by omega) ?_);have ho:=sg l i;cases b with
          |true=>
           refine ar rfl (ar (by omega) (ar (by omega) (ar (by omega) ?_)));rw[lz l i hi,n5]
           have:=si l i hi hl (dP l i) (by omega) R (dP l i).length (Nat.le_refl _) (by
             have e:((i+1:Nat):Int)=(i:Int)+1:=(by omega);rw[←e];unfold dP at ih;rw[aq hb.symm,eg]at ih;exact ih) l[i]
           rwa [List.take_length,kd]at this
          |false=>
           refine aI (by decide) ?_;rw[bW (n:=(i:Int)+1) (by omega) (by omega)];have e:((i+1:Nat):Int)=(i:Int)+1:=(by omega);rw[←e];unfold dP at ih;rw[au (by rw[←hb];decide)]at ih;exact ih
        · intro j hj ih1 b hb;refine Ev.step (fun k=>by rw[bA.l1]) (ar (by omega) ?_);rw[drop_cons l j hj,List.all_cons]at hb;have e:(j:Int)+1=((j+1:Nat):Int):=(by omega);rw[bW (n:=(j:Int)+1) (by omega) (by omega),e];cases b with
          |true=>
           refine ar rfl (ar (by omega) (ar (by omega) (ar (by omega) ?_)));rw[lz l j hj,lz l i hi];exact ih1 _ (by rw[←hb];simp[mZ])
          |false=>exact aI (by decide) (ih1 false (by rw[←hb];simp))
      have e:(i:Int)+1=((i+1:Nat):Int):=(by omega);rw[e];exact z (i+1) hi _ (by unfold l5;rw[eg])
  rw[hR];exact key 0 (Nat.zero_le _)
theorem rY {x y:ah}:mZ x y=true↔y.f0≠x.f0:=by
  have e:y.f0=x.f0↔y.f0.f0=x.f0.f0∧y.f0.f1=x.f0.f1:=by
    obtain⟨⟨a,b⟩,c,d⟩:=x;obtain⟨⟨a',b'⟩,c',d'⟩:=y;simp
  unfold mZ;rw[ne_eq,e];by_cases h0:y.f0.f0=x.f0.f0<;>by_cases h1:y.f0.f1=x.f0.f1<;>simp[h0,h1]
theorem pI (l:List ah) (p:bL) (x:ah):
    ∀n,n≤l.length→(gS (l.take n) p=some x↔∃i,i<n∧l[i]? =some x∧x.f0=p∧∀j y,i<j→j<n→l[j]? =some y→y.f0≠p)
  |0,_=>by
   constructor
   · intro h;simp[gS]at h
   · rintro⟨i,hi,_⟩;omega
  |n+1,hn=>by
   have hlt:n<l.length:=(by omega);have ih:=pI l p x n (by omega);have eg:l[n]? =some l[n]:=List.getElem?_eq_getElem hlt;rw[List.take_succ_eq_append_getElem hlt,pJ];by_cases hp:p=l[n].f0
   · simp only[aq hp,Option.some.injEq];constructor
     · intro e;subst e;exact⟨n,by omega,eg,hp.symm,fun j y h1 h2 _=>by omega⟩
     · rintro⟨i,hi,h1,h2,h3⟩;by_cases hin:i=n
       · subst hin;rw[eg]at h1;exact aC h1
       · exact absurd hp.symm (h3 n _ (by omega) (by omega) eg)
   · simp only[au hp];rw[ih];constructor
     · rintro⟨i,hi,h1,h2,h3⟩;refine⟨i,by omega,h1,h2,fun j y k1 k2 k3=> ?_⟩;by_cases hjn:j=n
       · subst hjn;rw[eg]at k3;cases k3;exact fun e=>hp e.symm
       · exact h3 j y k1 (by omega) k3
     · rintro⟨i,hi,h1,h2,h3⟩;by_cases hin:i=n
       · subst hin;rw[eg]at h1;cases h1;exact absurd h2.symm hp
       · exact⟨i,by omega,h1,h2,fun j y k1 k2 k3=>h3 j y k1 (by omega) k3⟩
theorem pH (l:List ah) (i:Nat) (x:ah) (hx:l[i]? =some x):l5 l i=true↔x.f1≠0∧∀j y,i<j→l[j]? =some y→y.f0≠x.f0:=by
  have eg:l.getD i dr=x:=by simp[List.getD_eq_getElem?_getD,hx]
  unfold l5;rw[eg,Bool.and_eq_true,bne_iff_ne,List.all_eq_true];constructor
  · rintro⟨h1,h2⟩;refine⟨h1,fun j y hj hy=>rY.mp (h2 y ?_)⟩;rw[List.mem_iff_getElem?];exact⟨j-(i+1),by rw[List.getElem?_drop,show i+1+(j-(i+1))=j by omega];exact hy⟩
  · rintro⟨h1,h2⟩;refine⟨h1,fun y hy=>rY.mpr ?_⟩;rw[List.mem_iff_getElem?]at hy;obtain⟨k,hk⟩:=hy;rw[List.getElem?_drop]at hk;exact h2 _ y (by omega) hk
theorem mY (l:List ah) (x:ah):∀n,n≤l.length→(x∈dP l n↔∃i,i<n∧l5 l i=true∧l[i]? =some x)
  |0,_=>by
   constructor
   · intro h;simp[dP]at h
   · rintro⟨i,hi,_⟩;omega
  |n+1,hn=>by
   have hlt:n<l.length:=(by omega);have eg:l[n]? =some l[n]:=List.getElem?_eq_getElem hlt;have ed:l.getD n dr=l[n]:=(by simp[List.getD_eq_getElem?_getD,hlt]);have ih:=mY l x n (by omega);unfold dP
   split
   · rename_i hl
     rw[rU,ih,ed];constructor
     · rintro(e|⟨i,h1,h2,h3⟩)
       · exact⟨n,by omega,hl,by rw[e];exact eg⟩
       · exact⟨i,by omega,h2,h3⟩
     · rintro⟨i,h1,h2,h3⟩;by_cases hin:i=n
       · subst hin;rw[eg]at h3;exact .inl (aC h3).symm
       · exact .inr ⟨i,by omega,h2,h3⟩
   · rename_i hl
     rw[ih];constructor
     · rintro⟨i,h1,h2,h3⟩;exact⟨i,by omega,h2,h3⟩
     · rintro⟨i,h1,h2,h3⟩;by_cases hin:i=n
       · subst hin;exact absurd h2 hl
       · exact⟨i,by omega,h2,h3⟩
theorem tj (l:List ah):∀n,n≤l.length→(dP l n).Pairwise (fun a b=>aG a b=true)
  |0,_=>by simp[dP]
  |n+1,hn=>by
   have hlt:n<l.length:=(by omega);have eg:l[n]? =some l[n]:=List.getElem?_eq_getElem hlt;have ed:l.getD n dr=l[n]:=(by simp[List.getD_eq_getElem?_getD,hlt]);have ih:=tj l n (by omega);unfold dP
   split
   · refine th _ _ ih (fun a ha e=> ?_) _ (Nat.le_refl _) (by rw[kd];intro a ha;cases ha);rw[ed]at e;obtain⟨i,h1,h2,h3⟩:=(mY l a n (by omega)).mp ha;exact((pH l i a h3).mp h2).2 n _ h1 eg (by rw[e])
   · exact ih
theorem pM (l:List ah) (x:ah):x∈dP l l.length↔gS l x.f0=some x∧x.f1≠0:=by
  rw[mY l x l.length (Nat.le_refl _)];have H:=pI l x.f0 x l.length (Nat.le_refl _);rw[List.take_length]at H;rw[H];constructor
  · rintro⟨i,h1,h2,h3⟩;obtain⟨k1,k2⟩:=(pH l i x h3).mp h2;exact⟨⟨i,h1,h3,rfl,fun j y a b c=>k2 j y a c⟩,k1⟩
  · rintro⟨⟨i,h1,h2,_,h3⟩,k1⟩;refine⟨i,h1,(pH l i x h2).mpr ⟨k1,fun j y a c=>h3 j y a ?_ c⟩,h2⟩;exact(List.getElem?_eq_some_iff.mp c).1
theorem xr (l xs:List ah) (hs:xs.Pairwise (fun a b=>aG a b=true)) (hm:∀x,x∈xs↔gS l x.f0=some x∧x.f1≠0):xs=dP l l.length:=
  td hs (tj l l.length (Nat.le_refl _)) (fun a=>(hm a).trans (pM l a).symm)
def vU (p:bL):Prop:=0≤p.f0∧p.f0≤1∧0≤p.f1∧p.f1≤5
section
variable (b:List Int) (hb:b.length≤1048576)
include hb
theorem xP (i h:Int) (hi:0≤i):∃r n i' h',kE.f b i h=some (r,n,i',h')∧vU ⟨r,n⟩∧0≤i':=by
  unfold kE.f;obtain⟨r,i1,h1,e1,u,r1,_,j1⟩:=eG b hb i h 2 hi;obtain⟨n,i2,h2,e2,n0,n1,_,j2⟩:=eG b hb i1 h1 6 j1;rw[e1,aA];dsimp only;rw[e2,aA];exact⟨_,_,_,_,rfl,⟨u,by have:=r1 (by omega);dsimp only;omega,n0,by have:=n1 (by omega);dsimp only;omega⟩,j2⟩
end
end Q
namespace P
set_option maxHeartbeats 8000000
set_option maxRecDepth 100000
set_option synthInstance.maxHeartbeats 400000
set_option synthInstance.maxSize 100000
open Go.RowKit WW.bk WW.b_ WW.b6 V
attribute [local go_sem] dC dD
attribute [local go_sem] cR cV cU cY cT cX cS cW
def ib.f (l0:List (ah)) (u:Int) (z:Int):Option (Int):=if bY u∧bY z∧l0.length≤1048577 then some (if Q.cI l0=true then fH l0 ⟨u,z⟩else 0)else none
theorem wU {l:List ah} (h:Q.cI l=true):l.length≤1000∧∀x∈l,bY x.f0.f0∧bY x.f0.f1:=by
 have h1:l.length≤30:=by simp[Q.cI]at h;exact h.2
 refine⟨by omega,fun x hx=> ?_⟩;have h2:Q.e6 0 l=true:=by simp[Q.cI]at h;exact h.1
 have key:∀(l:List ah) (p:Int),Q.e6 p l=true→∀x∈l,bY x.f0.f0∧bY x.f0.f1:=by
  intro l
  induction l with
  |nil=>intro p _ x hx;cases hx
  |cons e r ih=>
   intro p h x hx;simp only[Q.e6,Bool.and_eq_true]at h;rcases List.mem_cons.1 hx with rfl|hx
   ·have:=h.1;simp[Q.lV]at this;exact⟨kH (by omega) (by omega),kH (by omega) (by omega)⟩
   ·exact ih _ h.2.2 x hx
 exact key l 0 h2 x hx
theorem ib.c (H:Option Addr) (c0:Nat) (l0:List (ah)) (u:Int) (z:Int) (r:Int) (w:World) (K:Kd.C aT w H l0.length l0) (hc0:l0.length≤c0) (h:ib.f l0 u z=some r):
  Calls Tryz.prog 41 #[.slice H l0.length c0,.agg #[.int .i64 u,.int .i64 z]] w fun e w'=>e= .returned (.int .i64 r)∧Below w.heap.size w w':=by
 unfold ib.f at h;by_cases h0:bY u∧bY z∧l0.length≤1048577;rotate_left
 ·rw[au h0]at h;cases h
 rw[aq h0]at h;obtain⟨k,hk⟩:=Q.ou l0 h0.2.2;have A:=hk k (Nat.le_refl _);have i0:=aM.mk K;have i1:=aj.mk hc0;clear hk K hc0;by_cases hb:Q.cI l0=true
 ·rw[aq hb]at h;rw[hb]at A;obtain⟨hl,hw⟩:=wU hb;obtain rfl:=aC h;have I:ae (fH l0 ⟨u,z⟩=((gS l0 ⟨u,z⟩).getD dr).f1):=⟨rfl⟩;obtain⟨res,hres⟩:∃res,fH l0 ⟨u,z⟩=res:=⟨_,rfl⟩;rw[hres]at I;rw[hres];have A:=A_ A;have HW:=A_ hw;have H0:=A_ h0;clear h hres hw h0 hb;have Y:=Tryz.underlying104;have X:=Tryz.underlying74;have V:=vS;go_enter Tryz.func41,Tryz.ntmps41
  go_wp2_with (first
   |((with_reducible refine aJ (N:=3) rfl ?_);refine bV #[.int .i64 u,.int .i64 z] 74 fun g w1 j1 j2 U=> ?_)
   |(go_at_call 77;refine(eX.c k _ _ _ true _ Rd.out aj.out A.out).mono ?_;rintro e w2 ⟨rfl,hb⟩;have G:=aw.mk hb;clear hb)
   |(go_at_call 92;refine(pE.c _ _ _ _ Rd.out aj.out hl HW.out).mono ?_;rintro e w3 ⟨b,rfl,hb1,hm,hb⟩;obtain⟨D,hD,F⟩:=hm;have G:=aw.mk hb;obtain⟨x,hrun,hx⟩:=rS hD F ⟨u,z⟩ H0.out.1 H0.out.2.1;have J:=A_ hx;clear hb hb1 hD F hx)
   |((with_reducible refine mg ?_);intro w3 Z;go_region_held3 (fun w'=>eU w3 w') (first|exact⟨From.out⟩|skip) (first|(go_at_call 77;refine(eX.c k _ _ _ true _ Rd.out aj.out A.out).mono ?_;rintro e w2 ⟨rfl,hb⟩;have G:=aw.mk hb;clear hb)|(go_at_call 92;refine(pE.c _ _ _ _ Rd.out aj.out hl HW.out).mono ?_;rintro e w3 ⟨b,rfl,hb1,hm,hb⟩;obtain⟨D,hD,F⟩:=hm;have G:=aw.mk hb;obtain⟨x,hrun,hx⟩:=rS hD F ⟨u,z⟩ H0.out.1 H0.out.2.1;have J:=A_ hx;clear hb hb1 hD F hx))))
  go_ret;have O:x.f1=res:=by rw[I.out,←J.out]
  exact⟨by rw[←O];rfl,From.out⟩
 ·rw[au hb]at h;replace hb:=Bool.eq_false_iff.mpr hb;rw[hb]at A;obtain rfl:=aC h;have A:=A_ A;clear h h0 hb;go_enter Tryz.func41,Tryz.ntmps41
  go_wp2_with (first
   |((with_reducible refine aJ (N:=3) rfl ?_);refine bV #[.int .i64 u,.int .i64 z] 74 fun g w1 j1 j2 U=> ?_)
   |(go_at_call 77;refine(eX.c k _ _ _ false _ Rd.out aj.out A.out).mono ?_;rintro e w2 ⟨rfl,hb⟩;have G:=aw.mk hb;clear hb))
  go_ret;exact⟨rfl,From.out⟩
end P
namespace P
set_option maxHeartbeats 8000000
set_option maxRecDepth 100000
set_option synthInstance.maxHeartbeats 400000
set_option synthInstance.maxSize 100000
open Go.RowKit WW.bk WW.b_ WW.b6 V
attribute [local go_sem] dC dD gl iD iE iO iP
attribute [local go_sem] cR cV cU cY cT cX cS cW
def ft.f (k:Nat) (H:List (ai)) (F:Int) (u:List Int) (z:Int) (G:Int) (D:List (ah)) (a1:Int):Option (Int):=(eA.f k H F u z G D).bind fun I=>(if I=true then((cj.f a1 0 11).bind fun J=>(if J=true then(if 0≤a1 then(if a1<(u.length:Int)then(if(rd u a1)=0 then(some 0)else((ib.f D 0 a1).bind fun K=>(if K=1 then(some 0)else((kf.f (rd u a1) z).bind fun O=>(some O)))))else(none))else(none))else(some 0)))else(some 0))
noncomputable def ft.T3:Bool×List (List Nat×List Nat):=a6 .any (opsOf Tryz.f40 3)
def ft.B3:List Nat:=[0,1,3,0,15,31,0,64,255,511]
theorem ft.lH:a6 .any (opsOf Tryz.f40 3)=ft.T3:=rfl
theorem ft.kQ:bT ft.T3.2 ft.B3=true:=by kernel_rfl
theorem ft.c (k:Nat) (H:Option Addr) (Y:Nat) (D:List (ai)) (U:Int) (I:Option Addr) (Z:Nat) (F:List Int) (V:Int) (X:Int) (J:Option Addr) (ad:Nat) (G:List (ah)) (a1:Int) (r:Int) (w:World) (am:Kd.C aU w H D.length D) (af:D.length≤Y) (ao:Kd.C (Kd.int .i64) w I F.length F) (ak:F.length≤Z) (ap:Kd.C aT w J G.length G) (al:G.length≤ad) (h:ft.f k D U F V X G a1=some r):
  Calls Tryz.prog 40 #[.agg #[.slice H D.length Y,.int .i64 U,.slice I F.length Z,.int .i64 V,.int .i64 X,.slice J G.length ad],.int .i64 a1] w fun e w'=>e= .returned (.int .i64 r)∧Below w.heap.size w w':=by
 replace am:=aM.mk am;replace af:=aj.mk af;replace ao:=aM.mk ao;replace ak:=aj.mk ak;replace ap:=aM.mk ap;replace al:=aj.mk al;unfold ft.f at h;have aF:=Tryz.underlying37;have aG:=Tryz.underlying74
 all_goals go_enter Tryz.func40,Tryz.ntmps40
 all_goals go_wp2_with ((first
  |((with_reducible refine aJ (N:=2) rfl ?_);refine bV #[.slice H D.length Y,.int .i64 U,.slice I F.length Z,.int .i64 V,.int .i64 X,.slice J G.length ad] 37 fun g w1 j1 j2 aI=> ?_)
  |(go_at_call 32;(try rw[z.out]);replace h:=bI h;obtain⟨t,A,h⟩:=h;(try dsimp only at h);refine(eA.c _ _ _ _ _ _ _ _ _ _ _ _ _ _ _ Rd.out aj.out Rd.out aj.out Rd.out aj.out A).mono ?_;rintro e w2 ⟨rfl,hb⟩;have aE:=aw.mk hb;clear A hb)
  |(go_at_call 79;(try rw[z.out]);replace h:=bI h;obtain⟨t,A,h⟩:=h;(try dsimp only at h);refine(cj.c _ _ _ _ _ A).mono ?_;rintro e w2 ⟨rfl,n,rfl⟩;clear A)
  |(go_at_call 41;(try rw[z.out]);replace h:=bI h;obtain⟨t,A,h⟩:=h;(try dsimp only at h);refine(ib.c _ _ _ _ _ _ _ Rd.out aj.out A).mono ?_;rintro e w2 ⟨rfl,hb⟩;have aE:=aw.mk hb;clear A hb)
  |(refine qR (id:=3) (ds:=[]) (l:= #[false,false,false,false,false,false,false,false,false,false]) ft.lH ft.kQ ?_;intro u O w3 aK u0 aH hHeld;replace h:=bI h;obtain⟨aL,ar,h⟩:=h;(try dsimp only at h);refine qA 0 (some 30) u ?_;refine qA 1 (some 31) u ?_;refine qT 2 (some 32) u O hHeld ?_;refine qA 3 (some 33) u ?_;refine qA 4 (some 34) u ?_;refine qT 5 (some 35) u O hHeld ?_;refine qA 6 (some 36) u ?_;refine qT 7 (some 37) u O hHeld ?_;refine ie 8 (some 38) u fun K hK=> ?_;refine df Tryz.func42 (by kernel_rfl) rfl _ (by rfl) rfl rfl (by(try simp only[List.map_toArray,List.map_cons,List.map_nil]);rfl) ?_;refine(kf.c _ _ _ _ ar).mono ?_;rintro e u8 ⟨rfl,n,rfl⟩;refine⟨_,rfl,hK.out _ _ From.out fun hHeld=> ?_⟩;clear hK K;refine qN ?_;refine qA 9 (some 4) u ?_;refine qD u ?_;all_goals((try simp only[aA]at h);(repeat' first|((with_reducible replace h:=bq h);rcases h with ⟨hc,h⟩|⟨hc,h⟩<;>first|exact(bh h).elim|exact absurd hc (by decide)|subst hc|(replace hc:=aD hc;subst hc)|(replace hc:=bH hc;subst hc)|(replace hc:=bJ hc;subst hc)|(have hd:(_==_)=true:=hc)|(have hd:(_==_)=false:=aD hc)|(have hd:=aV hc;have he:=aW hc;clear hc)|(have hd:=bo hc;have he:=bp hc)|(have hd:=ay hc)|(have hd:=ag hc;(try(have hn:=Int.natCast_pos.mp hc;have hm:=ag hn;replace hn:=ax hn));first|(obtain⟨aB,e_,i_⟩:=cQ (by assumption) (by first|assumption|decide) hc;cases e_)|(obtain⟨av,e_,c_⟩:=bE (by assumption) (by first|assumption|decide) hc;cases e_))|(have hd:=ag hc)|skip)|((with_reducible replace h:=bF h);obtain⟨z,h⟩:=h;replace z:=A_ z;(try dsimp only at h))))));(repeat' first|((with_reducible replace h:=bq h);rcases h with ⟨hc,h⟩|⟨hc,h⟩<;>first|exact(bh h).elim|exact absurd hc (by decide)|subst hc|(replace hc:=aD hc;subst hc)|(replace hc:=bH hc;subst hc)|(replace hc:=bJ hc;subst hc)|(have hd:(_==_)=true:=hc)|(have hd:(_==_)=false:=aD hc)|(have hd:=aV hc;have he:=aW hc;clear hc)|(have hd:=bo hc;have he:=bp hc)|(have hd:=ay hc)|(have hd:=ag hc;(try(have hn:=Int.natCast_pos.mp hc;have hm:=ag hn;replace hn:=ax hn));first|(obtain⟨aB,e_,i_⟩:=cQ (by assumption) (by first|assumption|decide) hc;cases e_)|(obtain⟨av,e_,c_⟩:=bE (by assumption) (by first|assumption|decide) hc;cases e_))|(have hd:=ag hc)|skip)|((with_reducible replace h:=bF h);obtain⟨z,h⟩:=h;replace z:=A_ z;(try dsimp only at h))))
 all_goals obtain rfl:=aC h
 all_goals go_ret
 all_goals exact⟨(by first|rfl|(simp_all;done)),From.out⟩
def fy.f (k:Nat) (l0:List (ah)) (F:Int) (G:Int) (H:Int) (I:Int):Option ((List (ah))×Bool):=(gG.f l0).bind fun u=>((some (([(⟨(⟨F,G⟩:bL),H,I⟩:ah)]:List (ah)):List (ah))).bind fun z=>(if u.length+z.length<4398046511104 then((some (u++z:List (ah))).bind fun D=>((gF.f k l0).bind fun J=>(if J=true then((gF.f k D).bind fun K=>(if K=true then(some (D,true))else((gG.f l0).bind fun O=>(some (O,false)))))else((gG.f l0).bind fun U=>(some (U,false))))))else(none)))
noncomputable def fy.T1:Bool×List (List Nat×List Nat):=a6 .any (opsOf Tryz.f99 1)
def fy.B1:List Nat:=[0,1,0,4,15,31]
theorem fy.np:a6 .any (opsOf Tryz.f99 1)=fy.T1:=rfl
theorem fy.mE:bT fy.T1.2 fy.B1=true:=by kernel_rfl
theorem fy.c (k:Nat) (O:Option Addr) (c0:Nat) (l0:List (ah)) (u:Int) (z:Int) (D:Int) (F:Int) (r1:List (ah)) (r2:Bool) (w:World) (V:Kd.C aT w O l0.length l0) (hc0:l0.length≤c0) (h:fy.f k l0 u z D F=some (r1,r2)):
  Calls Tryz.prog 99 #[.slice O l0.length c0,.agg #[.int .i64 u,.int .i64 z,.int .i64 D,.int .i64 F]] w fun e w'=>∃Y:Value,e= .returned (.tuple #[Y,.bool r2])∧Kd.R aT 104 w' w.heap.size (fun _=>True) Y r1∧Below w.heap.size w w':=by
 replace V:=aM.mk V;replace hc0:=aj.mk hc0;unfold fy.f at h;have ap:=Tryz.underlying104
 all_goals go_enter Tryz.func99,Tryz.ntmps99
 all_goals go_wp2_with ((first
  |((with_reducible refine aJ (N:=3) rfl ?_);refine bV #[.int .i64 u,.int .i64 z,.int .i64 D,.int .i64 F] 104 fun g w1 j1 j2 av=> ?_)
  |(go_at_call 96;(try rw[I.out]);replace h:=bI h;obtain⟨t,A,h⟩:=h;(try dsimp only at h);refine(gG.c _ _ _ _ _ Rd.out aj.out A).mono ?_;rintro e w2 ⟨v0,rfl,H,hb⟩;obtain⟨U,b0,rfl,j0,q0⟩:=aH H;have J:=aw.mk hb;clear A H hb)
  |(go_at_call 87;(try rw[I.out]);replace h:=bI h;obtain⟨t,A,h⟩:=h;(try dsimp only at h);refine(gF.c _ _ _ _ _ _ Rd.out aj.out A).mono ?_;rintro e w2 ⟨rfl,hb⟩;have J:=aw.mk hb;clear A hb)
  |(refine qR (id:=1) (ds:=[]) (l:= #[false,false,false,false,false,false]) fy.np fy.mE ?_;intro G Z w3 aE u0 ar hHeld;refine qA 0 (some 7) G ?_;refine qT 2 (some 9) G Z hHeld ?_;replace h:=bI h;obtain⟨t,A,h⟩:=h;(try dsimp only at h);simp only[aA]at h;(repeat' first|((with_reducible replace h:=bq h);rcases h with ⟨hc,h⟩|⟨hc,h⟩<;>first|exact(bh h).elim|exact absurd hc (by decide)|subst hc|(replace hc:=aD hc;subst hc)|(replace hc:=bH hc;subst hc)|(replace hc:=bJ hc;subst hc)|(have hd:(_==_)=true:=hc)|(have hd:(_==_)=false:=aD hc)|(have hd:=aV hc;have he:=aW hc;clear hc)|(have hd:=bo hc;have he:=bp hc)|(have hd:=ay hc)|(have hd:=ag hc;(try(have hn:=Int.natCast_pos.mp hc;have hm:=ag hn;replace hn:=ax hn));first|(obtain⟨ai,e_,i_⟩:=cQ (by assumption) (by first|assumption|decide) hc;cases e_)|(obtain⟨ad,e_,c_⟩:=bE (by assumption) (by first|assumption|decide) hc;cases e_))|(have hd:=ag hc)|skip)|((with_reducible replace h:=bF h);obtain⟨I,h⟩:=h;replace I:=A_ I;(try dsimp only at h)));refine ly 1 3 (some 8) (some 10) G (fun K hK=> ?_) (fun K hK=> ?_);(focus (refine df Tryz.func96 (by kernel_rfl) rfl _ (by rfl) rfl rfl (by(try simp only[List.map_toArray,List.map_cons,List.map_nil]);rfl) ?_;refine(gG.c _ _ _ _ _ Rd.out aj.out A).mono ?_;rintro e u1 ⟨v0,rfl,H,hb⟩;obtain⟨U,b0,rfl,j0,q0⟩:=aH H;have J:=aw.mk hb;(try clear H hb);refine⟨_,rfl,hK.out _ _ From.out fun hHeld=> ?_⟩;clear hK K;refine qN ?_;refine qI aT 3 104 10 ([(⟨(⟨u,z⟩:bL),D,F⟩:ah)]:List (ah)) [.int .i64 u,.int .i64 z,.int .i64 D,.int .i64 F] G hHeld (aY.c4 (show Kd.M aT _ _ _ (⟨(⟨u,z⟩:bL),D,F⟩:ah) [.int .i64 u,.int .i64 z,.int .i64 D,.int .i64 F]from(iR _ _ _ (⟨(⟨u,z⟩:bL),D,F⟩:ah))) (aY.none _ _)) ?_;intro B9 af u9 ak al hHeld));rotate_left;(focus (refine pR aT 104 10 ([(⟨(⟨u,z⟩:bL),D,F⟩:ah)]:List (ah)) [.int .i64 u,.int .i64 z,.int .i64 D,.int .i64 F] (aY.c4 (show Kd.M aT _ _ _ (⟨(⟨u,z⟩:bL),D,F⟩:ah) [.int .i64 u,.int .i64 z,.int .i64 D,.int .i64 F]from(iR _ _ _ (⟨(⟨u,z⟩:bL),D,F⟩:ah))) (aY.none _ _)) ?_;intro B9 af u9 ak al;refine hK.out _ _ From.out fun hHeld=> ?_;clear hK K;refine qN ?_;refine qC 1 8 Tryz.func96 G fun K hK=> ?_;refine(gG.c _ _ _ _ _ Rd.out aj.out A).mono ?_;rintro e u1 ⟨v0,rfl,H,hb⟩;obtain⟨U,b0,rfl,j0,q0⟩:=aH H;have J:=aw.mk hb;(try clear H hb);refine⟨_,rfl,hK _ _ From.out fun hHeld=> ?_⟩;clear hK K;refine qN ?_));all_goals(refine qP aT t ([(⟨(⟨u,z⟩:bL),D,F⟩:ah)]:List (ah)) 4 11 (.tmp 8) (.tmp 10) 35 (.agg #[(.int .i64 0),(.int .i64 0),(.int .i64 0),(.int .i64 0)]) 32 G hHeld Tryz.underlying35 lX rfl (by decide) (by omega) (fun _ _ h=>h) (by simp at hc ⊢;omega) ?_;intro B8 ao u8 X aB hHeld;have am:=aj.mk (ky X);generalize t++([(⟨(⟨u,z⟩:bL),D,F⟩:ah)]:List (ah))=aF at h X am ⊢;refine qA 5 (some 6) G ?_;refine qD G ?_)));(repeat' first|((with_reducible replace h:=bq h);rcases h with ⟨hc,h⟩|⟨hc,h⟩<;>first|exact(bh h).elim|exact absurd hc (by decide)|subst hc|(replace hc:=aD hc;subst hc)|(replace hc:=bH hc;subst hc)|(replace hc:=bJ hc;subst hc)|(have hd:(_==_)=true:=hc)|(have hd:(_==_)=false:=aD hc)|(have hd:=aV hc;have he:=aW hc;clear hc)|(have hd:=bo hc;have he:=bp hc)|(have hd:=ay hc)|(have hd:=ag hc;(try(have hn:=Int.natCast_pos.mp hc;have hm:=ag hn;replace hn:=ax hn));first|(obtain⟨ai,e_,i_⟩:=cQ (by assumption) (by first|assumption|decide) hc;cases e_)|(obtain⟨ad,e_,c_⟩:=bE (by assumption) (by first|assumption|decide) hc;cases e_))|(have hd:=ag hc)|skip)|((with_reducible replace h:=bF h);obtain⟨I,h⟩:=h;replace I:=A_ I;(try dsimp only at h)));all_goals(try have hn:decide (0<t.length)=true:=ag (by omega));all_goals(try have hn:decide (0<t.length)=false:=ay (by omega)))
 all_goals simp only[Option.some.injEq,Prod.mk.injEq]at h
 all_goals obtain⟨rfl,rfl⟩:=h
 all_goals go_ret2
 all_goals exact⟨_,rfl,(by first|exact bj|exact Kd.bl _ _ _ _ _|exact bM|exact en (by simp)),From.out⟩
end P
namespace Q
open Go.RowKit P WW.bk WW.b6
def lU (r n f m:Int):ah:=⟨⟨r,n⟩,f,m⟩
def addEntry (l:List ah) (r n f m:Int):List ah×Bool:=if cI l=true∧cI (l++[lU r n f m])=true then(l++[lU r n f m],true)else(l,false)
theorem qO (l:List ah) (r n f m:Int) (hl:l.length≤1048576):Ev (fun k=>fq.f k l r n f m) (addEntry l r n f m):=by
  unfold fq.f addEntry;refine aX (mN l (by omega)) (aX rfl (ar (by simp;omega) (aX rfl (Ev.bind (ou l (by omega)) ?_))));by_cases h:cI l=true;rotate_left
  · exact br (fun h2=>h h2.1)<|aI h (aX (mN l (by omega)) (Ev.now _))
  refine ar h (Ev.bind (ou _ (by simp;omega)) ?_);by_cases h2:cI (l++[lU r n f m])=true
  · exact bK ⟨h,h2⟩<|ar h2 (Ev.now _)
  · exact br (fun h3=>h2 h3.2)<|aI h2 (aX (mN l (by omega)) (Ev.now _))
theorem qQ (l:List ah) (r n f m:Int) (hl:l.length≤1048576):Ev (fun k=>fy.f k l r n f m) (addEntry l r n f m):=by
  unfold fy.f addEntry;refine aX (mV l (by omega)) (aX rfl (ar (by simp;omega) (aX rfl (Ev.bind (ov l (by omega)) ?_))));by_cases h:cI l=true;rotate_left
  · exact br (fun h2=>h h2.1)<|aI h (aX (mV l (by omega)) (Ev.now _))
  refine ar h (Ev.bind (ov _ (by simp;omega)) ?_);by_cases h2:cI (l++[lU r n f m])=true
  · exact bK ⟨h,h2⟩<|ar h2 (Ev.now _)
  · exact br (fun h3=>h2 h3.2)<|aI h2 (aX (mV l (by omega)) (Ev.now _))
end Q

end Go.Proofs.YtanhnhkcpbdfmaaGreat
