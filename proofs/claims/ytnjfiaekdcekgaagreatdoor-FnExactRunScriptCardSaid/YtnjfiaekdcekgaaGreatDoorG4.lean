/- What functions of the program come to (f), that their calls come to just this (calls), and the plain laws over lists and numbers. No condition but those of the given row. -/
import Derived.Test.YtnjfiaekdcekgaaGreatDoorG3
import Derived.Stop.LaidErr
set_option linter.unusedVariables false
set_option linter.unusedSimpArgs false
namespace Go.Proofs.YtnjfiaekdcekgaaGreatDoor
namespace Q
open Go.RowKit P WW.bq WW.cd
theorem yZ (a:Int):fX.f a=some (decide (-10≤a∧a≤40)):=by
  unfold fX.f;rw[iP];rfl
def eo (n a b c:Int):Bool:=
  if n=1∨n=5∨n=6 then decide (a=0∧b=0∧c=0)
  else if n=2 then decide ((-10≤a∧a≤40)∧b=0∧c=0)
  else if n=3 then decide ((0≤a∧a≤3)∧(0≤b∧b≤39)∧(0≤c∧c≤2))
  else if n=4 then decide ((0≤a∧a≤11)∧(-100000≤b∧b≤100000)∧c=0)
  else if n=7 then decide ((0≤a∧a≤11)∧b=0∧c=0)else false
theorem tz (n a b c:Int):Ev (fun k=>eC.f k n a b c) (eo n a b c):=by
  have J:∀x:Bool,x=decide (n=1∨n=5∨n=6)→Ev (fun k=>eC.j0 k n x n a b c) (eo n a b c):=by
    intro x hx;refine Ev.step (fun k=>by rw[eC.j0]) ?_;unfold eo;by_cases h:n=1∨n=5∨n=6
    · refine ai (by simp[hx,h]) (evs ?_);rw[af h,Bool.eq_iff_iff];simp
    rw[ag h];refine aw (by simp[hx,h]) ?_;by_cases h2:n=2
    · refine ai h2 ?_;rw[af h2];by_cases hz:b=0∧c=0
      · refine ai (by simp[hz]) (bc (yZ _) (evs ?_));simp[hz]
      · refine aw (by simpa using hz) (evs ?_);rw[Bool.eq_iff_iff];simp;intros;omega
    refine aw h2 ?_;rw[ag h2];by_cases h3:n=3
    · refine ai h3 ?_;rw[af h3];refine bc (iP _ _ _) ?_;by_cases p1:0≤a∧a≤3;rotate_left
      · exact aw (by simpa using p1) (evs (by simp[p1]))
      refine ai (by simpa using p1) (bc (iP _ _ _) ?_);by_cases p2:0≤b∧b≤39;rotate_left
      · exact aw (by simpa using p2) (evs (by simp[p2]))
      refine ai (by simpa using p2) (bc (iP _ _ _) (evs ?_));simp[p1,p2]
    refine aw h3 ?_;rw[ag h3];by_cases h4:n=4
    · refine ai h4 ?_;rw[af h4];by_cases p0:c=0;rotate_left
      · exact aw (by simpa using p0) (evs (by simp[p0]))
      refine ai (by simpa using p0) (bc (iP _ _ _) ?_);by_cases p1:0≤a∧a≤11;rotate_left
      · exact aw (by simpa using p1) (evs (by simp[p1]))
      refine ai (by simpa using p1) (bc (iP _ _ _) (evs ?_));simp[p0,p1]
    refine aw h4 ?_;rw[ag h4];by_cases h7:n=7
    · refine ai h7 ?_;rw[af h7];by_cases hz:b=0∧c=0
      · refine ai (by simp[hz]) (bc (iP _ _ _) (evs ?_));simp[hz]
      · refine aw (by simpa using hz) (evs ?_);rw[Bool.eq_iff_iff];simp;intros;omega
    refine aw h7 ?_;rw[ag h7];exact Ev.now _
  unfold eC.f;refine er (fun h=>J _ (by simp[h])) (fun h=>er (fun h5=>J _ (by simp[h5])) (fun h5=>J _ ?_));rw[Bool.eq_iff_iff];simp[h,h5]
theorem tA (n a b c:Int):Ev (fun k=>fL.f k n a b c) (eo n a b c):=by
  have Z:∀(p:Prop) [Decidable p],p→Ev (fun _=>if b=0 then some (c==0)else some false) (decide (p∧b=0∧c=0)):=by
    intro p _ hp;by_cases hb:b=0
    · refine ai hb (evs ?_);rw[Bool.eq_iff_iff];simp[hp,hb]
    · refine aw hb (evs ?_);simp[hb]
  have J:∀x:Bool,x=decide (n=1∨n=5∨n=6)→Ev (fun k=>fL.j0 k n x n a b c) (eo n a b c):=by
    intro x hx;refine Ev.step (fun k=>by rw[fL.j0]) ?_;unfold eo;by_cases h:n=1∨n=5∨n=6
    · rw[af h];refine ai (by simp[hx,h]) ?_;by_cases ha:a=0
      · exact ai ha (Z (a=0) ha)
      · exact aw ha (evs (by simp[ha]))
    rw[ag h];refine aw (by simp[hx,h]) ?_;by_cases h2:n=2
    · refine ai h2 ?_;rw[af h2];refine bc (gU _ _ _) ?_;by_cases p1: -10≤a∧a≤40
      · exact ai (by simpa using p1) (Z _ p1)
      · exact aw (by simpa using p1) (evs (by simp[p1]))
    refine aw h2 ?_;rw[ag h2];by_cases h3:n=3
    · refine ai h3 ?_;rw[af h3];refine bc (gU _ _ _) ?_;by_cases p1:0≤a∧a≤3;rotate_left
      · exact aw (by simpa using p1) (evs (by simp[p1]))
      refine ai (by simpa using p1) (bc (gU _ _ _) ?_);by_cases p2:0≤b∧b≤39;rotate_left
      · exact aw (by simpa using p2) (evs (by simp[p2]))
      refine ai (by simpa using p2) (bc (gU _ _ _) (evs ?_));simp[p1,p2]
    refine aw h3 ?_;rw[ag h3];by_cases h4:n=4
    · refine ai h4 ?_;rw[af h4];refine bc (gU _ _ _) ?_;by_cases p1:0≤a∧a≤11;rotate_left
      · exact aw (by simpa using p1) (evs (by simp[p1]))
      refine ai (by simpa using p1) (bc (gU _ _ _) ?_);by_cases p2: -100000≤b∧b≤100000
      · refine ai (by simpa using p2) (evs ?_);rw[Bool.eq_iff_iff];simp[p1,p2]
      · refine aw (by simpa using p2) (evs ?_);simp[p2]
    refine aw h4 ?_;rw[ag h4];by_cases h7:n=7
    · refine ai h7 ?_;rw[af h7];refine bc (gU _ _ _) ?_;by_cases p1:0≤a∧a≤11
      · exact ai (by simpa using p1) (Z _ p1)
      · exact aw (by simpa using p1) (evs (by simp[p1]))
    refine aw h7 ?_;rw[ag h7];exact Ev.now _
  unfold fL.f;refine er (fun h=>J _ (by simp[h])) (fun h=>er (fun h5=>J _ (by simp[h5])) (fun h5=>J _ ?_));rw[Bool.eq_iff_iff];simp[h,h5]
theorem nT {n a b c:Int} (h:eo n a b c=true):1≤n∧n≤7:=by
  unfold eo at h;by_cases h1:n=1∨n=5∨n=6
  · omega
  rw[ag h1]at h;by_cases h2:n=2
  · omega
  rw[ag h2]at h;by_cases h3:n=3
  · omega
  rw[ag h3]at h;by_cases h4:n=4
  · omega
  rw[ag h4]at h;by_cases h7:n=7
  · omega
  rw[ag h7]at h;cases h
theorem rdStr (l:List ByteArray) (i:Nat) (h:i<l.length):bF ByteArray.empty l (i:Int)=l[i]:=by
  unfold bF;simp[List.getD_eq_getElem?_getD,h]
theorem yn (l:List ByteArray) (hl:l.length≤9000000000000000000):Ev (fun k=>fJ.f k l l) true:=by
  have key:∀i,i≤l.length→Ev (fun k=>fJ.l0 k l l (i:Int)) true:=by
    refine down (n:=l.length) ?_ ?_
    · exact Ev.step (fun k=>by rw[fJ.l0]) (aw (by omega) (evs rfl))
    · intro i hi ih;refine Ev.step (fun k=>by rw[fJ.l0]) (ai (by omega) (ai (by omega) (ai (by omega) (ai rfl ?_))));rw[cm (by omega) (by omega)];exact ih
  unfold fJ.f;exact ai rfl (key 0 (Nat.zero_le _))
theorem zM:∀(m:Nat) (x:Int) (s:ByteArray),0≤x→x.natAbs<10^m→x≤9223372036854775807→s.size+m≤1000→∃r,Ev (fun k=>fy.l0 k x s) r:=by
  intro m
  induction m with
  |zero=>
   intro x s h0 h h2 hs;obtain rfl:x=0:=(by simp at h;omega);exact⟨_,Ev.step (fun k=>by rw[fy.l0]) (aw (by decide) (ai (by omega) (Ev.now _)))⟩
  |succ m ih=>
   intro x s h0 h h2 hs;by_cases hx:x>0
   · have e1:(x.tdiv 10).natAbs=x.natAbs/10:=by rw[Int.natAbs_tdiv];rfl
     have hlt:(x.tdiv 10).natAbs<10^m:=by
       rw[e1];rw[Nat.pow_succ]at h;omega
     have hp:0≤x.tdiv 10:=Int.tdiv_nonneg h0 (by decide);obtain⟨r,hr⟩:=ih (x.tdiv 10) (strOfNums [(wrap64 (48+(Int.tmod x 10)))%256]++s) (by omega) hlt (by omega) (by rw[ByteArray.size_append,strOfNums_size];simp only[List.length_singleton];omega);refine⟨r,?_⟩;refine Ev.step (fun k=>by rw[fy.l0]) ?_;refine ai hx ?_;refine bc (a:=[(wrap64 (48+(Int.tmod x 10)))%256]) rfl ?_;refine ai (by rw[strOfNums_size];simp only[List.length_singleton];omega) ?_;rw[cm (n:=x.tdiv 10) (by omega) (by omega)];exact hr
   · refine⟨(⟨#[109]⟩:ByteArray)++s,?_⟩;refine Ev.step (fun k=>by rw[fy.l0]) ?_;exact aw hx (ai (by omega) (Ev.now _))
theorem uD (x:Int) (h:x≤9223372036854775807):∃r,Ev (fun k=>fy.f k x) r:=by
  unfold fy.f;by_cases h0:x≤0
  · exact⟨_,ai h0 (Ev.now _)⟩
  · have h19:(10:Nat)^19=10000000000000000000:=(by decide);obtain⟨r,hr⟩:=zM 19 x ⟨#[]⟩ (by omega) (by omega) h (by decide);exact⟨r,aw h0 hr⟩
noncomputable def oC (x:Int):ByteArray:=if h:x≤9223372036854775807 then Classical.choose (uD x h)else⟨#[]⟩
theorem uH (x:Int) (h:x≤9223372036854775807):Ev (fun k=>fy.f k x) (oC x):=by
  unfold oC;rw[dif_pos h];exact Classical.choose_spec (uD x h)
noncomputable def mz (n:Int) (len:Nat):List ByteArray:=(List.range len).map fun(i:Nat)=>oC (n+(i:Int))
theorem rV (n:Int) (len:Nat):(mz n len).length=len:=by simp[mz]
theorem zL (l:List ByteArray) (n:Int) (h0:0≤n) (hn:n≤4) (hl:l.length≤4000000):Ev (fun k=>gG.f k l n) (n+(l.length:Int),mz n l.length):=by
  have key:∀i,i≤l.length→∀acc:List ByteArray,acc.length=l.length→Ev (fun k=>gG.l0 k acc (n+(i:Int)) (i:Int)) (n+(l.length:Int),acc.take i++((List.range l.length).drop i).map fun(j:Nat)=>oC (n+(j:Int))):=by
    refine down (n:=l.length) ?_ ?_
    · intro acc ha;refine Ev.step (fun k=>by rw[gG.l0]) (aw (by omega) (evs ?_));rw[List.drop_eq_nil_of_le (by simp),List.map_nil,List.append_nil,List.take_of_length_le (by omega)]
    · intro i hi ih acc ha;refine Ev.step (fun k=>by rw[gG.l0]) (ai (by omega) (Ev.bind (uH _ (by omega)) ?_));refine ai (show(0:Int)≤(i:Int)by omega) ?_;rw[cm (n:=n+(i:Int)+1) (by omega) (by omega),cm (n:=(i:Int)+1) (by omega) (by omega),Int.toNat_natCast];have:=ih (acc.set i (oC (n+(i:Int)))) (by simpa using ha);rw[BM _ _ _ (by omega),List.append_assoc]at this;rw[drop_cons (List.range l.length) i (by simpa using hi),List.map_cons,List.getElem_range];rw[show n+(i:Int)+1=n+((i+1:Nat):Int)by omega];exact this
  have:=key 0 (Nat.zero_le _) l rfl;unfold gG.f;simpa[mz]using this
theorem yL (n:Int) (len:Nat) (h0:0≤n) (hn:n≤4) (hl:len≤4000000):Ev (fun k=>gq.f k (mz n len) n) (n+(len:Int)):=by
  have key:∀i,i≤len→Ev (fun k=>gq.l0 k (mz n len) (n+(i:Int)) (i:Int)) (n+(len:Int)):=by
    refine down (n:=len) ?_ ?_
    · exact Ev.step (fun k=>by rw[gq.l0]) (aw (by rw[rV];omega) (evs rfl))
    · intro i hi ih;refine Ev.step (fun k=>by rw[gq.l0]) (ai (by rw[rV];omega) (ai (by omega) (Ev.bind (uH _ (by omega)) (ai ?_ ?_))))
      · rw[rdStr _ i (by rw[rV];exact hi)];simp[mz]
      · rw[cm (n:=n+(i:Int)+1) (by omega) (by omega),cm (n:=(i:Int)+1) (by omega) (by omega),show n+(i:Int)+1=n+((i+1:Nat):Int)by omega];exact ih
  have:=key 0 (Nat.zero_le _);unfold gq.f;simpa using this
end Q
namespace Q
open Go.RowKit P WW.bq
def eM (n:Int):Prop:= -9223372036854775808≤n∧n≤9223372036854775807
def kT (n:Int):List UInt8:=
  if n=1 then[116,117,110,101]else if n=2 then[119,97,114,109]else if n=3 then[102,97,117,108,116]else if n=4 then[107,110,111,99,107]
  else if n=5 then[114,101,112,97,105,114]else if n=6 then[108,101,102,116]else[104,101,97,114,100]
def jU (n a b c:Int):List Int:=if n=2∨n=7 then[a]else if n=3 then[a,b,c]else if n=4 then[a,b]else[]
def gD (n a b c:Int):List UInt8:=if eo n a b c=true then kT n++fu (jU n a b c)else[]
theorem CJ (a:Int) (r:List Int):[32]++line (a::r)=fu (a::r):=by
  rw[oy];simp[fu]
theorem yy (name:List UInt8) (l:List Int) (m:Nat) (hm:m≤l.length) (h:∀n∈l,eM n) (hl:l.length≤10) (hn:name.length≤100):∀(d i:Nat),i+d=m→
    Ev (fun k=>fC.l0 k (txt (name++fu (l.take i))) (m:Int) l (i:Int)) (txt (name++fu (l.take m)),true):=by
  intro d
  induction d with
  |zero=>
   intro i hi;obtain rfl:i=m:=(by omega);exact Ev.step (fun k=>by rw[fC.l0]) (aw (by omega) (Ev.now _))
  |succ d ih=>
   intro i hi;have hlt:i<l.length:=(by omega);have hq:=h l[i] (List.getElem_mem hlt);have ht:=wj (l.take i) (fun n hn=>h n (List.mem_of_mem_take hn));have u:(l.take i).length≤10:=(by rw[List.length_take];omega);have hs:(name++fu (l.take i)).length≤400:=(by rw[List.length_append];omega);have hnl:=kD _ hq.1 hq.2;refine Ev.step (fun k=>by rw[fC.l0]) (ai (by omega) (ai (by rw[eU];omega) (ai (by omega) (ai (by omega) ?_))));rw[ny l i hlt];refine Ev.bind (lO _ hq.1 hq.2) (ai ?_ ?_)
   · rw[show(⟨#[32]⟩:ByteArray)=txt [32]from rfl,iO,eU,eU,List.length_append];simp only[List.length_singleton];omega
   · rw[show(⟨#[32]⟩:ByteArray)=txt [32]from rfl,iO,iO,cm (by omega) (by omega)];have:=ih (i+1) (by omega);rw[show fu (l.take (i+1))=fu (l.take i)++(32::num l[i])from by rw[List.take_succ_eq_append_getElem hlt];simp only[fu,List.flatMap_append,List.flatMap_cons,List.flatMap_nil,List.append_nil]]at this;rw[show(name++fu (l.take i)++[32]++num l[i])=name++(fu (l.take i)++(32::num l[i]))from by simp[List.append_assoc]];exact this
theorem yz (n a b c:Int) (ha:eM a) (hb:eM b) (hc:eM c):Ev (fun k=>fC.f k n a b c) (txt (gD n a b c),eo n a b c):=by
  unfold fC.f;refine Ev.bind (tA n a b c) ?_;by_cases hok:eo n a b c=true;rotate_left
  · refine aw hok (evs ?_);unfold gD;rw[ag hok,Bool.eq_false_iff.mpr hok];rfl
  have hk:=nT hok;refine ai hok (bc rfl (ai (by omega) (ai (by simp only[List.length_cons,List.length_nil];omega) (bc rfl (ai (by simp only[List.length_cons,List.length_nil];omega) ?_)))));have hall:∀m∈[a,b,c],eM m:=by intro m hm;simp at hm;rcases hm with rfl|rfl|rfl<;>assumption
  have go:∀(nm:List UInt8) (m:Nat),m≤3→nm.length≤100→bF ByteArray.empty [(⟨#[]⟩:ByteArray),(⟨#[116,117,110,101]⟩:ByteArray),(⟨#[119,97,114,109]⟩:ByteArray),(⟨#[102,97,117,108,116]⟩:ByteArray),(⟨#[107,110,111,99,107]⟩:ByteArray),(⟨#[114,101,112,97,105,114]⟩:ByteArray),(⟨#[108,101,102,116]⟩:ByteArray),(⟨#[104,101,97,114,100]⟩:ByteArray)] n=txt nm→rd [0,0,1,3,2,0,0,1] n=(m:Int)→nm=kT n→[a,b,c].take m=jU n a b c→
      Ev (fun k=>fC.l0 k (bF ByteArray.empty [(⟨#[]⟩:ByteArray),(⟨#[116,117,110,101]⟩:ByteArray),(⟨#[119,97,114,109]⟩:ByteArray),(⟨#[102,97,117,108,116]⟩:ByteArray),(⟨#[107,110,111,99,107]⟩:ByteArray),(⟨#[114,101,112,97,105,114]⟩:ByteArray),(⟨#[108,101,102,116]⟩:ByteArray),(⟨#[104,101,97,114,100]⟩:ByteArray)] n) (rd [0,0,1,3,2,0,0,1] n) [a,b,c] 0) (txt (gD n a b c),eo n a b c):=by
    intro nm m hm hl e1 e2 e3 e4;rw[e1,e2];have:=yy nm [a,b,c] m hm hall (by simp) hl m 0 (by omega);rw[e4]at this;rw[show fu (List.take 0 [a,b,c])=[]from rfl,List.append_nil]at this;unfold gD;rw[af hok,hok,←e3];exact this
  rcases(show n=1∨n=2∨n=3∨n=4∨n=5∨n=6∨n=7 by omega)with rfl|rfl|rfl|rfl|rfl|rfl|rfl
  · exact go _ 0 (by decide) (by decide) rfl rfl rfl rfl
  · exact go [119,97,114,109] 1 (by decide) (by decide) rfl rfl rfl rfl
  · exact go [102,97,117,108,116] 3 (by decide) (by decide) rfl rfl rfl rfl
  · exact go [107,110,111,99,107] 2 (by decide) (by decide) rfl rfl rfl rfl
  · exact go [114,101,112,97,105,114] 0 (by decide) (by decide) rfl rfl rfl rfl
  · exact go [108,101,102,116] 0 (by decide) (by decide) rfl rfl rfl rfl
  · exact go [104,101,97,114,100] 1 (by decide) (by decide) rfl rfl rfl rfl
theorem yx (n a b c:Int) (ha:eM a) (hb:eM b) (hc:eM c):Ev (fun k=>kZ.f k n a b c) (txt (gD n a b c),eo n a b c):=by
  unfold kZ.f;refine Ev.bind (tz n a b c) ?_;by_cases hok:eo n a b c=true;rotate_left
  · refine aw hok (evs ?_);unfold gD;rw[ag hok,Bool.eq_false_iff.mpr hok];rfl
  have hk:=nT hok
  have W:∀(nm:List UInt8) (x:Int) (r:List Int) (q:Nat),(nm++[32]).length=q→q≤100→(x::r).length≤3→(∀m∈x::r,eM m)→nm=kT n→x::r=jU n a b c→
      Ev (fun k=>(b_.f k (x::r)).bind fun t=>(if q+t.size≤9223372036854775807 then(some (txt (nm++[32])++t,true))else(none))) (txt (gD n a b c),eo n a b c):=by
    intro nm x r q hq hq1 hl hm e1 e2;refine Ev.bind (qF (x::r) hm (by omega)) (ai ?_ (evs ?_))
    · have:=oz (x::r) hm;rw[eU];omega
    · rw[iO,List.append_assoc,CJ,hok];unfold gD;rw[af hok,←e1,←e2]
  have N:∀(nm:List UInt8),nm=kT n→jU n a b c=[]→Ev (fun _=>some (txt nm,true)) (txt (gD n a b c),eo n a b c):=by
    intro nm e1 e2;refine evs ?_;unfold gD;rw[af hok,hok,e2,e1];simp[fu]
  refine ai hok ?_;rcases(show n=1∨n=2∨n=3∨n=4∨n=5∨n=6∨n=7 by omega)with rfl|rfl|rfl|rfl|rfl|rfl|rfl
  · exact ai rfl (N _ rfl rfl)
  · exact aw (by decide) (ai rfl (W [119,97,114,109] a [] 5 rfl (by decide) (by simp) (by simpa using ha) rfl rfl))
  · exact aw (by decide) (aw (by decide) (ai rfl (W [102,97,117,108,116] a [b,c] 6 rfl (by decide) (by simp) (by simp;exact⟨ha,hb,hc⟩) rfl rfl)))
  · exact aw (by decide) (aw (by decide) (aw (by decide) (ai rfl (W [107,110,111,99,107] a [b] 6 rfl (by decide) (by simp) (by simp;exact⟨ha,hb⟩) rfl rfl))))
  · exact aw (by decide) (aw (by decide) (aw (by decide) (aw (by decide) (ai rfl (N _ rfl rfl)))))
  · exact aw (by decide) (aw (by decide) (aw (by decide) (aw (by decide) (aw (by decide) (ai rfl (N _ rfl rfl))))))
  · exact aw (by decide) (aw (by decide) (aw (by decide) (aw (by decide) (aw (by decide) (aw (by decide) (W [104,101,97,114,100] a [] 6 rfl (by decide) (by simp) (by simpa using ha) rfl rfl))))))
end Q
namespace P
open Go Go.RowKit Go.ChangeShapes
theorem vY: "*" ++ "errors.errorString" = "*errors.errorString" :=by decide
theorem vH (u:TypeId) (h:Tryz.prog.typeName? 3 u=some "*errors.errorString"):u=192:=
  typeName_ptr_named (nm:= "errors.errorString") (by rw[vY];kernel_rfl) (by kernel_rfl) (by decide) u (by rw[vY];exact h)
theorem yo {W:World} {t1 t2:List UInt8} {ra rb:List (String×DataW Unit)} (h1:laidMet Tryz.prog (("strconv.ErrSyntax",.iface "*errors.errorString" (.ptr (.agg [.lit (.string t1)])))::ra) W)
    (h2:laidMet Tryz.prog (("strconv.ErrRange",.iface "*errors.errorString" (.ptr (.agg [.lit (.string t2)])))::rb) W):nM W:=by
  have c1:Tryz.prog.cellsOf 194=1:=by kernel_rfl
  have c2:Tryz.prog.cellsOf 9=1:=by kernel_rfl
  obtain⟨a,s,hv,_⟩:=laid_sentinel (ti:=71) h1 mN.m15 (by kernel_rfl) Tryz.underlying71 vH Tryz.underlying192 Tryz.underlying194 rfl rfl Tryz.underlying9 c1 c2;obtain⟨b,u,hw,_⟩:=laid_sentinel (ti:=71) h2 mN.m16 (by kernel_rfl) Tryz.underlying71 vH Tryz.underlying192 Tryz.underlying194 rfl rfl Tryz.underlying9 c1 c2;exact⟨⟨_,_,hv⟩,_,_,hw⟩
end P
namespace P
set_option maxHeartbeats 8000000
set_option maxRecDepth 100000
set_option synthInstance.maxHeartbeats 400000
set_option synthInstance.maxSize 100000
open Go.RowKit WW.bq WW.cg WW.cd V
attribute [local go_sem] dN dO
attribute [local go_sem] cN cR cQ cU cP cT cO cS
def fW.f (k:Nat) (l0:List (S64)):Option (Bool):=some (Q.dK l0)
attribute [local go_sem] iY
theorem fW.c (k:Nat) (A0:Option Addr) (c0:Nat) (l0:List (S64)) (r:Bool) (w:World) (Z:Kd.C aW w A0 l0.length l0) (hc0:l0.length≤c0) (h:fW.f k l0=some r):
  Calls Tryz.prog 56 #[.slice A0 l0.length c0] w fun e w'=>e= .returned (.bool r)∧Below w.heap.size w w':=by
 have win:∀(a b c:Int) (d:Bool),decide (b≤a∧a≤c)=d→ae (∀W:World,Calls Tryz.prog 58 #[.int .i64 a,.int .i64 b,.int .i64 c] W fun e w'=>e= .returned (.bool d)∧bD W w'):=fun a b c d hd=>
  ⟨fun W=>cv.c a b c d W (by rw[←hd];unfold cv.f;by_cases hh:b≤a<;>simp[hh])⟩
 have hm:l0.length≤9223372036854775807:=Kd.mV Z;have u:ae ((Q.fB (Q.e6 l0 0) (l0.drop 0)&&decide (l0.length≤30))=r):=⟨aH h⟩;have F:=A_ Z;have K:=A_ win;clear Z h win;have hu:=Tryz.underlying64;go_enter Tryz.func56,Tryz.ntmps56;go_wp2
 go_loopg [7] (l0.length+1) (fun ao v7 w'=>∃(i:Nat),v7= .int .i64 (i:Int)∧ae (i+ao=l0.length+1)∧ae (i≤l0.length)∧ae ((Q.fB (Q.e6 l0 i) (l0.drop i)&&decide (l0.length≤30))=r)∧ae (Below w.heap.size w w'))
 case atStart=>exact⟨0,rfl,⟨by omega⟩,⟨by omega⟩,u,⟨by repeat(first|exact Below.refl _ _|apply cj|apply dM|apply cr)⟩⟩
 case round=>
  clear u;obtain⟨i,rfl,ai,aj,u,G⟩:=hrel;have ar:From w wr:=⟨G.out⟩;have aw:Sz w wr:=⟨G.out.size⟩;by_cases hlt:i<l0.length;rotate_left
  ·have hb3:decide ((i:Int)<(l0.length:Int))=false:=ay (by omega);have hb4:decide (i<l0.length)=false:=ay (by omega);obtain rfl:i=l0.length:=(by have:=aj.out;omega);have ak:ae (decide (l0.length≤30)=r):=⟨by rw[←u.out,List.drop_eq_nil_of_le (Nat.le_refl _)];simp[Q.fB]⟩;have hx1:decide ((l0.length:Int)≤30)=r:=(by rw[←ak.out];exact decide_eq_decide.mpr (by omega));clear u F K;go_wp2;go_ret;exact⟨by first|rfl|(simp[hx1];done),G.out⟩
  ·have hb3:decide ((i:Int)<(l0.length:Int))=true:=ah (by omega);have hb4:decide (i<l0.length)=true:=ah hlt;obtain⟨ad,e,hx0,hx1,hx2,hx3⟩:=eW F.out (i:Int) (by omega) (by omega);cases e;obtain⟨x,hx⟩:∃x,au l0 (i:Int)=x:=⟨_,rfl⟩;rw[hx]at hx0 hx1 hx2 hx3;simp only[Int.toNat_natCast]at hx0 hx1 hx2 hx3;have j0:dC wr _ _:=⟨hW G hx0⟩;have j1:dC wr _ _:=⟨hW G hx1⟩;have j2:dC wr _ _:=⟨hW G hx2⟩;have J:dC wr _ _:=⟨hW G hx3⟩;have e0:l0[i]=x:=(by rw[←hx];simp[au,List.getD_eq_getElem?_getD,hlt]);have HD:=A_ (Q.uz l0 i hlt);rw[e0]at HD;obtain⟨b1,hb1⟩:∃b,decide (0≤x.f0.f0∧x.f0.f0≤3)=b:=⟨_,rfl⟩;obtain⟨b2,hb2⟩:∃b,decide (0≤x.f0.f1∧x.f0.f1≤39)=b:=⟨_,rfl⟩;obtain⟨b3,Y⟩:∃b,decide (0≤x.f1∧x.f1≤2)=b:=⟨_,rfl⟩;obtain⟨b4,U⟩:∃b,decide (0≤x.f2∧x.f2≤100000)=b:=⟨_,rfl⟩;have W1:=K.out _ _ _ _ hb1;have W2:=K.out _ _ _ _ hb2;have W3:=K.out _ _ _ _ Y;have D:=K.out _ _ _ _ U;have z:ae (Q.l_ x=(b1&&(b2&&(b3&&b4)))):=⟨by rw[←hb1,←hb2,←Y,←U];rfl⟩;have I:ae (0<i→Q.e6 l0 i=(au l0 ((i-1:Nat):Int)).f2):=⟨fun h0=>by rw[Q.vn l0 i h0 hlt];simp[au,List.getD_eq_getElem?_getD,show i-1<l0.length by omega]⟩;have H:ae (b4=true→i=0→Q.e6 l0 i≤x.f2):=⟨fun h4 h0=>by subst h0;rw[h4,decide_eq_true_eq]at U;exact U.1⟩;clear hx hx0 hx1 hx2 hx3 e0 K hb1 hb2 Y U;cases b1 with
   |false=>
    obtain rfl:false=r:=(by rw[←u.out,HD.out,z.out];rfl);clear F u HD z I H
    go_wp2_with (first|((with_reducible refine ax (N:=4) rfl ?_);refine bV #[.int .i64 0,.int .i64 0,.int .i64 0,.int .i64 0] 64 fun g w1 j1 j2 J=> ?_)|(go_at_call 58;(first|(with_reducible refine(W1.out _).mono ?_)|(with_reducible refine(W2.out _).mono ?_)|(with_reducible refine(W3.out _).mono ?_)|(with_reducible refine(D.out _).mono ?_));rintro e w' ⟨rfl,⟨nd,rfl⟩⟩))
    repeat(go_quiet (first|(go_at_call 58;(first|(with_reducible refine(W1.out _).mono ?_)|(with_reducible refine(W2.out _).mono ?_)|(with_reducible refine(W3.out _).mono ?_)|(with_reducible refine(D.out _).mono ?_));rintro e w' ⟨rfl,⟨nd,rfl⟩⟩;exact⟨rfl,_,World.drewN_drewN _ _ _⟩));try go_wp2)
    go_ret;exact⟨rfl,From.out⟩
   |true=>
    cases b2 with
    |false=>
     obtain rfl:false=r:=(by rw[←u.out,HD.out,z.out];rfl);clear F u HD z I H
     go_wp2_with (first|((with_reducible refine ax (N:=4) rfl ?_);refine bV #[.int .i64 0,.int .i64 0,.int .i64 0,.int .i64 0] 64 fun g w1 j1 j2 J=> ?_)|(go_at_call 58;(first|(with_reducible refine(W1.out _).mono ?_)|(with_reducible refine(W2.out _).mono ?_)|(with_reducible refine(W3.out _).mono ?_)|(with_reducible refine(D.out _).mono ?_));rintro e w' ⟨rfl,⟨nd,rfl⟩⟩))
     repeat(go_quiet (first|(go_at_call 58;(first|(with_reducible refine(W1.out _).mono ?_)|(with_reducible refine(W2.out _).mono ?_)|(with_reducible refine(W3.out _).mono ?_)|(with_reducible refine(D.out _).mono ?_));rintro e w' ⟨rfl,⟨nd,rfl⟩⟩;exact⟨rfl,_,World.drewN_drewN _ _ _⟩));try go_wp2)
     go_ret;exact⟨rfl,From.out⟩
    |true=>
     cases b3 with
     |false=>
      obtain rfl:false=r:=(by rw[←u.out,HD.out,z.out];rfl);clear F u HD z I H
      go_wp2_with (first|((with_reducible refine ax (N:=4) rfl ?_);refine bV #[.int .i64 0,.int .i64 0,.int .i64 0,.int .i64 0] 64 fun g w1 j1 j2 J=> ?_)|(go_at_call 58;(first|(with_reducible refine(W1.out _).mono ?_)|(with_reducible refine(W2.out _).mono ?_)|(with_reducible refine(W3.out _).mono ?_)|(with_reducible refine(D.out _).mono ?_));rintro e w' ⟨rfl,⟨nd,rfl⟩⟩))
      repeat(go_quiet (first|(go_at_call 58;(first|(with_reducible refine(W1.out _).mono ?_)|(with_reducible refine(W2.out _).mono ?_)|(with_reducible refine(W3.out _).mono ?_)|(with_reducible refine(D.out _).mono ?_));rintro e w' ⟨rfl,⟨nd,rfl⟩⟩;exact⟨rfl,_,World.drewN_drewN _ _ _⟩));try go_wp2)
      go_ret;exact⟨rfl,From.out⟩
     |true=>
      cases b4 with
      |false=>
       obtain rfl:false=r:=(by rw[←u.out,HD.out,z.out];rfl);clear F u HD z I H
       go_wp2_with (first|((with_reducible refine ax (N:=4) rfl ?_);refine bV #[.int .i64 0,.int .i64 0,.int .i64 0,.int .i64 0] 64 fun g w1 j1 j2 J=> ?_)|(go_at_call 58;(first|(with_reducible refine(W1.out _).mono ?_)|(with_reducible refine(W2.out _).mono ?_)|(with_reducible refine(W3.out _).mono ?_)|(with_reducible refine(D.out _).mono ?_));rintro e w' ⟨rfl,⟨nd,rfl⟩⟩))
       repeat(go_quiet (first|(go_at_call 58;(first|(with_reducible refine(W1.out _).mono ?_)|(with_reducible refine(W2.out _).mono ?_)|(with_reducible refine(W3.out _).mono ?_)|(with_reducible refine(D.out _).mono ?_));rintro e w' ⟨rfl,⟨nd,rfl⟩⟩;exact⟨rfl,_,World.drewN_drewN _ _ _⟩));try go_wp2)
       go_ret;exact⟨rfl,From.out⟩
      |true=>
       have hs:(i:Int)+1≤9223372036854775807:=(by omega);by_cases hz:i=0
       ·have hz1:decide ((i:Int)>0)=false:=ay (by omega);have hz2:decide ((0:Int)<(i:Int))=false:=ay (by omega);have hz3:decide (0<i)=false:=ay (by omega);have X:ae ((Q.fB (Q.e6 l0 (i+1)) (l0.drop (i+1))&&decide (l0.length≤30))=r):=⟨by rw[←u.out,HD.out,z.out,show decide (Q.e6 l0 i≤x.f2)=true from ah (H.out rfl hz)];rfl⟩;clear u HD z I H hz
        go_wp2_with (first|((with_reducible refine ax (N:=4) rfl ?_);refine bV #[.int .i64 0,.int .i64 0,.int .i64 0,.int .i64 0] 64 fun g w1 j1 j2 J=> ?_)|(go_at_call 58;(first|(with_reducible refine(W1.out _).mono ?_)|(with_reducible refine(W2.out _).mono ?_)|(with_reducible refine(W3.out _).mono ?_)|(with_reducible refine(D.out _).mono ?_));rintro e w' ⟨rfl,⟨nd,rfl⟩⟩))
        repeat(go_quiet (first|(go_at_call 58;(first|(with_reducible refine(W1.out _).mono ?_)|(with_reducible refine(W2.out _).mono ?_)|(with_reducible refine(W3.out _).mono ?_)|(with_reducible refine(D.out _).mono ?_));rintro e w' ⟨rfl,⟨nd,rfl⟩⟩;exact⟨rfl,_,World.drewN_drewN _ _ _⟩));try go_wp2)
        go_roundg (l0.length-i)
        case measure=>have:=ai.out;omega
        case rel=>exact⟨i+1,by go_num,⟨by omega⟩,⟨by omega⟩,X,⟨From.out⟩⟩
       ·obtain⟨j,hj⟩:∃j,j=i-1:=⟨_,rfl⟩;have hz1:decide ((i:Int)>0)=true:=ah (by omega);have hz2:decide ((0:Int)<(i:Int))=true:=ah (by omega);have hz3:decide (0<i)=true:=ah (by omega);have hw1:wrap64 ((i:Int)-1)=(j:Int):=(by unfold wrap64;omega);have hw2:IntKind.i64.wrap ((i:Int)-1)=(j:Int):=(by rw[bG];exact hw1);have hj1:(j:Int)<(l0.length:Int):=(by omega);have hj2:j<l0.length:=(by omega);have hl1:decide ((j:Int)<(l0.length:Int))=true:=ah (by omega);have hl2:decide (j<l0.length)=true:=ah (by omega);obtain⟨ap,e2,_,_,_,V⟩:=eW F.out (j:Int) (by omega) (by omega);cases e2;obtain⟨y,hy⟩:∃y,au l0 (j:Int)=y:=⟨_,rfl⟩;have O:=A_ (I.out (by omega));rw[←hj,hy]at O;rw[hy]at V;simp only[Int.toNat_natCast]at V;have aq:dC wr _ _:=⟨hW G V⟩;clear hy V I hj;by_cases h5:y.f2≤x.f2
        ·have al:decide (y.f2>x.f2)=false:=ay (by omega);have am:decide (x.f2<y.f2)=false:=ay (by omega);have X:ae ((Q.fB (Q.e6 l0 (i+1)) (l0.drop (i+1))&&decide (l0.length≤30))=r):=⟨by rw[←u.out,HD.out,z.out,show decide (Q.e6 l0 i≤x.f2)=true from ah (by rw[O.out];exact h5)];rfl⟩;clear u HD z O H F
         go_wp2_with (first|((with_reducible refine ax (N:=4) rfl ?_);refine bV #[.int .i64 0,.int .i64 0,.int .i64 0,.int .i64 0] 64 fun g w1 j1 j2 J=> ?_)|(go_at_call 58;(first|(with_reducible refine(W1.out _).mono ?_)|(with_reducible refine(W2.out _).mono ?_)|(with_reducible refine(W3.out _).mono ?_)|(with_reducible refine(D.out _).mono ?_));rintro e w' ⟨rfl,⟨nd,rfl⟩⟩))
         repeat(go_quiet (first|(go_at_call 58;(first|(with_reducible refine(W1.out _).mono ?_)|(with_reducible refine(W2.out _).mono ?_)|(with_reducible refine(W3.out _).mono ?_)|(with_reducible refine(D.out _).mono ?_));rintro e w' ⟨rfl,⟨nd,rfl⟩⟩;exact⟨rfl,_,World.drewN_drewN _ _ _⟩));try go_wp2)
         go_roundg (l0.length-i)
         case measure=>have:=ai.out;omega
         case rel=>exact⟨i+1,by go_num,⟨by omega⟩,⟨by omega⟩,X,⟨From.out⟩⟩
        ·have al:decide (y.f2>x.f2)=true:=ah (by omega);have am:decide (x.f2<y.f2)=true:=ah (by omega);obtain rfl:false=r:=(by rw[←u.out,HD.out,z.out,show decide (Q.e6 l0 i≤x.f2)=false from ay (by rw[O.out];exact h5)];rfl);clear u HD z O H F
         go_wp2_with (first|((with_reducible refine ax (N:=4) rfl ?_);refine bV #[.int .i64 0,.int .i64 0,.int .i64 0,.int .i64 0] 64 fun g w1 j1 j2 J=> ?_)|(go_at_call 58;(first|(with_reducible refine(W1.out _).mono ?_)|(with_reducible refine(W2.out _).mono ?_)|(with_reducible refine(W3.out _).mono ?_)|(with_reducible refine(D.out _).mono ?_));rintro e w' ⟨rfl,⟨nd,rfl⟩⟩))
         repeat(go_quiet (first|(go_at_call 58;(first|(with_reducible refine(W1.out _).mono ?_)|(with_reducible refine(W2.out _).mono ?_)|(with_reducible refine(W3.out _).mono ?_)|(with_reducible refine(D.out _).mono ?_));rintro e w' ⟨rfl,⟨nd,rfl⟩⟩;exact⟨rfl,_,World.drewN_drewN _ _ _⟩));try go_wp2)
         go_ret;exact⟨rfl,From.out⟩
end P
namespace P
set_option maxHeartbeats 8000000
set_option maxRecDepth 100000
set_option synthInstance.maxHeartbeats 400000
set_option synthInstance.maxSize 100000
open Go.RowKit WW.bq WW.cg WW.cd V
attribute [local go_sem] dN dO iY kV kX lK lQ
attribute [local go_sem] cN cR cQ cU cP cT cO cS
def gp.f (k:Nat) (l0:List (S64)) (F:Int) (G:Int) (H:Int) (I:Int):Option ((List (S64))×Bool):=(iA.f l0).bind fun u=>((some (([(⟨(⟨F,G⟩:bP),H,I⟩:S64)]:List (S64)):List (S64))).bind fun z=>(if u.length+z.length<4398046511104 then((some (u++z:List (S64))).bind fun D=>((fW.f k l0).bind fun J=>(if J=true then((fW.f k D).bind fun K=>(if K=true then(some (D,true))else((iA.f l0).bind fun O=>(some (O,false)))))else((iA.f l0).bind fun U=>(some (U,false))))))else(none)))
noncomputable def gp.T1:Bool×List (List Nat×List Nat):=bo .any (opsOf Tryz.f102 1)
def gp.B1:List Nat:=[0,1,0,4,15,31]
theorem gp.oT:bo .any (opsOf Tryz.f102 1)=gp.T1:=rfl
theorem gp.nW:cp gp.T1.2 gp.B1=true:=by kernel_rfl
theorem gp.c (k:Nat) (A0:Option Addr) (c0:Nat) (l0:List (S64)) (u:Int) (z:Int) (D:Int) (F:Int) (r1:List (S64)) (r2:Bool) (w:World) (U:Kd.C aW w A0 l0.length l0) (hc0:l0.length≤c0) (h:gp.f k l0 u z D F=some (r1,r2)):
  Calls Tryz.prog 102 #[.slice A0 l0.length c0,.agg #[.int .i64 u,.int .i64 z,.int .i64 D,.int .i64 F]] w fun e w'=>∃X:Value,e= .returned (.tuple #[X,.bool r2])∧Kd.R aW 64 w' w.heap.size (fun _=>True) X r1∧Below w.heap.size w w':=by
 replace U:=bn.mk U;replace hc0:=aq.mk hc0;unfold gp.f at h;have hu64:=Tryz.underlying64
 all_goals go_enter Tryz.func102,Tryz.ntmps102
 all_goals go_wp2_with ((first
  |((with_reducible refine ax (N:=3) rfl ?_);refine bV #[.int .i64 u,.int .i64 z,.int .i64 D,.int .i64 F] 64 fun g w1 j1 j2 ao=> ?_)
  |(go_at_call 54;(try rw[I.out]);replace h:=bI h;obtain⟨t,A,h⟩:=h;(try dsimp only at h);refine(iA.c _ _ _ _ _ Rd.out aq.out A).mono ?_;rintro e w2 ⟨v0,rfl,H,hb⟩;obtain⟨O,b0,rfl,j0,q0⟩:=aQ H;have J:=az.mk hb;clear A H hb)
  |(go_at_call 56;(try rw[I.out]);replace h:=bI h;obtain⟨t,A,h⟩:=h;(try dsimp only at h);refine(fW.c _ _ _ _ _ _ Rd.out aq.out A).mono ?_;rintro e w2 ⟨rfl,hb⟩;have J:=az.mk hb;clear A hb)
  |(refine qR (id:=1) (ds:=[]) (l:= #[false,false,false,false,false,false]) gp.oT gp.nW ?_;intro G Y w3 ar u0 am hHeld;refine qA 0 (some 7) G ?_;refine qT 2 (some 9) G Y hHeld ?_;replace h:=bI h;obtain⟨t,A,h⟩:=h;(try dsimp only at h);simp only[aG]at h;(repeat' first|((with_reducible replace h:=bU h);rcases h with ⟨hc,h⟩|⟨hc,h⟩<;>first|exact(bL h).elim|exact absurd hc (by decide)|subst hc|(replace hc:=bA hc;subst hc)|(replace hc:=dz hc;subst hc)|(replace hc:=dA hc;subst hc)|(have hd:(_==_)=true:=hc)|(have hd:(_==_)=false:=bA hc)|(have hd:=bQ hc;have he:=bR hc;clear hc)|(have hd:=bS hc;have he:=bT hc)|(have hd:=ay hc)|(have hd:=ah hc;(try(have hn:=Int.natCast_pos.mp hc;have hm:=ah hn;replace hn:=av hn));first|(obtain⟨ae,e_,i_⟩:=dy (by assumption) (by first|assumption|decide) hc;cases e_)|(obtain⟨Z,e_,c_⟩:=dv (by assumption) (by first|assumption|decide) hc;cases e_))|(have hd:=ah hc)|skip)|((with_reducible replace h:=dw h);obtain⟨I,h⟩:=h;replace I:=A_ I;(try dsimp only at h)));refine kI 1 3 (some 8) (some 10) G (fun K hK=> ?_) (fun K hK=> ?_);(focus (refine cy Tryz.func54 (by kernel_rfl) rfl _ (by rfl) rfl rfl (by(try simp only[List.map_toArray,List.map_cons,List.map_nil]);rfl) ?_;refine(iA.c _ _ _ _ _ Rd.out aq.out A).mono ?_;rintro e u1 ⟨v0,rfl,H,hb⟩;obtain⟨O,b0,rfl,j0,q0⟩:=aQ H;have J:=az.mk hb;(try clear H hb);refine⟨_,rfl,hK.out _ _ From.out fun hHeld=> ?_⟩;clear hK K;refine qN ?_;refine qI aW 3 64 10 ([(⟨(⟨u,z⟩:bP),D,F⟩:S64)]:List (S64)) [.int .i64 u,.int .i64 z,.int .i64 D,.int .i64 F] G hHeld (aI.c4 (show Kd.M aW _ _ _ (⟨(⟨u,z⟩:bP),D,F⟩:S64) [.int .i64 u,.int .i64 z,.int .i64 D,.int .i64 F]from(kB _ _ _ (⟨(⟨u,z⟩:bP),D,F⟩:S64))) (aI.none _ _)) ?_;intro B9 ad u9 ai aj hHeld));rotate_left;(focus (refine sj aW 64 10 ([(⟨(⟨u,z⟩:bP),D,F⟩:S64)]:List (S64)) [.int .i64 u,.int .i64 z,.int .i64 D,.int .i64 F] (aI.c4 (show Kd.M aW _ _ _ (⟨(⟨u,z⟩:bP),D,F⟩:S64) [.int .i64 u,.int .i64 z,.int .i64 D,.int .i64 F]from(kB _ _ _ (⟨(⟨u,z⟩:bP),D,F⟩:S64))) (aI.none _ _)) ?_;intro B9 ad u9 ai aj;refine hK.out _ _ From.out fun hHeld=> ?_;clear hK K;refine qN ?_;refine qC 1 8 Tryz.func54 G fun K hK=> ?_;refine(iA.c _ _ _ _ _ Rd.out aq.out A).mono ?_;rintro e u1 ⟨v0,rfl,H,hb⟩;obtain⟨O,b0,rfl,j0,q0⟩:=aQ H;have J:=az.mk hb;(try clear H hb);refine⟨_,rfl,hK _ _ From.out fun hHeld=> ?_⟩;clear hK K;refine qN ?_));all_goals(refine qP aW t ([(⟨(⟨u,z⟩:bP),D,F⟩:S64)]:List (S64)) 4 11 (.tmp 8) (.tmp 10) 28 (.agg #[(.int .i64 0),(.int .i64 0),(.int .i64 0),(.int .i64 0)]) 32 G hHeld Tryz.underlying28 ni rfl (by decide) (by omega) (fun _ _ h=>h) (by simp at hc ⊢;omega) ?_;intro B8 al u8 V ap hHeld;have ak:=aq.mk (iJ V);generalize t++([(⟨(⟨u,z⟩:bP),D,F⟩:S64)]:List (S64))=au at h V ak ⊢;refine qA 5 (some 6) G ?_;refine qD G ?_)));(repeat' first|((with_reducible replace h:=bU h);rcases h with ⟨hc,h⟩|⟨hc,h⟩<;>first|exact(bL h).elim|exact absurd hc (by decide)|subst hc|(replace hc:=bA hc;subst hc)|(replace hc:=dz hc;subst hc)|(replace hc:=dA hc;subst hc)|(have hd:(_==_)=true:=hc)|(have hd:(_==_)=false:=bA hc)|(have hd:=bQ hc;have he:=bR hc;clear hc)|(have hd:=bS hc;have he:=bT hc)|(have hd:=ay hc)|(have hd:=ah hc;(try(have hn:=Int.natCast_pos.mp hc;have hm:=ah hn;replace hn:=av hn));first|(obtain⟨ae,e_,i_⟩:=dy (by assumption) (by first|assumption|decide) hc;cases e_)|(obtain⟨Z,e_,c_⟩:=dv (by assumption) (by first|assumption|decide) hc;cases e_))|(have hd:=ah hc)|skip)|((with_reducible replace h:=dw h);obtain⟨I,h⟩:=h;replace I:=A_ I;(try dsimp only at h)));all_goals(try have hn:decide (0<t.length)=true:=ah (by omega));all_goals(try have hn:decide (0<t.length)=false:=ay (by omega)))
 all_goals simp only[Option.some.injEq,Prod.mk.injEq]at h
 all_goals obtain⟨rfl,rfl⟩:=h
 all_goals go_ret2
 all_goals exact⟨_,rfl,(by first|exact bl|exact Kd.bj _ _ _ _ _|exact bZ|exact dJ (by simp)),From.out⟩
end P
namespace P
set_option maxRecDepth 100000
set_option synthInstance.maxHeartbeats 400000
set_option synthInstance.maxSize 100000
open Go.RowKit WW.bq WW.cg WW.cd V
attribute [local go_sem] dN dO
attribute [local go_sem] cN cR cQ cU cP cT cO cS
def eD.f (k:Nat) (F:List (aj)) (u:Int) (G:List Int) (z:Int) (D:Int) (H:List (S64)):Option (Bool):=some (Q.dX F u G z D H)
attribute [local go_sem] iY
set_option maxHeartbeats 2000000 in
theorem eD.c (k:Nat) (K:Option Addr) (U:Nat) (D:List (aj)) (J:Int) (O:Option Addr) (V:Nat) (F:List Int) (G:Int) (z:Int) (Y:Option Addr) (X:Nat) (u:List (S64)) (r:Bool) (w:World) (aC:Kd.C aX w K D.length D) (aw:D.length≤U) (aE:Kd.C (Kd.int .i64) w O F.length F) (aA:F.length≤V) (ao:Kd.C aW w Y u.length u) (aB:u.length≤X) (h:eD.f k D J F G z u=some r):
  Calls Tryz.prog 28 #[.agg #[.slice K D.length U,.int .i64 J,.slice O F.length V,.int .i64 G,.int .i64 z,.slice Y u.length X]] w fun e w'=>e= .returned (.bool r)∧Below w.heap.size w w':=by
 obtain⟨b1,hb1⟩:∃b,dS D J F=b:=⟨_,rfl⟩;obtain⟨b2,hb2⟩:∃b,Q.dK u=b:=⟨_,rfl⟩;obtain⟨b3,hb3⟩:∃b,decide (-10≤G∧G≤40)=b:=⟨_,rfl⟩;obtain⟨b4,hb4⟩:∃b,decide (0≤z∧z≤100000)=b:=⟨_,rfl⟩;obtain⟨al,ar⟩:∃b,decide (Q.jZ u z)=b:=⟨_,rfl⟩;have H:ae ((b1&&(b2&&(b3&&(b4&&al))))=r):=⟨by rw[←hb1,←hb2,←hb3,←hb4,←ar];exact aH h⟩;have A1:ae (gb.f D J F=some b1):=⟨by rw[←hb1];rfl⟩;have A2:ae (fW.f k u=some b2):=⟨by rw[←hb2];rfl⟩;have ak:ae (cv.f z 0 100000=some b4):=⟨by rw[←hb4];unfold cv.f;by_cases hh:0≤z<;>simp[hh]⟩;have ai:ae (fX.f G=some b3):=⟨by rw[←hb3];unfold fX.f cv.f;by_cases hh: -10≤G<;>simp[hh]⟩;have H5:=A_ ar;have ad:=A_ ao;have Z:=A_ (Kd.mV ao);have i0:=bn.mk aC;have i1:=aq.mk aw;have i2:=bn.mk aE;have i3:=aq.mk aA;have i4:=bn.mk ao;have i5:=aq.mk aB;have hu:=Tryz.underlying30;clear aC aw aE aA ao aB h hb1 hb2 hb3 hb4 ar;cases b1 with
 |false=>
  obtain rfl:false=r:=H.out;clear H H5 ad Z;go_enter Tryz.func28,Tryz.ntmps28
  go_wp2_with (first|((with_reducible refine ax (N:=1) rfl ?_);(try(refine dE (by rfl) ?_;dsimp only));refine bV #[.slice K D.length U,.int .i64 J,.slice O F.length V,.int .i64 G,.int .i64 z,.slice Y u.length X] 30 fun g w1 j1 j2 am=> ?_)|(go_at_call 55;refine(gb.c _ _ _ _ _ _ _ _ _ Rd.out aq.out Rd.out aq.out A1.out).mono ?_;rintro e w2 ⟨rfl,hb⟩;have I:=az.mk hb;clear hb)|(go_at_call 56;refine(fW.c k _ _ _ _ _ Rd.out aq.out A2.out).mono ?_;rintro e w2 ⟨rfl,hb⟩;have I:=az.mk hb;clear hb)|(go_at_call 57;refine(fX.c _ _ _ ai.out).mono ?_;rintro e w2 ⟨rfl,n,rfl⟩)|(go_at_call 58;refine(cv.c _ _ _ _ _ ak.out).mono ?_;rintro e w2 ⟨rfl,n,rfl⟩))
  repeat(go_quiet (fail);try go_wp2)
  go_ret;exact⟨rfl,From.out⟩
 |true=>
  cases b2 with
  |false=>
   obtain rfl:false=r:=H.out;clear H H5 ad Z;go_enter Tryz.func28,Tryz.ntmps28
   go_wp2_with (first|((with_reducible refine ax (N:=1) rfl ?_);(try(refine dE (by rfl) ?_;dsimp only));refine bV #[.slice K D.length U,.int .i64 J,.slice O F.length V,.int .i64 G,.int .i64 z,.slice Y u.length X] 30 fun g w1 j1 j2 am=> ?_)|(go_at_call 55;refine(gb.c _ _ _ _ _ _ _ _ _ Rd.out aq.out Rd.out aq.out A1.out).mono ?_;rintro e w2 ⟨rfl,hb⟩;have I:=az.mk hb;clear hb)|(go_at_call 56;refine(fW.c k _ _ _ _ _ Rd.out aq.out A2.out).mono ?_;rintro e w2 ⟨rfl,hb⟩;have I:=az.mk hb;clear hb)|(go_at_call 57;refine(fX.c _ _ _ ai.out).mono ?_;rintro e w2 ⟨rfl,n,rfl⟩)|(go_at_call 58;refine(cv.c _ _ _ _ _ ak.out).mono ?_;rintro e w2 ⟨rfl,n,rfl⟩))
   repeat(go_quiet (fail);try go_wp2)
   go_ret;exact⟨rfl,From.out⟩
  |true=>
   cases b3 with
   |false=>
    obtain rfl:false=r:=H.out;clear H H5 ad Z;go_enter Tryz.func28,Tryz.ntmps28
    go_wp2_with (first|((with_reducible refine ax (N:=1) rfl ?_);(try(refine dE (by rfl) ?_;dsimp only));refine bV #[.slice K D.length U,.int .i64 J,.slice O F.length V,.int .i64 G,.int .i64 z,.slice Y u.length X] 30 fun g w1 j1 j2 am=> ?_)|(go_at_call 55;refine(gb.c _ _ _ _ _ _ _ _ _ Rd.out aq.out Rd.out aq.out A1.out).mono ?_;rintro e w2 ⟨rfl,hb⟩;have I:=az.mk hb;clear hb)|(go_at_call 56;refine(fW.c k _ _ _ _ _ Rd.out aq.out A2.out).mono ?_;rintro e w2 ⟨rfl,hb⟩;have I:=az.mk hb;clear hb)|(go_at_call 57;refine(fX.c _ _ _ ai.out).mono ?_;rintro e w2 ⟨rfl,n,rfl⟩)|(go_at_call 58;refine(cv.c _ _ _ _ _ ak.out).mono ?_;rintro e w2 ⟨rfl,n,rfl⟩))
    repeat(go_quiet (fail);try go_wp2)
    go_ret;exact⟨rfl,From.out⟩
   |true=>
    cases b4 with
    |false=>
     obtain rfl:false=r:=H.out;clear H H5 ad Z;go_enter Tryz.func28,Tryz.ntmps28
     go_wp2_with (first|((with_reducible refine ax (N:=1) rfl ?_);(try(refine dE (by rfl) ?_;dsimp only));refine bV #[.slice K D.length U,.int .i64 J,.slice O F.length V,.int .i64 G,.int .i64 z,.slice Y u.length X] 30 fun g w1 j1 j2 am=> ?_)|(go_at_call 55;refine(gb.c _ _ _ _ _ _ _ _ _ Rd.out aq.out Rd.out aq.out A1.out).mono ?_;rintro e w2 ⟨rfl,hb⟩;have I:=az.mk hb;clear hb)|(go_at_call 56;refine(fW.c k _ _ _ _ _ Rd.out aq.out A2.out).mono ?_;rintro e w2 ⟨rfl,hb⟩;have I:=az.mk hb;clear hb)|(go_at_call 57;refine(fX.c _ _ _ ai.out).mono ?_;rintro e w2 ⟨rfl,n,rfl⟩)|(go_at_call 58;refine(cv.c _ _ _ _ _ ak.out).mono ?_;rintro e w2 ⟨rfl,n,rfl⟩))
     repeat(go_quiet (fail);try go_wp2)
     go_ret;exact⟨rfl,From.out⟩
    |true=>
     obtain rfl:al=r:=H.out;by_cases hz:u.length=0
     ·have aI:((u.length:Int)==0)=true:=beq_iff_eq.mpr (by omega);have z2:((u.length:Int) != 0)=false:=bne_eq_false_iff_eq.mpr (by omega);have z3:decide ((u.length:Int)=0)=true:=ah (by omega);obtain rfl:true=al:=(by rw[←H5.out];exact(ah (.inl hz)).symm);clear H H5 ad Z hz;go_enter Tryz.func28,Tryz.ntmps28
      go_wp2_with (first|((with_reducible refine ax (N:=1) rfl ?_);(try(refine dE (by rfl) ?_;dsimp only));refine bV #[.slice K D.length U,.int .i64 J,.slice O F.length V,.int .i64 G,.int .i64 z,.slice Y u.length X] 30 fun g w1 j1 j2 am=> ?_)|(go_at_call 55;refine(gb.c _ _ _ _ _ _ _ _ _ Rd.out aq.out Rd.out aq.out A1.out).mono ?_;rintro e w2 ⟨rfl,hb⟩;have I:=az.mk hb;clear hb)|(go_at_call 56;refine(fW.c k _ _ _ _ _ Rd.out aq.out A2.out).mono ?_;rintro e w2 ⟨rfl,hb⟩;have I:=az.mk hb;clear hb)|(go_at_call 57;refine(fX.c _ _ _ ai.out).mono ?_;rintro e w2 ⟨rfl,n,rfl⟩)|(go_at_call 58;refine(cv.c _ _ _ _ _ ak.out).mono ?_;rintro e w2 ⟨rfl,n,rfl⟩))
      repeat(go_quiet (fail);try go_wp2)
      go_ret;exact⟨rfl,From.out⟩
     ·obtain⟨j,hj⟩:∃j,j+1=u.length:=⟨u.length-1,by omega⟩;have aI:((u.length:Int)==0)=false:=beq_eq_false_iff_ne.mpr (by omega);have z2:((u.length:Int) != 0)=true:=bne_iff_ne.mpr (by omega);have z3:decide ((u.length:Int)=0)=false:=ay (by omega);have hM:=Z.out;have hw1:wrap64 ((u.length:Int)-1)=(j:Int):=(by unfold wrap64;omega);have hw2:IntKind.i64.wrap ((u.length:Int)-1)=(j:Int):=(by rw[bG];exact hw1);have hj1:(j:Int)<(u.length:Int):=(by omega);have hj2:j<u.length:=(by omega);obtain⟨aF,e2,_,_,_,ap⟩:=eW ad.out (j:Int) (by omega) (by omega);subst e2;obtain⟨y,hy⟩:∃y,au u (j:Int)=y:=⟨_,rfl⟩;rw[hy]at ap;simp only[Int.toNat_natCast]at ap;have aJ:dC w _ _:=⟨ap⟩
      have h6:decide (y.f2≤z)=al:=by
       rw[←H5.out,←hy];refine decide_eq_decide.mpr ?_;unfold Q.jZ;rw[show u.length-1=j by omega];simp[au,hz]
      have h7:decide (z≥y.f2)=al:=h6;clear H H5 ad Z hM hy ap hz hj;go_enter Tryz.func28,Tryz.ntmps28
      go_wp2_with (first|((with_reducible refine ax (N:=1) rfl ?_);(try(refine dE (by rfl) ?_;dsimp only));refine bV #[.slice K D.length U,.int .i64 J,.slice O F.length V,.int .i64 G,.int .i64 z,.slice (some aF) u.length X] 30 fun g w1 j1 j2 am=> ?_)|(go_at_call 55;refine(gb.c _ _ _ _ _ _ _ _ _ Rd.out aq.out Rd.out aq.out A1.out).mono ?_;rintro e w2 ⟨rfl,hb⟩;have I:=az.mk hb;clear hb)|(go_at_call 56;refine(fW.c k _ _ _ _ _ Rd.out aq.out A2.out).mono ?_;rintro e w2 ⟨rfl,hb⟩;have I:=az.mk hb;clear hb)|(go_at_call 57;refine(fX.c _ _ _ ai.out).mono ?_;rintro e w2 ⟨rfl,n,rfl⟩)|(go_at_call 58;refine(cv.c _ _ _ _ _ ak.out).mono ?_;rintro e w2 ⟨rfl,n,rfl⟩))
      repeat(go_quiet (fail);try go_wp2)
      go_ret;exact⟨by first|rfl|(simp[h6];done),From.out⟩
end P
namespace P
set_option maxHeartbeats 8000000
set_option maxRecDepth 100000
set_option synthInstance.maxHeartbeats 400000
set_option synthInstance.maxSize 100000
open Go.RowKit WW.bq WW.cg WW.cd V
attribute [local go_sem] dN dO
attribute [local go_sem] cN cR cQ cU cP cT cO cS
def mo.f (k:Nat) (D:List (aj)) (z:Int) (F:List Int) (I:Int) (J:Int) (K:List (S64)):Option ((List (aj))×Int×List Int×Int×Int×(List (S64))×Bool):=(e5.f D z F I J K).bind fun u=>((eD.f k D z F I J K).bind fun O=>(if O=true then((fe.f k D z F).bind fun G=>((dB.f k D z F).bind fun U=>(if(U.length:Int)>0 then((eZ.f k D z F).bind fun H=>(if H.2.2.2=true then(some (H.1,H.2.1,H.2.2.1,u.2.2.2.1,u.2.2.2.2.1,u.2.2.2.2.2,true))else(some (u.1,u.2.1,u.2.2.1,u.2.2.2.1,u.2.2.2.2.1,u.2.2.2.2.2,false))))else(if G.2.2.2=true then(some (G.1,G.2.1,G.2.2.1,u.2.2.2.1,u.2.2.2.2.1,u.2.2.2.2.2,true))else(some (u.1,u.2.1,u.2.2.1,u.2.2.2.1,u.2.2.2.2.1,u.2.2.2.2.2,false))))))else(some (u.1,u.2.1,u.2.2.1,u.2.2.2.1,u.2.2.2.2.1,u.2.2.2.2.2,false))))
theorem mo.c (k:Nat) (I:Option Addr) (Y:Nat) (D:List (aj)) (U:Int) (J:Option Addr) (Z:Nat) (F:List Int) (V:Int) (X:Int) (K:Option Addr) (ad:Nat) (G:List (S64)) (r1:List (aj)) (r2:Int) (r3:List Int) (au:Int) (aw:Int) (aA:List (S64)) (aB:Bool) (w:World) (ao:Kd.C aX w I D.length D) (ai:D.length≤Y) (ap:Kd.C (Kd.int .i64) w J F.length F) (ak:F.length≤Z) (ar:Kd.C aW w K G.length G) (al:G.length≤ad) (h:mo.f k D U F V X G=some (r1,r2,r3,au,aw,aA,aB)):
  Calls Tryz.prog 60 #[.agg #[.slice I D.length Y,.int .i64 U,.slice J F.length Z,.int .i64 V,.int .i64 X,.slice K G.length ad]] w fun e w'=>∃aC aE aF:Value,e= .returned (.tuple #[.agg #[aC,.int .i64 r2,aE,.int .i64 au,.int .i64 aw,aF],.bool aB])∧Kd.R aX 110 w' w.heap.size (fun _=>True) aC r1∧Kd.R (Kd.int .i64) 3 w' w.heap.size (fun _=>True) aE r3∧Kd.R aW 64 w' w.heap.size (fun _=>True) aF aA∧Below w.heap.size w w':=by
 replace ao:=bn.mk ao;replace ai:=aq.mk ai;replace ap:=bn.mk ap;replace ak:=aq.mk ak;replace ar:=bn.mk ar;replace al:=aq.mk al;unfold mo.f at h;have aI:=Tryz.underlying27;have aJ:=Tryz.underlying30
 all_goals go_enter Tryz.func60,Tryz.ntmps60
 all_goals go_wp2_with ((first
  |((with_reducible refine ax (N:=1) rfl ?_);refine bV #[.slice I D.length Y,.int .i64 U,.slice J F.length Z,.int .i64 V,.int .i64 X,.slice K G.length ad] 30 fun g w1 j1 j2 ae=> ?_)
  |((with_reducible refine ax (N:=2) rfl ?_);refine bV #[.slice none 0 0,.int .i64 0,.slice none 0 0,.int .i64 0,.int .i64 0,.slice none 0 0] 30 fun g w1 j1 j2 ae=> ?_)
  |((with_reducible refine ax (N:=4) rfl ?_);refine bV #[.slice none 0 0,.int .i64 0,.slice none 0 0,.int .i64 0,.int .i64 0,.slice none 0 0] 30 fun g w1 j1 j2 ae=> ?_)
  |((with_reducible refine ax (N:=5) rfl ?_);refine bV #[.slice none 0 0,.int .i64 0,.slice none 0 0] 27 fun g w1 j1 j2 ae=> ?_)
  |(go_at_call 27;replace h:=bI h;obtain⟨⟨t1,t2,t3,t4,t5,t6⟩,A,h⟩:=h;(try dsimp only at h);refine(e5.c _ _ _ _ _ _ _ _ _ _ _ _ _ _ _ _ _ _ _ Rd.out aq.out Rd.out aq.out Rd.out aq.out A).mono ?_;rintro e w2 ⟨v0,v1,v2,rfl,u,z,am,hb⟩;obtain⟨O,b0,rfl,j0,q0⟩:=aQ u;obtain⟨B1,b1,rfl,j1,q1⟩:=aQ z;obtain⟨B2,b2,rfl,j2,q2⟩:=aQ am;have H:=az.mk hb;clear A u z am hb)
  |(go_at_call 28;replace h:=bI h;obtain⟨t,A,h⟩:=h;(try dsimp only at h);refine(eD.c _ _ _ _ _ _ _ _ _ _ _ _ _ _ _ Rd.out aq.out Rd.out aq.out Rd.out aq.out A).mono ?_;rintro e w2 ⟨rfl,hb⟩;have H:=az.mk hb;clear A hb)
  |(go_at_call 99;replace h:=bI h;obtain⟨⟨t1,t2,t3,t4⟩,A,h⟩:=h;(try dsimp only at h);refine(fe.c _ _ _ _ _ _ _ _ _ _ _ _ _ Rd.out aq.out Rd.out aq.out A).mono ?_;rintro e w2 ⟨v0,v1,rfl,u,z,hb⟩;obtain⟨O,b0,rfl,j0,q0⟩:=aQ u;obtain⟨B1,b1,rfl,j1,q1⟩:=aQ z;have H:=az.mk hb;clear A u z hb)
  |(go_at_call 100;replace h:=bI h;obtain⟨t,A,h⟩:=h;(try dsimp only at h);refine(dB.c _ _ _ _ _ _ _ _ _ _ Rd.out aq.out Rd.out aq.out A).mono ?_;rintro e w2 ⟨v0,rfl,u,hb⟩;obtain⟨O,b0,rfl,j0,q0⟩:=aQ u;have H:=az.mk hb;clear A u hb)
  |(go_at_call 101;replace h:=bI h;obtain⟨⟨t1,t2,t3,t4⟩,A,h⟩:=h;(try dsimp only at h);refine(eZ.c _ _ _ _ _ _ _ _ _ _ _ _ _ Rd.out aq.out Rd.out aq.out A).mono ?_;rintro e w2 ⟨v0,v1,rfl,u,z,hb⟩;obtain⟨O,b0,rfl,j0,q0⟩:=aQ u;obtain⟨B1,b1,rfl,j1,q1⟩:=aQ z;have H:=az.mk hb;clear A u z hb));(repeat' first|((with_reducible replace h:=bU h);rcases h with ⟨hc,h⟩|⟨hc,h⟩<;>first|exact(bL h).elim|exact absurd hc (by decide)|subst hc|(replace hc:=bA hc;subst hc)|(have hd:=bQ hc;have he:=bR hc;clear hc)|(have hd:=bS hc;have he:=bT hc)|(have hd:=ay hc)|(have hd:=ah hc)|skip));all_goals(try have hn:decide (0<t.length)=true:=ah (by omega));all_goals(try have hn:decide (0<t.length)=false:=ay (by omega)))
 all_goals simp only[Option.some.injEq,Prod.mk.injEq]at h
 all_goals obtain⟨rfl,rfl,rfl,rfl,rfl,rfl,rfl⟩:=h
 all_goals refine bodyPost_ret (di rfl _ _ _ _ _ (0,0) _ rfl aU.out Tryz.underlying30 rfl (by kernel_rfl)) rfl ?_
 all_goals exact⟨_,_,_,rfl,(by first|exact bl|exact Kd.bj _ _ _ _ _),(by first|exact bl|exact Kd.bj _ _ _ _ _),(by first|exact bl|exact Kd.bj _ _ _ _ _),From.out⟩
def mq.f (k:Nat) (I:List (aj)) (F:Int) (J:List Int) (G:Int) (H:Int) (K:List (S64)) (a1:Int):Option ((List (aj))×Int×List Int×Int×Int×(List (S64))×Bool):=(e5.f I F J G H K).bind fun u=>((eD.f k I F J G H K).bind fun O=>(if O=true then((eD.f k u.1 u.2.1 u.2.2.1 a1 (wrap64 (u.2.2.2.2.1+1)) u.2.2.2.2.2).bind fun U=>(if U=true then(some (u.1,u.2.1,u.2.2.1,a1,wrap64 (u.2.2.2.2.1+1),u.2.2.2.2.2,true))else((e5.f I F J G H K).bind fun z=>(some (z.1,z.2.1,z.2.2.1,z.2.2.2.1,z.2.2.2.2.1,z.2.2.2.2.2,false)))))else((e5.f I F J G H K).bind fun D=>(some (D.1,D.2.1,D.2.2.1,D.2.2.2.1,D.2.2.2.2.1,D.2.2.2.2.2,false)))))
theorem mq.c (k:Nat) (F:Option Addr) (O:Nat) (u:List (aj)) (I:Int) (G:Option Addr) (U:Nat) (z:List Int) (J:Int) (K:Int) (H:Option Addr) (V:Nat) (D:List (S64)) (a1:Int) (r1:List (aj)) (r2:Int) (r3:List Int) (ap:Int) (ar:Int) (au:List (S64)) (aw:Bool) (w:World) (ak:Kd.C aX w F u.length u) (X:u.length≤O) (al:Kd.C (Kd.int .i64) w G z.length z) (Y:z.length≤U) (am:Kd.C aW w H D.length D) (Z:D.length≤V) (h:mq.f k u I z J K D a1=some (r1,r2,r3,ap,ar,au,aw)):
  Calls Tryz.prog 62 #[.agg #[.slice F u.length O,.int .i64 I,.slice G z.length U,.int .i64 J,.int .i64 K,.slice H D.length V],.int .i64 a1] w fun e w'=>∃aA aB aC:Value,e= .returned (.tuple #[.agg #[aA,.int .i64 r2,aB,.int .i64 ap,.int .i64 ar,aC],.bool aw])∧Kd.R aX 110 w' w.heap.size (fun _=>True) aA r1∧Kd.R (Kd.int .i64) 3 w' w.heap.size (fun _=>True) aB r3∧Kd.R aW 64 w' w.heap.size (fun _=>True) aC au∧Below w.heap.size w w':=by
 replace ak:=bn.mk ak;replace X:=aq.mk X;replace al:=bn.mk al;replace Y:=aq.mk Y;replace am:=bn.mk am;replace Z:=aq.mk Z;unfold mq.f at h;have aI:=Tryz.underlying30
 all_goals go_enter Tryz.func62,Tryz.ntmps62
 all_goals go_wp2_with ((first
  |((with_reducible refine ax (N:=2) rfl ?_);refine bV #[.slice F u.length O,.int .i64 I,.slice G z.length U,.int .i64 J,.int .i64 K,.slice H D.length V] 30 fun g w1 j1 j2 ao=> ?_)
  |((with_reducible refine ax (N:=4) rfl ?_);refine bV #[.slice none 0 0,.int .i64 0,.slice none 0 0,.int .i64 0,.int .i64 0,.slice none 0 0] 30 fun g w1 j1 j2 ao=> ?_)
  |((with_reducible refine ax (N:=6) rfl ?_);refine bV #[.slice none 0 0,.int .i64 0,.slice none 0 0,.int .i64 0,.int .i64 0,.slice none 0 0] 30 fun g w1 j1 j2 ao=> ?_)
  |(go_at_call 27;replace h:=bI h;obtain⟨⟨t1,t2,t3,t4,t5,t6⟩,A,h⟩:=h;(try dsimp only at h);refine(e5.c _ _ _ _ _ _ _ _ _ _ _ _ _ _ _ _ _ _ _ Rd.out aq.out Rd.out aq.out Rd.out aq.out A).mono ?_;rintro e w2 ⟨v0,v1,v2,rfl,ad,ae,ai,hb⟩;obtain⟨aF,b0,rfl,j0,q0⟩:=aQ ad;obtain⟨B1,b1,rfl,j1,q1⟩:=aQ ae;obtain⟨B2,b2,rfl,j2,q2⟩:=aQ ai;have aE:=az.mk hb;clear A ad ae ai hb)
  |(go_at_call 28;replace h:=bI h;obtain⟨t,A,h⟩:=h;(try dsimp only at h);refine(eD.c _ _ _ _ _ _ _ _ _ _ _ _ _ _ _ Rd.out aq.out Rd.out aq.out Rd.out aq.out A).mono ?_;rintro e w2 ⟨rfl,hb⟩;have aE:=az.mk hb;clear A hb));(repeat' first|((with_reducible replace h:=bU h);rcases h with ⟨hc,h⟩|⟨hc,h⟩<;>first|exact(bL h).elim|exact absurd hc (by decide)|subst hc|(replace hc:=bA hc;subst hc)|(have hd:=bQ hc;have he:=bR hc;clear hc)|(have hd:=bS hc;have he:=bT hc)|(have hd:=ay hc)|(have hd:=ah hc)|skip)))
 all_goals simp only[Option.some.injEq,Prod.mk.injEq]at h
 all_goals obtain⟨rfl,rfl,rfl,rfl,rfl,rfl,rfl⟩:=h
 all_goals refine bodyPost_ret (di rfl _ _ _ _ _ (0,0) _ rfl aU.out Tryz.underlying30 rfl (by kernel_rfl)) rfl ?_
 all_goals exact⟨_,_,_,rfl,(by first|exact bl|exact Kd.bj _ _ _ _ _),(by first|exact bl|exact Kd.bj _ _ _ _ _),(by first|exact bl|exact Kd.bj _ _ _ _ _),From.out⟩
def mm.f (k:Nat) (I:List (aj)) (F:Int) (J:List Int) (G:Int) (z:Int) (D:List (S64)) (K:Int) (O:Int) (a2:Int):Option ((List (aj))×Int×List Int×Int×Int×(List (S64))×Bool):=(e5.f I F J G z D).bind fun u=>((eD.f k I F J G z D).bind fun U=>(if U=true then((gp.f k D K O a2 z).bind fun H=>(if H.2=true then(some (u.1,u.2.1,u.2.2.1,u.2.2.2.1,u.2.2.2.2.1,H.1,true))else(some (u.1,u.2.1,u.2.2.1,u.2.2.2.1,u.2.2.2.2.1,u.2.2.2.2.2,false))))else(some (u.1,u.2.1,u.2.2.1,u.2.2.2.1,u.2.2.2.2.1,u.2.2.2.2.2,false))))
theorem mm.c (k:Nat) (G:Option Addr) (X:Nat) (u:List (aj)) (J:Int) (H:Option Addr) (Y:Nat) (z:List Int) (K:Int) (O:Int) (I:Option Addr) (Z:Nat) (D:List (S64)) (U:Int) (V:Int) (a2:Int) (r1:List (aj)) (r2:Int) (r3:List Int) (aw:Int) (aA:Int) (aB:List (S64)) (aC:Bool) (w:World) (ao:Kd.C aX w G u.length u) (ae:u.length≤X) (ap:Kd.C (Kd.int .i64) w H z.length z) (ai:z.length≤Y) (ar:Kd.C aW w I D.length D) (ak:D.length≤Z) (h:mm.f k u J z K O D U V a2=some (r1,r2,r3,aw,aA,aB,aC)):
  Calls Tryz.prog 63 #[.agg #[.slice G u.length X,.int .i64 J,.slice H z.length Y,.int .i64 K,.int .i64 O,.slice I D.length Z],.agg #[.int .i64 U,.int .i64 V],.int .i64 a2] w fun e w'=>∃aE aF aI:Value,e= .returned (.tuple #[.agg #[aE,.int .i64 r2,aF,.int .i64 aw,.int .i64 aA,aI],.bool aC])∧Kd.R aX 110 w' w.heap.size (fun _=>True) aE r1∧Kd.R (Kd.int .i64) 3 w' w.heap.size (fun _=>True) aF r3∧Kd.R aW 64 w' w.heap.size (fun _=>True) aI aB∧Below w.heap.size w w':=by
 replace ao:=bn.mk ao;replace ae:=aq.mk ae;replace ap:=bn.mk ap;replace ai:=aq.mk ai;replace ar:=bn.mk ar;replace ak:=aq.mk ak;unfold mm.f at h;have aK:=Tryz.underlying30;have aL:=Tryz.underlying62
 all_goals go_enter Tryz.func63,Tryz.ntmps63
 all_goals go_wp2_with ((first
  |((with_reducible refine ax (N:=3) rfl ?_);refine bV #[.slice G u.length X,.int .i64 J,.slice H z.length Y,.int .i64 K,.int .i64 O,.slice I D.length Z] 30 fun g w1 j1 j2 ad=> ?_)
  |((with_reducible refine ax (N:=4) rfl ?_);refine bV #[.int .i64 U,.int .i64 V] 62 fun g w1 j1 j2 ad=> ?_)
  |((with_reducible refine ax (N:=6) rfl ?_);refine bV #[.slice none 0 0,.int .i64 0,.slice none 0 0,.int .i64 0,.int .i64 0,.slice none 0 0] 30 fun g w1 j1 j2 ad=> ?_)
  |((with_reducible refine ax (N:=8) rfl ?_);refine bV #[.slice none 0 0,.int .i64 0,.slice none 0 0,.int .i64 0,.int .i64 0,.slice none 0 0] 30 fun g w1 j1 j2 ad=> ?_)
  |(go_at_call 27;replace h:=bI h;obtain⟨⟨t1,t2,t3,t4,t5,t6⟩,A,h⟩:=h;(try dsimp only at h);refine(e5.c _ _ _ _ _ _ _ _ _ _ _ _ _ _ _ _ _ _ _ Rd.out aq.out Rd.out aq.out Rd.out aq.out A).mono ?_;rintro e w2 ⟨v0,v1,v2,rfl,F,al,am,hb⟩;obtain⟨aJ,b0,rfl,j0,q0⟩:=aQ F;obtain⟨B1,b1,rfl,j1,q1⟩:=aQ al;obtain⟨B2,b2,rfl,j2,q2⟩:=aQ am;have au:=az.mk hb;clear A F al am hb)
  |(go_at_call 28;replace h:=bI h;obtain⟨t,A,h⟩:=h;(try dsimp only at h);refine(eD.c _ _ _ _ _ _ _ _ _ _ _ _ _ _ _ Rd.out aq.out Rd.out aq.out Rd.out aq.out A).mono ?_;rintro e w2 ⟨rfl,hb⟩;have au:=az.mk hb;clear A hb)
  |(go_at_call 102;replace h:=bI h;obtain⟨⟨t1,t2⟩,A,h⟩:=h;(try dsimp only at h);refine(gp.c _ _ _ _ _ _ _ _ _ _ _ Rd.out aq.out A).mono ?_;rintro e w2 ⟨v0,rfl,F,hb⟩;obtain⟨aJ,b0,rfl,j0,q0⟩:=aQ F;have au:=az.mk hb;clear A F hb));(repeat' first|((with_reducible replace h:=bU h);rcases h with ⟨hc,h⟩|⟨hc,h⟩<;>first|exact(bL h).elim|exact absurd hc (by decide)|subst hc|(replace hc:=bA hc;subst hc)|(have hd:=bQ hc;have he:=bR hc;clear hc)|(have hd:=bS hc;have he:=bT hc)|(have hd:=ay hc)|(have hd:=ah hc)|skip)))
 all_goals simp only[Option.some.injEq,Prod.mk.injEq]at h
 all_goals obtain⟨rfl,rfl,rfl,rfl,rfl,rfl,rfl⟩:=h
 all_goals refine bodyPost_ret (di rfl _ _ _ _ _ (0,0) _ rfl aU.out Tryz.underlying30 rfl (by kernel_rfl)) rfl ?_
 all_goals exact⟨_,_,_,rfl,(by first|exact bl|exact Kd.bj _ _ _ _ _),(by first|exact bl|exact Kd.bj _ _ _ _ _),(by first|exact bl|exact Kd.bj _ _ _ _ _),From.out⟩
def mn.f (k:Nat) (F:List (aj)) (D:Int) (G:List Int) (H:Int) (I:Int) (J:List (S64)) (a1:Int) (a2:Int):Option ((List (aj))×Int×List Int×Int×Int×(List (S64))×Bool):=(e5.f F D G H I J).bind fun u=>((eD.f k F D G H I J).bind fun K=>(if K=true then((eL.f k F D G a1 a2).bind fun z=>(some (z.1,z.2.1,z.2.2.1,u.2.2.2.1,u.2.2.2.2.1,u.2.2.2.2.2,z.2.2.2)))else(some (u.1,u.2.1,u.2.2.1,u.2.2.2.1,u.2.2.2.2.1,u.2.2.2.2.2,false))))
theorem mn.c (k:Nat) (H:Option Addr) (V:Nat) (u:List (aj)) (K:Int) (I:Option Addr) (X:Nat) (z:List Int) (O:Int) (U:Int) (J:Option Addr) (Y:Nat) (D:List (S64)) (a1:Int) (a2:Int) (r1:List (aj)) (r2:Int) (r3:List Int) (ar:Int) (au:Int) (aw:List (S64)) (aA:Bool) (w:World) (al:Kd.C aX w H u.length u) (ad:u.length≤V) (am:Kd.C (Kd.int .i64) w I z.length z) (ae:z.length≤X) (ao:Kd.C aW w J D.length D) (ai:D.length≤Y) (h:mn.f k u K z O U D a1 a2=some (r1,r2,r3,ar,au,aw,aA)):
  Calls Tryz.prog 64 #[.agg #[.slice H u.length V,.int .i64 K,.slice I z.length X,.int .i64 O,.int .i64 U,.slice J D.length Y],.int .i64 a1,.int .i64 a2] w fun e w'=>∃aB aC aE:Value,e= .returned (.tuple #[.agg #[aB,.int .i64 r2,aC,.int .i64 ar,.int .i64 au,aE],.bool aA])∧Kd.R aX 110 w' w.heap.size (fun _=>True) aB r1∧Kd.R (Kd.int .i64) 3 w' w.heap.size (fun _=>True) aC r3∧Kd.R aW 64 w' w.heap.size (fun _=>True) aE aw∧Below w.heap.size w w':=by
 replace al:=bn.mk al;replace ad:=aq.mk ad;replace am:=bn.mk am;replace ae:=aq.mk ae;replace ao:=bn.mk ao;replace ai:=aq.mk ai;unfold mn.f at h;have aI:=Tryz.underlying27;have aJ:=Tryz.underlying30
 all_goals go_enter Tryz.func64,Tryz.ntmps64
 all_goals go_wp2_with ((first
  |((with_reducible refine ax (N:=3) rfl ?_);refine bV #[.slice H u.length V,.int .i64 K,.slice I z.length X,.int .i64 O,.int .i64 U,.slice J D.length Y] 30 fun g w1 j1 j2 Z=> ?_)
  |((with_reducible refine ax (N:=6) rfl ?_);refine bV #[.slice none 0 0,.int .i64 0,.slice none 0 0,.int .i64 0,.int .i64 0,.slice none 0 0] 30 fun g w1 j1 j2 Z=> ?_)
  |((with_reducible refine ax (N:=8) rfl ?_);refine bV #[.slice none 0 0,.int .i64 0,.slice none 0 0,.int .i64 0,.int .i64 0,.slice none 0 0] 30 fun g w1 j1 j2 Z=> ?_)
  |((with_reducible refine ax (N:=9) rfl ?_);refine bV #[.slice none 0 0,.int .i64 0,.slice none 0 0] 27 fun g w1 j1 j2 Z=> ?_)
  |(go_at_call 27;replace h:=bI h;obtain⟨⟨t1,t2,t3,t4,t5,t6⟩,A,h⟩:=h;(try dsimp only at h);refine(e5.c _ _ _ _ _ _ _ _ _ _ _ _ _ _ _ _ _ _ _ Rd.out aq.out Rd.out aq.out Rd.out aq.out A).mono ?_;rintro e w2 ⟨v0,v1,v2,rfl,F,G,ak,hb⟩;obtain⟨aF,b0,rfl,j0,q0⟩:=aQ F;obtain⟨B1,b1,rfl,j1,q1⟩:=aQ G;obtain⟨B2,b2,rfl,j2,q2⟩:=aQ ak;have ap:=az.mk hb;clear A F G ak hb)
  |(go_at_call 28;replace h:=bI h;obtain⟨t,A,h⟩:=h;(try dsimp only at h);refine(eD.c _ _ _ _ _ _ _ _ _ _ _ _ _ _ _ Rd.out aq.out Rd.out aq.out Rd.out aq.out A).mono ?_;rintro e w2 ⟨rfl,hb⟩;have ap:=az.mk hb;clear A hb)
  |(go_at_call 103;replace h:=bI h;obtain⟨⟨t1,t2,t3,t4⟩,A,h⟩:=h;(try dsimp only at h);refine(eL.c _ _ _ _ _ _ _ _ _ _ _ _ _ _ _ Rd.out aq.out Rd.out aq.out A).mono ?_;rintro e w2 ⟨v0,v1,rfl,F,G,hb⟩;obtain⟨aF,b0,rfl,j0,q0⟩:=aQ F;obtain⟨B1,b1,rfl,j1,q1⟩:=aQ G;have ap:=az.mk hb;clear A F G hb));(repeat' first|((with_reducible replace h:=bU h);rcases h with ⟨hc,h⟩|⟨hc,h⟩<;>first|exact(bL h).elim|exact absurd hc (by decide)|subst hc|(replace hc:=bA hc;subst hc)|(have hd:=bQ hc;have he:=bR hc;clear hc)|(have hd:=bS hc;have he:=bT hc)|(have hd:=ay hc)|(have hd:=ah hc)|skip)))
 all_goals simp only[Option.some.injEq,Prod.mk.injEq]at h
 all_goals obtain⟨rfl,rfl,rfl,rfl,rfl,rfl,rfl⟩:=h
 all_goals refine bodyPost_ret (di rfl _ _ _ _ _ (0,0) _ rfl aU.out Tryz.underlying30 rfl (by kernel_rfl)) rfl ?_
 all_goals exact⟨_,_,_,rfl,(by first|exact bl|exact Kd.bj _ _ _ _ _),(by first|exact bl|exact Kd.bj _ _ _ _ _),(by first|exact bl|exact Kd.bj _ _ _ _ _),From.out⟩
end P
namespace P
set_option maxHeartbeats 8000000
set_option maxRecDepth 100000
open Go.RowKit WW.bq WW.cg WW.cd
attribute [local go_sem] cN cR cQ cU cP cT cO cS
def ik.f (k:Nat) (z:List (aj)) (u:Int) (D:List Int) (F:Int) (G:Int) (H:List (S64)):Option (Int):=(eD.f k z u D F G H).bind fun I=>(if I=true then((dB.f k z u D).bind fun J=>(some (wrap64 ((wrap64 ((z.length:Int)-u))+(J.length:Int)))))else(some 0))
def ik.T3:Bool×List (List Nat×List Nat):=(true,[([],[]),([0],[0]),([1],[1]),([2],[2]),([],[]),([4],[4]),([5],[5]),([3,6],[3,6]),([],[]),([8],[8]),([9],[9]),([10],[10]),([7,11],[7,11]),([12,10,0,1,2,3,4,5,6,7,8,9,10,11,12],[12])])
def ik.B3:List Nat:=[0,1,3,7,0,16,48,127,0,256,768,1792,4095,8191]
theorem ik.kn:bo .any (opsOf Tryz.f66 3)=ik.T3:=by kernel_rfl
theorem ik.jY:cp ik.T3.2 ik.B3=true:=by kernel_rfl
theorem ik.c (k:Nat) (Z:Option Addr) (ae:Nat) (D:List (aj)) (O:Int) (ad:Option Addr) (ai:Nat) (I:List Int) (X:Int) (Y:Int) (al:Option Addr) (am:Nat) (U:List (S64)) (r:Int) (w:World) (aU:Kd.C aX w Z D.length D) (aQ:D.length≤ae) (aV:Kd.C (Kd.int .i64) w ad I.length I) (aR:I.length≤ai) (aY:Kd.C aW w al U.length U) (aS:U.length≤am) (h:ik.f k D O I X Y U=some r):
  Calls Tryz.prog 66 #[.agg #[.slice Z D.length ae,.int .i64 O,.slice ad I.length ai,.int .i64 X,.int .i64 Y,.slice al U.length am]] w fun e w'=>e= .returned (.int .i64 r)∧Below w.heap.size w w':=by
 have bH:=Tryz.underlying30;have bF:=Tryz.underlying27;have aw:=A_ aU;have aq:=A_ aQ;clear aU aQ;have az:=A_ aV;have au:=A_ aR;clear aV aR;have aL:=A_ aY;have aK:=A_ aS;clear aY aS;have z:=A_ (Below.refl w.heap.size w);have H:((eD.f k D O I X Y U).bind fun aE=>(if aE=true then((dB.f k D O I).bind fun aF=>(some (wrap64 ((wrap64 ((D.length:Int)-O))+(aF.length:Int)))))else(some 0)))=some r:=h;clear h;replace H:=aD H;obtain⟨aE,aI,H⟩:=H
 (try dsimp only at H)
 have A2:=A_ aI;clear aI;by_cases c3:aE=true
 ·subst c3;rw[af rfl]at H;replace H:=aD H;obtain⟨aF,aJ,H⟩:=H
  (try dsimp only at H)
  have a0:=A_ aJ;clear aJ;obtain rfl:=aH H;go_enter Tryz.func66,Tryz.ntmps66
  try go_wp2_with (first|((with_reducible refine ax (N:=1) rfl ?_);refine bX (N:=1) (cs:= #[.slice Z D.length ae,.int .i64 O,.slice ad I.length ai,.int .i64 X,.int .i64 Y,.slice al U.length am]) (t:=30) ?_;intro V hg bL ao hb;have F:=A_ (aC (oB z) hb);have G:=A_ (ao);have ak:=A_ ((by rw[hg];exact(aA (oB z)):w.heap.size≤V));have ap:=A_ ((by rw[hg];exact(aA (oB z)):w.heap.size≤V));clear z;have z:=F;have u:=G;have a2:=ak;have a1:=ap;clear F G ak ap hb ao hg;have bj:=cz u 0;have bk:=cz u 1;have bm:=cz u 2;have bn:=cz u 3;have bo:=cz u 4;have bp:=cz u 5;have bw:=ar u.out 0;have bx:=ar u.out 1;have bA:=ar u.out 2;have bB:=ar u.out 3;have bC:=ar u.out 4;have bD:=ar u.out 5)|((with_reducible refine aZ (f:=28) rfl ?_);refine gL (some 4) Tryz.func28 #[.agg #[.slice Z D.length ae,.int .i64 O,.slice ad I.length ai,.int .i64 X,.int .i64 Y,.slice al U.length am]] ?_;(with_reducible refine(eD.c k _ _ D O _ _ I X Y _ _ U true _ ?a6 ?a7 ?cG ?cH ?fq ?ft A2.out).mono ?_);(case a6=>exact bO aw.out);(case a7=>exact aq.out);(case cG=>exact bO az.out);(case cH=>exact au.out);(case fq=>exact bO aL.out);(case ft=>exact aK.out);rintro e w7 ⟨rfl,hb⟩;refine⟨_,rfl,?_⟩;have F:=A_ (bb u hb);have G:=A_ (aC (oB z) hb);clear u z;have u:=F;have z:=G;clear F G;(try clear hb);(try clear hb2);(try clear hk);(try clear hi)))
  have F:=A_ (aM u.out);have G:=A_ (cr z.out);clear u z;have u:=F;have z:=G;clear F G;refine fk (n:=14) (S:=fun w'=>w'.cell? ⟨V,0,none⟩=some (.slice Z D.length ae)∧w'.cell? ⟨V,1,none⟩=some (.int .i64 O)∧w'.cell? ⟨V,2,none⟩=some (.slice ad I.length ai)∧w'.cell? ⟨V,3,none⟩=some (.int .i64 X)∧w'.cell? ⟨V,4,none⟩=some (.int .i64 Y)∧w'.cell? ⟨V,5,none⟩=some (.slice al U.length am)) (ds:=[]) #[false,false,false,false,false,false,false,false,false,false,false,false,false,false] (by kernel_rfl) rfl rfl ⟨cz u 0,cz u 1,cz u 2,cz u 3,cz u 4,cz u 5⟩ (fun hHeld=> ?_);refine fP ik.kn ik.jY (fun J aB=> ?_);generalize w7.drew=bM at u z hHeld ⊢;refine pA 0 (some 6) J.out ?_;refine pA 1 (some 7) J.out ?_;refine pA 4 (some 10) J.out ?_;refine pA 5 (some 11) J.out ?_;refine pA 8 (some 14) J.out ?_;refine pT 2 (some 8) J.out aB.out hHeld ?_;refine pA 3 (some 9) J.out ?_;refine pT 6 (some 12) J.out aB.out hHeld ?_;refine pA 7 (some 13) J.out ?_;refine pT 9 (some 15) J.out aB.out hHeld ?_;refine dh (i:=10) (N:=some 16) #[true,true,true,true,true,true,true,true,true,true,true,false,false,false] rfl rfl (cX J.out (by kernel_rfl)) (by decide) (fun K hK=> ?_);refine cy Tryz.func100 (by kernel_rfl) rfl #[.agg #[.slice Z D.length ae,.int .i64 O,.slice ad I.length ai]] (by rfl) rfl rfl (by(try simp only[List.map_toArray,List.map_cons,List.map_nil]);first|done|rfl|(simp only[List.length_drop,List.length_take];rfl)) ?_
  with_reducible refine(dB.c k _ _ D O _ _ I aF _ ?a6 ?a7 ?cG ?cH a0.out).mono ?_
  (case a6=>exact bO aw.out)
  (case a7=>exact aq.out)
  (case cG=>exact bO az.out)
  (case cH=>exact au.out)
  rintro e bP ⟨bI,rfl,aT,hb⟩;refine⟨_,rfl,?_⟩;have F:=A_ (Kd.bE aT (aA (oB z)));have G:=A_ (bb u hb);have ak:=A_ (aC (oB z) hb);clear u z;have a3:=F;have u:=G;have z:=ak;clear F G ak
  (try clear hb)
  (try clear hb2)
  (try clear hk)
  (try clear hi)
  (try clear aT)
  obtain⟨a9,a_,aN⟩:=Kd.bz a3.out
  (first|subst aN|(injection aN with aO a4 aP;have a5:=aO.symm;have a8:=aP.symm;clear aO a4 aP;subst a5;subst a8))
  refine hK.out _ _ ⟨cz u 0,cz u 1,cz u 2,cz u 3,cz u 4,cz u 5⟩ (fun hHeld=> ?_);clear hK K;refine dL (a':= ?_) ?_ ?_;rotate_left
  ·show Act.put _ (some 16) _=_;simp only[Act.put,List.setIfInBounds_toArray,List.set_cons_zero,List.set_cons_succ,bG,bN];rfl
  refine pA 11 (some 17) J.out ?_;refine pA 12 (some 18) J.out ?_;refine pA 13 (some 2) J.out ?_;refine eY (fH J.out (by kernel_rfl)) ?_
  try go_wp2
  go_ret;exact⟨eR,oB z⟩
 ·replace c3:=Bool.eq_false_iff.mpr c3;subst c3;rw[ag (show¬(false=true)by decide)]at H;obtain rfl:=aH H;go_enter Tryz.func66,Tryz.ntmps66
  go_wp2_with (first|((with_reducible refine ax (N:=1) rfl ?_);refine bX (N:=1) (cs:= #[.slice Z D.length ae,.int .i64 O,.slice ad I.length ai,.int .i64 X,.int .i64 Y,.slice al U.length am]) (t:=30) ?_;intro V hg bJ ao hb;have F:=A_ (aC (oB z) hb);have G:=A_ (ao);have ak:=A_ ((by rw[hg];exact(aA (oB z)):w.heap.size≤V));have ap:=A_ ((by rw[hg];exact(aA (oB z)):w.heap.size≤V));clear z;have z:=F;have u:=G;have a2:=ak;have a1:=ap;clear F G ak ap hb ao hg;have bc:=cz u 0;have bd:=cz u 1;have be:=cz u 2;have bf:=cz u 3;have bg:=cz u 4;have bh:=cz u 5;have bq:=ar u.out 0;have br:=ar u.out 1;have bs:=ar u.out 2;have bt:=ar u.out 3;have bu:=ar u.out 4;have bv:=ar u.out 5)|((with_reducible refine aZ (f:=28) rfl ?_);refine gL (some 4) Tryz.func28 #[.agg #[.slice Z D.length ae,.int .i64 O,.slice ad I.length ai,.int .i64 X,.int .i64 Y,.slice al U.length am]] ?_;(with_reducible refine(eD.c k _ _ D O _ _ I X Y _ _ U false _ ?a6 ?a7 ?cG ?cH ?fq ?ft A2.out).mono ?_);(case a6=>exact bO aw.out);(case a7=>exact aq.out);(case cG=>exact bO az.out);(case cH=>exact au.out);(case fq=>exact bO aL.out);(case ft=>exact aK.out);rintro e bK ⟨rfl,hb⟩;refine⟨_,rfl,?_⟩;have F:=A_ (bb u hb);have G:=A_ (aC (oB z) hb);clear u z;have u:=F;have z:=G;clear F G;(try clear hb);(try clear hb2);(try clear hk);(try clear hi)))
  go_ret;exact⟨eR,oB z⟩
end P
namespace P
set_option maxHeartbeats 8000000
set_option maxRecDepth 100000
open Go.RowKit WW.bq WW.cg WW.cd V
attribute [local go_sem] dN dO
attribute [local go_sem] cN cR cQ cU cP cT cO cS
def eh.l0:Nat→List ByteArray→List (S64)→Int→Int→Option (List ByteArray)
 |0,_,_,_,_=>none
 |k+1,x3,z,D,u=>if u<D then(if 0≤u then(if u<(z.length:Int)then((b_.f k (([(au z u).f0.f0,(au z u).f0.f1,(au z u).f1,(au z u).f2]:List Int))).bind fun F=>(if x3.length<8796093022208 then(eh.l0 k (x3++[F]) z D (wrap64 (u+1)))else(none)))else(none))else(none))else(some x3)
def eh.f (k:Nat) (O:List (aj)) (z:Int) (G:List Int) (D:Int) (F:Int) (u:List (S64)):Option (List ByteArray):=(eD.f k O z G D F u).bind fun U=>(if U=true then((b_.f k G).bind fun H=>(if 8+H.size≤9223372036854775807 then((b_.f k (([z]:List Int))).bind fun I=>(if 5+I.size≤9223372036854775807 then((b_.f k (([D]:List Int))).bind fun J=>(if 7+J.size≤9223372036854775807 then((b_.f k (([F]:List Int))).bind fun K=>(if 7+K.size≤9223372036854775807 then(eh.l0 k (([(⟨#[112,105,116,99,104,101,115,32]⟩:ByteArray)++H,(⟨#[100,111,110,101,32]⟩:ByteArray)++I,(⟨#[119,97,114,109,116,104,32]⟩:ByteArray)++J,(⟨#[109,111,109,101,110,116,32]⟩:ByteArray)++K]:List ByteArray)) u (u.length:Int) 0)else(none)))else(none)))else(none)))else(none)))else(some ([]:List ByteArray)))
def eh.T3:Bool×List (List Nat×List Nat):=(true,[([],[]),([0],[0]),([1],[1]),([2],[2]),([3],[3]),([],[]),([5],[5]),([6],[6]),([7],[7]),([8,3],[8]),([9],[9]),([],[]),([11],[11]),([12],[12]),([13,9],[13]),([14],[14]),([],[]),([16],[16]),([17],[17]),([18,14],[18]),([19],[19]),([4,10,15,20],[4,10,15,20]),([21,19,0,1,2,3,4,5,6,7,8,9,10,11,12,13,14,15,16,17,18,19,20,21],[21])])
def eh.B3:List Nat:=[0,1,3,7,15,0,32,96,224,495,1007,0,2048,6144,15343,31727,0,65536,196608,490479,1014767,2097151,4194303]
theorem eh.kn:bo .any (opsOf Tryz.f12 3)=eh.T3:=by kernel_rfl
theorem eh.jY:cp eh.T3.2 eh.B3=true:=by kernel_rfl
theorem eh.c (k:Nat) (bp:Option Addr) (bq:Nat) (bc:List (aj)) (aR:Int) (bd:Option Addr) (bf:Nat) (aU:List Int) (aQ:Int) (aE:Int) (bt:Option Addr) (bs:Nat) (F:List (S64)) (r:List ByteArray) (w:World) (du:Kd.C aX w bp bc.length bc) (dp:bc.length≤bq) (dv:Kd.C (Kd.int .i64) w bd aU.length aU) (dq:aU.length≤bf) (dw:Kd.C aW w bt F.length F) (dt:F.length≤bs) (h:eh.f k bc aR aU aQ aE F=some r) (b1:ae (kr w)):
  Calls Tryz.prog 12 #[.agg #[.slice bp bc.length bq,.int .i64 aR,.slice bd aU.length bf,.int .i64 aQ,.int .i64 aE,.slice bt F.length bs]] w fun e w'=>∃dG:Value,e= .returned (dG)∧Kd.R Kd.string 9 w' w.heap.size (fun _=>True) dG r∧Below w.heap.size w w':=by
 have fB:=Tryz.underlying30;have hu64:=Tryz.underlying64;have cP:=A_ du;have cM:=A_ dp;clear du dp;have ce:=A_ dv;have cd:=A_ dq;clear dv dq;have cf:=A_ dw;have cN:=A_ dt;clear dw dt;have z:=A_ (Below.refl w.heap.size w);have H:((eD.f k bc aR aU aQ aE F).bind fun cv=>(if cv=true then((b_.f k aU).bind fun a5=>(if 8+a5.size≤9223372036854775807 then((b_.f k (([aR]:List Int))).bind fun a2=>(if 5+a2.size≤9223372036854775807 then((b_.f k (([aQ]:List Int))).bind fun a1=>(if 7+a1.size≤9223372036854775807 then((b_.f k (([aE]:List Int))).bind fun aK=>(if 7+aK.size≤9223372036854775807 then(eh.l0 k (([(⟨#[112,105,116,99,104,101,115,32]⟩:ByteArray)++a5,(⟨#[100,111,110,101,32]⟩:ByteArray)++a2,(⟨#[119,97,114,109,116,104,32]⟩:ByteArray)++a1,(⟨#[109,111,109,101,110,116,32]⟩:ByteArray)++aK]:List ByteArray)) F (F.length:Int) 0)else(none)))else(none)))else(none)))else(none)))else(some ([]:List ByteArray))))=some r:=h;clear h;replace H:=aD H;obtain⟨cv,cC,H⟩:=H
 (try dsimp only at H)
 have A2:=A_ cC;clear cC;by_cases c3:cv=true
 ·subst c3;rw[af rfl]at H;replace H:=aD H;obtain⟨a5,cE,H⟩:=H
  (try dsimp only at H)
  have dL:=A_ cE;clear cE;by_cases c5:8+a5.size≤9223372036854775807
  ·rw[af c5]at H;have d4:=av c5;have d5:decide (8+a5.size≤9223372036854775807)=true:=ah c5
   try have d6:(9223372036854775807<8+a5.size)=False:=d_ (Nat.not_lt.2 c5)
   obtain⟨bM,b2⟩:∃bv:List Int,bv=(([aR]:List Int)):=⟨_,rfl⟩;replace H:((b_.f k bM).bind fun a2=>(if 5+a2.size≤9223372036854775807 then((b_.f k (([aQ]:List Int))).bind fun a1=>(if 7+a1.size≤9223372036854775807 then((b_.f k (([aE]:List Int))).bind fun aK=>(if 7+aK.size≤9223372036854775807 then(eh.l0 k (([(⟨#[112,105,116,99,104,101,115,32]⟩:ByteArray)++a5,(⟨#[100,111,110,101,32]⟩:ByteArray)++a2,(⟨#[119,97,114,109,116,104,32]⟩:ByteArray)++a1,(⟨#[109,111,109,101,110,116,32]⟩:ByteArray)++aK]:List ByteArray)) F (F.length:Int) 0)else(none)))else(none)))else(none)))=some r:=by first|(rw[b2];with_reducible exact H)|(have a3:=(aG _ _).symm.trans H;rw[b2];with_reducible exact a3)|(have a3:=(aG _ _).symm.trans H;with_reducible exact a3)|with_reducible exact H|(rw[b2];exact H)|exact H
   have cQ:=A_ b2;clear b2;replace H:=aD H;obtain⟨a2,cF,H⟩:=H
   (try dsimp only at H)
   have dM:=A_ cF;clear cF;by_cases c7:5+a2.size≤9223372036854775807
   ·rw[af c7]at H;have d7:=av c7;have d8:decide (5+a2.size≤9223372036854775807)=true:=ah c7
    try have d9:(9223372036854775807<5+a2.size)=False:=d_ (Nat.not_lt.2 c7)
    obtain⟨bF,b3⟩:∃bv:List Int,bv=(([aQ]:List Int)):=⟨_,rfl⟩;replace H:((b_.f k bF).bind fun a1=>(if 7+a1.size≤9223372036854775807 then((b_.f k (([aE]:List Int))).bind fun aK=>(if 7+aK.size≤9223372036854775807 then(eh.l0 k (([(⟨#[112,105,116,99,104,101,115,32]⟩:ByteArray)++a5,(⟨#[100,111,110,101,32]⟩:ByteArray)++a2,(⟨#[119,97,114,109,116,104,32]⟩:ByteArray)++a1,(⟨#[109,111,109,101,110,116,32]⟩:ByteArray)++aK]:List ByteArray)) F (F.length:Int) 0)else(none)))else(none)))=some r:=by first|(rw[b3];with_reducible exact H)|(have a3:=(aG _ _).symm.trans H;rw[b3];with_reducible exact a3)|(have a3:=(aG _ _).symm.trans H;with_reducible exact a3)|with_reducible exact H|(rw[b3];exact H)|exact H
    have cR:=A_ b3;clear b3;replace H:=aD H;obtain⟨a1,cI,H⟩:=H
    (try dsimp only at H)
    have dN:=A_ cI;clear cI;by_cases c9:7+a1.size≤9223372036854775807
    ·rw[af c9]at H;have d':=av c9;have ea:decide (7+a1.size≤9223372036854775807)=true:=ah c9
     try have eb:(9223372036854775807<7+a1.size)=False:=d_ (Nat.not_lt.2 c9)
     obtain⟨bx,b4⟩:∃bv:List Int,bv=(([aE]:List Int)):=⟨_,rfl⟩;replace H:((b_.f k bx).bind fun aK=>(if 7+aK.size≤9223372036854775807 then(eh.l0 k (([(⟨#[112,105,116,99,104,101,115,32]⟩:ByteArray)++a5,(⟨#[100,111,110,101,32]⟩:ByteArray)++a2,(⟨#[119,97,114,109,116,104,32]⟩:ByteArray)++a1,(⟨#[109,111,109,101,110,116,32]⟩:ByteArray)++aK]:List ByteArray)) F (F.length:Int) 0)else(none)))=some r:=by first|(rw[b4];with_reducible exact H)|(have a3:=(aG _ _).symm.trans H;rw[b4];with_reducible exact a3)|(have a3:=(aG _ _).symm.trans H;with_reducible exact a3)|with_reducible exact H|(rw[b4];exact H)|exact H
     have cS:=A_ b4;clear b4;replace H:=aD H;obtain⟨aK,cB,H⟩:=H
     (try dsimp only at H)
     have dJ:=A_ cB;clear cB;by_cases c11:7+aK.size≤9223372036854775807
     ·rw[af c11]at H;have d0:=av c11;have d1:decide (7+aK.size≤9223372036854775807)=true:=ah c11
      try have d2:(9223372036854775807<7+aK.size)=False:=d_ (Nat.not_lt.2 c11)
      obtain⟨cw,b5⟩:∃bv:List ByteArray,bv=(([(⟨#[112,105,116,99,104,101,115,32]⟩:ByteArray)++a5,(⟨#[100,111,110,101,32]⟩:ByteArray)++a2,(⟨#[119,97,114,109,116,104,32]⟩:ByteArray)++a1,(⟨#[109,111,109,101,110,116,32]⟩:ByteArray)++aK]:List ByteArray)):=⟨_,rfl⟩;replace H:(eh.l0 k cw F (F.length:Int) 0)=some r:=by first|(rw[b5];with_reducible exact H)|(have a3:=(aG _ _).symm.trans H;rw[b5];with_reducible exact a3)|(have a3:=(aG _ _).symm.trans H;with_reducible exact a3)|with_reducible exact H|(rw[b5];exact H)|exact H
      have cT:=A_ b5;clear b5;have H':=A_ H;clear H;go_enter Tryz.func12,Tryz.ntmps12
      try go_wp2_with (first|((with_reducible refine ax (N:=1) rfl ?_);refine bX (N:=1) (cs:= #[.slice bp bc.length bq,.int .i64 aR,.slice bd aU.length bf,.int .i64 aQ,.int .i64 aE,.slice bt F.length bs]) (t:=30) ?_;intro ao hg fE bK hb;have I:=A_ (aC (oB z) hb);have J:=A_ (bK);have am:=A_ ((by rw[hg];exact(aA (oB z)):w.heap.size≤ao));have a0:=A_ ((by rw[hg];exact(aA (oB z)):w.heap.size≤ao));clear z;have z:=I;have u:=J;have dR:=am;have dQ:=a0;clear I J am a0 hb bK hg;have ei:=cz u 0;have ej:=cz u 1;have el:=cz u 2;have em:=cz u 3;have en:=cz u 4;have eo:=cz u 5;have ew:=ar u.out 0;have ex:=ar u.out 1;have ey:=ar u.out 2;have ez:=ar u.out 3;have eA:=ar u.out 4;have eB:=ar u.out 5)|((with_reducible refine aZ (f:=28) rfl ?_);refine gL (some 7) Tryz.func28 #[.agg #[.slice bp bc.length bq,.int .i64 aR,.slice bd aU.length bf,.int .i64 aQ,.int .i64 aE,.slice bt F.length bs]] ?_;(with_reducible refine(eD.c k _ _ bc aR _ _ aU aQ aE _ _ F true _ ?a6 ?a7 ?cG ?cH ?fq ?ft A2.out).mono ?_);(case a6=>exact bO cP.out);(case a7=>exact cM.out);(case cG=>exact bO ce.out);(case cH=>exact cd.out);(case fq=>exact bO cf.out);(case ft=>exact cN.out);rintro e eO ⟨rfl,hb⟩;refine⟨_,rfl,?_⟩;have I:=A_ (bb u hb);have J:=A_ (aC (oB z) hb);clear u z;have u:=I;have z:=J;clear I J;(try clear hb);(try clear hb2);(try clear hk);(try clear hi)))
      have I:=A_ (aM u.out);have J:=A_ (cr z.out);clear u z;have u:=I;have z:=J;clear I J;refine fk (n:=23) (S:=fun w'=>True) (ds:=[]) #[false,false,false,false,false,false,false,false,false,false,false,false,false,false,false,false,false,false,false,false,false,false,false] (by kernel_rfl) rfl rfl trivial (fun hHeld=> ?_);refine fP eh.kn eh.jY (fun bP dT=> ?_);generalize eO.drew=fF at u z hHeld ⊢;refine pA 0 (some 9) bP.out ?_;refine pA 1 (some 10) bP.out ?_;refine pA 5 (some 14) bP.out ?_;refine pA 6 (some 15) bP.out ?_;refine pA 11 (some 20) bP.out ?_;refine pA 16 (some 25) bP.out ?_;refine yX [2,3,4,7,8,9,10,12,13,14,15,17,18,19,20,21,22] (fun dX b a w'=>∃(ad:Value) (Y:Value) (X:Value) (Z:Value) (ap:Value),a=fK dX b [(2,11,.slice bd aU.length bf),(3,12,.string a5),(4,13,.string ((⟨#[112,105,116,99,104,101,115,32]⟩:ByteArray)++a5)),(7,16,.int .i64 aR),(8,17,ad),(9,18,.string a2),(10,19,.string ((⟨#[100,111,110,101,32]⟩:ByteArray)++a2)),(12,21,.int .i64 aQ),(13,22,Y),(14,23,.string a1),(15,24,.string ((⟨#[119,97,114,109,116,104,32]⟩:ByteArray)++a1)),(17,26,.int .i64 aE),(18,27,X),(19,28,.string aK),(20,29,.string ((⟨#[109,111,109,101,110,116,32]⟩:ByteArray)++aK)),(21,30,Z),(22,3,ap)]∧(w'.heap[ao]? =some (.cells #[.slice bp bc.length bq,.int .i64 aR,.slice bd aU.length bf,.int .i64 aQ,.int .i64 aE,.slice bt F.length bs] 30 (0,0)))∧(Below w.heap.size w w')∧(b 8=true→Kd.R (Kd.int .i64) 3 w' w.heap.size (fun _=>True) ad bM)∧(b 13=true→Kd.R (Kd.int .i64) 3 w' w.heap.size (fun _=>True) Y bF)∧(b 18=true→Kd.R (Kd.int .i64) 3 w' w.heap.size (fun _=>True) X bx)∧(b 21=true→Kd.R Kd.string 9 w' w.heap.size (fun _=>True) Z cw)∧(b 22=true→(ap:Value)=Z)) bP.out dT.out (by kernel_rfl) (by kernel_rfl) ?_ ?_ ?_
      ·exact⟨.bool false,.bool false,.bool false,.bool false,.bool false,by simp only[fK,Bool.false_eq_true,if_false],u.out,z.out,fun h_=>absurd h_ (by decide),fun h_=>absurd h_ (by decide),fun h_=>absurd h_ (by decide),fun h_=>absurd h_ (by decide),fun h_=>absurd h_ (by decide)⟩
      ·skip
       clear u z;refine gK ?_ ?_
       ·rintro b a w' ⟨ad,Y,X,Z,ap,ha,U,V,ai,ak,al,a9,be⟩ aq G hoff;refine⟨_,rfl,fun K hK=> ?_⟩;have eX:a.tmps[10]? =some (.pointer (some ⟨ao,2,none⟩)):=(by rw[ha];exact(mB rfl).trans rfl);replace ha:=A_ ha;have u:=A_ U;have z:=A_ V;have cl:w'.cell? ⟨ao,0,none⟩=some (.slice bp bc.length bq):=cz u 0;have cm:w'.cell? ⟨ao,1,none⟩=some (.int .i64 aR):=cz u 1;have cn:w'.cell? ⟨ao,2,none⟩=some (.slice bd aU.length bf):=cz u 2;have co:w'.cell? ⟨ao,3,none⟩=some (.int .i64 aQ):=cz u 3;have cp:w'.cell? ⟨ao,4,none⟩=some (.int .i64 aE):=cz u 4;have cq:w'.cell? ⟨ao,5,none⟩=some (.slice bt F.length bs):=cz u 5;refine lC (w1:=w') (v:= .slice bd aU.length bf) (by rfl) rfl ?_ ?_
        ·go_simp
         (try simp only[bG])
         try rfl
        refine hK.out _ _ ⟨ad,Y,X,Z,ap,(by rw[ha.out];exact gI 0 aq rfl rfl rfl),U,V,ai,ak,al,fun D=>absurd ((hoff 21 (by kernel_rfl)).symm.trans D) (by decide),fun D=>absurd ((hoff 22 (by kernel_rfl)).symm.trans D) (by decide)⟩
       refine gK ?_ ?_
       ·rintro b a w' ⟨ad,Y,X,Z,ap,ha,U,V,ai,ak,al,a9,be⟩ aq G hoff;refine⟨_,rfl,fun K hK=> ?_⟩;have e11:a.tmps[11]? =some (.slice bd aU.length bf):=(by rw[ha];exact gH (e:=(2,11,.slice bd aU.length bf)) 0 rfl rfl (G 2 (by kernel_rfl)) rfl);replace ha:=A_ ha;have u:=A_ U;have z:=A_ V;refine cy Tryz.func33 (by kernel_rfl) rfl #[.slice bd aU.length bf] (by rfl) rfl rfl (by first|(simp only[List.map_toArray,List.map_cons,List.map_nil,Act.eval,Array.getD_eq_getD_getElem?,Option.getD_some,e11];done)|(simp only[List.map_toArray,List.map_cons,List.map_nil,Act.eval,Array.getD_eq_getD_getElem?,Option.getD_some,e11];rfl)) ?_
        with_reducible refine(b_.c k _ _ aU a5 _ ?a6 ?a7 dL.out ?ek).mono ?_
        (case ek=>exact⟨iN b1.out (oB z)⟩)
        (case a6=>exact bO ce.out)
        (case a7=>exact cd.out)
        rintro e bu ⟨rfl,hb⟩;refine⟨_,rfl,?_⟩;have I:=A_ (bb u hb);have J:=A_ (aC (oB z) hb);have b9:=fun(D:b 8=true)=>(show Kd.R (Kd.int .i64) 3 bu w.heap.size (fun _=>True) ad bM from by first|exact(Kd.aV (by(with_reducible repeat(first|apply Kd.bm|apply Kd.br|apply Kd.a8));exact(ai D)) hb)|exact Kd.bh (Kd.aV (by(with_reducible repeat(first|apply Kd.bm|apply Kd.br|apply Kd.a8));exact(ai D)) hb) (fun _ h_=>by first|trivial|exact h_|exact h_.1));have bR:=fun(D:b 13=true)=>(show Kd.R (Kd.int .i64) 3 bu w.heap.size (fun _=>True) Y bF from by first|exact(Kd.aV (by(with_reducible repeat(first|apply Kd.bm|apply Kd.br|apply Kd.a8));exact(ak D)) hb)|exact Kd.bh (Kd.aV (by(with_reducible repeat(first|apply Kd.bm|apply Kd.br|apply Kd.a8));exact(ak D)) hb) (fun _ h_=>by first|trivial|exact h_|exact h_.1));have bH:=fun(D:b 18=true)=>(show Kd.R (Kd.int .i64) 3 bu w.heap.size (fun _=>True) X bx from by first|exact(Kd.aV (by(with_reducible repeat(first|apply Kd.bm|apply Kd.br|apply Kd.a8));exact(al D)) hb)|exact Kd.bh (Kd.aV (by(with_reducible repeat(first|apply Kd.bm|apply Kd.br|apply Kd.a8));exact(al D)) hb) (fun _ h_=>by first|trivial|exact h_|exact h_.1));clear u z;have u:=I;have z:=J;clear I J
        (try clear hb)
        (try clear hb2)
        (try clear hk)
        (try clear hi)
        refine hK.out _ _ ⟨ad,Y,X,Z,ap,(by rw[ha.out];exact gI 1 aq rfl rfl rfl),(oK u),(oB z),b9,bR,bH,fun D=>absurd ((hoff 21 (by kernel_rfl)).symm.trans D) (by decide),fun D=>absurd ((hoff 22 (by kernel_rfl)).symm.trans D) (by decide)⟩
       refine gK ?_ ?_
       ·rintro b a w' ⟨ad,Y,X,Z,ap,ha,U,V,ai,ak,al,a9,be⟩ aq G hoff;refine⟨_,rfl,fun K hK=> ?_⟩;have eY:a.tmps[12]? =some (.string a5):=(by rw[ha];exact gH (e:=(3,12,.string a5)) 1 rfl rfl (G 3 (by kernel_rfl)) rfl);replace ha:=A_ ha;have u:=A_ U;have z:=A_ V;refine lC (w1:=w') (v:= .string ((⟨#[112,105,116,99,104,101,115,32]⟩:ByteArray)++a5)) (by rfl) rfl ?_ ?_
        ·go_simp
         (try simp only[bG])
         try rfl
        refine hK.out _ _ ⟨ad,Y,X,Z,ap,(by rw[ha.out];exact gI 2 aq rfl rfl rfl),U,V,ai,ak,al,fun D=>absurd ((hoff 21 (by kernel_rfl)).symm.trans D) (by decide),fun D=>absurd ((hoff 22 (by kernel_rfl)).symm.trans D) (by decide)⟩
       refine gK ?_ ?_
       ·rintro b a w' ⟨ad,Y,X,Z,ap,ha,U,V,ai,ak,al,a9,be⟩ aq G hoff;refine⟨_,rfl,fun K hK=> ?_⟩;have e0:a.tmps[15]? =some (.pointer (some ⟨ao,1,none⟩)):=(by rw[ha];exact(mB rfl).trans rfl);replace ha:=A_ ha;have u:=A_ U;have z:=A_ V;have cl:w'.cell? ⟨ao,0,none⟩=some (.slice bp bc.length bq):=cz u 0;have cm:w'.cell? ⟨ao,1,none⟩=some (.int .i64 aR):=cz u 1;have cn:w'.cell? ⟨ao,2,none⟩=some (.slice bd aU.length bf):=cz u 2;have co:w'.cell? ⟨ao,3,none⟩=some (.int .i64 aQ):=cz u 3;have cp:w'.cell? ⟨ao,4,none⟩=some (.int .i64 aE):=cz u 4;have cq:w'.cell? ⟨ao,5,none⟩=some (.slice bt F.length bs):=cz u 5;refine lC (w1:=w') (v:= .int .i64 aR) (by rfl) rfl ?_ ?_
        ·go_simp
         (try simp only[bG])
         try rfl
        refine hK.out _ _ ⟨ad,Y,X,Z,ap,(by rw[ha.out];exact gI 3 aq rfl rfl rfl),U,V,fun D=>absurd ((hoff 8 (by kernel_rfl)).symm.trans D) (by decide),ak,al,fun D=>absurd ((hoff 21 (by kernel_rfl)).symm.trans D) (by decide),fun D=>absurd ((hoff 22 (by kernel_rfl)).symm.trans D) (by decide)⟩
       refine gK ?_ ?_
       ·rintro b a w' ⟨ad,Y,X,Z,ap,ha,U,V,ai,ak,al,a9,be⟩ aq G hoff;refine⟨_,rfl,fun K hK=> ?_⟩;have e1:a.tmps[16]? =some (.int .i64 aR):=(by rw[ha];exact gH (e:=(7,16,.int .i64 aR)) 3 rfl rfl (G 7 (by kernel_rfl)) rfl);replace ha:=A_ ha;have u:=A_ U;have z:=A_ V;refine Kd.kS (Kd.int .i64) _ 3 ?hg (N:=17) ?hd (xs:=([aR]:List Int)) (inner:=[.int .i64 aR]) (ok:=fun _=>True) (bB:=fun _=>True) ?hr ?hp (fun _ hk=>hk) trivial (Below.refl _ _) (Nat.le_refl _) (by simp) ?_;(case hd=>rfl);(case hg=>rfl);(case hr=>first|(go_simp;done)|(go_simp;rfl));(case hp=>exact(aI.one (show Kd.M (Kd.int .i64) _ _ _ aR [.int .i64 aR]from rfl) (aI.none _ _)));intro ad bu az hb bC bD;clear bC bD
        (first|rw[←cQ.out]at az|(simp only[Int.reduceToNat]at az;rw[←cQ.out]at az))
        have I:=A_ (Kd.bE az (aA (oB z)));have J:=A_ (bb u hb);have am:=A_ (aC (oB z) hb);have bR:=fun(D:b 13=true)=>(show Kd.R (Kd.int .i64) 3 bu w.heap.size (fun _=>True) Y bF from by first|exact(Kd.dZ (by(with_reducible repeat(first|apply Kd.bm|apply Kd.br|apply Kd.a8));exact(ak D)) (Kd.dr az) hb)|exact Kd.bh (Kd.dZ (by(with_reducible repeat(first|apply Kd.bm|apply Kd.br|apply Kd.a8));exact(ak D)) (Kd.dr az) hb) (fun _ h_=>by first|trivial|exact h_|exact h_.1));have bH:=fun(D:b 18=true)=>(show Kd.R (Kd.int .i64) 3 bu w.heap.size (fun _=>True) X bx from by first|exact(Kd.dZ (by(with_reducible repeat(first|apply Kd.bm|apply Kd.br|apply Kd.a8));exact(al D)) (Kd.dr az) hb)|exact Kd.bh (Kd.dZ (by(with_reducible repeat(first|apply Kd.bm|apply Kd.br|apply Kd.a8));exact(al D)) (Kd.dr az) hb) (fun _ h_=>by first|trivial|exact h_|exact h_.1));clear u z;have aw:=I;have u:=J;have z:=am;clear I J am hb az;refine hK.out _ _ ⟨ad,Y,X,Z,ap,(by rw[ha.out];exact gI 4 aq rfl rfl rfl),(oK u),(oB z),fun _=>(oR aw),bR,bH,fun D=>absurd ((hoff 21 (by kernel_rfl)).symm.trans D) (by decide),fun D=>absurd ((hoff 22 (by kernel_rfl)).symm.trans D) (by decide)⟩
       refine gK ?_ ?_
       ·rintro b a w' ⟨ad,Y,X,Z,ap,ha,U,V,ai,ak,al,a9,be⟩ aq G hoff;refine⟨_,rfl,fun K hK=> ?_⟩;have cY:a.tmps[17]? =some (ad):=(by rw[ha];exact gH (e:=(8,17,ad)) 4 rfl rfl (G 8 (by kernel_rfl)) rfl);replace ha:=A_ ha;have u:=A_ U;have z:=A_ V;have aw:=A_ (ai (G 8 (by kernel_rfl)));obtain⟨cJ,cV,c8⟩:=Kd.bz aw.out
        (first|subst c8|(injection c8 with bI bV bJ;have bW:=bI.symm;have bY:=bJ.symm;clear bI bV bJ;subst bW;subst bY))
        refine cy Tryz.func33 (by kernel_rfl) rfl #[.slice cJ bM.length cV] (by rfl) rfl rfl (by first|(simp only[List.map_toArray,List.map_cons,List.map_nil,Act.eval,Array.getD_eq_getD_getElem?,Option.getD_some,cY];done)|(simp only[List.map_toArray,List.map_cons,List.map_nil,Act.eval,Array.getD_eq_getD_getElem?,Option.getD_some,cY];rfl)) ?_
        with_reducible refine(b_.c k _ _ bM a2 _ ?a6 ?a7 dM.out ?ek).mono ?_
        (case ek=>exact⟨iN b1.out (oB z)⟩)
        (case a6=>repeat(first|exact(Kd.aY aw.out).2.2|(with_reducible refine Kd.cZ ?_ _)|(with_reducible refine Kd.dn ?_ _)|(with_reducible refine Kd.dm ?_)))
        (case a7=>exact(Kd.aY aw.out).2.1)
        rintro e dH ⟨rfl,hb⟩;refine⟨_,rfl,?_⟩;have I:=A_ (Kd.aV (oR aw) hb);have J:=A_ (bb u hb);have am:=A_ (aC (oB z) hb);have bR:=fun(D:b 13=true)=>(show Kd.R (Kd.int .i64) 3 dH w.heap.size (fun _=>True) Y bF from by first|exact(Kd.aV (by(with_reducible repeat(first|apply Kd.bm|apply Kd.br|apply Kd.a8));exact(ak D)) hb)|exact Kd.bh (Kd.aV (by(with_reducible repeat(first|apply Kd.bm|apply Kd.br|apply Kd.a8));exact(ak D)) hb) (fun _ h_=>by first|trivial|exact h_|exact h_.1));have bH:=fun(D:b 18=true)=>(show Kd.R (Kd.int .i64) 3 dH w.heap.size (fun _=>True) X bx from by first|exact(Kd.aV (by(with_reducible repeat(first|apply Kd.bm|apply Kd.br|apply Kd.a8));exact(al D)) hb)|exact Kd.bh (Kd.aV (by(with_reducible repeat(first|apply Kd.bm|apply Kd.br|apply Kd.a8));exact(al D)) hb) (fun _ h_=>by first|trivial|exact h_|exact h_.1));clear aw u z;have aw:=I;have u:=J;have z:=am;clear I J am
        (try clear hb)
        (try clear hb2)
        (try clear hk)
        (try clear hi)
        refine hK.out _ _ ⟨.slice cJ bM.length cV,Y,X,Z,ap,(by rw[ha.out];exact gI 5 aq rfl rfl rfl),(oK u),(oB z),fun _=>(oR aw),bR,bH,fun D=>absurd ((hoff 21 (by kernel_rfl)).symm.trans D) (by decide),fun D=>absurd ((hoff 22 (by kernel_rfl)).symm.trans D) (by decide)⟩
       refine gK ?_ ?_
       ·rintro b a w' ⟨ad,Y,X,Z,ap,ha,U,V,ai,ak,al,a9,be⟩ aq G hoff;refine⟨_,rfl,fun K hK=> ?_⟩;have e2:a.tmps[18]? =some (.string a2):=(by rw[ha];exact gH (e:=(9,18,.string a2)) 5 rfl rfl (G 9 (by kernel_rfl)) rfl);replace ha:=A_ ha;have u:=A_ U;have z:=A_ V;have aw:=A_ (ai (G 8 (by kernel_rfl)));refine lC (w1:=w') (v:= .string ((⟨#[100,111,110,101,32]⟩:ByteArray)++a2)) (by rfl) rfl ?_ ?_
        ·go_simp
         (try simp only[bG])
         try rfl
        refine hK.out _ _ ⟨ad,Y,X,Z,ap,(by rw[ha.out];exact gI 6 aq rfl rfl rfl),U,V,ai,ak,al,fun D=>absurd ((hoff 21 (by kernel_rfl)).symm.trans D) (by decide),fun D=>absurd ((hoff 22 (by kernel_rfl)).symm.trans D) (by decide)⟩
       refine gK ?_ ?_
       ·rintro b a w' ⟨ad,Y,X,Z,ap,ha,U,V,ai,ak,al,a9,be⟩ aq G hoff;refine⟨_,rfl,fun K hK=> ?_⟩;have e4:a.tmps[20]? =some (.pointer (some ⟨ao,3,none⟩)):=(by rw[ha];exact(mB rfl).trans rfl);replace ha:=A_ ha;have u:=A_ U;have z:=A_ V;have cl:w'.cell? ⟨ao,0,none⟩=some (.slice bp bc.length bq):=cz u 0;have cm:w'.cell? ⟨ao,1,none⟩=some (.int .i64 aR):=cz u 1;have cn:w'.cell? ⟨ao,2,none⟩=some (.slice bd aU.length bf):=cz u 2;have co:w'.cell? ⟨ao,3,none⟩=some (.int .i64 aQ):=cz u 3;have cp:w'.cell? ⟨ao,4,none⟩=some (.int .i64 aE):=cz u 4;have cq:w'.cell? ⟨ao,5,none⟩=some (.slice bt F.length bs):=cz u 5;refine lC (w1:=w') (v:= .int .i64 aQ) (by rfl) rfl ?_ ?_
        ·go_simp
         (try simp only[bG])
         try rfl
        refine hK.out _ _ ⟨ad,Y,X,Z,ap,(by rw[ha.out];exact gI 7 aq rfl rfl rfl),U,V,ai,fun D=>absurd ((hoff 13 (by kernel_rfl)).symm.trans D) (by decide),al,fun D=>absurd ((hoff 21 (by kernel_rfl)).symm.trans D) (by decide),fun D=>absurd ((hoff 22 (by kernel_rfl)).symm.trans D) (by decide)⟩
       refine gK ?_ ?_
       ·rintro b a w' ⟨ad,Y,X,Z,ap,ha,U,V,ai,ak,al,a9,be⟩ aq G hoff;refine⟨_,rfl,fun K hK=> ?_⟩;have e5:a.tmps[21]? =some (.int .i64 aQ):=(by rw[ha];exact gH (e:=(12,21,.int .i64 aQ)) 7 rfl rfl (G 12 (by kernel_rfl)) rfl);replace ha:=A_ ha;have u:=A_ U;have z:=A_ V;refine Kd.kS (Kd.int .i64) _ 3 ?hg (N:=22) ?hd (xs:=([aQ]:List Int)) (inner:=[.int .i64 aQ]) (ok:=fun _=>True) (bB:=fun _=>True) ?hr ?hp (fun _ hk=>hk) trivial (Below.refl _ _) (Nat.le_refl _) (by simp) ?_;(case hd=>rfl);(case hg=>rfl);(case hr=>first|(go_simp;done)|(go_simp;rfl));(case hp=>exact(aI.one (show Kd.M (Kd.int .i64) _ _ _ aQ [.int .i64 aQ]from rfl) (aI.none _ _)));intro Y bu az hb bC bD;clear bC bD
        (first|rw[←cR.out]at az|(simp only[Int.reduceToNat]at az;rw[←cR.out]at az))
        have I:=A_ (Kd.bE az (aA (oB z)));have J:=A_ (bb u hb);have am:=A_ (aC (oB z) hb);have b9:=fun(D:b 8=true)=>(show Kd.R (Kd.int .i64) 3 bu w.heap.size (fun _=>True) ad bM from by first|exact(Kd.dZ (by(with_reducible repeat(first|apply Kd.bm|apply Kd.br|apply Kd.a8));exact(ai D)) (Kd.dr az) hb)|exact Kd.bh (Kd.dZ (by(with_reducible repeat(first|apply Kd.bm|apply Kd.br|apply Kd.a8));exact(ai D)) (Kd.dr az) hb) (fun _ h_=>by first|trivial|exact h_|exact h_.1));have bH:=fun(D:b 18=true)=>(show Kd.R (Kd.int .i64) 3 bu w.heap.size (fun _=>True) X bx from by first|exact(Kd.dZ (by(with_reducible repeat(first|apply Kd.bm|apply Kd.br|apply Kd.a8));exact(al D)) (Kd.dr az) hb)|exact Kd.bh (Kd.dZ (by(with_reducible repeat(first|apply Kd.bm|apply Kd.br|apply Kd.a8));exact(al D)) (Kd.dr az) hb) (fun _ h_=>by first|trivial|exact h_|exact h_.1));clear u z;have a4:=I;have u:=J;have z:=am;clear I J am hb az;refine hK.out _ _ ⟨ad,Y,X,Z,ap,(by rw[ha.out];exact gI 8 aq rfl rfl rfl),(oK u),(oB z),b9,fun _=>(oR a4),bH,fun D=>absurd ((hoff 21 (by kernel_rfl)).symm.trans D) (by decide),fun D=>absurd ((hoff 22 (by kernel_rfl)).symm.trans D) (by decide)⟩
       refine gK ?_ ?_
       ·rintro b a w' ⟨ad,Y,X,Z,ap,ha,U,V,ai,ak,al,a9,be⟩ aq G hoff;refine⟨_,rfl,fun K hK=> ?_⟩;have c0:a.tmps[22]? =some (Y):=(by rw[ha];exact gH (e:=(13,22,Y)) 8 rfl rfl (G 13 (by kernel_rfl)) rfl);replace ha:=A_ ha;have u:=A_ U;have z:=A_ V;have aw:=A_ (ai (G 8 (by kernel_rfl)));have a4:=A_ (ak (G 13 (by kernel_rfl)));obtain⟨cK,cW,c_⟩:=Kd.bz a4.out
        (first|subst c_|(injection c_ with bI bV bJ;have bW:=bI.symm;have bY:=bJ.symm;clear bI bV bJ;subst bW;subst bY))
        refine cy Tryz.func33 (by kernel_rfl) rfl #[.slice cK bF.length cW] (by rfl) rfl rfl (by first|(simp only[List.map_toArray,List.map_cons,List.map_nil,Act.eval,Array.getD_eq_getD_getElem?,Option.getD_some,c0];done)|(simp only[List.map_toArray,List.map_cons,List.map_nil,Act.eval,Array.getD_eq_getD_getElem?,Option.getD_some,c0];rfl)) ?_
        with_reducible refine(b_.c k _ _ bF a1 _ ?a6 ?a7 dN.out ?ek).mono ?_
        (case ek=>exact⟨iN b1.out (oB z)⟩)
        (case a6=>repeat(first|exact(Kd.aY a4.out).2.2|(with_reducible refine Kd.cZ ?_ _)|(with_reducible refine Kd.dn ?_ _)|(with_reducible refine Kd.dm ?_)))
        (case a7=>exact(Kd.aY a4.out).2.1)
        rintro e eP ⟨rfl,hb⟩;refine⟨_,rfl,?_⟩;have I:=A_ (Kd.aV (oR aw) hb);have J:=A_ (Kd.aV (oR a4) hb);have am:=A_ (bb u hb);have a0:=A_ (aC (oB z) hb);have bH:=fun(D:b 18=true)=>(show Kd.R (Kd.int .i64) 3 eP w.heap.size (fun _=>True) X bx from by first|exact(Kd.aV (by(with_reducible repeat(first|apply Kd.bm|apply Kd.br|apply Kd.a8));exact(al D)) hb)|exact Kd.bh (Kd.aV (by(with_reducible repeat(first|apply Kd.bm|apply Kd.br|apply Kd.a8));exact(al D)) hb) (fun _ h_=>by first|trivial|exact h_|exact h_.1));clear aw a4 u z;have aw:=I;have a4:=J;have u:=am;have z:=a0;clear I J am a0
        (try clear hb)
        (try clear hb2)
        (try clear hk)
        (try clear hi)
        refine hK.out _ _ ⟨ad,.slice cK bF.length cW,X,Z,ap,(by rw[ha.out];exact gI 9 aq rfl rfl rfl),(oK u),(oB z),fun _=>(oR aw),fun _=>(oR a4),bH,fun D=>absurd ((hoff 21 (by kernel_rfl)).symm.trans D) (by decide),fun D=>absurd ((hoff 22 (by kernel_rfl)).symm.trans D) (by decide)⟩
       refine gK ?_ ?_
       ·rintro b a w' ⟨ad,Y,X,Z,ap,ha,U,V,ai,ak,al,a9,be⟩ aq G hoff;refine⟨_,rfl,fun K hK=> ?_⟩;have e6:a.tmps[23]? =some (.string a1):=(by rw[ha];exact gH (e:=(14,23,.string a1)) 9 rfl rfl (G 14 (by kernel_rfl)) rfl);replace ha:=A_ ha;have u:=A_ U;have z:=A_ V;have aw:=A_ (ai (G 8 (by kernel_rfl)));have a4:=A_ (ak (G 13 (by kernel_rfl)));refine lC (w1:=w') (v:= .string ((⟨#[119,97,114,109,116,104,32]⟩:ByteArray)++a1)) (by rfl) rfl ?_ ?_
        ·go_simp
         (try simp only[bG])
         try rfl
        refine hK.out _ _ ⟨ad,Y,X,Z,ap,(by rw[ha.out];exact gI 10 aq rfl rfl rfl),U,V,ai,ak,al,fun D=>absurd ((hoff 21 (by kernel_rfl)).symm.trans D) (by decide),fun D=>absurd ((hoff 22 (by kernel_rfl)).symm.trans D) (by decide)⟩
       refine gK ?_ ?_
       ·rintro b a w' ⟨ad,Y,X,Z,ap,ha,U,V,ai,ak,al,a9,be⟩ aq G hoff;refine⟨_,rfl,fun K hK=> ?_⟩;have e8:a.tmps[25]? =some (.pointer (some ⟨ao,4,none⟩)):=(by rw[ha];exact(mB rfl).trans rfl);replace ha:=A_ ha;have u:=A_ U;have z:=A_ V;have cl:w'.cell? ⟨ao,0,none⟩=some (.slice bp bc.length bq):=cz u 0;have cm:w'.cell? ⟨ao,1,none⟩=some (.int .i64 aR):=cz u 1;have cn:w'.cell? ⟨ao,2,none⟩=some (.slice bd aU.length bf):=cz u 2;have co:w'.cell? ⟨ao,3,none⟩=some (.int .i64 aQ):=cz u 3;have cp:w'.cell? ⟨ao,4,none⟩=some (.int .i64 aE):=cz u 4;have cq:w'.cell? ⟨ao,5,none⟩=some (.slice bt F.length bs):=cz u 5;refine lC (w1:=w') (v:= .int .i64 aE) (by rfl) rfl ?_ ?_
        ·go_simp
         (try simp only[bG])
         try rfl
        refine hK.out _ _ ⟨ad,Y,X,Z,ap,(by rw[ha.out];exact gI 11 aq rfl rfl rfl),U,V,ai,ak,fun D=>absurd ((hoff 18 (by kernel_rfl)).symm.trans D) (by decide),fun D=>absurd ((hoff 21 (by kernel_rfl)).symm.trans D) (by decide),fun D=>absurd ((hoff 22 (by kernel_rfl)).symm.trans D) (by decide)⟩
       refine gK ?_ ?_
       ·rintro b a w' ⟨ad,Y,X,Z,ap,ha,U,V,ai,ak,al,a9,be⟩ aq G hoff;refine⟨_,rfl,fun K hK=> ?_⟩;have e9:a.tmps[26]? =some (.int .i64 aE):=(by rw[ha];exact gH (e:=(17,26,.int .i64 aE)) 11 rfl rfl (G 17 (by kernel_rfl)) rfl);replace ha:=A_ ha;have u:=A_ U;have z:=A_ V;refine Kd.kS (Kd.int .i64) _ 3 ?hg (N:=27) ?hd (xs:=([aE]:List Int)) (inner:=[.int .i64 aE]) (ok:=fun _=>True) (bB:=fun _=>True) ?hr ?hp (fun _ hk=>hk) trivial (Below.refl _ _) (Nat.le_refl _) (by simp) ?_;(case hd=>rfl);(case hg=>rfl);(case hr=>first|(go_simp;done)|(go_simp;rfl));(case hp=>exact(aI.one (show Kd.M (Kd.int .i64) _ _ _ aE [.int .i64 aE]from rfl) (aI.none _ _)));intro X bu az hb bC bD;clear bC bD
        (first|rw[←cS.out]at az|(simp only[Int.reduceToNat]at az;rw[←cS.out]at az))
        have I:=A_ (Kd.bE az (aA (oB z)));have J:=A_ (bb u hb);have am:=A_ (aC (oB z) hb);have b9:=fun(D:b 8=true)=>(show Kd.R (Kd.int .i64) 3 bu w.heap.size (fun _=>True) ad bM from by first|exact(Kd.dZ (by(with_reducible repeat(first|apply Kd.bm|apply Kd.br|apply Kd.a8));exact(ai D)) (Kd.dr az) hb)|exact Kd.bh (Kd.dZ (by(with_reducible repeat(first|apply Kd.bm|apply Kd.br|apply Kd.a8));exact(ai D)) (Kd.dr az) hb) (fun _ h_=>by first|trivial|exact h_|exact h_.1));have bR:=fun(D:b 13=true)=>(show Kd.R (Kd.int .i64) 3 bu w.heap.size (fun _=>True) Y bF from by first|exact(Kd.dZ (by(with_reducible repeat(first|apply Kd.bm|apply Kd.br|apply Kd.a8));exact(ak D)) (Kd.dr az) hb)|exact Kd.bh (Kd.dZ (by(with_reducible repeat(first|apply Kd.bm|apply Kd.br|apply Kd.a8));exact(ak D)) (Kd.dr az) hb) (fun _ h_=>by first|trivial|exact h_|exact h_.1));clear u z;have bk:=I;have u:=J;have z:=am;clear I J am hb az;refine hK.out _ _ ⟨ad,Y,X,Z,ap,(by rw[ha.out];exact gI 12 aq rfl rfl rfl),(oK u),(oB z),b9,bR,fun _=>(oR bk),fun D=>absurd ((hoff 21 (by kernel_rfl)).symm.trans D) (by decide),fun D=>absurd ((hoff 22 (by kernel_rfl)).symm.trans D) (by decide)⟩
       refine gK ?_ ?_
       ·rintro b a w' ⟨ad,Y,X,Z,ap,ha,U,V,ai,ak,al,a9,be⟩ aq G hoff;refine⟨_,rfl,fun K hK=> ?_⟩;have c6:a.tmps[27]? =some (X):=(by rw[ha];exact gH (e:=(18,27,X)) 12 rfl rfl (G 18 (by kernel_rfl)) rfl);replace ha:=A_ ha;have u:=A_ U;have z:=A_ V;have aw:=A_ (ai (G 8 (by kernel_rfl)));have a4:=A_ (ak (G 13 (by kernel_rfl)));have bk:=A_ (al (G 18 (by kernel_rfl)));obtain⟨cL,cX,c'⟩:=Kd.bz bk.out
        (first|subst c'|(injection c' with bI bV bJ;have bW:=bI.symm;have bY:=bJ.symm;clear bI bV bJ;subst bW;subst bY))
        refine cy Tryz.func33 (by kernel_rfl) rfl #[.slice cL bx.length cX] (by rfl) rfl rfl (by first|(simp only[List.map_toArray,List.map_cons,List.map_nil,Act.eval,Array.getD_eq_getD_getElem?,Option.getD_some,c6];done)|(simp only[List.map_toArray,List.map_cons,List.map_nil,Act.eval,Array.getD_eq_getD_getElem?,Option.getD_some,c6];rfl)) ?_
        with_reducible refine(b_.c k _ _ bx aK _ ?a6 ?a7 dJ.out ?ek).mono ?_
        (case ek=>exact⟨iN b1.out (oB z)⟩)
        (case a6=>repeat(first|exact(Kd.aY bk.out).2.2|(with_reducible refine Kd.cZ ?_ _)|(with_reducible refine Kd.dn ?_ _)|(with_reducible refine Kd.dm ?_)))
        (case a7=>exact(Kd.aY bk.out).2.1)
        rintro e fG ⟨rfl,hb⟩;refine⟨_,rfl,?_⟩;have I:=A_ (Kd.aV (oR aw) hb);have J:=A_ (Kd.aV (oR a4) hb);have am:=A_ (Kd.aV (oR bk) hb);have a0:=A_ (bb u hb);have bn:=A_ (aC (oB z) hb);clear aw a4 bk u z;have aw:=I;have a4:=J;have bk:=am;have u:=a0;have z:=bn;clear I J am a0 bn
        (try clear hb)
        (try clear hb2)
        (try clear hk)
        (try clear hi)
        refine hK.out _ _ ⟨ad,Y,.slice cL bx.length cX,Z,ap,(by rw[ha.out];exact gI 13 aq rfl rfl rfl),(oK u),(oB z),fun _=>(oR aw),fun _=>(oR a4),fun _=>(oR bk),fun D=>absurd ((hoff 21 (by kernel_rfl)).symm.trans D) (by decide),fun D=>absurd ((hoff 22 (by kernel_rfl)).symm.trans D) (by decide)⟩
       refine gK ?_ ?_
       ·rintro b a w' ⟨ad,Y,X,Z,ap,ha,U,V,ai,ak,al,a9,be⟩ aq G hoff;refine⟨_,rfl,fun K hK=> ?_⟩;have e_:a.tmps[28]? =some (.string aK):=(by rw[ha];exact gH (e:=(19,28,.string aK)) 13 rfl rfl (G 19 (by kernel_rfl)) rfl);replace ha:=A_ ha;have u:=A_ U;have z:=A_ V;have aw:=A_ (ai (G 8 (by kernel_rfl)));have a4:=A_ (ak (G 13 (by kernel_rfl)));have bk:=A_ (al (G 18 (by kernel_rfl)));refine lC (w1:=w') (v:= .string ((⟨#[109,111,109,101,110,116,32]⟩:ByteArray)++aK)) (by rfl) rfl ?_ ?_
        ·go_simp
         (try simp only[bG])
         try rfl
        refine hK.out _ _ ⟨ad,Y,X,Z,ap,(by rw[ha.out];exact gI 14 aq rfl rfl rfl),U,V,ai,ak,al,fun D=>absurd ((hoff 21 (by kernel_rfl)).symm.trans D) (by decide),fun D=>absurd ((hoff 22 (by kernel_rfl)).symm.trans D) (by decide)⟩
       refine gK ?_ ?_
       ·rintro b a w' ⟨ad,Y,X,Z,ap,ha,U,V,ai,ak,al,a9,be⟩ aq G hoff;refine⟨_,rfl,fun K hK=> ?_⟩;have eZ:a.tmps[13]? =some (.string ((⟨#[112,105,116,99,104,101,115,32]⟩:ByteArray)++a5)):=(by rw[ha];exact gH (e:=(4,13,.string ((⟨#[112,105,116,99,104,101,115,32]⟩:ByteArray)++a5))) 2 rfl rfl (G 4 (by kernel_rfl)) rfl);have e3:a.tmps[19]? =some (.string ((⟨#[100,111,110,101,32]⟩:ByteArray)++a2)):=(by rw[ha];exact gH (e:=(10,19,.string ((⟨#[100,111,110,101,32]⟩:ByteArray)++a2))) 6 rfl rfl (G 10 (by kernel_rfl)) rfl);have e7:a.tmps[24]? =some (.string ((⟨#[119,97,114,109,116,104,32]⟩:ByteArray)++a1)):=(by rw[ha];exact gH (e:=(15,24,.string ((⟨#[119,97,114,109,116,104,32]⟩:ByteArray)++a1))) 10 rfl rfl (G 15 (by kernel_rfl)) rfl);have e':a.tmps[29]? =some (.string ((⟨#[109,111,109,101,110,116,32]⟩:ByteArray)++aK)):=(by rw[ha];exact gH (e:=(20,29,.string ((⟨#[109,111,109,101,110,116,32]⟩:ByteArray)++aK))) 14 rfl rfl (G 20 (by kernel_rfl)) rfl);replace ha:=A_ ha;have u:=A_ U;have z:=A_ V;have aw:=A_ (ai (G 8 (by kernel_rfl)));have a4:=A_ (ak (G 13 (by kernel_rfl)));have bk:=A_ (al (G 18 (by kernel_rfl)));refine Kd.kS Kd.string _ 9 ?hg (N:=30) ?hd (xs:=([(⟨#[112,105,116,99,104,101,115,32]⟩:ByteArray)++a5,(⟨#[100,111,110,101,32]⟩:ByteArray)++a2,(⟨#[119,97,114,109,116,104,32]⟩:ByteArray)++a1,(⟨#[109,111,109,101,110,116,32]⟩:ByteArray)++aK]:List ByteArray)) (inner:=[.string ((⟨#[112,105,116,99,104,101,115,32]⟩:ByteArray)++a5),.string ((⟨#[100,111,110,101,32]⟩:ByteArray)++a2),.string ((⟨#[119,97,114,109,116,104,32]⟩:ByteArray)++a1),.string ((⟨#[109,111,109,101,110,116,32]⟩:ByteArray)++aK)]) (ok:=fun _=>True) (bB:=fun _=>True) ?hr ?hp (fun _ hk=>hk) trivial (Below.refl _ _) (Nat.le_refl _) (by simp) ?_;(case hd=>rfl);(case hg=>rfl);(case hr=>first|(go_simp;done)|(go_simp;rfl));(case hp=>exact(aI.one (show Kd.M Kd.string _ _ _ ((⟨#[112,105,116,99,104,101,115,32]⟩:ByteArray)++a5) [.string ((⟨#[112,105,116,99,104,101,115,32]⟩:ByteArray)++a5)]from rfl) (aI.one (show Kd.M Kd.string _ _ _ ((⟨#[100,111,110,101,32]⟩:ByteArray)++a2) [.string ((⟨#[100,111,110,101,32]⟩:ByteArray)++a2)]from rfl) (aI.one (show Kd.M Kd.string _ _ _ ((⟨#[119,97,114,109,116,104,32]⟩:ByteArray)++a1) [.string ((⟨#[119,97,114,109,116,104,32]⟩:ByteArray)++a1)]from rfl) (aI.one (show Kd.M Kd.string _ _ _ ((⟨#[109,111,109,101,110,116,32]⟩:ByteArray)++aK) [.string ((⟨#[109,111,109,101,110,116,32]⟩:ByteArray)++aK)]from rfl) (aI.none _ _))))));intro Z fH bZ hb bC bD;clear bC bD
        (first|rw[←cT.out]at bZ|(simp only[Int.reduceToNat]at bZ;rw[←cT.out]at bZ))
        have I:=A_ (Kd.aV (oR aw) hb);have J:=A_ (Kd.aV (oR a4) hb);have am:=A_ (Kd.aV (oR bk) hb);have a0:=A_ (Kd.bE bZ (aA (oB z)));have bn:=A_ (bb u hb);have b8:=A_ (aC (oB z) hb);clear aw a4 bk u z;have aw:=I;have a4:=J;have bk:=am;have b':=a0;have u:=bn;have z:=b8;clear I J am a0 bn b8 hb bZ;refine hK.out _ _ ⟨ad,Y,X,Z,ap,(by rw[ha.out];exact gI 15 aq rfl rfl rfl),(oK u),(oB z),fun _=>(oR aw),fun _=>(oR a4),fun _=>(oR bk),fun _=>(oR b'),fun D=>absurd ((hoff 22 (by kernel_rfl)).symm.trans D) (by decide)⟩
       refine gK ?_ ?_
       ·rintro b a w' ⟨ad,Y,X,Z,ap,ha,U,V,ai,ak,al,a9,be⟩ aq G hoff;refine⟨_,rfl,fun K hK=> ?_⟩;have fa:a.tmps[30]? =some (Z):=(by rw[ha];exact gH (e:=(21,30,Z)) 15 rfl rfl (G 21 (by kernel_rfl)) rfl);replace ha:=A_ ha;have u:=A_ U;have z:=A_ V;have aw:=A_ (ai (G 8 (by kernel_rfl)));have a4:=A_ (ak (G 13 (by kernel_rfl)));have bk:=A_ (al (G 18 (by kernel_rfl)));have b':=A_ (a9 (G 21 (by kernel_rfl)));refine lC (w1:=w') (v:=Z) (by rfl) rfl ?_ ?_
        ·go_simp
         (try simp only[bG])
         try rfl
        refine hK.out _ _ ⟨ad,Y,X,Z,(Z),(by rw[ha.out];exact gI 16 aq rfl rfl rfl),U,V,ai,ak,al,a9,fun _=>rfl⟩
       exact Cw
      rintro b a fI hall ⟨ad,Y,X,Z,ap,ha,U,V,ai,ak,al,a9,be⟩;clear u z;have dh:=hall 2 (by kernel_rfl);have di:=hall 3 (by kernel_rfl);have dj:=hall 4 (by kernel_rfl);have dk:=hall 7 (by kernel_rfl);have ck:=hall 8 (by kernel_rfl);have dl:=hall 9 (by kernel_rfl);have da:=hall 10 (by kernel_rfl);have db:=hall 12 (by kernel_rfl);have cg:=hall 13 (by kernel_rfl);have dc:=hall 14 (by kernel_rfl);have dd:=hall 15 (by kernel_rfl);have de:=hall 17 (by kernel_rfl);have ch:=hall 18 (by kernel_rfl);have df:=hall 19 (by kernel_rfl);have dg:=hall 20 (by kernel_rfl);have ci:=hall 21 (by kernel_rfl);have cj:=hall 22 (by kernel_rfl);subst ha;obtain rfl:=be cj;simp only[fK,dh,di,dj,dk,ck,dl,da,db,cg,dc,dd,de,ch,df,dg,ci,cj,if_true,Act.put,List.setIfInBounds_toArray,List.set_cons_zero,List.set_cons_succ];have u:=A_ U;clear U;have z:=A_ V;clear V;have aw:=A_ (ai ck);clear ai;have a4:=A_ (ak cg);clear ak;have bk:=A_ (al ch);clear al;have b':=A_ (a9 ci);clear a9 hall dh di dj dk ck dl da db cg dc dd de ch df dg ci cj;have ep:=cz u 0;have er:=cz u 1;have es:=cz u 2;have et:=cz u 3;have eu:=cz u 4;have ev:=cz u 5;have eC:=ar u.out 0;have eE:=ar u.out 1;have eI:=ar u.out 2;have eL:=ar u.out 3;have eM:=ar u.out 4;have eN:=ar u.out 5
      try go_wp2
      go_loopg [3,34] k (fun dC v3 v34 w'=>∃(bL:List ByteArray) (O:Int),v34= .int .i64 O∧ae (eh.l0 dC bL F (F.length:Int) O=some r)∧ae (dC≤k)∧ae (Kd.R Kd.string 9 w' w.heap.size (fun _=>True) v3 bL)∧ae (w'.heap[ao]? =some (.cells #[(.slice bp bc.length bq),.int .i64 aR,(.slice bd aU.length bf),.int .i64 aQ,.int .i64 aE,(.slice bt F.length bs)] 30 (0,0)))∧ae (Below w.heap.size w w'))
      case atStart=>exact⟨(cw),(0),eS,H',⟨Nat.le_refl _⟩,⟨oR b'⟩,⟨oK u⟩,⟨oB z⟩⟩
      case round=>
       clear H'
       try clear c1
       try clear c2
       try clear p2
       try clear c3
       try clear c4
       try clear c5
       try clear d4
       try clear d5
       try clear d6
       try clear c7
       try clear d7
       try clear d8
       try clear d9
       try clear c9
       try clear d'
       try clear ea
       try clear eb
       try clear c11
       try clear d0
       try clear d1
       try clear d2
       try clear c12
       try clear c28
       try clear ei
       try clear ej
       try clear el
       try clear em
       try clear en
       try clear eo
       try clear ep
       try clear er
       try clear es
       try clear et
       try clear eu
       try clear ev
       try clear ew
       try clear ex
       try clear ey
       try clear ez
       try clear eA
       try clear eB
       try clear eC
       try clear eE
       try clear eI
       try clear eL
       try clear eM
       try clear eN
       obtain⟨bL,O,rfl,cc,cO,bo,u,z⟩:=hrel;cases gk with
       |zero=>exact absurd cc.out (by simp[eh.l0])
       |succ k1=>
        have H:=cc.out;clear cc;simp only[eh.l0]at H;by_cases bS:O<(F.length:Int)
        ·rw[af bS]at H;have d3:decide (O<(F.length:Int))=true:=ah bS;clear bS;by_cases ca:0≤O
         ·rw[af ca]at H;have eU:decide (0≤O)=true:=ah ca;clear ca;by_cases cb:O<(F.length:Int)
          ·rw[af cb]at H;have eV:decide (O<(F.length:Int))=true:=ah cb;clear cb;obtain⟨cA,b6⟩:∃bv:List Int,bv=(([(au F O).f0.f0,(au F O).f0.f1,(au F O).f1,(au F O).f2]:List Int)):=⟨_,rfl⟩;replace H:((b_.f k1 cA).bind fun bT=>(if bL.length<8796093022208 then(eh.l0 k1 (bL++[bT]) F (F.length:Int) (wrap64 (O+1)))else(none)))=some r:=by first|(rw[b6];with_reducible exact H)|(have a3:=(aG _ _).symm.trans H;rw[b6];with_reducible exact a3)|(have a3:=(aG _ _).symm.trans H;with_reducible exact a3)|with_reducible exact H|(rw[b6];exact H)|exact H
           have cU:=A_ b6;clear b6;replace H:=aD H;obtain⟨bT,cD,H⟩:=H
           (try dsimp only at H)
           have dK:=A_ cD;clear cD;by_cases c37:bL.length<8796093022208
           ·rw[af c37]at H;have dU:=A_ c37;clear c37;obtain⟨dI,b7⟩:∃bv:List ByteArray,bv=(bL++[bT]):=⟨_,rfl⟩;replace H:(eh.l0 k1 dI F (F.length:Int) (wrap64 (O+1)))=some r:=by first|(rw[b7];with_reducible exact H)|(have a3:=(aG _ _).symm.trans H;rw[b7];with_reducible exact a3)|(have a3:=(aG _ _).symm.trans H;with_reducible exact a3)|with_reducible exact H|(rw[b7];exact H)|exact H
            have dW:=A_ b7;clear b7;have H':=A_ H;clear H;have ct:0≤(O:Int):=oD;have cu:O<(F.length:Int):=oD;obtain⟨dY,ef,dy,dz,dA,dB⟩:=eW cf.out O ct cu;cases ef;replace dy:=hW z dy;replace dz:=hW z dz;replace dA:=hW z dA;replace dB:=hW z dB;replace ct:=av ct;replace cu:=av cu
            go_wp2_with (first|((with_reducible refine ax (N:=5) rfl ?_);refine bX (N:=5) (cs:= #[.int .i64 0,.int .i64 0,.int .i64 0,.int .i64 0]) (t:=64) ?_;intro bQ hg fJ bK hb;have I:=A_ (Kd.aV (oR bo) hb);have J:=A_ (bb u hb);have am:=A_ (aC (oB z) hb);have a0:=A_ (bK);have bn:=A_ ((by rw[hg];exact(aA (oB z)):w.heap.size≤bQ));have b8:=A_ ((by rw[hg];exact(aA (oB z)):w.heap.size≤bQ));have dE:=A_ (nL u hg);have dF:=A_ (nG u hg);clear bo u z;have bo:=I;have u:=J;have z:=am;have a_:=a0;have eT:=bn;have eQ:=b8;have bU:=dE;have dV:=dF;clear I J am a0 bn b8 dE dF hb bK hg;have fz:=dV.out;have fA:=bU.out;have fb:=cz a_ 0;have fc:=cz a_ 1;have fd:=cz a_ 2;have fe:=cz a_ 3;have fm:=ar a_.out 0;have fo:=ar a_.out 1;have fp:=ar a_.out 2;have fr:=ar a_.out 3)|((with_reducible refine ax (N:=49) rfl ?_);refine Kd.cx (Kd.int .i64) _ 3 ?hg (N:=49) ?hd (xs:=([(au F O).f0.f0,(au F O).f0.f1,(au F O).f1,(au F O).f2]:List Int)) (inner:=[.int .i64 ((au F O).f0.f0),.int .i64 ((au F O).f0.f1),.int .i64 ((au F O).f1),.int .i64 ((au F O).f2)]) (ok:=fun _=>True) (bB:=fun _=>True) ?hr ?hp (fun _ hk=>hk) trivial (Below.refl _ _) (Nat.le_refl _) (by simp) ?_;(case hd=>rfl);(case hg=>rfl);(case hr=>first|(go_simp;done)|(go_simp;rfl));(case hp=>exact(aI.one (show Kd.M (Kd.int .i64) _ _ _ ((au F O).f0.f0) [.int .i64 ((au F O).f0.f0)]from rfl) (aI.one (show Kd.M (Kd.int .i64) _ _ _ ((au F O).f0.f1) [.int .i64 ((au F O).f0.f1)]from rfl) (aI.one (show Kd.M (Kd.int .i64) _ _ _ ((au F O).f1) [.int .i64 ((au F O).f1)]from rfl) (aI.one (show Kd.M (Kd.int .i64) _ _ _ ((au F O).f2) [.int .i64 ((au F O).f2)]from rfl) (aI.none _ _))))));intro fC fL b0 hb bC bD;clear bC bD;(first|rw[←cU.out]at b0|(simp only[Int.reduceToNat]at b0;rw[←cU.out]at b0));have I:=A_ (Kd.aV (by(with_reducible repeat(first|apply Kd.bm|apply Kd.br|apply Kd.a8));exact(Kd.bh (Kd.aJ (p:=⟨bQ,3,none⟩) (Kd.aJ (p:=⟨bQ,2,none⟩) (Kd.aJ (p:=⟨bQ,1,none⟩) (Kd.aJ (p:=⟨bQ,0,none⟩) (Kd.dD bo.out a_.out (by decide)) (fun _ hk=>hk.2) (.int .i64 ((au F O).f0.f0))) (fun _ hk=>hk.2) (.int .i64 ((au F O).f0.f1))) (fun _ hk=>hk.2) (.int .i64 ((au F O).f1))) (fun _ hk=>hk.2) (.int .i64 ((au F O).f2))) (fun _ h_=>h_.1))) hb);have J:=A_ (Kd.bE b0 (aA (oB z)));have am:=A_ (fV (g:=ao) (o:= .cells #[.slice bp bc.length bq,.int .i64 aR,.slice bd aU.length bf,.int .i64 aQ,.int .i64 aE,.slice (some dY) F.length bs] 30 (0,0)) (by(with_reducible repeat(first|refine aT ?_ _|refine aM ?_|refine aN ?_ _));refine dx ?_ bU.out _;(with_reducible repeat(first|refine aT ?_ _|refine aM ?_|refine aN ?_ _));refine dx ?_ bU.out _;(with_reducible repeat(first|refine aT ?_ _|refine aM ?_|refine aN ?_ _));refine dx ?_ bU.out _;(with_reducible repeat(first|refine aT ?_ _|refine aM ?_|refine aN ?_ _));refine dx ?_ bU.out _;(with_reducible repeat(first|refine aT ?_ _|refine aM ?_|refine aN ?_ _));exact u.out) hb);have a0:=A_ (fV (g:=bQ) (o:= .cells #[.int .i64 ((au F O).f0.f0),.int .i64 ((au F O).f0.f1),.int .i64 ((au F O).f1),.int .i64 ((au F O).f2)] 64 (0,0)) (by(with_reducible repeat(first|refine aT ?_ _|refine aM ?_|refine aN ?_ _));refine bw (cs:= #[.int .i64 ((au F O).f0.f0),.int .i64 ((au F O).f0.f1),.int .i64 ((au F O).f1),.int .i64 0]) ?_ 3 _ rfl;(with_reducible repeat(first|refine aT ?_ _|refine aM ?_|refine aN ?_ _));refine bw (cs:= #[.int .i64 ((au F O).f0.f0),.int .i64 ((au F O).f0.f1),.int .i64 0,.int .i64 0]) ?_ 2 _ rfl;(with_reducible repeat(first|refine aT ?_ _|refine aM ?_|refine aN ?_ _));refine bw (cs:= #[.int .i64 ((au F O).f0.f0),.int .i64 0,.int .i64 0,.int .i64 0]) ?_ 1 _ rfl;(with_reducible repeat(first|refine aT ?_ _|refine aM ?_|refine aN ?_ _));refine bw (cs:= #[.int .i64 0,.int .i64 0,.int .i64 0,.int .i64 0]) ?_ 0 _ rfl;(with_reducible repeat(first|refine aT ?_ _|refine aM ?_|refine aN ?_ _));exact a_.out) hb);have bn:=A_ (aC (oB z) hb);clear bo u a_ z;have bo:=I;have bA:=J;have u:=am;have a_:=a0;have z:=bn;clear I J am a0 bn hb b0;obtain⟨dO,ec,eg⟩:=Kd.bz bA.out;subst eg)|((with_reducible refine aZ (f:=33) rfl ?_);refine gL (some 50) Tryz.func33 #[.slice dO cA.length ec] ?_;(with_reducible refine(b_.c k1 _ _ cA bT _ ?a6 ?a7 dK.out ?ek).mono ?_);(case ek=>exact⟨iN b1.out (oB z)⟩);(case a6=>repeat(first|exact(Kd.aY bA.out).2.2|(with_reducible refine Kd.cZ ?_ _)|(with_reducible refine Kd.dn ?_ _)|(with_reducible refine Kd.dm ?_)));(case a7=>exact(Kd.aY bA.out).2.1);rintro e fM ⟨rfl,hb⟩;refine⟨_,rfl,?_⟩;have I:=A_ (Kd.aV (oR bo) hb);have J:=A_ (Kd.aV (oR bA) hb);have am:=A_ (bb u hb);have a0:=A_ (bb a_ hb);have bn:=A_ (aC (oB z) hb);clear bo bA u a_ z;have bo:=I;have bA:=J;have u:=am;have a_:=a0;have z:=bn;clear I J am a0 bn;(try clear hb);(try clear hb2);(try clear hk);(try clear hi))|((with_reducible refine dP (b:= .append) (xs:= #[.tmp 38,.tmp 51]) rfl ?_);at_builtin;refine Kd.eF Kd.string (w0:=w) w.heap.size rfl (.tmp 38) (.tmp 51) 38 9 (.string ⟨#[]⟩) 16 rfl Tryz.underlying38 ld rfl (by decide) (by omega) u3 bL bT [.string bT] (fun _=>True) (fun _=>False) rfl rfl ?aP (fun _ hk=>hk.elim) ?aF ?aO ?aB ?aS ?aL ?_;(case aP=>exact rfl);(case aB=>exact(oB z));(case aF=>exact(fun _ _=>trivial));(case aO=>exact(oR bo));(case aS=>exact(aA (oB z)));(case aL=>have:=dU.out;omega);intro fD fN ho hb hg hat;rw[←dW.out]at ho;have I:=A_ (bg u hg (Kd.fU bo.out u.out (by decide)));have J:=A_ (bg a_ hg (Kd.fU bo.out a_.out (by decide)));have am:=A_ (Kd.eG (oR bA) (Kd.eH (oR bo)) (by decide) hg);have a0:=A_ (hb);have bn:=A_ (ho);clear u a_ bA z bo;have u:=I;have a_:=J;have bA:=am;have z:=a0;have dS:=bn;clear I J am a0 bn ho hb hg hat))
            go_roundg k1
            case measure=>have:=cO.out;omega
            case rel=>exact⟨(dI),(wrap64 (O+1)),eS,H',⟨by have:=cO.out;omega⟩,⟨oR dS⟩,⟨oK u⟩,⟨oB z⟩⟩
           ·rw[ag c37]at H;exact absurd H (by simp)
          ·rw[ag cb]at H;exact absurd H (by simp)
         ·rw[ag ca]at H;exact absurd H (by simp)
        ·rw[ag bS]at H;have d3:decide (O<(F.length:Int))=false:=ay bS;clear bS;obtain rfl:=aH H;go_wp2;go_ret;exact⟨_,eR,oR bo,oB z⟩
     ·rw[ag c11]at H;exact absurd H (by simp)
    ·rw[ag c9]at H;exact absurd H (by simp)
   ·rw[ag c7]at H;exact absurd H (by simp)
  ·rw[ag c5]at H;exact absurd H (by simp)
 ·replace c3:=Bool.eq_false_iff.mpr c3;subst c3;rw[ag (show¬(false=true)by decide)]at H;obtain rfl:=aH H;go_enter Tryz.func12,Tryz.ntmps12
  go_wp2_with (first|((with_reducible refine ax (N:=1) rfl ?_);refine bX (N:=1) (cs:= #[.slice bp bc.length bq,.int .i64 aR,.slice bd aU.length bf,.int .i64 aQ,.int .i64 aE,.slice bt F.length bs]) (t:=30) ?_;intro ao hg fO bK hb;have I:=A_ (aC (oB z) hb);have J:=A_ (bK);have am:=A_ ((by rw[hg];exact(aA (oB z)):w.heap.size≤ao));have a0:=A_ ((by rw[hg];exact(aA (oB z)):w.heap.size≤ao));clear z;have z:=I;have u:=J;have dR:=am;have dQ:=a0;clear I J am a0 hb bK hg;have ff:=cz u 0;have fg:=cz u 1;have fh:=cz u 2;have fi:=cz u 3;have fj:=cz u 4;have fl:=cz u 5;have fs:=ar u.out 0;have fu:=ar u.out 1;have fv:=ar u.out 2;have fw:=ar u.out 3;have fx:=ar u.out 4;have fy:=ar u.out 5)|((with_reducible refine aZ (f:=28) rfl ?_);refine gL (some 7) Tryz.func28 #[.agg #[.slice bp bc.length bq,.int .i64 aR,.slice bd aU.length bf,.int .i64 aQ,.int .i64 aE,.slice bt F.length bs]] ?_;(with_reducible refine(eD.c k _ _ bc aR _ _ aU aQ aE _ _ F false _ ?a6 ?a7 ?cG ?cH ?fq ?ft A2.out).mono ?_);(case a6=>exact bO cP.out);(case a7=>exact cM.out);(case cG=>exact bO ce.out);(case cH=>exact cd.out);(case fq=>exact bO cf.out);(case ft=>exact cN.out);rintro e fQ ⟨rfl,hb⟩;refine⟨_,rfl,?_⟩;have I:=A_ (bb u hb);have J:=A_ (aC (oB z) hb);clear u z;have u:=I;have z:=J;clear I J;(try clear hb);(try clear hb2);(try clear hk);(try clear hi)))
  go_ret;exact⟨_,eR,by first|exact Kd.bj _ _ _ _ _|exact Kd.jF _ _ _ _ _|exact Kd.jI _ _ _ _ _|exact Kd.jG _ _ _ _ _|exact Kd.jH _ _ _ _ _,oB z⟩
end P
namespace P
set_option maxHeartbeats 8000000
set_option maxRecDepth 100000
set_option synthInstance.maxHeartbeats 400000
set_option synthInstance.maxSize 100000
open Go.RowKit WW.bq WW.cg WW.cd V
attribute [local go_sem] dN dO
attribute [local go_sem] cN cR cQ cU cP cT cO cS
def iK.f (k:Nat) (l0:List (S64)):Option (Bool):=some (Q.dK l0)
attribute [local go_sem] iY
theorem iK.c (k:Nat) (A0:Option Addr) (c0:Nat) (l0:List (S64)) (r:Bool) (w:World) (Z:Kd.C aW w A0 l0.length l0) (hc0:l0.length≤c0) (h:iK.f k l0=some r):
  Calls Tryz.prog 71 #[.slice A0 l0.length c0] w fun e w'=>e= .returned (.bool r)∧Below w.heap.size w w':=by
 have win:∀(a b c:Int) (d:Bool),decide (b≤a∧a≤c)=d→ae (∀W:World,Calls Tryz.prog 72 #[.int .i64 a,.int .i64 b,.int .i64 c] W fun e w'=>e= .returned (.bool d)∧bD W w'):=fun a b c d hd=>
  ⟨fun W=>cu.c a b c d W (by rw[←hd];unfold cu.f;by_cases hh:a≥b<;>simp[hh]<;>omega)⟩
 have hm:l0.length≤9223372036854775807:=Kd.mV Z;have u:ae ((Q.fB (Q.e6 l0 0) (l0.drop 0)&&decide (l0.length≤30))=r):=⟨aH h⟩;have F:=A_ Z;have K:=A_ win;clear Z h win;have hu:=Tryz.underlying64;go_enter Tryz.func71,Tryz.ntmps71;go_wp2
 go_loopg [3] (l0.length+1) (fun ao v3 w'=>∃(i:Nat),v3= .int .i64 (i:Int)∧ae (i+ao=l0.length+1)∧ae (i≤l0.length)∧ae ((Q.fB (Q.e6 l0 i) (l0.drop i)&&decide (l0.length≤30))=r)∧ae (Below w.heap.size w w'))
 case atStart=>exact⟨0,rfl,⟨by omega⟩,⟨by omega⟩,u,⟨by repeat(first|exact Below.refl _ _|apply cj|apply dM|apply cr)⟩⟩
 case round=>
  clear u;obtain⟨i,rfl,ai,aj,u,G⟩:=hrel;have ar:From w wr:=⟨G.out⟩;have aw:Sz w wr:=⟨G.out.size⟩;by_cases hlt:i<l0.length;rotate_left
  ·have hb3:decide ((i:Int)<(l0.length:Int))=false:=ay (by omega);have hb4:decide (i<l0.length)=false:=ay (by omega);obtain rfl:i=l0.length:=(by have:=aj.out;omega);have ak:ae (decide (l0.length≤30)=r):=⟨by rw[←u.out,List.drop_eq_nil_of_le (Nat.le_refl _)];simp[Q.fB]⟩;have hx1:decide ((l0.length:Int)≤30)=r:=(by rw[←ak.out];exact decide_eq_decide.mpr (by omega));clear u F K;go_wp2;go_ret;exact⟨by first|rfl|(simp[hx1];done),G.out⟩
  ·have hb3:decide ((i:Int)<(l0.length:Int))=true:=ah (by omega);have hb4:decide (i<l0.length)=true:=ah hlt;obtain⟨ad,e,hx0,hx1,hx2,hx3⟩:=eW F.out (i:Int) (by omega) (by omega);cases e;obtain⟨x,hx⟩:∃x,au l0 (i:Int)=x:=⟨_,rfl⟩;rw[hx]at hx0 hx1 hx2 hx3;simp only[Int.toNat_natCast]at hx0 hx1 hx2 hx3;have j0:dC wr _ _:=⟨hW G hx0⟩;have j1:dC wr _ _:=⟨hW G hx1⟩;have j2:dC wr _ _:=⟨hW G hx2⟩;have J:dC wr _ _:=⟨hW G hx3⟩;have e0:l0[i]=x:=(by rw[←hx];simp[au,List.getD_eq_getElem?_getD,hlt]);have HD:=A_ (Q.uz l0 i hlt);rw[e0]at HD;obtain⟨b1,hb1⟩:∃b,decide (0≤x.f0.f0∧x.f0.f0≤3)=b:=⟨_,rfl⟩;obtain⟨b2,hb2⟩:∃b,decide (0≤x.f0.f1∧x.f0.f1≤39)=b:=⟨_,rfl⟩;obtain⟨b3,Y⟩:∃b,decide (0≤x.f1∧x.f1≤2)=b:=⟨_,rfl⟩;obtain⟨b4,U⟩:∃b,decide (0≤x.f2∧x.f2≤100000)=b:=⟨_,rfl⟩;have W1:=K.out _ _ _ _ hb1;have W2:=K.out _ _ _ _ hb2;have W3:=K.out _ _ _ _ Y;have D:=K.out _ _ _ _ U;have z:ae (Q.l_ x=(b1&&(b2&&(b3&&b4)))):=⟨by rw[←hb1,←hb2,←Y,←U];rfl⟩;have I:ae (0<i→Q.e6 l0 i=(au l0 ((i-1:Nat):Int)).f2):=⟨fun h0=>by rw[Q.vn l0 i h0 hlt];simp[au,List.getD_eq_getElem?_getD,show i-1<l0.length by omega]⟩;have H:ae (b4=true→i=0→Q.e6 l0 i≤x.f2):=⟨fun h4 h0=>by subst h0;rw[h4,decide_eq_true_eq]at U;exact U.1⟩;clear hx hx0 hx1 hx2 hx3 e0 K hb1 hb2 Y U;cases b1 with
   |false=>
    obtain rfl:false=r:=(by rw[←u.out,HD.out,z.out];rfl);clear F u HD z I H
    go_wp2_with (first|((with_reducible refine ax (N:=4) rfl ?_);refine bV #[.int .i64 0,.int .i64 0,.int .i64 0,.int .i64 0] 64 fun g w1 j1 j2 J=> ?_)|(go_at_call 72;(first|(with_reducible refine(W1.out _).mono ?_)|(with_reducible refine(W2.out _).mono ?_)|(with_reducible refine(W3.out _).mono ?_)|(with_reducible refine(D.out _).mono ?_));rintro e w' ⟨rfl,⟨nd,rfl⟩⟩))
    repeat(go_quiet (first|(go_at_call 72;(first|(with_reducible refine(W1.out _).mono ?_)|(with_reducible refine(W2.out _).mono ?_)|(with_reducible refine(W3.out _).mono ?_)|(with_reducible refine(D.out _).mono ?_));rintro e w' ⟨rfl,⟨nd,rfl⟩⟩;exact⟨rfl,_,World.drewN_drewN _ _ _⟩));try go_wp2)
    go_ret;exact⟨rfl,From.out⟩
   |true=>
    cases b2 with
    |false=>
     obtain rfl:false=r:=(by rw[←u.out,HD.out,z.out];rfl);clear F u HD z I H
     go_wp2_with (first|((with_reducible refine ax (N:=4) rfl ?_);refine bV #[.int .i64 0,.int .i64 0,.int .i64 0,.int .i64 0] 64 fun g w1 j1 j2 J=> ?_)|(go_at_call 72;(first|(with_reducible refine(W1.out _).mono ?_)|(with_reducible refine(W2.out _).mono ?_)|(with_reducible refine(W3.out _).mono ?_)|(with_reducible refine(D.out _).mono ?_));rintro e w' ⟨rfl,⟨nd,rfl⟩⟩))
     repeat(go_quiet (first|(go_at_call 72;(first|(with_reducible refine(W1.out _).mono ?_)|(with_reducible refine(W2.out _).mono ?_)|(with_reducible refine(W3.out _).mono ?_)|(with_reducible refine(D.out _).mono ?_));rintro e w' ⟨rfl,⟨nd,rfl⟩⟩;exact⟨rfl,_,World.drewN_drewN _ _ _⟩));try go_wp2)
     go_ret;exact⟨rfl,From.out⟩
    |true=>
     cases b3 with
     |false=>
      obtain rfl:false=r:=(by rw[←u.out,HD.out,z.out];rfl);clear F u HD z I H
      go_wp2_with (first|((with_reducible refine ax (N:=4) rfl ?_);refine bV #[.int .i64 0,.int .i64 0,.int .i64 0,.int .i64 0] 64 fun g w1 j1 j2 J=> ?_)|(go_at_call 72;(first|(with_reducible refine(W1.out _).mono ?_)|(with_reducible refine(W2.out _).mono ?_)|(with_reducible refine(W3.out _).mono ?_)|(with_reducible refine(D.out _).mono ?_));rintro e w' ⟨rfl,⟨nd,rfl⟩⟩))
      repeat(go_quiet (first|(go_at_call 72;(first|(with_reducible refine(W1.out _).mono ?_)|(with_reducible refine(W2.out _).mono ?_)|(with_reducible refine(W3.out _).mono ?_)|(with_reducible refine(D.out _).mono ?_));rintro e w' ⟨rfl,⟨nd,rfl⟩⟩;exact⟨rfl,_,World.drewN_drewN _ _ _⟩));try go_wp2)
      go_ret;exact⟨rfl,From.out⟩
     |true=>
      cases b4 with
      |false=>
       obtain rfl:false=r:=(by rw[←u.out,HD.out,z.out];rfl);clear F u HD z I H
       go_wp2_with (first|((with_reducible refine ax (N:=4) rfl ?_);refine bV #[.int .i64 0,.int .i64 0,.int .i64 0,.int .i64 0] 64 fun g w1 j1 j2 J=> ?_)|(go_at_call 72;(first|(with_reducible refine(W1.out _).mono ?_)|(with_reducible refine(W2.out _).mono ?_)|(with_reducible refine(W3.out _).mono ?_)|(with_reducible refine(D.out _).mono ?_));rintro e w' ⟨rfl,⟨nd,rfl⟩⟩))
       repeat(go_quiet (first|(go_at_call 72;(first|(with_reducible refine(W1.out _).mono ?_)|(with_reducible refine(W2.out _).mono ?_)|(with_reducible refine(W3.out _).mono ?_)|(with_reducible refine(D.out _).mono ?_));rintro e w' ⟨rfl,⟨nd,rfl⟩⟩;exact⟨rfl,_,World.drewN_drewN _ _ _⟩));try go_wp2)
       go_ret;exact⟨rfl,From.out⟩
      |true=>
       have hs:(i:Int)+1≤9223372036854775807:=(by omega);by_cases hz:i=0
       ·have hz1:decide ((i:Int)>0)=false:=ay (by omega);have hz2:decide ((0:Int)<(i:Int))=false:=ay (by omega);have hz3:decide (0<i)=false:=ay (by omega);have X:ae ((Q.fB (Q.e6 l0 (i+1)) (l0.drop (i+1))&&decide (l0.length≤30))=r):=⟨by rw[←u.out,HD.out,z.out,show decide (Q.e6 l0 i≤x.f2)=true from ah (H.out rfl hz)];rfl⟩;clear u HD z I H hz
        go_wp2_with (first|((with_reducible refine ax (N:=4) rfl ?_);refine bV #[.int .i64 0,.int .i64 0,.int .i64 0,.int .i64 0] 64 fun g w1 j1 j2 J=> ?_)|(go_at_call 72;(first|(with_reducible refine(W1.out _).mono ?_)|(with_reducible refine(W2.out _).mono ?_)|(with_reducible refine(W3.out _).mono ?_)|(with_reducible refine(D.out _).mono ?_));rintro e w' ⟨rfl,⟨nd,rfl⟩⟩))
        repeat(go_quiet (first|(go_at_call 72;(first|(with_reducible refine(W1.out _).mono ?_)|(with_reducible refine(W2.out _).mono ?_)|(with_reducible refine(W3.out _).mono ?_)|(with_reducible refine(D.out _).mono ?_));rintro e w' ⟨rfl,⟨nd,rfl⟩⟩;exact⟨rfl,_,World.drewN_drewN _ _ _⟩));try go_wp2)
        go_roundg (l0.length-i)
        case measure=>have:=ai.out;omega
        case rel=>exact⟨i+1,by go_num,⟨by omega⟩,⟨by omega⟩,X,⟨From.out⟩⟩
       ·obtain⟨j,hj⟩:∃j,j=i-1:=⟨_,rfl⟩;have hz1:decide ((i:Int)>0)=true:=ah (by omega);have hz2:decide ((0:Int)<(i:Int))=true:=ah (by omega);have hz3:decide (0<i)=true:=ah (by omega);have hw1:wrap64 ((i:Int)-1)=(j:Int):=(by unfold wrap64;omega);have hw2:IntKind.i64.wrap ((i:Int)-1)=(j:Int):=(by rw[bG];exact hw1);have hj1:(j:Int)<(l0.length:Int):=(by omega);have hj2:j<l0.length:=(by omega);have hl1:decide ((j:Int)<(l0.length:Int))=true:=ah (by omega);have hl2:decide (j<l0.length)=true:=ah (by omega);obtain⟨ap,e2,_,_,_,V⟩:=eW F.out (j:Int) (by omega) (by omega);cases e2;obtain⟨y,hy⟩:∃y,au l0 (j:Int)=y:=⟨_,rfl⟩;have O:=A_ (I.out (by omega));rw[←hj,hy]at O;rw[hy]at V;simp only[Int.toNat_natCast]at V;have aq:dC wr _ _:=⟨hW G V⟩;clear hy V I hj;by_cases h5:y.f2≤x.f2
        ·have al:decide (y.f2>x.f2)=false:=ay (by omega);have am:decide (x.f2<y.f2)=false:=ay (by omega);have X:ae ((Q.fB (Q.e6 l0 (i+1)) (l0.drop (i+1))&&decide (l0.length≤30))=r):=⟨by rw[←u.out,HD.out,z.out,show decide (Q.e6 l0 i≤x.f2)=true from ah (by rw[O.out];exact h5)];rfl⟩;clear u HD z O H F
         go_wp2_with (first|((with_reducible refine ax (N:=4) rfl ?_);refine bV #[.int .i64 0,.int .i64 0,.int .i64 0,.int .i64 0] 64 fun g w1 j1 j2 J=> ?_)|(go_at_call 72;(first|(with_reducible refine(W1.out _).mono ?_)|(with_reducible refine(W2.out _).mono ?_)|(with_reducible refine(W3.out _).mono ?_)|(with_reducible refine(D.out _).mono ?_));rintro e w' ⟨rfl,⟨nd,rfl⟩⟩))
         repeat(go_quiet (first|(go_at_call 72;(first|(with_reducible refine(W1.out _).mono ?_)|(with_reducible refine(W2.out _).mono ?_)|(with_reducible refine(W3.out _).mono ?_)|(with_reducible refine(D.out _).mono ?_));rintro e w' ⟨rfl,⟨nd,rfl⟩⟩;exact⟨rfl,_,World.drewN_drewN _ _ _⟩));try go_wp2)
         go_roundg (l0.length-i)
         case measure=>have:=ai.out;omega
         case rel=>exact⟨i+1,by go_num,⟨by omega⟩,⟨by omega⟩,X,⟨From.out⟩⟩
        ·have al:decide (y.f2>x.f2)=true:=ah (by omega);have am:decide (x.f2<y.f2)=true:=ah (by omega);obtain rfl:false=r:=(by rw[←u.out,HD.out,z.out,show decide (Q.e6 l0 i≤x.f2)=false from ay (by rw[O.out];exact h5)];rfl);clear u HD z O H F
         go_wp2_with (first|((with_reducible refine ax (N:=4) rfl ?_);refine bV #[.int .i64 0,.int .i64 0,.int .i64 0,.int .i64 0] 64 fun g w1 j1 j2 J=> ?_)|(go_at_call 72;(first|(with_reducible refine(W1.out _).mono ?_)|(with_reducible refine(W2.out _).mono ?_)|(with_reducible refine(W3.out _).mono ?_)|(with_reducible refine(D.out _).mono ?_));rintro e w' ⟨rfl,⟨nd,rfl⟩⟩))
         repeat(go_quiet (first|(go_at_call 72;(first|(with_reducible refine(W1.out _).mono ?_)|(with_reducible refine(W2.out _).mono ?_)|(with_reducible refine(W3.out _).mono ?_)|(with_reducible refine(D.out _).mono ?_));rintro e w' ⟨rfl,⟨nd,rfl⟩⟩;exact⟨rfl,_,World.drewN_drewN _ _ _⟩));try go_wp2)
         go_ret;exact⟨rfl,From.out⟩
end P
namespace P
set_option maxHeartbeats 8000000
set_option maxRecDepth 100000
open Go.RowKit WW.bq WW.cg WW.cd
attribute [local go_sem] cN cR cQ cU cP cT cO cS
attribute [local go_sem high] ym
mutual
def bH.l0:Nat→List (S64)→List (S64)→Int→Option ((List (S64)))
 |0,_,_,_=>none
 |k+1,x0,x3,u=>if u<(x0.length:Int)then((iK.f k x0).bind fun z=>(bH.j1 k x0 x3 u z))else(bH.j1 k x0 x3 u false)
def bH.j1:Nat→List (S64)→List (S64)→Int→Bool→Option ((List (S64)))
 |0,_,_,_,_=>none
 |k+1,x0,x3,u,z=>if z=true then(if 0≤u then(if u<(x0.length:Int)then(bH.l1 k x0 x3 u (((au x0 u).f1) != 0) (wrap64 (u+1)))else(none))else(none))else(some x3)
def bH.l1:Nat→List (S64)→List (S64)→Int→Bool→Int→Option ((List (S64)))
 |0,_,_,_,_,_=>none
 |k+1,x0,x3,u,D,z=>if z<(x0.length:Int)then(if D=true then(if 0≤z then(if 0≤u then(if u<(x0.length:Int)then(bH.l1 k x0 x3 u (!(((au x0 z).f0.f0)==((au x0 u).f0.f0))||(!(((au x0 z).f0.f1)==((au x0 u).f0.f1)))) (wrap64 (z+1)))else(none))else(none))else(none))else(bH.l1 k x0 x3 u false (wrap64 (z+1))))else(if D=true then(if 0≤u then(if u<(x0.length:Int)then(if x3.length<4398046511104 then(bH.l2 k x0 (x3++[(⟨(⟨(au x0 u).f0.f0,(au x0 u).f0.f1⟩:bP),(au x0 u).f1,(au x0 u).f2⟩:S64)]) u (x3.length:Int))else(none))else(none))else(none))else(bH.l0 k x0 x3 (wrap64 (u+1))))
def bH.l2:Nat→List (S64)→List (S64)→Int→Int→Option ((List (S64)))
 |0,_,_,_,_=>none
 |k+1,x0,x3,z,u=>if u>0 then(if 0≤z then(if z<(x0.length:Int)then(if 0≤(wrap64 (u-1))then(if(wrap64 (u-1))<(x3.length:Int)then((lV.f ((au x0 z).f0.f0) ((au x0 z).f0.f1) ((au x0 z).f1) ((au x0 z).f2) ((au x3 (wrap64 (u-1))).f0.f0) ((au x3 (wrap64 (u-1))).f0.f1) ((au x3 (wrap64 (u-1))).f1) ((au x3 (wrap64 (u-1))).f2)).bind fun D=>(if D=true then(if 0≤u then(if u<(x3.length:Int)then(bH.l2 k x0 (x3.set (u:Int).toNat (⟨(⟨(au x3 (wrap64 (u-1))).f0.f0,(au x3 (wrap64 (u-1))).f0.f1⟩:bP),(au x3 (wrap64 (u-1))).f1,(au x3 (wrap64 (u-1))).f2⟩:S64)) z (wrap64 (u-1)))else(none))else(none))else(if 0≤u then(if u<(x3.length:Int)then(bH.l0 k x0 (x3.set (u:Int).toNat (⟨(⟨(au x0 z).f0.f0,(au x0 z).f0.f1⟩:bP),(au x0 z).f1,(au x0 z).f2⟩:S64)) (wrap64 (z+1)))else(none))else(none))))else(none))else(none))else(none))else(none))else(if 0≤z then(if z<(x0.length:Int)then(if 0≤u then(if u<(x3.length:Int)then(bH.l0 k x0 (x3.set (u:Int).toNat (⟨(⟨(au x0 z).f0.f0,(au x0 z).f0.f1⟩:bP),(au x0 z).f1,(au x0 z).f2⟩:S64)) (wrap64 (z+1)))else(none))else(none))else(none))else(none))
end
def bH.f (k:Nat) (l0:List (S64)):Option ((List (S64))):=bH.l0 k l0 (([]:List (S64))) 0
def bH.T9:Bool×List (List Nat×List Nat):=(true,[([],[]),([0],[0]),([1],[1]),([1],[1]),([2,3,1],[1,2,3]),([4,1],[1,4]),([5,1],[1,5]),([1],[1]),([1],[1]),([7,8,1],[1,7,8]),([9,1],[1,9]),([10,1],[1,10]),([6,11,1],[1,6,11]),([1,12],[1,12]),([13,1,0,1,2,3,4,5,6,7,8,9,10,11,12,13],[0,13])])
def bH.B9:List Nat:=[0,1,3,3,15,31,63,3,3,387,899,1923,4095,8191,16383]
theorem bH.qw:bo .any (opsOf Tryz.f135 9)=bH.T9:=by kernel_rfl
theorem bH.pw:cp bH.T9.2 bH.B9=true:=by kernel_rfl
def bH.tq:Bool×List (List Nat×List Nat):=(true,[([],[]),([0],[0]),([1],[1]),([2],[2]),([2],[2]),([3,4,2],[2,3,4]),([5,2],[2,5]),([2],[2]),([2],[2]),([8,2],[2,8]),([7,9,2],[2,7,9]),([10,2],[2,10]),([6,11,2,2],[2,6,11]),([2,12],[2,12])])
def bH.wJ:List Nat:=[0,1,3,7,7,31,63,7,7,263,903,1927,4095,8191]
theorem bH.sL:bo .any (opsOf Tryz.f135 13)=bH.tq:=by kernel_rfl
theorem bH.rv:cp bH.tq.2 bH.wJ=true:=by kernel_rfl
theorem bH.c (k:Nat) (A0:Option Addr) (c0:Nat) (l0:List (S64)) (r:List (S64)) (w:World) (dC:Kd.C aW w A0 l0.length l0) (hc0:l0.length≤c0) (h:bH.f k l0=some r):
  Calls Tryz.prog 135 #[.slice A0 l0.length c0] w fun e w'=>∃dQ:Value,e= .returned (dQ)∧Kd.R aW 64 w' w.heap.size (fun _=>True) dQ r∧Below w.heap.size w w':=by
 have f3:=Tryz.underlying62;have hu64:=Tryz.underlying64;have aK:=A_ dC;have dV:=A_ hc0;clear dC hc0;have z:=A_ (Below.refl w.heap.size w);have H:(bH.l0 k l0 (([]:List (S64))) 0)=some r:=h;clear h;obtain⟨dR,bQ⟩:∃aT:List (S64),aT=(([]:List (S64))):=⟨_,rfl⟩;replace H:(bH.l0 k l0 dR 0)=some r:=by first|(rw[bQ];with_reducible exact H)|(have Y:=(aG _ _).symm.trans H;rw[bQ];with_reducible exact Y)|(have Y:=(aG _ _).symm.trans H;with_reducible exact Y)|with_reducible exact H|(rw[bQ];exact H)|exact H
 have db:=A_ bQ;clear bQ;have H':=A_ H;clear H;go_enter Tryz.func135,Tryz.ntmps135
 go_wp2_with (first|((with_reducible refine ax (N:=8) rfl ?_);refine Kd.cx aW _ 64 ?hg (N:=8) ?hd (xs:=([]:List (S64))) (inner:=[]) (ok:=fun _=>True) (bB:=fun _=>True) ?hr ?hp (fun _ hk=>hk) trivial (Below.refl _ _) (Nat.le_refl _) (by simp) ?_;(case hd=>rfl);(case hg=>rfl);(case hr=>first|(go_simp;done)|(go_simp;rfl));(case hp=>exact(aI.none _ _));intro gj w2 bu hb eL eM;clear eL eM;(first|rw[←db.out]at bu|(simp only[Int.reduceToNat]at bu;rw[←db.out]at bu));have O:=A_ (Kd.bE bu (aA (oB z)));have U:=A_ (aC (oB z) hb);clear z;have dW:=O;have z:=U;clear O U hb bu))
 go_loopg [3,4] k (fun ap v3 v4 w'=>∃(ao:List (S64)) (u:Int),v4= .int .i64 u∧ae (bH.l0 ap l0 ao u=some r)∧ae (ap≤k)∧ae (Kd.R aW 64 w' w.heap.size (fun _=>True) v3 ao)∧ae (Below w.heap.size w w'))
 case atStart=>exact⟨(dR),(0),eS,H',⟨Nat.le_refl _⟩,⟨oR dW⟩,⟨oB z⟩⟩
 case round=>
  clear H'
  try clear c1
  try clear p2
  obtain⟨ao,u,rfl,ad,al,J,z⟩:=hrel;cases gk with
  |zero=>exact absurd ad.out (by simp[bH.l0])
  |succ k1=>
   have H:=ad.out;clear ad;simp only[bH.l0]at H;have ci:=A_ H;clear H
   go_upto_region 3 with (fail)
   go_cut [16] (fun v16 wc=>∃(ap:Nat) (ch:Bool),v16= .bool ch∧ae (bH.j1 ap l0 ao u ch=some r)∧ae (ap≤k1)∧ae (Kd.R aW 64 wc w.heap.size (fun _=>True) u3 ao)∧ae (Below w.heap.size w wc))
   case first=>
    have H:=ci.out;clear ci;by_cases c5:u<(l0.length:Int)
    ·rw[af c5]at H;have aU:decide (u<(l0.length:Int))=true:=ah c5;clear c5
     (first|rw[aU]|(simp only[bG,bN];rw[aU])|skip)
     replace H:=aD H;obtain⟨dO,c3,H⟩:=H
     (try dsimp only at H)
     have dT:=A_ c3;clear c3;have H':=A_ H;clear H
     go_wp2_with (first|(go_at_call 71;(with_reducible refine(iK.c k1 _ _ l0 dO _ ?a6 ?a7 dT.out).mono ?_);(case a6=>exact bO aK.out);(case a7=>exact dV.out);rintro e w7 ⟨rfl,hb⟩;have O:=A_ (Kd.aV (oR J) hb);have U:=A_ (aC (oB z) hb);clear J z;have J:=O;have z:=U;clear O U;(try clear hb);(try clear hb2);(try clear hk);(try clear hi)))
     go_meet
     case rel=>exact⟨_,(dO),eS,H',⟨by have:=al.out;first|omega|exact Nat.le_refl _⟩,⟨oR J⟩,⟨oB z⟩⟩
    ·rw[ag c5]at H;have aU:decide (u<(l0.length:Int))=false:=ay c5;clear c5
     (first|rw[aU]|(simp only[bG,bN];rw[aU])|skip)
     have H':=A_ H;clear H;go_wp2
     go_meet
     case rel=>exact⟨_,(false),eS,H',⟨by have:=al.out;first|omega|exact Nat.le_refl _⟩,⟨oR J⟩,⟨oB z⟩⟩
   case rest=>
    clear ci
    try clear c1
    try clear p2
    try clear c5
    try clear aU
    try clear p2
    obtain⟨ap,ch,rfl,ad,aq,J,z⟩:=hcut;cases ap with
    |zero=>exact absurd ad.out (by simp[bH.j1])
    |succ dM=>
     have H:=ad.out;clear ad;simp only[bH.j1]at H;by_cases c8:ch=true
     ·subst c8;rw[af rfl]at H;by_cases c9:0≤u
      ·rw[af c9]at H;have de:decide (0≤u)=true:=ah c9;clear c9;by_cases c10:u<(l0.length:Int)
       ·rw[af c10]at H;have dc:decide (u<(l0.length:Int))=true:=ah c10;clear c10;have H':=A_ H;clear H;have bV:0≤(u:Int):=oD;have bW:u<(l0.length:Int):=oD;obtain⟨V,eh,b9,b_,b',ca⟩:=eW aK.out u bV bW;cases eh;replace b9:=hW z b9;replace b_:=hW z b_;replace b':=hW z b';replace ca:=hW z ca;replace bV:=av bV;replace bW:=av bW;go_wp2
        go_loopg [5,6] dM (fun ap v5 v6 w'=>∃(bX:Bool) (X:Int),v5= .bool bX∧v6= .int .i64 X∧ae (bH.l1 ap l0 ao u bX X=some r)∧ae (ap≤dM)∧ae (Kd.R aW 64 w' w.heap.size (fun _=>True) u3 ao)∧ae (Below w.heap.size w w'))
        case atStart=>exact⟨((((au l0 u).f1) != 0)),(wrap64 (u+1)),eS,eS,H',⟨Nat.le_refl _⟩,⟨oR J⟩,⟨oB z⟩⟩
        case round=>
         clear H'
         try clear c1
         try clear p1
         try clear q1
         try clear hx1
         try clear p2
         try clear c5
         try clear aU
         try clear dN
         try clear c8
         try clear c9
         try clear de
         try clear c10
         try clear dc
         try clear b9
         try clear b_
         try clear b'
         try clear ca
         try clear bV
         try clear p2
         try clear bW
         obtain⟨bX,X,rfl,rfl,ad,ar,J,z⟩:=hrel;cases gk with
         |zero=>exact absurd ad.out (by simp[bH.l1])
         |succ k3=>
          have H:=ad.out;clear ad;simp only[bH.l1]at H;by_cases c11:X<(l0.length:Int)
          ·rw[af c11]at H;have dd:decide (X<(l0.length:Int))=true:=ah c11;clear c11;by_cases c12:bX=true
           ·subst c12;rw[af rfl]at H;by_cases c13:0≤X
            ·rw[af c13]at H;have d9:decide (0≤X)=true:=ah c13;clear c13;by_cases c14:0≤u
             ·rw[af c14]at H;have d':decide (0≤u)=true:=ah c14;clear c14;by_cases c15:u<(l0.length:Int)
              ·rw[af c15]at H;have ea:decide (u<(l0.length:Int))=true:=ah c15;clear c15;have H':=A_ H;clear H
               try go_wp2
               have O:=A_ (Kd.a8 J.out);have U:=A_ (cr z.out);clear J z;have J:=O;have z:=U;clear O U;have cb:0≤(X:Int):=oD;have ce:X<(l0.length:Int):=oD;obtain⟨d3,ei,bC,bD,bF,bI⟩:=eW aK.out X cb ce;have eQ:=bI;have eP:=bF;have eO:=bD;have eN:=bC;obtain rfl:V=d3:=(by injection ei);replace bC:=hW z bC;replace bD:=hW z bD;replace bF:=hW z bF;replace bI:=hW z bI;replace cb:=av cb;replace ce:=av ce;have cc:0≤(u:Int):=oD;have cf:u<(l0.length:Int):=oD;obtain⟨d4,ej,bJ,bK,bL,bM⟩:=eW aK.out u cc cf;have eX:=bM;have eV:=bL;have eU:=bK;have eT:=bJ;obtain rfl:V=d4:=(by injection ej);replace bJ:=hW z bJ;replace bK:=hW z bK;replace bL:=hW z bL;replace bM:=hW z bM;replace cc:=av cc;replace cf:=av cf;refine fk (n:=15) (S:=fun w'=>w'.cell? (V.add ((X).toNat*4))=some (.int .i64 ((au l0 X).f0.f0))∧w'.cell? ⟨(V.add ((X).toNat*4)).block,(V.add ((X).toNat*4)).off+1,none⟩=some (.int .i64 ((au l0 X).f0.f1))∧w'.cell? ⟨(V.add ((X).toNat*4)).block,(V.add ((X).toNat*4)).off+2,none⟩=some (.int .i64 ((au l0 X).f1))∧w'.cell? ⟨(V.add ((X).toNat*4)).block,(V.add ((X).toNat*4)).off+3,none⟩=some (.int .i64 ((au l0 X).f2))∧w'.cell? (V.add ((u).toNat*4))=some (.int .i64 ((au l0 u).f0.f0))∧w'.cell? ⟨(V.add ((u).toNat*4)).block,(V.add ((u).toNat*4)).off+1,none⟩=some (.int .i64 ((au l0 u).f0.f1))∧w'.cell? ⟨(V.add ((u).toNat*4)).block,(V.add ((u).toNat*4)).off+2,none⟩=some (.int .i64 ((au l0 u).f1))∧w'.cell? ⟨(V.add ((u).toNat*4)).block,(V.add ((u).toNat*4)).off+3,none⟩=some (.int .i64 ((au l0 u).f2))) (ds:=[]) #[false,false,false,false,false,false,false,false,false,false,false,false,false,false,false] (by kernel_rfl) rfl rfl ⟨(hW z eN),(hW z eO),(hW z eP),(hW z eQ),(hW z eT),(hW z eU),(hW z eV),(hW z eX)⟩ (fun hHeld=> ?_);refine fP bH.qw bH.pw (fun I aJ=> ?_);generalize wr.drew=gm at J z bC bD bF bI bJ bK bL bM hHeld ⊢;refine pA 0 (some 33) I.out ?_;refine pA 1 (some 34) I.out ?_;refine pA 2 (some 35) I.out ?_;refine pA 3 (some 36) I.out ?_;refine pA 4 (some 37) I.out ?_;refine pA 5 (some 38) I.out ?_;refine pA 7 (some 40) I.out ?_;refine pA 8 (some 41) I.out ?_;refine pA 9 (some 42) I.out ?_;refine pA 10 (some 43) I.out ?_;refine pT 6 (some 39) I.out aJ.out hHeld ?_;refine pT 11 (some 44) I.out aJ.out hHeld ?_;refine pA 12 (some 45) I.out ?_;refine pA 13 (some 46) I.out ?_;refine pA 14 (some 5) I.out ?_;refine eY (fH I.out (by kernel_rfl)) ?_
               try go_wp2
               go_roundg k3
               case measure=>have:=al.out;have:=aq.out;have:=ar.out;omega
               case rel=>exact⟨((!(((au l0 X).f0.f0)==((au l0 u).f0.f0))||(!(((au l0 X).f0.f1)==((au l0 u).f0.f1))))),(wrap64 (X+1)),eS,eS,H',⟨by have:=al.out;have:=aq.out;have:=ar.out;omega⟩,⟨oR J⟩,⟨oB z⟩⟩
              ·rw[ag c15]at H;exact absurd H (by simp)
             ·rw[ag c14]at H;exact absurd H (by simp)
            ·rw[ag c13]at H;exact absurd H (by simp)
           ·replace c12:=Bool.eq_false_iff.mpr c12;subst c12;rw[ag (show¬(false=true)by decide)]at H;have H':=A_ H;clear H
            try go_wp2
            have O:=A_ (Kd.a8 J.out);have U:=A_ (cr z.out);clear J z;have J:=O;have z:=U;clear O U;refine fk (n:=15) (S:=fun w'=>True) (ds:=[]) #[false,false,false,false,false,false,false,false,false,false,false,false,false,false,false] (by kernel_rfl) rfl rfl trivial (fun hHeld=> ?_);refine fP bH.qw bH.pw (fun I aJ=> ?_);generalize wr.drew=gn at J z hHeld ⊢;refine pA 0 (some 33) I.out ?_;refine pA 1 (some 34) I.out ?_;refine pU 2 (some 35) I.out ?_;refine pU 3 (some 36) I.out ?_;refine pU 4 (some 37) I.out ?_;refine pU 5 (some 38) I.out ?_;refine pU 6 (some 39) I.out ?_;refine pU 7 (some 40) I.out ?_;refine pU 8 (some 41) I.out ?_;refine pU 9 (some 42) I.out ?_;refine pU 10 (some 43) I.out ?_;refine pU 11 (some 44) I.out ?_;refine pU 12 (some 45) I.out ?_;refine pA 13 (some 46) I.out ?_;refine pA 14 (some 5) I.out ?_;refine eY (fH I.out (by kernel_rfl)) ?_
            try go_wp2
            go_roundg k3
            case measure=>have:=al.out;have:=aq.out;have:=ar.out;omega
            case rel=>exact⟨(false),(wrap64 (X+1)),eS,eS,H',⟨by have:=al.out;have:=aq.out;have:=ar.out;omega⟩,⟨oR J⟩,⟨oB z⟩⟩
          ·rw[ag c11]at H;have dd:decide (X<(l0.length:Int))=false:=ay c11;clear c11;by_cases c18:bX=true
           ·subst c18;rw[af rfl]at H;by_cases c19:0≤u
            ·rw[af c19]at H;have eb:decide (0≤u)=true:=ah c19;clear c19;by_cases c20:u<(l0.length:Int)
             ·rw[af c20]at H;have ec:decide (u<(l0.length:Int))=true:=ah c20;clear c20;by_cases c21:ao.length<4398046511104
              ·rw[af c21]at H;have dY:=A_ c21;clear c21;obtain⟨dS,bR⟩:∃aT:List (S64),aT=(ao++[(⟨(⟨(au l0 u).f0.f0,(au l0 u).f0.f1⟩:bP),(au l0 u).f1,(au l0 u).f2⟩:S64)]):=⟨_,rfl⟩;replace H:(bH.l2 k3 l0 dS u (ao.length:Int))=some r:=by first|(rw[bR];with_reducible exact H)|(have Y:=(aG _ _).symm.trans H;rw[bR];with_reducible exact Y)|(have Y:=(aG _ _).symm.trans H;with_reducible exact Y)|with_reducible exact H|(rw[bR];exact H)|exact H
               have dZ:=A_ bR;clear bR;have H':=A_ H;clear H;obtain⟨dU,eg,eo⟩:=Kd.bz J.out;subst eo;have cd:0≤(u:Int):=oD;have cg:u<(l0.length:Int):=oD;obtain⟨d5,ek,cA,cB,cC,cD⟩:=eW aK.out u cd cg;obtain rfl:V=d5:=(by injection ek);replace cA:=hW z cA;replace cB:=hW z cB;replace cC:=hW z cC;replace cD:=hW z cD;replace cd:=av cd;replace cg:=av cg
               go_wp2_with (first|((with_reducible refine dP (b:= .append) (xs:= #[.tmp 51,.tmp 56]) rfl ?_);at_builtin;refine Kd.eF aW (w0:=w) w.heap.size rfl (.tmp 51) (.tmp 56) 28 64 (.agg #[(.int .i64 0),(.int .i64 0),(.int .i64 0),(.int .i64 0)]) 32 rfl Tryz.underlying28 ni rfl (by decide) (by omega) (.slice dU ao.length eg) ao (⟨(⟨(au l0 u).f0.f0,(au l0 u).f0.f1⟩:bP),(au l0 u).f1,(au l0 u).f2⟩:S64) [.int .i64 ((au l0 u).f0.f0),.int .i64 ((au l0 u).f0.f1),.int .i64 ((au l0 u).f1),.int .i64 ((au l0 u).f2)] (fun _=>True) (fun _=>False) rfl rfl ?aP (fun _ hk=>hk.elim) ?aF ?aO ?aB ?aS ?aL ?_;(case aP=>exact kB _ _ _ (⟨(⟨(au l0 u).f0.f0,(au l0 u).f0.f1⟩:bP),(au l0 u).f1,(au l0 u).f2⟩:S64));(case aB=>exact(oB z));(case aF=>exact(fun _ _=>trivial));(case aO=>exact(oR J));(case aS=>exact(aA (oB z)));(case aL=>have:=dY.out;omega);intro ff gp ho hb hg hat;rw[←dZ.out]at ho;have O:=A_ (hb);have U:=A_ (ho);clear z J;have z:=O;have dX:=U;clear O U ho hb hg hat))
               go_loopg [7] k3 (fun ap v7 w'=>∃(D:List (S64)) (F:Int),v7= .int .i64 F∧ae (bH.l2 ap l0 D u F=some r)∧ae (ap≤k3)∧ae (Kd.R aW 64 w' w.heap.size (fun _=>True) ff D)∧ae (Below w.heap.size w w'))
               case atStart=>exact⟨(dS),((ao.length:Int)),eS,H',⟨Nat.le_refl _⟩,⟨oR dX⟩,⟨oB z⟩⟩
               case round=>
                clear H'
                try clear c1
                try clear p1
                try clear q1
                try clear hx1
                try clear c2
                try clear p2
                try clear c5
                try clear aU
                try clear dN
                try clear c8
                try clear c9
                try clear de
                try clear c10
                try clear dc
                try clear c11
                try clear dd
                try clear gg
                try clear gh
                try clear f4
                try clear c12
                try clear c13
                try clear d9
                try clear c14
                try clear d'
                try clear c15
                try clear ea
                try clear c18
                try clear c19
                try clear eb
                try clear c20
                try clear ec
                try clear c21
                try clear b9
                try clear b_
                try clear b'
                try clear ca
                try clear bC
                try clear bD
                try clear bF
                try clear bI
                try clear bJ
                try clear bK
                try clear bL
                try clear bM
                try clear cA
                try clear cB
                try clear cC
                try clear cD
                try clear p1
                try clear bV
                try clear cb
                try clear cc
                try clear cd
                try clear p2
                try clear dN
                try clear q1
                try clear bW
                try clear ce
                try clear cf
                try clear cg
                obtain⟨D,F,rfl,ad,a_,J,z⟩:=hrel;cases gk with
                |zero=>exact absurd ad.out (by simp[bH.l2])
                |succ k4=>
                 have H:=ad.out;clear ad;simp only[bH.l2]at H;by_cases c24:F>0
                 ·rw[af c24]at H;have ef:decide (0<F)=true:=ah c24;clear c24;by_cases b1:0≤u
                  ·rw[af b1]at H;have fm:decide (0≤u)=true:=ah b1;clear b1;by_cases b2:u<(l0.length:Int)
                   ·rw[af b2]at H;have fp:decide (u<(l0.length:Int))=true:=ah b2;clear b2;obtain⟨G,be⟩:∃fe:Int,(wrap64 (F-1))=fe:=⟨_,rfl⟩;replace H:(if 0≤(G)then(if(G)<(D.length:Int)then((lV.f ((au l0 u).f0.f0) ((au l0 u).f0.f1) ((au l0 u).f1) ((au l0 u).f2) ((au D (G)).f0.f0) ((au D (G)).f0.f1) ((au D (G)).f1) ((au D (G)).f2)).bind fun cQ=>(if cQ=true then(if 0≤F then(if F<(D.length:Int)then(bH.l2 k4 l0 (D.set (F:Int).toNat (⟨(⟨(au D (G)).f0.f0,(au D (G)).f0.f1⟩:bP),(au D (G)).f1,(au D (G)).f2⟩:S64)) u G)else(none))else(none))else(if 0≤F then(if F<(D.length:Int)then(bH.l0 k4 l0 (D.set (F:Int).toNat (⟨(⟨(au l0 u).f0.f0,(au l0 u).f0.f1⟩:bP),(au l0 u).f1,(au l0 u).f2⟩:S64)) (wrap64 (u+1)))else(none))else(none))))else(none))else(none))=some r:=by first|(rw[be]at H;exact H)|(simp only[be]at H ⊢;exact H)
                    have fZ:(IntKind.i64.wrap (F-1))=G:=(bG _).trans be;by_cases c28:0≤(G)
                    ·rw[af c28]at H;have fq:decide (0≤(G))=true:=ah c28;clear c28;by_cases b3:(G)<(D.length:Int)
                     ·rw[af b3]at H;have fr:decide ((G)<(D.length:Int))=true:=ah b3;clear b3;replace H:=aD H;obtain⟨cQ,cZ,H⟩:=H
                      (try dsimp only at H)
                      have cY:=A_ cZ;clear cZ;by_cases c31:cQ=true
                      ·subst c31;rw[af rfl]at H;by_cases b4:0≤F
                       ·rw[af b4]at H;have fs:decide (0≤F)=true:=ah b4;clear b4;by_cases b5:F<(D.length:Int)
                        ·rw[af b5]at H;have ft:decide (F<(D.length:Int))=true:=ah b5;clear b5;obtain⟨cU,bS⟩:∃aT:List (S64),aT=(D.set (F:Int).toNat (⟨(⟨(au D (G)).f0.f0,(au D (G)).f0.f1⟩:bP),(au D (G)).f1,(au D (G)).f2⟩:S64)):=⟨_,rfl⟩;replace H:(bH.l2 k4 l0 cU u G)=some r:=by first|(rw[bS];with_reducible exact H)|(have Y:=(aG _ _).symm.trans H;rw[bS];with_reducible exact Y)|(have Y:=(aG _ _).symm.trans H;with_reducible exact Y)|with_reducible exact H|(rw[bS];exact H)|exact H
                         have d0:=A_ bS;clear bS;have H':=A_ H;clear H
                         try go_wp2
                         have O:=A_ (Kd.a8 J.out);have U:=A_ (cr z.out);clear J z;have J:=O;have z:=U;clear O U;have a3:0≤(u:Int):=oD;have a5:u<(l0.length:Int):=oD;obtain⟨cq,ct,aM,aN,aQ,aR⟩:=eW aK.out u a3 a5;have bA:=aR;have bx:=aQ;have bw:=aN;have bv:=aM;obtain rfl:V=cq:=(by injection ct);replace aM:=hW z aM;replace aN:=hW z aN;replace aQ:=hW z aQ;replace aR:=hW z aR;replace a3:=av a3;replace a5:=av a5;obtain⟨fg,df,dk⟩:=Kd.bz J.out
                         (first|subst dk|(injection dk with bh cv bj;have cw:=bh.symm;have cz:=bj.symm;clear bh cv bj;subst cw;subst cz))
                         have a4:0≤((G):Int):=oD;have a9:(G)<(D.length:Int):=oD;obtain⟨Z,cu,aZ,a0,a1,a2⟩:=eW (Kd.aY J.out).2.2 (G) a4 a9;cases cu;replace a4:=av a4;replace a9:=av a9;refine fk (n:=14) (S:=fun w'=>w'.cell? (V.add ((u).toNat*4))=some (.int .i64 ((au l0 u).f0.f0))∧w'.cell? ⟨(V.add ((u).toNat*4)).block,(V.add ((u).toNat*4)).off+1,none⟩=some (.int .i64 ((au l0 u).f0.f1))∧w'.cell? ⟨(V.add ((u).toNat*4)).block,(V.add ((u).toNat*4)).off+2,none⟩=some (.int .i64 ((au l0 u).f1))∧w'.cell? ⟨(V.add ((u).toNat*4)).block,(V.add ((u).toNat*4)).off+3,none⟩=some (.int .i64 ((au l0 u).f2))∧w'.cell? (Z.add (((G)).toNat*4))=some (.int .i64 ((au D (G)).f0.f0))∧w'.cell? ⟨(Z.add (((G)).toNat*4)).block,(Z.add (((G)).toNat*4)).off+1,none⟩=some (.int .i64 ((au D (G)).f0.f1))∧w'.cell? ⟨(Z.add (((G)).toNat*4)).block,(Z.add (((G)).toNat*4)).off+2,none⟩=some (.int .i64 ((au D (G)).f1))∧w'.cell? ⟨(Z.add (((G)).toNat*4)).block,(Z.add (((G)).toNat*4)).off+3,none⟩=some (.int .i64 ((au D (G)).f2))) (ds:=[]) #[false,false,false,false,false,false,false,false,false,false,false,false,false,false] (by kernel_rfl) rfl rfl ⟨(hW z bv),(hW z bw),(hW z bx),(hW z bA),aZ,a0,a1,a2⟩ (fun hHeld=> ?_);refine fP bH.sL bH.rv (fun I aJ=> ?_);generalize wr.drew=gq at J z aM aN aQ aR aZ a0 a1 a2 hHeld ⊢;refine pA 0 (some 58) I.out ?_;refine pA 1 (some 59) I.out ?_;refine pA 2 (some 60) I.out ?_;refine pA 3 (some 61) I.out ?_;refine pA 4 (some 62) I.out ?_;refine pA 5 (some 63) I.out ?_;refine pA 7 (some 65) I.out ?_;refine pA 8 (some 66) I.out ?_;refine pA 9 (some 67) I.out ?_;refine pA 10 (some 68) I.out ?_;refine pT 6 (some 64) I.out aJ.out hHeld ?_;refine pT 11 (some 69) I.out aJ.out hHeld ?_;refine dh (i:=12) (N:=some 70) #[true,true,true,true,true,true,true,true,true,true,true,true,true,false] rfl rfl (cX I.out (by kernel_rfl)) (by decide) (fun K hK=> ?_);refine cy Tryz.func155 (by kernel_rfl) rfl #[.agg #[.int .i64 ((au l0 u).f0.f0),.int .i64 ((au l0 u).f0.f1),.int .i64 ((au l0 u).f1),.int .i64 ((au l0 u).f2)],.agg #[.int .i64 ((au D (G)).f0.f0),.int .i64 ((au D (G)).f0.f1),.int .i64 ((au D (G)).f1),.int .i64 ((au D (G)).f2)]] (by rfl) rfl rfl (by(try simp only[List.map_toArray,List.map_cons,List.map_nil]);first|done|(simp only[be];rfl)|rfl|(simp only[List.length_drop,List.length_take];rfl)) ?_
                         with_reducible refine(lV.c ((au l0 u).f0.f0) ((au l0 u).f0.f1) ((au l0 u).f1) ((au l0 u).f2) ((au D (G)).f0.f0) ((au D (G)).f0.f1) ((au D (G)).f1) ((au D (G)).f2) true _ cY.out).mono ?_
                         rintro e aw ⟨rfl,hb⟩;have cm:=(hb.cell (World.block_lt_of_cell? _ _ (hHeld.2.2.2.2.1))).trans (hHeld.2.2.2.2.1);have cn:=(hb.cell (World.block_lt_of_cell? _ _ (hHeld.2.2.2.2.2.1))).trans (hHeld.2.2.2.2.2.1);have co:=(hb.cell (World.block_lt_of_cell? _ _ (hHeld.2.2.2.2.2.2.1))).trans (hHeld.2.2.2.2.2.2.1);have cp:=(hb.cell (World.block_lt_of_cell? _ _ (hHeld.2.2.2.2.2.2.2))).trans (hHeld.2.2.2.2.2.2.2);refine⟨_,rfl,?_⟩;have O:=A_ (Kd.aV (oR J) hb);have U:=A_ (aC (oB z) hb);clear J z;have J:=O;have z:=U;clear O U
                         (try clear hb)
                         (try clear hb2)
                         (try clear hk)
                         (try clear hi)
                         refine hK.out _ _ ⟨(hW z bv),(hW z bw),(hW z bx),(hW z bA),cm,cn,co,cp⟩ (fun hHeld=> ?_);clear hK K;refine dL (a':= ?_) ?_ ?_;rotate_left
                         ·show Act.put _ (some 70) _=_;simp only[Act.put,List.setIfInBounds_toArray,List.set_cons_zero,List.set_cons_succ,bG,bN];rfl
                         refine pA 13 (some 71) I.out ?_;refine eY (fH I.out (by kernel_rfl)) ?_;have cE:0≤((G):Int):=oD;have cK:(G)<(D.length:Int):=oD;obtain⟨d6,el,eZ,e0,e1,e2⟩:=eW (Kd.aY J.out).2.2 (G) cE cK;obtain rfl:Z=d6:=(by injection el);replace cE:=av cE;replace cK:=av cK;have cH:0≤(F:Int):=oD;have cN:(F:Int)<((D.length:Int):Int):=oD;obtain⟨ai,fK,dj,dp,ep,fG,c4⟩:=Kd.kR J.out (by omega)
                         (first|cases dj|(injection dj with am bg bf;(first|subst am|(injection am with am;subst am));subst bf;clear bg))
                         have bY:=A_ dp;have fi:=A_ c4;clear dp ep c4
                         (first|simp only[add_plain]at aZ|skip)
                         (first|simp only[add_plain]at a0|skip)
                         (first|simp only[add_plain]at a1|skip)
                         (first|simp only[add_plain]at a2|skip)
                         (first|simp only[add_plain]at eZ|skip)
                         (first|simp only[add_plain]at e0|skip)
                         (first|simp only[add_plain]at e1|skip)
                         (first|simp only[add_plain]at e2|skip)
                         obtain⟨fA,et,dt,bk,bo⟩:=Kd.mY J.out z64 (F:Int) cH cN;obtain rfl:=np dt;have f5:aw.cell? ⟨ai,(F:Int).toNat*4,none⟩=some (.int .i64 ((au D F).f0.f0)):=bk 0 _ rfl;have f6:aw.cell? ⟨ai,(F:Int).toNat*4+1,none⟩=some (.int .i64 ((au D F).f0.f1)):=bk 1 _ rfl;have f7:aw.cell? ⟨ai,(F:Int).toNat*4+2,none⟩=some (.int .i64 ((au D F).f1)):=bk 2 _ rfl;have f8:aw.cell? ⟨ai,(F:Int).toNat*4+3,none⟩=some (.int .i64 ((au D F).f2)):=bk 3 _ rfl;have fM:aw.frozen? ⟨ai,(F:Int).toNat*4,none⟩=false:=bo 0;have fN:aw.frozen? ⟨ai,(F:Int).toNat*4+1,none⟩=false:=bo 1;have fO:aw.frozen? ⟨ai,(F:Int).toNat*4+2,none⟩=false:=bo 2;have fQ:aw.frozen? ⟨ai,(F:Int).toNat*4+3,none⟩=false:=bo 3;clear et bk bo dt;replace cH:=av cH;replace cN:=av cN;have c_:=A_ (show Kd.R aW 64 aw w.heap.size (fun _=>True) (.slice (some ⟨ai,0,none⟩) D.length df) D from(oR J));obtain⟨fB,dz,du,bb,bp⟩:=Kd.mY c_.out z64 (F:Int) (oD) (by have h_:(F:Int)<((D.length:Int):Int):=oD;first|exact h_|(have e_:=(Kd.aY J.out).1;omega)|simpa using h_);obtain rfl:=np du;have cj:=Kd.rp c_.out (F:Int) (oD) (by have h_:(F:Int)<((D.length:Int):Int):=oD;first|exact h_|(have e_:=(Kd.aY J.out).1;omega)|simpa using h_) (seg:=[.int .i64 ((au D (G)).f0.f0),.int .i64 ((au D (G)).f0.f1),.int .i64 ((au D (G)).f1),.int .i64 ((au D (G)).f2)]) (j:=0) dz bb (show 4≤4 from by decide) (x':=(⟨(⟨(au D (G)).f0.f0,(au D (G)).f0.f1⟩:bP),(au D (G)).f1,(au D (G)).f2⟩:S64)) (kB _ _ _ (⟨(⟨(au D (G)).f0.f0,(au D (G)).f0.f1⟩:bP),(au D (G)).f1,(au D (G)).f2⟩:S64)) (fun _ hk=>hk);have e3:=bb 0 _ rfl
                         (try simp only[show(aW).sz=4 from rfl,Nat.mul_one,Nat.add_zero]at e3)
                         have ew:=bp 0
                         (try simp only[show(aW).sz=4 from rfl,Nat.mul_one,Nat.add_zero]at ew)
                         have e4:=bb 1 _ rfl
                         (try simp only[show(aW).sz=4 from rfl,Nat.mul_one,Nat.add_zero]at e4)
                         have ex:=bp 1
                         (try simp only[show(aW).sz=4 from rfl,Nat.mul_one,Nat.add_zero]at ex)
                         have e5:=bb 2 _ rfl
                         (try simp only[show(aW).sz=4 from rfl,Nat.mul_one,Nat.add_zero]at e5)
                         have ey:=bp 2
                         (try simp only[show(aW).sz=4 from rfl,Nat.mul_one,Nat.add_zero]at ey)
                         have e6:=bb 3 _ rfl
                         (try simp only[show(aW).sz=4 from rfl,Nat.mul_one,Nat.add_zero]at e6)
                         have ez:=bp 3
                         (try simp only[show(aW).sz=4 from rfl,Nat.mul_one,Nat.add_zero]at ez)
                         clear dz bb bp du
                         try go_wp2_with (first|((with_reducible refine ma (t:=64) (p:=79) rfl ?_);refine mO (t:=64) (p:=79) (v:= ?Dd) (w1:=((((aw.setCell ⟨ai,(F:Int).toNat*4,none⟩ (.int .i64 ((au D (G)).f0.f0))).setCell ⟨ai,(F:Int).toNat*4+1,none⟩ (.int .i64 ((au D (G)).f0.f1))).setCell ⟨ai,(F:Int).toNat*4+2,none⟩ (.int .i64 ((au D (G)).f1))).setCell ⟨ai,(F:Int).toNat*4+3,none⟩ (.int .i64 ((au D (G)).f2)))) ?hg ?ho ?hn ?hr ?_;(case ho=>rfl);(case hg=>rfl);(case hn=>rfl);(case hr=>first|(go_simp;done)|(go_simp;rfl));intro cR hw;have hg:aw.grownBy cR (some ai):=(by rw[hw];exact cj.2);have aX:Kd.R aW 64 cR w.heap.size (fun _=>True) (.slice (some ⟨ai,0,none⟩) D.length df) cU:=(by rw[hw,d0.out];exact cj.1);clear cj;have O:=A_ (aX);have U:=A_ ((by rw[hw];exact fo (fo (fo (fo (z.out) bY.out) bY.out) bY.out) bY.out:Below w.heap.size w cR));clear J z;have J:=O;have z:=U;clear O U hg hw aX))
                         go_roundg k4
                         case measure=>have:=al.out;have:=aq.out;have:=ar.out;have:=a_.out;omega
                         case rel=>exact⟨(cU),(G),(by first|rfl|(simp;done)|(simp only[←be]<;>(first|rfl|simp))|(simp[*];done)),H',⟨by have:=al.out;have:=aq.out;have:=ar.out;have:=a_.out;omega⟩,⟨oR J⟩,⟨oB z⟩⟩
                        ·rw[ag b5]at H;exact absurd H (by simp)
                       ·rw[ag b4]at H;exact absurd H (by simp)
                      ·replace c31:=Bool.eq_false_iff.mpr c31;subst c31;rw[ag (show¬(false=true)by decide)]at H;by_cases c40:0≤F
                       ·rw[af c40]at H;have fu:decide (0≤F)=true:=ah c40;clear c40;by_cases b6:F<(D.length:Int)
                        ·rw[af b6]at H;have fv:decide (F<(D.length:Int))=true:=ah b6;clear b6;obtain⟨cV,bT⟩:∃aT:List (S64),aT=(D.set (F:Int).toNat (⟨(⟨(au l0 u).f0.f0,(au l0 u).f0.f1⟩:bP),(au l0 u).f1,(au l0 u).f2⟩:S64)):=⟨_,rfl⟩;replace H:(bH.l0 k4 l0 cV (wrap64 (u+1)))=some r:=by first|(rw[bT];with_reducible exact H)|(have Y:=(aG _ _).symm.trans H;rw[bT];with_reducible exact Y)|(have Y:=(aG _ _).symm.trans H;with_reducible exact Y)|with_reducible exact H|(rw[bT];exact H)|exact H
                         have d1:=A_ bT;clear bT;have H':=A_ H;clear H
                         try go_wp2
                         have O:=A_ (Kd.a8 J.out);have U:=A_ (cr z.out);clear J z;have J:=O;have z:=U;clear O U;have a3:0≤(u:Int):=oD;have a5:u<(l0.length:Int):=oD;obtain⟨cq,ct,aM,aN,aQ,aR⟩:=eW aK.out u a3 a5;have bA:=aR;have bx:=aQ;have bw:=aN;have bv:=aM;obtain rfl:V=cq:=(by injection ct);replace aM:=hW z aM;replace aN:=hW z aN;replace aQ:=hW z aQ;replace aR:=hW z aR;replace a3:=av a3;replace a5:=av a5;obtain⟨fh,dg,dm⟩:=Kd.bz J.out
                         (first|subst dm|(injection dm with bh cv bj;have cw:=bh.symm;have cz:=bj.symm;clear bh cv bj;subst cw;subst cz))
                         have a4:0≤((G):Int):=oD;have a9:(G)<(D.length:Int):=oD;obtain⟨Z,cu,aZ,a0,a1,a2⟩:=eW (Kd.aY J.out).2.2 (G) a4 a9;cases cu;replace a4:=av a4;replace a9:=av a9;refine fk (n:=14) (S:=fun w'=>w'.cell? (V.add ((u).toNat*4))=some (.int .i64 ((au l0 u).f0.f0))∧w'.cell? ⟨(V.add ((u).toNat*4)).block,(V.add ((u).toNat*4)).off+1,none⟩=some (.int .i64 ((au l0 u).f0.f1))∧w'.cell? ⟨(V.add ((u).toNat*4)).block,(V.add ((u).toNat*4)).off+2,none⟩=some (.int .i64 ((au l0 u).f1))∧w'.cell? ⟨(V.add ((u).toNat*4)).block,(V.add ((u).toNat*4)).off+3,none⟩=some (.int .i64 ((au l0 u).f2))∧w'.cell? (Z.add (((G)).toNat*4))=some (.int .i64 ((au D (G)).f0.f0))∧w'.cell? ⟨(Z.add (((G)).toNat*4)).block,(Z.add (((G)).toNat*4)).off+1,none⟩=some (.int .i64 ((au D (G)).f0.f1))∧w'.cell? ⟨(Z.add (((G)).toNat*4)).block,(Z.add (((G)).toNat*4)).off+2,none⟩=some (.int .i64 ((au D (G)).f1))∧w'.cell? ⟨(Z.add (((G)).toNat*4)).block,(Z.add (((G)).toNat*4)).off+3,none⟩=some (.int .i64 ((au D (G)).f2))) (ds:=[]) #[false,false,false,false,false,false,false,false,false,false,false,false,false,false] (by kernel_rfl) rfl rfl ⟨(hW z bv),(hW z bw),(hW z bx),(hW z bA),aZ,a0,a1,a2⟩ (fun hHeld=> ?_);refine fP bH.sL bH.rv (fun I aJ=> ?_);generalize wr.drew=gs at J z aM aN aQ aR aZ a0 a1 a2 hHeld ⊢;refine pA 0 (some 58) I.out ?_;refine pA 1 (some 59) I.out ?_;refine pA 2 (some 60) I.out ?_;refine pA 3 (some 61) I.out ?_;refine pA 4 (some 62) I.out ?_;refine pA 5 (some 63) I.out ?_;refine pA 7 (some 65) I.out ?_;refine pA 8 (some 66) I.out ?_;refine pA 9 (some 67) I.out ?_;refine pA 10 (some 68) I.out ?_;refine pT 6 (some 64) I.out aJ.out hHeld ?_;refine pT 11 (some 69) I.out aJ.out hHeld ?_;refine dh (i:=12) (N:=some 70) #[true,true,true,true,true,true,true,true,true,true,true,true,true,false] rfl rfl (cX I.out (by kernel_rfl)) (by decide) (fun K hK=> ?_);refine cy Tryz.func155 (by kernel_rfl) rfl #[.agg #[.int .i64 ((au l0 u).f0.f0),.int .i64 ((au l0 u).f0.f1),.int .i64 ((au l0 u).f1),.int .i64 ((au l0 u).f2)],.agg #[.int .i64 ((au D (G)).f0.f0),.int .i64 ((au D (G)).f0.f1),.int .i64 ((au D (G)).f1),.int .i64 ((au D (G)).f2)]] (by rfl) rfl rfl (by(try simp only[List.map_toArray,List.map_cons,List.map_nil]);first|done|(simp only[be];rfl)|rfl|(simp only[List.length_drop,List.length_take];rfl)) ?_
                         with_reducible refine(lV.c ((au l0 u).f0.f0) ((au l0 u).f0.f1) ((au l0 u).f1) ((au l0 u).f2) ((au D (G)).f0.f0) ((au D (G)).f0.f1) ((au D (G)).f1) ((au D (G)).f2) false _ cY.out).mono ?_
                         rintro e az ⟨rfl,hb⟩;have cm:=(hb.cell (World.block_lt_of_cell? _ _ (hHeld.2.2.2.2.1))).trans (hHeld.2.2.2.2.1);have cn:=(hb.cell (World.block_lt_of_cell? _ _ (hHeld.2.2.2.2.2.1))).trans (hHeld.2.2.2.2.2.1);have co:=(hb.cell (World.block_lt_of_cell? _ _ (hHeld.2.2.2.2.2.2.1))).trans (hHeld.2.2.2.2.2.2.1);have cp:=(hb.cell (World.block_lt_of_cell? _ _ (hHeld.2.2.2.2.2.2.2))).trans (hHeld.2.2.2.2.2.2.2);refine⟨_,rfl,?_⟩;have O:=A_ (Kd.aV (oR J) hb);have U:=A_ (aC (oB z) hb);clear J z;have J:=O;have z:=U;clear O U
                         (try clear hb)
                         (try clear hb2)
                         (try clear hk)
                         (try clear hi)
                         refine hK.out _ _ ⟨(hW z bv),(hW z bw),(hW z bx),(hW z bA),cm,cn,co,cp⟩ (fun hHeld=> ?_);clear hK K;refine dL (a':= ?_) ?_ ?_;rotate_left
                         ·show Act.put _ (some 70) _=_;simp only[Act.put,List.setIfInBounds_toArray,List.set_cons_zero,List.set_cons_succ,bG,bN];rfl
                         refine pA 13 (some 71) I.out ?_;refine eY (fH I.out (by kernel_rfl)) ?_;have cF:0≤(u:Int):=oD;have cL:u<(l0.length:Int):=oD;obtain⟨d7,em,dD,dE,dF,dG⟩:=eW aK.out u cF cL;obtain rfl:V=d7:=(by injection em);replace dD:=hW z dD;replace dE:=hW z dE;replace dF:=hW z dF;replace dG:=hW z dG;replace cF:=av cF;replace cL:=av cL;have cI:0≤(F:Int):=oD;have cO:(F:Int)<((D.length:Int):Int):=oD;obtain⟨aj,fL,dl,dq,er,fI,c6⟩:=Kd.kR J.out (by omega)
                         (first|cases dl|(injection dl with am bg bf;(first|subst am|(injection am with am;subst am));subst bf;clear bg))
                         have bZ:=A_ dq;have fj:=A_ c6;clear dq er c6
                         (first|simp only[add_plain]at aZ|skip)
                         (first|simp only[add_plain]at a0|skip)
                         (first|simp only[add_plain]at a1|skip)
                         (first|simp only[add_plain]at a2|skip)
                         obtain⟨fC,eu,dv,bm,bq⟩:=Kd.mY J.out z64 (F:Int) cI cO;obtain rfl:=np dv;have f9:az.cell? ⟨aj,(F:Int).toNat*4,none⟩=some (.int .i64 ((au D F).f0.f0)):=bm 0 _ rfl;have f_:az.cell? ⟨aj,(F:Int).toNat*4+1,none⟩=some (.int .i64 ((au D F).f0.f1)):=bm 1 _ rfl;have f':az.cell? ⟨aj,(F:Int).toNat*4+2,none⟩=some (.int .i64 ((au D F).f1)):=bm 2 _ rfl;have ga:az.cell? ⟨aj,(F:Int).toNat*4+3,none⟩=some (.int .i64 ((au D F).f2)):=bm 3 _ rfl;have fR:az.frozen? ⟨aj,(F:Int).toNat*4,none⟩=false:=bq 0;have fS:az.frozen? ⟨aj,(F:Int).toNat*4+1,none⟩=false:=bq 1;have fT:az.frozen? ⟨aj,(F:Int).toNat*4+2,none⟩=false:=bq 2;have fU:az.frozen? ⟨aj,(F:Int).toNat*4+3,none⟩=false:=bq 3;clear eu bm bq dv;replace cI:=av cI;replace cO:=av cO;have c':=A_ (show Kd.R aW 64 az w.heap.size (fun _=>True) (.slice (some ⟨aj,0,none⟩) D.length dg) D from(oR J));obtain⟨fD,dA,dw,bc,br⟩:=Kd.mY c'.out z64 (F:Int) (oD) (by have h_:(F:Int)<((D.length:Int):Int):=oD;first|exact h_|(have e_:=(Kd.aY J.out).1;omega)|simpa using h_);obtain rfl:=np dw;have ck:=Kd.rp c'.out (F:Int) (oD) (by have h_:(F:Int)<((D.length:Int):Int):=oD;first|exact h_|(have e_:=(Kd.aY J.out).1;omega)|simpa using h_) (seg:=[.int .i64 ((au l0 u).f0.f0),.int .i64 ((au l0 u).f0.f1),.int .i64 ((au l0 u).f1),.int .i64 ((au l0 u).f2)]) (j:=0) dA bc (show 4≤4 from by decide) (x':=(⟨(⟨(au l0 u).f0.f0,(au l0 u).f0.f1⟩:bP),(au l0 u).f1,(au l0 u).f2⟩:S64)) (kB _ _ _ (⟨(⟨(au l0 u).f0.f0,(au l0 u).f0.f1⟩:bP),(au l0 u).f1,(au l0 u).f2⟩:S64)) (fun _ hk=>hk);have e7:=bc 0 _ rfl
                         (try simp only[show(aW).sz=4 from rfl,Nat.mul_one,Nat.add_zero]at e7)
                         have eA:=br 0
                         (try simp only[show(aW).sz=4 from rfl,Nat.mul_one,Nat.add_zero]at eA)
                         have e8:=bc 1 _ rfl
                         (try simp only[show(aW).sz=4 from rfl,Nat.mul_one,Nat.add_zero]at e8)
                         have eB:=br 1
                         (try simp only[show(aW).sz=4 from rfl,Nat.mul_one,Nat.add_zero]at eB)
                         have e9:=bc 2 _ rfl
                         (try simp only[show(aW).sz=4 from rfl,Nat.mul_one,Nat.add_zero]at e9)
                         have eC:=br 2
                         (try simp only[show(aW).sz=4 from rfl,Nat.mul_one,Nat.add_zero]at eC)
                         have e':=bc 3 _ rfl
                         (try simp only[show(aW).sz=4 from rfl,Nat.mul_one,Nat.add_zero]at e')
                         have eD:=br 3
                         (try simp only[show(aW).sz=4 from rfl,Nat.mul_one,Nat.add_zero]at eD)
                         clear dA bc br dw
                         try go_wp2_with (first|((with_reducible refine ma (t:=64) (p:=88) rfl ?_);refine mO (t:=64) (p:=88) (v:= ?De) (w1:=((((az.setCell ⟨aj,(F:Int).toNat*4,none⟩ (.int .i64 ((au l0 u).f0.f0))).setCell ⟨aj,(F:Int).toNat*4+1,none⟩ (.int .i64 ((au l0 u).f0.f1))).setCell ⟨aj,(F:Int).toNat*4+2,none⟩ (.int .i64 ((au l0 u).f1))).setCell ⟨aj,(F:Int).toNat*4+3,none⟩ (.int .i64 ((au l0 u).f2)))) ?hg ?ho ?hn ?hr ?_;(case ho=>rfl);(case hg=>rfl);(case hn=>rfl);(case hr=>first|(go_simp;done)|(go_simp;rfl));intro cS hw;have hg:az.grownBy cS (some aj):=(by rw[hw];exact ck.2);have aX:Kd.R aW 64 cS w.heap.size (fun _=>True) (.slice (some ⟨aj,0,none⟩) D.length dg) cV:=(by rw[hw,d1.out];exact ck.1);clear ck;have O:=A_ (aX);have U:=A_ ((by rw[hw];exact fo (fo (fo (fo (z.out) bZ.out) bZ.out) bZ.out) bZ.out:Below w.heap.size w cS));clear J z;have J:=O;have z:=U;clear O U hg hw aX))
                         go_roundg k4
                         case measure=>have:=al.out;have:=aq.out;have:=ar.out;have:=a_.out;omega
                         case rel=>exact⟨(cV),(wrap64 (u+1)),eS,H',⟨by have:=al.out;have:=aq.out;have:=ar.out;have:=a_.out;omega⟩,⟨oR J⟩,⟨oB z⟩⟩
                        ·rw[ag b6]at H;exact absurd H (by simp)
                       ·rw[ag c40]at H;exact absurd H (by simp)
                     ·rw[ag b3]at H;exact absurd H (by simp)
                    ·rw[ag c28]at H;exact absurd H (by simp)
                   ·rw[ag b2]at H;exact absurd H (by simp)
                  ·rw[ag b1]at H;exact absurd H (by simp)
                 ·rw[ag c24]at H;have ef:decide (0<F)=false:=ay c24;clear c24;by_cases b7:0≤u
                  ·rw[af b7]at H;have fw:decide (0≤u)=true:=ah b7;clear b7;by_cases c49:u<(l0.length:Int)
                   ·rw[af c49]at H;have fx:decide (u<(l0.length:Int))=true:=ah c49;clear c49;by_cases b8:0≤F
                    ·rw[af b8]at H;have fy:decide (0≤F)=true:=ah b8;clear b8;by_cases c51:F<(D.length:Int)
                     ·rw[af c51]at H;have fz:decide (F<(D.length:Int))=true:=ah c51;clear c51;obtain⟨cW,bU⟩:∃aT:List (S64),aT=(D.set (F:Int).toNat (⟨(⟨(au l0 u).f0.f0,(au l0 u).f0.f1⟩:bP),(au l0 u).f1,(au l0 u).f2⟩:S64)):=⟨_,rfl⟩;replace H:(bH.l0 k4 l0 cW (wrap64 (u+1)))=some r:=by first|(rw[bU];with_reducible exact H)|(have Y:=(aG _ _).symm.trans H;rw[bU];with_reducible exact Y)|(have Y:=(aG _ _).symm.trans H;with_reducible exact Y)|with_reducible exact H|(rw[bU];exact H)|exact H
                      have d2:=A_ bU;clear bU;have H':=A_ H;clear H
                      try go_wp2
                      have O:=A_ (Kd.a8 J.out);have U:=A_ (cr z.out);clear J z;have J:=O;have z:=U;clear O U;refine fk (n:=14) (S:=fun w'=>True) (ds:=[]) #[false,false,false,false,false,false,false,false,false,false,false,false,false,false] (by kernel_rfl) rfl rfl trivial (fun hHeld=> ?_);refine fP bH.sL bH.rv (fun I aJ=> ?_);generalize wr.drew=aE at J z hHeld ⊢;refine pA 0 (some 58) I.out ?_;refine pA 1 (some 59) I.out ?_;refine pA 2 (some 60) I.out ?_;refine pU 3 (some 61) I.out ?_;refine pU 4 (some 62) I.out ?_;refine pU 5 (some 63) I.out ?_;refine pU 6 (some 64) I.out ?_;refine pU 7 (some 65) I.out ?_;refine pU 8 (some 66) I.out ?_;refine pU 9 (some 67) I.out ?_;refine pU 10 (some 68) I.out ?_;refine pU 11 (some 69) I.out ?_;refine pU 12 (some 70) I.out ?_;refine pA 13 (some 71) I.out ?_;refine eY (fH I.out (by kernel_rfl)) ?_;have cG:0≤(u:Int):=oD;have cM:u<(l0.length:Int):=oD;obtain⟨d8,en,dH,dI,dJ,dK⟩:=eW aK.out u cG cM;obtain rfl:V=d8:=(by injection en);replace dH:=hW z dH;replace dI:=hW z dI;replace dJ:=hW z dJ;replace dK:=hW z dK;replace cG:=av cG;replace cM:=av cM;have cJ:0≤(F:Int):=oD;have cP:(F:Int)<((D.length:Int):Int):=oD;obtain⟨ak,di,dn,dr,es,fJ,c7⟩:=Kd.kR J.out (by omega)
                      (first|cases dn|(injection dn with am bg bf;(first|subst am|(injection am with am;subst am));subst bf;clear bg))
                      have b0:=A_ dr;have fl:=A_ c7;clear dr es c7;obtain⟨fE,ev,dx,bn,bs⟩:=Kd.mY J.out z64 (F:Int) cJ cP;obtain rfl:=np dx;have gb:aE.cell? ⟨ak,(F:Int).toNat*4,none⟩=some (.int .i64 ((au D F).f0.f0)):=bn 0 _ rfl;have gc:aE.cell? ⟨ak,(F:Int).toNat*4+1,none⟩=some (.int .i64 ((au D F).f0.f1)):=bn 1 _ rfl;have gd:aE.cell? ⟨ak,(F:Int).toNat*4+2,none⟩=some (.int .i64 ((au D F).f1)):=bn 2 _ rfl;have gf:aE.cell? ⟨ak,(F:Int).toNat*4+3,none⟩=some (.int .i64 ((au D F).f2)):=bn 3 _ rfl;have fV:aE.frozen? ⟨ak,(F:Int).toNat*4,none⟩=false:=bs 0;have fW:aE.frozen? ⟨ak,(F:Int).toNat*4+1,none⟩=false:=bs 1;have fX:aE.frozen? ⟨ak,(F:Int).toNat*4+2,none⟩=false:=bs 2;have fY:aE.frozen? ⟨ak,(F:Int).toNat*4+3,none⟩=false:=bs 3;clear ev bn bs dx;replace cJ:=av cJ;replace cP:=av cP;have da:=A_ (show Kd.R aW 64 aE w.heap.size (fun _=>True) (.slice (some ⟨ak,0,none⟩) D.length di) D from(oR J));obtain⟨fF,dB,dy,bd,bt⟩:=Kd.mY da.out z64 (F:Int) (oD) (by have h_:(F:Int)<((D.length:Int):Int):=oD;first|exact h_|(have e_:=(Kd.aY J.out).1;omega)|simpa using h_);obtain rfl:=np dy;have cl:=Kd.rp da.out (F:Int) (oD) (by have h_:(F:Int)<((D.length:Int):Int):=oD;first|exact h_|(have e_:=(Kd.aY J.out).1;omega)|simpa using h_) (seg:=[.int .i64 ((au l0 u).f0.f0),.int .i64 ((au l0 u).f0.f1),.int .i64 ((au l0 u).f1),.int .i64 ((au l0 u).f2)]) (j:=0) dB bd (show 4≤4 from by decide) (x':=(⟨(⟨(au l0 u).f0.f0,(au l0 u).f0.f1⟩:bP),(au l0 u).f1,(au l0 u).f2⟩:S64)) (kB _ _ _ (⟨(⟨(au l0 u).f0.f0,(au l0 u).f0.f1⟩:bP),(au l0 u).f1,(au l0 u).f2⟩:S64)) (fun _ hk=>hk);have fa:=bd 0 _ rfl
                      (try simp only[show(aW).sz=4 from rfl,Nat.mul_one,Nat.add_zero]at fa)
                      have eE:=bt 0
                      (try simp only[show(aW).sz=4 from rfl,Nat.mul_one,Nat.add_zero]at eE)
                      have fb:=bd 1 _ rfl
                      (try simp only[show(aW).sz=4 from rfl,Nat.mul_one,Nat.add_zero]at fb)
                      have eG:=bt 1
                      (try simp only[show(aW).sz=4 from rfl,Nat.mul_one,Nat.add_zero]at eG)
                      have fc:=bd 2 _ rfl
                      (try simp only[show(aW).sz=4 from rfl,Nat.mul_one,Nat.add_zero]at fc)
                      have eH:=bt 2
                      (try simp only[show(aW).sz=4 from rfl,Nat.mul_one,Nat.add_zero]at eH)
                      have fd:=bd 3 _ rfl
                      (try simp only[show(aW).sz=4 from rfl,Nat.mul_one,Nat.add_zero]at fd)
                      have eI:=bt 3
                      (try simp only[show(aW).sz=4 from rfl,Nat.mul_one,Nat.add_zero]at eI)
                      clear dB bd bt dy
                      try go_wp2_with (first|((with_reducible refine ma (t:=64) (p:=88) rfl ?_);refine mO (t:=64) (p:=88) (v:= ?Df) (w1:=((((aE.setCell ⟨ak,(F:Int).toNat*4,none⟩ (.int .i64 ((au l0 u).f0.f0))).setCell ⟨ak,(F:Int).toNat*4+1,none⟩ (.int .i64 ((au l0 u).f0.f1))).setCell ⟨ak,(F:Int).toNat*4+2,none⟩ (.int .i64 ((au l0 u).f1))).setCell ⟨ak,(F:Int).toNat*4+3,none⟩ (.int .i64 ((au l0 u).f2)))) ?hg ?ho ?hn ?hr ?_;(case ho=>rfl);(case hg=>rfl);(case hn=>rfl);(case hr=>first|(go_simp;done)|(go_simp;rfl));intro cT hw;have hg:aE.grownBy cT (some ak):=(by rw[hw];exact cl.2);have aX:Kd.R aW 64 cT w.heap.size (fun _=>True) (.slice (some ⟨ak,0,none⟩) D.length di) cW:=(by rw[hw,d2.out];exact cl.1);clear cl;have O:=A_ (aX);have U:=A_ ((by rw[hw];exact fo (fo (fo (fo (z.out) b0.out) b0.out) b0.out) b0.out:Below w.heap.size w cT));clear J z;have J:=O;have z:=U;clear O U hg hw aX))
                      go_roundg k4
                      case measure=>have:=al.out;have:=aq.out;have:=ar.out;have:=a_.out;omega
                      case rel=>exact⟨(cW),(wrap64 (u+1)),eS,H',⟨by have:=al.out;have:=aq.out;have:=ar.out;have:=a_.out;omega⟩,⟨oR J⟩,⟨oB z⟩⟩
                     ·rw[ag c51]at H;exact absurd H (by simp)
                    ·rw[ag b8]at H;exact absurd H (by simp)
                   ·rw[ag c49]at H;exact absurd H (by simp)
                  ·rw[ag b7]at H;exact absurd H (by simp)
              ·rw[ag c21]at H;exact absurd H (by simp)
             ·rw[ag c20]at H;exact absurd H (by simp)
            ·rw[ag c19]at H;exact absurd H (by simp)
           ·replace c18:=Bool.eq_false_iff.mpr c18;subst c18;rw[ag (show¬(false=true)by decide)]at H;have H':=A_ H;clear H;go_wp2
            go_roundg k3
            case measure=>have:=al.out;have:=aq.out;have:=ar.out;omega
            case rel=>exact⟨(ao),(wrap64 (u+1)),eS,H',⟨by have:=al.out;have:=aq.out;have:=ar.out;omega⟩,⟨oR J⟩,⟨oB z⟩⟩
       ·rw[ag c10]at H;exact absurd H (by simp)
      ·rw[ag c9]at H;exact absurd H (by simp)
     ·replace c8:=Bool.eq_false_iff.mpr c8;subst c8;rw[ag (show¬(false=true)by decide)]at H;obtain rfl:=aH H;go_wp2;go_ret;exact⟨_,eR,oR J,oB z⟩
mutual
def eE.l0:Nat→List (S64)→Int→Int→Int→Int→Option (Int)
 |0,_,_,_,_,_=>none
 |k+1,x0,F,u,z,D=>if u<(x0.length:Int)then((iK.f k x0).bind fun G=>(eE.j1 k x0 F u G z D))else(eE.j1 k x0 F u false z D)
def eE.j1:Nat→List (S64)→Int→Int→Bool→Int→Int→Option (Int)
 |0,_,_,_,_,_,_=>none
 |k+1,x0,F,u,G,z,D=>if G=true then(if 0≤u then(if u<(x0.length:Int)then(if(((au x0 u).f0.f0)==z&&(((au x0 u).f0.f1)==D))=true then(eE.l0 k x0 ((au x0 u).f1) (wrap64 (u+1)) z D)else(eE.l0 k x0 F (wrap64 (u+1)) z D))else(none))else(none))else(some F)
end
def eE.f (k:Nat) (l0:List (S64)) (u:Int) (z:Int):Option (Int):=eE.l0 k l0 0 0 u z
theorem eE.c (k:Nat) (A0:Option Addr) (c0:Nat) (l0:List (S64)) (F:Int) (G:Int) (r:Int) (w:World) (aQ:Kd.C aW w A0 l0.length l0) (hc0:l0.length≤c0) (h:eE.f k l0 F G=some r):
  Calls Tryz.prog 118 #[.slice A0 l0.length c0,.agg #[.int .i64 F,.int .i64 G]] w fun e w'=>e= .returned (.int .i64 r)∧Below w.heap.size w w':=by
 have bg:=Tryz.underlying62;have aj:=A_ aQ;have aF:=A_ hc0;clear aQ hc0;have u:=A_ (Below.refl w.heap.size w);have H:(eE.l0 k l0 0 0 F G)=some r:=h;clear h;have H':=A_ H;clear H;go_enter Tryz.func118,Tryz.ntmps118
 go_wp2_with (first|((with_reducible refine ax (N:=3) rfl ?_);refine bX (N:=3) (cs:= #[.int .i64 F,.int .i64 G]) (t:=62) ?_;intro K hg w3 O hb;have I:=A_ (aC (oB u) hb);have J:=A_ (O);have U:=A_ ((by rw[hg];exact(aA (oB u)):w.heap.size≤K));have V:=A_ ((by rw[hg];exact(aA (oB u)):w.heap.size≤K));clear u;have u:=I;have D:=J;have aO:=U;have aN:=V;clear I J U V hb O hg))
 repeat(go_quiet (first|((with_reducible refine ax (N:=3) rfl ?_);refine bX (N:=3) (cs:= #[.int .i64 F,.int .i64 G]) (t:=62) ?_;intro K hg w3 O hb;have I:=A_ (aC (oB u) hb);have J:=A_ (O);have U:=A_ ((by rw[hg];exact(aA (oB u)):w.heap.size≤K));have V:=A_ ((by rw[hg];exact(aA (oB u)):w.heap.size≤K));clear u;have u:=I;have D:=J;have aO:=U;have aN:=V;clear I J U V hb O hg));try go_wp2_with (first|((with_reducible refine ax (N:=3) rfl ?_);refine bX (N:=3) (cs:= #[.int .i64 F,.int .i64 G]) (t:=62) ?_;intro K hg w3 O hb;have I:=A_ (aC (oB u) hb);have J:=A_ (O);have U:=A_ ((by rw[hg];exact(aA (oB u)):w.heap.size≤K));have V:=A_ ((by rw[hg];exact(aA (oB u)):w.heap.size≤K));clear u;have u:=I;have D:=J;have aO:=U;have aN:=V;clear I J U V hb O hg)))
 go_loopg [5,6] k (fun Y v5 v6 w'=>∃(aq:Int) (z:Int),v5= .int .i64 aq∧v6= .int .i64 z∧ae (eE.l0 Y l0 aq z F G=some r)∧ae (Y≤k)∧ae (w'.heap[K]? =some (.cells #[.int .i64 F,.int .i64 G] 62 (0,0)))∧ae (Below w.heap.size w w'))
 case atStart=>exact⟨(0),(0),eS,eS,H',⟨Nat.le_refl _⟩,⟨oK D⟩,⟨oB u⟩⟩
 case round=>
  clear H'
  try clear c1
  try clear p2
  obtain⟨aq,z,rfl,rfl,X,ai,D,u⟩:=hrel;cases gk with
  |zero=>exact absurd X.out (by simp[eE.l0])
  |succ k1=>
   have H:=X.out;clear X;simp only[eE.l0]at H;have aI:=A_ H;clear H
   go_upto_region 3 with (fail)
   repeat(go_quiet (fail);go_upto_region 3 with (fail))
   go_cut [14] (fun v14 wc=>∃(Y:Nat) (aB:Bool),v14= .bool aB∧ae (eE.j1 Y l0 aq z aB F G=some r)∧ae (Y≤k1)∧ae (wc.heap[K]? =some (.cells #[.int .i64 F,.int .i64 G] 62 (0,0)))∧ae (Below w.heap.size w wc))
   case first=>
    have H:=aI.out;clear aI;by_cases c5:z<(l0.length:Int)
    ·rw[af c5]at H;have ak:decide (z<(l0.length:Int))=true:=ah c5;clear c5
     (first|rw[ak]|(simp only[bG,bN];rw[ak])|skip)
     replace H:=aD H;obtain⟨az,aM,H⟩:=H
     (try dsimp only at H)
     have aE:=A_ aM;clear aM;have H':=A_ H;clear H
     go_wp2_with (first|(go_at_call 71;(with_reducible refine(iK.c k1 _ _ l0 az _ ?a6 ?a7 aE.out).mono ?_);(case a6=>exact bO aj.out);(case a7=>exact aF.out);rintro e w7 ⟨rfl,hb⟩;have I:=A_ (bb D hb);have J:=A_ (aC (oB u) hb);clear D u;have D:=I;have u:=J;clear I J;(try clear hb);(try clear hb2);(try clear hk);(try clear hi)))
     repeat(go_quiet (first|(go_at_call 71;(with_reducible refine(iK.c k1 _ _ l0 az _ ?a6 ?a7 aE.out).mono ?_);(case a6=>exact bO aj.out);(case a7=>exact aF.out);rintro e w7 ⟨rfl,hb⟩;have I:=A_ (bb D hb);have J:=A_ (aC (oB u) hb);clear D u;have D:=I;have u:=J;clear I J;(try clear hb);(try clear hb2);(try clear hk);(try clear hi)));try go_wp2_with (first|(go_at_call 71;(with_reducible refine(iK.c k1 _ _ l0 az _ ?a6 ?a7 aE.out).mono ?_);(case a6=>exact bO aj.out);(case a7=>exact aF.out);rintro e w7 ⟨rfl,hb⟩;have I:=A_ (bb D hb);have J:=A_ (aC (oB u) hb);clear D u;have D:=I;have u:=J;clear I J;(try clear hb);(try clear hb2);(try clear hk);(try clear hi))))
     go_meet
     case rel=>exact⟨_,(az),eS,H',⟨by have:=ai.out;first|omega|exact Nat.le_refl _⟩,⟨oK D⟩,⟨oB u⟩⟩
    ·rw[ag c5]at H;have ak:decide (z<(l0.length:Int))=false:=ay c5;clear c5
     (first|rw[ak]|(simp only[bG,bN];rw[ak])|skip)
     have H':=A_ H;clear H;go_wp2
     repeat(go_quiet (fail);try go_wp2)
     go_meet
     case rel=>exact⟨_,(false),eS,H',⟨by have:=ai.out;first|omega|exact Nat.le_refl _⟩,⟨oK D⟩,⟨oB u⟩⟩
   case rest=>
    clear aI
    try clear c1
    try clear p2
    try clear c5
    try clear ak
    try clear p2
    obtain⟨Y,aB,rfl,X,aw,D,u⟩:=hcut;cases Y with
    |zero=>exact absurd X.out (by simp[eE.j1])
    |succ aV=>
     have H:=X.out;clear X;simp only[eE.j1]at H;by_cases c8:aB=true
     ·subst c8;rw[af rfl]at H;by_cases c9:0≤z
      ·rw[af c9]at H;have a4:decide (0≤z)=true:=ah c9;clear c9;by_cases c10:z<(l0.length:Int)
       ·rw[af c10]at H;have a2:decide (z<(l0.length:Int))=true:=ah c10;clear c10;by_cases c11:(((au l0 z).f0.f0)==F&&(((au l0 z).f0.f1)==G))=true
        ·rw[af c11]at H;have aY:(((au l0 z).f0.f0)==F&&(((au l0 z).f0.f1)==G))=true:=c11
         (try(have aZ:decide (((au l0 z).f0.f0)=F&&(((au l0 z).f0.f1)==G))=true:=by simpa using c11))
         (try(have a0:(((au l0 z).f0.f0)==F&&(((au l0 z).f0.f1)==G))=true:=by simpa using c11))
         clear c11;have H':=A_ H;clear H;have Z:0≤(z:Int):=oD;have ad:z<(l0.length:Int):=oD;obtain⟨aP,aJ,al,am,ao,ap⟩:=eW aj.out z Z ad;cases aJ;replace al:=hW u al;replace am:=hW u am;replace ao:=hW u ao;replace ap:=hW u ap;replace Z:=av Z;replace ad:=av ad;have a5:=cz D 0;have a8:=cz D 1;have bc:=ar D.out 0;have bd:=ar D.out 1;have aK:0≤(z:Int):=oD;have aL:z<(l0.length:Int):=oD;obtain⟨aX,a1,aR,aS,aT,aU⟩:=eW aj.out z aK aL;obtain rfl:aP=aX:=(by injection a1);replace aR:=hW u aR;replace aS:=hW u aS;replace aT:=hW u aT;replace aU:=hW u aU;replace aK:=av aK;replace aL:=av aL;go_wp2
         repeat(go_quiet (fail);try go_wp2)
         go_roundg aV
         case measure=>have:=ai.out;have:=aw.out;omega
         case rel=>exact⟨((au l0 z).f1),(wrap64 (z+1)),eS,eS,H',⟨by have:=ai.out;have:=aw.out;omega⟩,⟨oK D⟩,⟨oB u⟩⟩
        ·rw[ag c11]at H;have aY:(((au l0 z).f0.f0)==F&&(((au l0 z).f0.f1)==G))=false:=by simpa using c11
         (try(have aZ:decide (((au l0 z).f0.f0)=F&&(((au l0 z).f0.f1)==G))=false:=by simpa using c11))
         (try(have a0:(((au l0 z).f0.f0)==F&&(((au l0 z).f0.f1)==G))=false:=by simpa using c11))
         (try(have a3:¬(((au l0 z).f0.f0)=F&&(((au l0 z).f0.f1)==G)):=by simpa using c11))
         clear c11;have H':=A_ H;clear H;have Z:0≤(z:Int):=oD;have ad:z<(l0.length:Int):=oD;obtain⟨aP,aJ,al,am,ao,ap⟩:=eW aj.out z Z ad;cases aJ;replace al:=hW u al;replace am:=hW u am;replace ao:=hW u ao;replace ap:=hW u ap;replace Z:=av Z;replace ad:=av ad;have a9:=cz D 0;have a_:=cz D 1;have be:=ar D.out 0;have bf:=ar D.out 1;go_wp2
         repeat(go_quiet (fail);try go_wp2)
         go_roundg aV
         case measure=>have:=ai.out;have:=aw.out;omega
         case rel=>exact⟨(aq),(wrap64 (z+1)),eS,eS,H',⟨by have:=ai.out;have:=aw.out;omega⟩,⟨oK D⟩,⟨oB u⟩⟩
       ·rw[ag c10]at H;exact absurd H (by simp)
      ·rw[ag c9]at H;exact absurd H (by simp)
     ·replace c8:=Bool.eq_false_iff.mpr c8;subst c8;rw[ag (show¬(false=true)by decide)]at H;obtain rfl:=aH H;go_wp2
      repeat(go_quiet (fail);try go_wp2)
      go_ret;exact⟨eR,oB u⟩
end P
namespace Q
open Go.RowKit P WW.bq WW.cd
theorem pW (l:List S64) (hl:l.length≤1048577):Ev (fun k=>iK.f k l) (dK l):=Ev.now _
theorem pV (l:List S64) (hl:l.length≤1048577):Ev (fun k=>fW.f k l) (dK l):=Ev.now _
def aK (a b:S64):Bool:=if a.f1=b.f1 then(if a.f2=b.f2 then(if a.f0.f0=b.f0.f0 then decide (a.f0.f1<b.f0.f1)else decide (a.f0.f0<b.f0.f0))else decide (a.f2<b.f2))else decide (a.f1>b.f1)
theorem xJ (a b:S64):lV.f a.f0.f0 a.f0.f1 a.f1 a.f2 b.f0.f0 b.f0.f1 b.f1 b.f2=some (aK a b):=by
  unfold lV.f aK;by_cases h1:a.f1=b.f1<;>by_cases h2:a.f2=b.f2<;>by_cases h3:a.f0.f0=b.f0.f0<;>simp[h1,h2,h3]
theorem entry_eq {a b:S64} (h0:a.f0.f0=b.f0.f0) (h1:a.f0.f1=b.f0.f1) (h2:a.f1=b.f1) (h3:a.f2=b.f2):a=b:=by
  obtain⟨⟨x,y⟩,z,u⟩:=a;obtain⟨⟨x',y'⟩,z',u'⟩:=b;simp only at h0 h1 h2 h3;rw[h0,h1,h2,h3]
theorem before_total {a b:S64} (h:a≠b):aK a b=true∨aK b a=true:=by
  unfold aK;by_cases h1:a.f1=b.f1
  · by_cases h2:a.f2=b.f2
    · by_cases h3:a.f0.f0=b.f0.f0
      · by_cases h4:a.f0.f1=b.f0.f1
        · exact absurd (entry_eq h3 h4 h1 h2) h
        · simp[h1,h2,h3];omega
      · simp[h1,h2,h3,Ne.symm h3];omega
    · simp[h1,h2,Ne.symm h2];omega
  · simp[h1,Ne.symm h1];omega
theorem xI {a b:S64} (h:aK a b=true):aK b a=false:=by
  unfold aK at h ⊢;by_cases h1:a.f1=b.f1
  · by_cases h2:a.f2=b.f2
    · by_cases h3:a.f0.f0=b.f0.f0
      · simp[h1,h2,h3]at h ⊢;omega
      · simp[h1,h2,h3,Ne.symm h3]at h ⊢;omega
    · simp[h1,h2,Ne.symm h2]at h ⊢;omega
  · simp[h1,Ne.symm h1]at h ⊢;omega
theorem before_irrefl (a:S64):aK a a=false:=by simp[aK]
theorem tJ {a b:S64}:aK a b=true↔a.f1>b.f1∨(a.f1=b.f1∧(a.f2<b.f2∨(a.f2=b.f2∧(a.f0.f0<b.f0.f0∨(a.f0.f0=b.f0.f0∧a.f0.f1<b.f0.f1))))):=by
  unfold aK;by_cases h1:a.f1=b.f1
  · by_cases h2:a.f2=b.f2
    · by_cases h3:a.f0.f0=b.f0.f0
      · rw[af h1,af h2,af h3,decide_eq_true_eq];omega
      · rw[af h1,af h2,ag h3,decide_eq_true_eq];omega
    · rw[af h1,ag h2,decide_eq_true_eq];omega
  · rw[ag h1,decide_eq_true_eq];omega
theorem before_trans {a b c:S64} (h:aK a b=true) (k:aK b c=true):aK a c=true:=by
  rw[tJ]at h k ⊢;omega
theorem vR:∀{xs ys:List S64},xs.Pairwise (fun a b=>aK a b=true)→ys.Pairwise (fun a b=>aK a b=true)→(∀a,a∈xs↔a∈ys)→xs=ys
  |[],[],_,_,_=>rfl
  |[],y::_,_,_,h=>by have:=(h y).mpr (by simp);simp at this
  |x::_,[],_,_,h=>by have:=(h x).mp (by simp);simp at this
  |x::xs,y::ys,hx,hy,h=>by
   obtain⟨hx1,hx2⟩:=List.pairwise_cons.1 hx;obtain⟨hy1,hy2⟩:=List.pairwise_cons.1 hy
   have e:x=y:=by
     rcases List.mem_cons.1 ((h x).mp (by simp))with e|e
     · exact e
     rcases List.mem_cons.1 ((h y).mpr (by simp))with e'|e'
     · exact e'.symm
     have a1:=hy1 x e;have a2:=hx1 y e';rw[xI a1]at a2;cases a2
   subst e
   rw[vR hx2 hy2 (fun a=>⟨fun ha=>by
     rcases List.mem_cons.1 ((h a).mp (List.mem_cons_of_mem _ ha))with e|e
     · subst e;have:=hx1 a ha;rw[before_irrefl]at this;cases this
     · exact e,fun ha=>by
     rcases List.mem_cons.1 ((h a).mpr (List.mem_cons_of_mem _ ha))with e|e
     · subst e;have:=hy1 a ha;rw[before_irrefl]at this;cases this
     · exact e⟩)]
def il (x:S64) (out:List S64):Nat→List S64
  |0=>x::out
  |n+1=>if aK x (out.getD n z64)=true then il x out n else out.take (n+1)++x::out.drop (n+1)
theorem uE (x:S64) (out:List S64) (a:S64):∀n,a∈il x out n↔a=x∨a∈out
  |0=>by simp[il]
  |n+1=>by
   unfold il
   split
   · exact uE x out a n
   · rw[List.mem_append,List.mem_cons];constructor
     · rintro(h|h|h)
       · exact .inr (List.mem_of_mem_take h)
       · exact .inl h
       · exact .inr (List.mem_of_mem_drop h)
     · rintro(h|h)
       · exact .inr (.inl h)
       · rw[←List.take_append_drop (n+1) out,List.mem_append]at h;rcases h with h|h
         · exact .inl h
         · exact .inr (.inr h)
theorem um (x:S64) (out:List S64):∀n,(il x out n).length=out.length+1
  |0=>by simp[il]
  |n+1=>by
   unfold il
   split
   · exact um x out n
   · have:=congrArg List.length (List.take_append_drop (n+1) out);simp only[List.length_append,List.length_cons]at this ⊢;omega
theorem vS (x:S64) (out:List S64) (hs:out.Pairwise (fun a b=>aK a b=true)) (hx:∀a∈out,a≠x):
    ∀n,n≤out.length→(∀a∈out.drop n,aK x a=true)→(il x out n).Pairwise (fun a b=>aK a b=true)
  |0,_,h=>by
   unfold il;exact List.pairwise_cons.2 ⟨fun a ha=>h a (by simpa using ha),hs⟩
  |n+1,hn,h=>by
   have hlt:n<out.length:=(by omega);have e:out.getD n z64=out[n]:=(by simp[List.getD_eq_getElem?_getD,hlt]);unfold il;rw[e]
   split
   · rename_i hb
     refine vS x out hs hx n (by omega) fun a ha=> ?_;rw[List.drop_eq_getElem_cons hlt]at ha;rcases List.mem_cons.1 ha with rfl|ha
     · exact hb
     · exact h a ha
   · rename_i hb
     have u:aK out[n] x=true:=by
       rcases before_total (hx out[n] (List.getElem_mem hlt))with h'|h'
       · exact h'
       · exact absurd h' hb
     have hs':=hs;rw[←List.take_append_drop (n+1) out]at hs';obtain⟨p1,p2,p3⟩:=List.pairwise_append.1 hs';refine List.pairwise_append.2 ⟨p1,List.pairwise_cons.2 ⟨h,p2⟩,fun a ha b hb'=> ?_⟩
     have z:aK a x=true:=by
       rw[List.take_succ_eq_append_getElem hlt,List.mem_append,List.mem_singleton]at ha;rcases ha with ha|rfl
       · rw[List.take_succ_eq_append_getElem hlt]at p1;exact before_trans ((List.pairwise_append.1 p1).2.2 a ha out[n] (by simp)) u
       · exact u
     rcases List.mem_cons.1 hb' with rfl|hb'
     · exact z
     · exact p3 a ha b hb'
def oF (x y:S64):Bool:= !(y.f0.f0==x.f0.f0)|| !(y.f0.f1==x.f0.f1)
def nr (l:List S64) (i:Nat):Bool:=((l.getD i z64).f1 != 0)&&(l.drop (i+1)).all (oF (l.getD i z64))
def eN (l:List S64):Nat→List S64
  |0=>[]
  |i+1=>if nr l i=true then il (l.getD i z64) (eN l i) (eN l i).length else eN l i
theorem uQ (l:List S64):∀i,(eN l i).length≤i
  |0=>by simp[eN]
  |i+1=>by
   have:=uQ l i;unfold eN
   split
   · rw[um];omega
   · omega
theorem pI (x:S64):(⟨(⟨x.f0.f0,x.f0.f1⟩:bP),x.f1,x.f2⟩:S64)=x:=rfl
theorem yO (out:List S64) (y:S64) (n:Nat) (h:n<out.length):au (out.take (n+1)++y::out.drop (n+1)) (n:Int)=out.getD n z64:=by
  unfold au;rw[Int.toNat_natCast,List.getD_eq_getElem?_getD,List.getElem?_append_left (by rw[List.length_take];omega),List.getD_eq_getElem?_getD];simp[List.getElem?_take]
theorem ui (out:List S64) (y x:S64) (n:Nat) (h:n≤out.length):(out.take n++y::out.drop n).set n x=out.take n++x::out.drop n:=by
  have e:(out.take n).length=n:=by rw[List.length_take];omega
  rw[List.set_append_right _ _ (by omega),e,Nat.sub_self];rfl
theorem uh (out:List S64) (y:S64) (n:Nat) (h:n≤out.length):(out.take n++y::out.drop n).length=out.length+1:=by
  simp only[List.length_append,List.length_cons,List.length_take,List.length_drop];omega
theorem yP (out:List S64) (n:Nat) (h:n<out.length):out.take (n+1)++out.getD n z64::out.drop (n+1)=out.take n++out.getD n z64::out.drop n:=by
  have e:out.getD n z64=out[n]:=by simp[List.getD_eq_getElem?_getD,h]
  rw[e,List.take_succ_eq_append_getElem h,List.drop_eq_getElem_cons h,List.append_assoc];rfl
theorem uR (l:List S64) (i:Nat) (hi:i<l.length) (hl:l.length≤1048577) (out:List S64) (ho:out.length≤1048577) (R:List S64):
    ∀n,n≤out.length→Ev (fun k=>bH.l0 k l (il l[i] out n) ((i:Int)+1)) R→∀y,Ev (fun k=>bH.l2 k l (out.take n++y::out.drop n) (i:Int) (n:Int)) R
  |0,hn,H,y=>by
   refine Ev.step (fun k=>by rw[bH.l2]) (aw (by omega) ?_);rw[uh out y 0 (by omega)];refine ai (by omega) (ai (by omega) (ai (by omega) (ai (by omega) ?_)));rw[mC l i hi,cm (n:=(i:Int)+1) (by omega) (by omega),pI];simpa[il]using H
  |n+1,hn,H,y=>by
   refine Ev.step (fun k=>by rw[bH.l2]) ?_;have e1:((n+1:Nat):Int)-1=(n:Int):=(by omega);rw[cm (n:=((n+1:Nat):Int)-1) (by omega) (by omega),e1];rw[uh out y (n+1) hn,yO out y n (by omega)];refine ai (by omega) (ai (by omega) (ai (by omega) (ai (by omega) (ai (by omega) ?_))));rw[mC l i hi];refine bc (xJ _ _) ?_;have et:(((n+1:Nat):Int)).toNat=n+1:=(by omega);rw[et,ui out y _ (n+1) hn,ui out y _ (n+1) hn,pI,pI];by_cases hb:aK l[i] (out.getD n z64)=true
   · refine ai hb (ai (by omega) (ai (by omega) ?_));rw[yP out n (by omega)];refine uR l i hi hl out ho R n (by omega) ?_ _;unfold il at H
     rwa [af hb]at H
   · refine aw hb (ai (by omega) (ai (by omega) ?_));rw[cm (n:=(i:Int)+1) (by omega) (by omega)];unfold il at H
     rwa [ag hb]at H
theorem Am (l:List S64) (hl:l.length≤1048577):Ev (fun k=>bH.f k l) (if dK l=true then eN l l.length else[]):=by
  have u:=pW l hl;by_cases h0:dK l=true;rotate_left
  · rw[ag h0];replace h0:=Bool.eq_false_iff.mpr h0;rw[h0]at u;unfold bH.f;by_cases hz:l.length=0
    · have:l=[]:=List.length_eq_zero_iff.mp hz;subst this;exact absurd h0 (by decide)
    refine Ev.step (fun k=>by rw[bH.l0]) (ai (by omega) (Ev.bind u ?_));exact Ev.step (fun k=>by rw[bH.j1]) (aw (by decide) (evs rfl))
  rw[af h0];rw[h0]at u;obtain⟨R,hR⟩:∃R,eN l l.length=R:=⟨_,rfl⟩
  have key:∀i,i≤l.length→Ev (fun k=>bH.l0 k l (eN l i) (i:Int)) R:=by
    refine down (n:=l.length) ?_ ?_
    · refine Ev.step (fun k=>by rw[bH.l0]) (aw (by omega) ?_);exact Ev.step (fun k=>by rw[bH.j1]) (aw (by decide) (evs hR))
    · intro i hi ih;have eg:l.getD i z64=l[i]:=(by simp[List.getD_eq_getElem?_getD,hi]);refine Ev.step (fun k=>by rw[bH.l0]) (ai (by omega) (Ev.bind u ?_));refine Ev.step (fun k=>by rw[bH.j1]) (ai rfl (ai (by omega) (ai (by omega) ?_)));rw[mC l i hi,cm (n:=(i:Int)+1) (by omega) (by omega)]
      have z:∀j,j≤l.length→∀b,(b&&(l.drop j).all (oF l[i]))=nr l i→Ev (fun k=>bH.l1 k l (eN l i) (i:Int) b (j:Int)) R:=by
        refine down (n:=l.length) ?_ ?_
        · intro b hb;rw[lN]at hb;simp only[List.all_nil,Bool.and_true]at hb;refine Ev.step (fun k=>by rw[bH.l1]) (aw (by omega) ?_);have ho:=uQ l i;cases b with
          |true=>
           refine ai rfl (ai (by omega) (ai (by omega) (ai (by omega) ?_)));rw[mC l i hi,pI]
           have:=uR l i hi hl (eN l i) (by omega) R (eN l i).length (Nat.le_refl _) (by
             have e:((i+1:Nat):Int)=(i:Int)+1:=(by omega);rw[←e];unfold eN at ih;rw[af hb.symm,eg]at ih;exact ih) l[i]
           rwa [List.take_length,lN]at this
          |false=>
           refine aw (by decide) ?_;rw[cm (n:=(i:Int)+1) (by omega) (by omega)];have e:((i+1:Nat):Int)=(i:Int)+1:=(by omega);rw[←e];unfold eN at ih;rw[ag (by rw[←hb];decide)]at ih;exact ih
        · intro j hj ih1 b hb;refine Ev.step (fun k=>by rw[bH.l1]) (ai (by omega) ?_);rw[drop_cons l j hj,List.all_cons]at hb;have e:(j:Int)+1=((j+1:Nat):Int):=(by omega);rw[cm (n:=(j:Int)+1) (by omega) (by omega),e];cases b with
          |true=>
           refine ai rfl (ai (by omega) (ai (by omega) (ai (by omega) ?_)));rw[mC l j hj,mC l i hi];exact ih1 _ (by rw[←hb];simp[oF])
          |false=>exact aw (by decide) (ih1 false (by rw[←hb];simp))
      have e:(i:Int)+1=((i+1:Nat):Int):=(by omega);rw[e];exact z (i+1) hi _ (by unfold nr;rw[eg])
  rw[hR];exact key 0 (Nat.zero_le _)
theorem uJ {x y:S64}:oF x y=true↔y.f0≠x.f0:=by
  have e:y.f0=x.f0↔y.f0.f0=x.f0.f0∧y.f0.f1=x.f0.f1:=by
    obtain⟨⟨a,b⟩,c,d⟩:=x;obtain⟨⟨a',b'⟩,c',d'⟩:=y;simp
  unfold oF;rw[ne_eq,e];by_cases h0:y.f0.f0=x.f0.f0<;>by_cases h1:y.f0.f1=x.f0.f1<;>simp[h0,h1]
theorem rP (l:List S64) (p:bP) (x:S64):
    ∀n,n≤l.length→(jm (l.take n) p=some x↔∃i,i<n∧l[i]? =some x∧x.f0=p∧∀j y,i<j→j<n→l[j]? =some y→y.f0≠p)
  |0,_=>by
   constructor
   · intro h;simp[jm]at h
   · rintro⟨i,hi,_⟩;omega
  |n+1,hn=>by
   have hlt:n<l.length:=(by omega);have ih:=rP l p x n (by omega);have eg:l[n]? =some l[n]:=List.getElem?_eq_getElem hlt;rw[List.take_succ_eq_append_getElem hlt,rQ];by_cases hp:p=l[n].f0
   · simp only[af hp,Option.some.injEq];constructor
     · intro e;subst e;exact⟨n,by omega,eg,hp.symm,fun j y h1 h2 _=>by omega⟩
     · rintro⟨i,hi,h1,h2,h3⟩;by_cases hin:i=n
       · subst hin;rw[eg]at h1;exact aH h1
       · exact absurd hp.symm (h3 n _ (by omega) (by omega) eg)
   · simp only[ag hp];rw[ih];constructor
     · rintro⟨i,hi,h1,h2,h3⟩;refine⟨i,by omega,h1,h2,fun j y k1 k2 k3=> ?_⟩;by_cases hjn:j=n
       · subst hjn;rw[eg]at k3;cases k3;exact fun e=>hp e.symm
       · exact h3 j y k1 (by omega) k3
     · rintro⟨i,hi,h1,h2,h3⟩;by_cases hin:i=n
       · subst hin;rw[eg]at h1;cases h1;exact absurd h2.symm hp
       · exact⟨i,by omega,h1,h2,fun j y k1 k2 k3=>h3 j y k1 (by omega) k3⟩
theorem rO (l:List S64) (i:Nat) (x:S64) (hx:l[i]? =some x):nr l i=true↔x.f1≠0∧∀j y,i<j→l[j]? =some y→y.f0≠x.f0:=by
  have eg:l.getD i z64=x:=by simp[List.getD_eq_getElem?_getD,hx]
  unfold nr;rw[eg,Bool.and_eq_true,bne_iff_ne,List.all_eq_true];constructor
  · rintro⟨h1,h2⟩;refine⟨h1,fun j y hj hy=>uJ.mp (h2 y ?_)⟩;rw[List.mem_iff_getElem?];exact⟨j-(i+1),by rw[List.getElem?_drop,show i+1+(j-(i+1))=j by omega];exact hy⟩
  · rintro⟨h1,h2⟩;refine⟨h1,fun y hy=>uJ.mpr ?_⟩;rw[List.mem_iff_getElem?]at hy;obtain⟨k,hk⟩:=hy;rw[List.getElem?_drop]at hk;exact h2 _ y (by omega) hk
theorem oA (l:List S64) (x:S64):∀n,n≤l.length→(x∈eN l n↔∃i,i<n∧nr l i=true∧l[i]? =some x)
  |0,_=>by
   constructor
   · intro h;simp[eN]at h
   · rintro⟨i,hi,_⟩;omega
  |n+1,hn=>by
   have hlt:n<l.length:=(by omega);have eg:l[n]? =some l[n]:=List.getElem?_eq_getElem hlt;have ed:l.getD n z64=l[n]:=(by simp[List.getD_eq_getElem?_getD,hlt]);have ih:=oA l x n (by omega);unfold eN
   split
   · rename_i hl
     rw[uE,ih,ed];constructor
     · rintro(e|⟨i,h1,h2,h3⟩)
       · exact⟨n,by omega,hl,by rw[e];exact eg⟩
       · exact⟨i,by omega,h2,h3⟩
     · rintro⟨i,h1,h2,h3⟩;by_cases hin:i=n
       · subst hin;rw[eg]at h3;exact .inl (aH h3).symm
       · exact .inr ⟨i,by omega,h2,h3⟩
   · rename_i hl
     rw[ih];constructor
     · rintro⟨i,h1,h2,h3⟩;exact⟨i,by omega,h2,h3⟩
     · rintro⟨i,h1,h2,h3⟩;by_cases hin:i=n
       · subst hin;exact absurd h2 hl
       · exact⟨i,by omega,h2,h3⟩
theorem vT (l:List S64):∀n,n≤l.length→(eN l n).Pairwise (fun a b=>aK a b=true)
  |0,_=>by simp[eN]
  |n+1,hn=>by
   have hlt:n<l.length:=(by omega);have eg:l[n]? =some l[n]:=List.getElem?_eq_getElem hlt;have ed:l.getD n z64=l[n]:=(by simp[List.getD_eq_getElem?_getD,hlt]);have ih:=vT l n (by omega);unfold eN
   split
   · refine vS _ _ ih (fun a ha e=> ?_) _ (Nat.le_refl _) (by rw[lN];intro a ha;cases ha);rw[ed]at e;obtain⟨i,h1,h2,h3⟩:=(oA l a n (by omega)).mp ha;exact((rO l i a h3).mp h2).2 n _ h1 eg (by rw[e])
   · exact ih
theorem rW (l:List S64) (x:S64):x∈eN l l.length↔jm l x.f0=some x∧x.f1≠0:=by
  rw[oA l x l.length (Nat.le_refl _)];have H:=rP l x.f0 x l.length (Nat.le_refl _);rw[List.take_length]at H;rw[H];constructor
  · rintro⟨i,h1,h2,h3⟩;obtain⟨k1,k2⟩:=(rO l i x h3).mp h2;exact⟨⟨i,h1,h3,rfl,fun j y a b c=>k2 j y a c⟩,k1⟩
  · rintro⟨⟨i,h1,h2,_,h3⟩,k1⟩;refine⟨i,h1,(rO l i x h2).mpr ⟨k1,fun j y a c=>h3 j y a ?_ c⟩,h2⟩;exact(List.getElem?_eq_some_iff.mp c).1
theorem Ao (l xs:List S64) (hs:xs.Pairwise (fun a b=>aK a b=true)) (hm:∀x,x∈xs↔jm l x.f0=some x∧x.f1≠0):xs=eN l l.length:=
  vR hs (vT l l.length (Nat.le_refl _)) (fun a=>(hm a).trans (rW l a).symm)
end Q
namespace P
open Go.RowKit WW.bq
theorem zF {l:List S64} (h:Q.dK l=true):l.length≤30∧(∀x∈l,cw x.f0.f0∧cw x.f0.f1)∧∀x∈l,0≤x.f1∧x.f1≤2:=by
  have h1:l.length≤30:=by simp[Q.dK]at h;exact h.2
  have h2:Q.fB 0 l=true:=by simp[Q.dK]at h;exact h.1
  have key:∀(l:List S64) (p:Int),Q.fB p l=true→∀x∈l,(cw x.f0.f0∧cw x.f0.f1)∧0≤x.f1∧x.f1≤2:=by
    intro l
    induction l with
    |nil=>intro p _ x hx;cases hx
    |cons e r ih=>
     intro p h x hx;simp only[Q.fB,Bool.and_eq_true]at h;rcases List.mem_cons.1 hx with rfl|hx
     · have:=h.1;simp[Q.l_]at this;exact⟨⟨nJ (by omega) (by omega),nJ (by omega) (by omega)⟩,by omega,by omega⟩
     · exact ih _ h.2.2 x hx
  exact⟨h1,fun x hx=>(key l 0 h2 x hx).1,fun x hx=>(key l 0 h2 x hx).2⟩
end P
namespace P
open Go.RowKit WW.bq WW.cg WW.cd V
open Go.Maps (Keyed)
attribute [local go_sem] dN dO
structure Found (m:bP→Option S64) (left:Lit→Bool) (xs:List S64):Prop where
  all:∀x∈xs,m x.f0=some x∧x.f1≠0∧cw x.f0.f0∧cw x.f0.f1∧left (fZ x.f0.f0 x.f0.f1)=false
  nodup:xs.Pairwise (fun a b=>a.f0≠b.f0)
  got:∀(p:bP) (x:S64),cw p.f0→cw p.f1→m p=some x→x.f1≠0→left (fZ p.f0 p.f1)=false→x∈xs
theorem Found.step {m:bP→Option S64} {left:Lit→Bool} {xs:List S64} (h:Found m left xs) (c:S64) (h0:cw c.f0.f0) (h1:cw c.f0.f1) (hm:m c.f0=some c)
    (hl:left (fZ c.f0.f0 c.f0.f1)=true):Found m (fun z=>left z&& !z.sameKey (fZ c.f0.f0 c.f0.f1)) (if c.f1≠0 then xs++[c]else xs):=by
  have hk:=mA.key (my h0 h1);have D:(fZ c.f0.f0 c.f0.f1).sameKey (fZ c.f0.f0 c.f0.f1)=true:=WideAt.sameKey_self hk
  have hold:∀p x,cw p.f0→cw p.f1→m p=some x→x.f1≠0→(left (fZ p.f0 p.f1)&& !(fZ p.f0 p.f1).sameKey (fZ c.f0.f0 c.f0.f1))=false→x∈xs∨x=c:=by
    intro p x p0 p1 hp hx hf;rw[Bool.and_eq_false_iff]at hf;rcases hf with hf|hf
    · exact .inl (h.got p x p0 p1 hp hx hf)
    · by_cases he:fZ p.f0 p.f1=fZ c.f0.f0 c.f0.f1
      · obtain⟨e0,e1⟩:=uV p0 p1 h0 h1 he
        have:p=c.f0:=by
          obtain⟨a,b⟩:=p;obtain⟨⟨u,v⟩,_,_⟩:=c;simp only at e0 e1;rw[e0,e1]
        subst this;rw[hm]at hp;exact .inr (aH hp).symm
      · rw[Maps.sameKey_ne he]at hf;cases hf
  by_cases hc:c.f1≠0
  · rw[af hc];refine⟨fun x hx=> ?_,?_,fun p x p0 p1 hp hx hf=> ?_⟩
    · rcases List.mem_append.1 hx with hx|hx
      · obtain⟨a,b,u,v,w⟩:=h.all x hx;exact⟨a,b,u,v,by rw[w];rfl⟩
      · rw[List.mem_singleton]at hx;subst hx;exact⟨hm,hc,h0,h1,by rw[D];simp⟩
    · refine List.pairwise_append.2 ⟨h.nodup,List.pairwise_singleton _ _,fun a ha b hb e=> ?_⟩;rw[List.mem_singleton]at hb;subst hb;have:=(h.all a ha).2.2.2.2;rw[e,hl]at this;cases this
    · rcases hold p x p0 p1 hp hx hf with h'|h'
      · exact List.mem_append_left _ h'
      · rw[h'];simp
  · rw[ag hc];refine⟨fun x hx=> ?_,h.nodup,fun p x p0 p1 hp hx hf=> ?_⟩
    · obtain⟨a,b,u,v,w⟩:=h.all x hx;exact⟨a,b,u,v,by rw[w];rfl⟩
    · rcases hold p x p0 p1 hp hx hf with h'|h'
      · exact h'
      · rw[h']at hx;exact absurd hx hc
theorem zJ {D:DataW Unit} {m:bP→Option S64} (h:lG D m) {p:bP} (h0:cw p.f0) (h1:cw p.f1) {c:S64} (hat:∀zd,D.atKey (fZ p.f0 p.f1) zd=jL c):m p=some c:=by
  cases hm:m p with
  |none=>
   have a:=(h.at_ p h0 h1 (.map [])).symm.trans (hat _);rw[hm]at a;exact absurd a (by simp[jL])
  |some x=>
   have a:=(h.at_ p h0 h1 (.map [])).symm.trans (hat _);rw[hm]at a;exact congrArg some (sk a)
end P
namespace P
set_option maxHeartbeats 8000000
set_option maxRecDepth 100000
set_option synthInstance.maxHeartbeats 400000
set_option synthInstance.maxSize 100000
open Go.RowKit WW.bq WW.cg WW.cd V
attribute [local go_sem] dN dO
attribute [local go_sem] cN cR cQ cU cP cT cO cS
def mh.f (l0:List (S64)) (u:Int) (z:Int):Option (Int):=if cw u∧cw z∧l0.length≤1048577 then some (if Q.dK l0=true then iZ l0 ⟨u,z⟩else 0)else none
theorem zH {l:List S64} (h:Q.dK l=true):l.length≤1000∧∀x∈l,cw x.f0.f0∧cw x.f0.f1:=by
 have h1:l.length≤30:=by simp[Q.dK]at h;exact h.2
 refine⟨by omega,fun x hx=> ?_⟩;have h2:Q.fB 0 l=true:=by simp[Q.dK]at h;exact h.1
 have key:∀(l:List S64) (p:Int),Q.fB p l=true→∀x∈l,cw x.f0.f0∧cw x.f0.f1:=by
  intro l
  induction l with
  |nil=>intro p _ x hx;cases hx
  |cons e r ih=>
   intro p h x hx;simp only[Q.fB,Bool.and_eq_true]at h;rcases List.mem_cons.1 hx with rfl|hx
   ·have:=h.1;simp[Q.l_]at this;exact⟨nJ (by omega) (by omega),nJ (by omega) (by omega)⟩
   ·exact ih _ h.2.2 x hx
 exact key l 0 h2 x hx
theorem mh.c (A0:Option Addr) (c0:Nat) (l0:List (S64)) (u:Int) (z:Int) (r:Int) (w:World) (J:Kd.C aW w A0 l0.length l0) (hc0:l0.length≤c0) (h:mh.f l0 u z=some r):
  Calls Tryz.prog 105 #[.slice A0 l0.length c0,.agg #[.int .i64 u,.int .i64 z]] w fun e w'=>e= .returned (.int .i64 r)∧Below w.heap.size w w':=by
 unfold mh.f at h;by_cases h0:cw u∧cw z∧l0.length≤1048577;rotate_left
 ·rw[ag h0]at h;cases h
 rw[af h0]at h;obtain⟨k,hk⟩:=Q.pV l0 h0.2.2;have A:=hk k (Nat.le_refl _);have i0:=bn.mk J;have i1:=aq.mk hc0;clear hk J hc0;by_cases hb:Q.dK l0=true
 ·rw[af hb]at h;rw[hb]at A;obtain⟨hl,hw⟩:=zH hb;obtain rfl:=aH h;have H:ae (iZ l0 ⟨u,z⟩=((jm l0 ⟨u,z⟩).getD z64).f1):=⟨rfl⟩;obtain⟨res,hres⟩:∃res,iZ l0 ⟨u,z⟩=res:=⟨_,rfl⟩;rw[hres]at H;rw[hres];have A:=A_ A;have HW:=A_ hw;have H0:=A_ h0;clear h hres hw h0 hb;have X:=Tryz.underlying64;have V:=Tryz.underlying62;have U:=yu;go_enter Tryz.func105,Tryz.ntmps105
  go_wp2_with (first
   |((with_reducible refine ax (N:=3) rfl ?_);refine bV #[.int .i64 u,.int .i64 z] 62 fun g w1 j1 j2 O=> ?_)
   |(go_at_call 56;refine(fW.c k _ _ _ true _ Rd.out aq.out A.out).mono ?_;rintro e w2 ⟨rfl,hb⟩;have G:=az.mk hb;clear hb)
   |(go_at_call 133;refine(rN.c _ _ _ _ Rd.out aq.out hl HW.out).mono ?_;rintro e w3 ⟨b,rfl,hb1,hm,hb⟩;obtain⟨D,hD,F⟩:=hm;have G:=az.mk hb;obtain⟨x,hrun,hx⟩:=uC hD F ⟨u,z⟩ H0.out.1 H0.out.2.1;have I:=A_ hx;clear hb hb1 hD F hx)
   |((with_reducible refine oJ ?_);intro w3 Y;go_region_held3 (fun w'=>gl w3 w') (first|exact⟨From.out⟩|skip) (first|(go_at_call 56;refine(fW.c k _ _ _ true _ Rd.out aq.out A.out).mono ?_;rintro e w2 ⟨rfl,hb⟩;have G:=az.mk hb;clear hb)|(go_at_call 133;refine(rN.c _ _ _ _ Rd.out aq.out hl HW.out).mono ?_;rintro e w3 ⟨b,rfl,hb1,hm,hb⟩;obtain⟨D,hD,F⟩:=hm;have G:=az.mk hb;obtain⟨x,hrun,hx⟩:=uC hD F ⟨u,z⟩ H0.out.1 H0.out.2.1;have I:=A_ hx;clear hb hb1 hD F hx))))
  go_ret;have K:x.f1=res:=by rw[H.out,←I.out]
  exact⟨by rw[←K];rfl,From.out⟩
 ·rw[ag hb]at h;replace hb:=Bool.eq_false_iff.mpr hb;rw[hb]at A;obtain rfl:=aH h;have A:=A_ A;clear h h0 hb;go_enter Tryz.func105,Tryz.ntmps105
  go_wp2_with (first
   |((with_reducible refine ax (N:=3) rfl ?_);refine bV #[.int .i64 u,.int .i64 z] 62 fun g w1 j1 j2 O=> ?_)
   |(go_at_call 56;refine(fW.c k _ _ _ false _ Rd.out aq.out A.out).mono ?_;rintro e w2 ⟨rfl,hb⟩;have G:=az.mk hb;clear hb))
  go_ret;exact⟨rfl,From.out⟩
end P
namespace P
set_option maxHeartbeats 8000000
set_option maxRecDepth 100000
set_option synthInstance.maxHeartbeats 400000
set_option synthInstance.maxSize 100000
open Go.RowKit WW.bq WW.cg WW.cd V
attribute [local go_sem] dN dO iY kV kX lK lQ
attribute [local go_sem] cN cR cQ cU cP cT cO cS
def gS.f (k:Nat) (H:List (aj)) (F:Int) (u:List Int) (z:Int) (G:Int) (D:List (S64)) (a1:Int):Option (Int):=(eD.f k H F u z G D).bind fun I=>(if I=true then((cv.f a1 0 11).bind fun J=>(if J=true then(if 0≤a1 then(if a1<(u.length:Int)then(if(rd u a1)=0 then(some 0)else((mh.f D 0 a1).bind fun K=>(if K=1 then(some 0)else((nh.f (rd u a1) z).bind fun O=>(some O)))))else(none))else(none))else(some 0)))else(some 0))
noncomputable def gS.T3:Bool×List (List Nat×List Nat):=bo .any (opsOf Tryz.f67 3)
def gS.B3:List Nat:=[0,1,3,0,15,31,0,64,255,511]
theorem gS.kn:bo .any (opsOf Tryz.f67 3)=gS.T3:=rfl
theorem gS.jY:cp gS.T3.2 gS.B3=true:=by kernel_rfl
theorem gS.c (k:Nat) (H:Option Addr) (Y:Nat) (D:List (aj)) (U:Int) (I:Option Addr) (Z:Nat) (F:List Int) (V:Int) (X:Int) (J:Option Addr) (ad:Nat) (G:List (S64)) (a1:Int) (r:Int) (w:World) (al:Kd.C aX w H D.length D) (ae:D.length≤Y) (am:Kd.C (Kd.int .i64) w I F.length F) (ai:F.length≤Z) (ao:Kd.C aW w J G.length G) (ak:G.length≤ad) (h:gS.f k D U F V X G a1=some r):
  Calls Tryz.prog 67 #[.agg #[.slice H D.length Y,.int .i64 U,.slice I F.length Z,.int .i64 V,.int .i64 X,.slice J G.length ad],.int .i64 a1] w fun e w'=>e= .returned (.int .i64 r)∧Below w.heap.size w w':=by
 replace al:=bn.mk al;replace ae:=aq.mk ae;replace am:=bn.mk am;replace ai:=aq.mk ai;replace ao:=bn.mk ao;replace ak:=aq.mk ak;unfold gS.f at h;have aA:=Tryz.underlying30;have aB:=Tryz.underlying62
 all_goals go_enter Tryz.func67,Tryz.ntmps67
 all_goals go_wp2_with ((first
  |((with_reducible refine ax (N:=2) rfl ?_);refine bV #[.slice H D.length Y,.int .i64 U,.slice I F.length Z,.int .i64 V,.int .i64 X,.slice J G.length ad] 30 fun g w1 j1 j2 aE=> ?_)
  |(go_at_call 28;(try rw[z.out]);replace h:=bI h;obtain⟨t,A,h⟩:=h;(try dsimp only at h);refine(eD.c _ _ _ _ _ _ _ _ _ _ _ _ _ _ _ Rd.out aq.out Rd.out aq.out Rd.out aq.out A).mono ?_;rintro e w2 ⟨rfl,hb⟩;have aw:=az.mk hb;clear A hb)
  |(go_at_call 58;(try rw[z.out]);replace h:=bI h;obtain⟨t,A,h⟩:=h;(try dsimp only at h);refine(cv.c _ _ _ _ _ A).mono ?_;rintro e w2 ⟨rfl,n,rfl⟩;clear A)
  |(go_at_call 105;(try rw[z.out]);replace h:=bI h;obtain⟨t,A,h⟩:=h;(try dsimp only at h);refine(mh.c _ _ _ _ _ _ _ Rd.out aq.out A).mono ?_;rintro e w2 ⟨rfl,hb⟩;have aw:=az.mk hb;clear A hb)
  |(refine qR (id:=3) (ds:=[]) (l:= #[false,false,false,false,false,false,false,false,false,false]) gS.kn gS.jY ?_;intro u O w3 aF u0 aC hHeld;replace h:=bI h;obtain⟨aI,ap,h⟩:=h;(try dsimp only at h);refine qA 0 (some 30) u ?_;refine qA 1 (some 31) u ?_;refine qT 2 (some 32) u O hHeld ?_;refine qA 3 (some 33) u ?_;refine qA 4 (some 34) u ?_;refine qT 5 (some 35) u O hHeld ?_;refine qA 6 (some 36) u ?_;refine qT 7 (some 37) u O hHeld ?_;refine gu 8 (some 38) u fun K hK=> ?_;refine cy Tryz.func106 (by kernel_rfl) rfl _ (by rfl) rfl rfl (by(try simp only[List.map_toArray,List.map_cons,List.map_nil]);rfl) ?_;refine(nh.c _ _ _ _ ap).mono ?_;rintro e u8 ⟨rfl,n,rfl⟩;refine⟨_,rfl,hK.out _ _ From.out fun hHeld=> ?_⟩;clear hK K;refine qN ?_;refine qA 9 (some 4) u ?_;refine qD u ?_;all_goals((try simp only[aG]at h);(repeat' first|((with_reducible replace h:=bU h);rcases h with ⟨hc,h⟩|⟨hc,h⟩<;>first|exact(bL h).elim|exact absurd hc (by decide)|subst hc|(replace hc:=bA hc;subst hc)|(replace hc:=dz hc;subst hc)|(replace hc:=dA hc;subst hc)|(have hd:(_==_)=true:=hc)|(have hd:(_==_)=false:=bA hc)|(have hd:=bQ hc;have he:=bR hc;clear hc)|(have hd:=bS hc;have he:=bT hc)|(have hd:=ay hc)|(have hd:=ah hc;(try(have hn:=Int.natCast_pos.mp hc;have hm:=ah hn;replace hn:=av hn));first|(obtain⟨au,e_,i_⟩:=dy (by assumption) (by first|assumption|decide) hc;cases e_)|(obtain⟨ar,e_,c_⟩:=dv (by assumption) (by first|assumption|decide) hc;cases e_))|(have hd:=ah hc)|skip)|((with_reducible replace h:=dw h);obtain⟨z,h⟩:=h;replace z:=A_ z;(try dsimp only at h))))));(repeat' first|((with_reducible replace h:=bU h);rcases h with ⟨hc,h⟩|⟨hc,h⟩<;>first|exact(bL h).elim|exact absurd hc (by decide)|subst hc|(replace hc:=bA hc;subst hc)|(replace hc:=dz hc;subst hc)|(replace hc:=dA hc;subst hc)|(have hd:(_==_)=true:=hc)|(have hd:(_==_)=false:=bA hc)|(have hd:=bQ hc;have he:=bR hc;clear hc)|(have hd:=bS hc;have he:=bT hc)|(have hd:=ay hc)|(have hd:=ah hc;(try(have hn:=Int.natCast_pos.mp hc;have hm:=ah hn;replace hn:=av hn));first|(obtain⟨au,e_,i_⟩:=dy (by assumption) (by first|assumption|decide) hc;cases e_)|(obtain⟨ar,e_,c_⟩:=dv (by assumption) (by first|assumption|decide) hc;cases e_))|(have hd:=ah hc)|skip)|((with_reducible replace h:=dw h);obtain⟨z,h⟩:=h;replace z:=A_ z;(try dsimp only at h))))
 all_goals obtain rfl:=aH h
 all_goals go_ret
 all_goals exact⟨(by first|rfl|(simp_all;done)),From.out⟩
end P

end Go.Proofs.YtnjfiaekdcekgaaGreatDoor
