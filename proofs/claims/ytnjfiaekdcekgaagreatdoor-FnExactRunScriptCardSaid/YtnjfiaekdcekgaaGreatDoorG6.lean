/- What functions of the program come to (f), that their calls come to just this (calls), and the plain laws over lists and numbers. No condition but those of the given row. -/
import Derived.Test.YtnjfiaekdcekgaaGreatDoorG5
set_option linter.unusedVariables false
set_option linter.unusedSimpArgs false
namespace Go.Proofs.YtnjfiaekdcekgaaGreatDoor
namespace Q
open Go.RowKit P WW.bq
def iz (w:List UInt8):Prop:=w≠[]∧∀b∈w,b≠32
theorem sD:∀(w cur rest:List UInt8),(∀b∈w,b≠32)→dp cur (w++rest)=dp (cur++w) rest
  |[],cur,rest,_=>by simp
  |b::w,cur,rest,h=>by
   rw[List.cons_append,dp,ag (h b (by simp)),sD w (cur++[b]) rest (fun x hx=>h x (by simp[hx]))];simp
theorem sB:∀(r:List (List UInt8)) (x:List UInt8),iz x→(∀w∈r,iz w)→dp [] (Go.Lib.join (x::r) [32])=x::r
  |[],x,hx,_=>by
   rw[Go.Lib.join_one,←List.append_nil x,sD x [] [] hx.2,dp];simp[hx.1]
  |y::r,x,hx,hr=>by
   have ih:=sB r y (hr y (by simp)) (fun w hw=>hr w (by simp[hw]));rw[Go.Lib.join_cons,show Go.Lib.joinTail [32] (y::r)=32::(y++Go.Lib.joinTail [32] r)by simp[Go.Lib.joinTail],sD x [] _ hx.2,List.nil_append,dp,af rfl,ag hx.1,←Go.Lib.join_cons,ih]
theorem y7 {x y:List UInt8} {r q:List (List UInt8)} (h1:∀w∈x::r,iz w) (h2:∀w∈y::q,iz w) (h:Go.Lib.join (x::r) [32]=Go.Lib.join (y::q) [32]):x::r=y::q:=by
  rw[←sB r x (h1 x (by simp)) (fun w hw=>h1 w (by simp[hw])),h,sB q y (h2 y (by simp)) (fun w hw=>h2 w (by simp[hw]))]
theorem qo:∀(l cur:List UInt8),(∀b∈cur,b≠32)→∀w∈dp cur l,iz w
  |[],cur,hc,w,hw=>by
   rw[dp]at hw
   split at hw
   · cases hw
   · next h=>obtain rfl:=List.mem_singleton.mp hw;exact⟨h,hc⟩
  |b::r,cur,hc,w,hw=>by
   rw[dp]at hw
   split at hw
   · split at hw
     · exact qo r [] (by simp) w hw
     · next h=>
       rcases List.mem_cons.mp hw with rfl|hw
       · exact⟨h,hc⟩
       · exact qo r [] (by simp) w hw
   · next hb=>
     refine qo r (cur++[b]) (fun x hx=> ?_) w hw;rcases List.mem_append.mp hx with h|h
     · exact hc x h
     · obtain rfl:=List.mem_singleton.mp h;exact hb
theorem oM:∀(l cur:List UInt8),∀w∈dp cur l,w.length≤cur.length+l.length
  |[],cur,w,hw=>by
   rw[dp]at hw
   split at hw
   · cases hw
   · obtain rfl:=List.mem_singleton.mp hw;simp
  |b::r,cur,w,hw=>by
   rw[dp]at hw
   split at hw
   · split at hw
     · have:=oM r [] w hw;simp at this ⊢;omega
     · rcases List.mem_cons.mp hw with rfl|hw
       · simp;try omega
       · have:=oM r [] w hw;simp at this ⊢;omega
   · have:=oM r (cur++[b]) w hw;simp at this ⊢;omega
theorem Ae (v:Int):iz (num v):=by
  have hd:∀u,∀b∈Go.Lib.decDigits u,b≠32:=fun u b hb e=>by
    have:=rH u b hb;rw[e]at this;simp at this
  by_cases h:v<0
  · rw[rX h];refine⟨by simp,fun b hb=> ?_⟩;rcases List.mem_cons.mp hb with rfl|hb
    · decide
    · exact hd _ b hb
  · rw[pX (by omega)];exact⟨nc _,hd _⟩
theorem zU (n:Int):iz (kT n):=by
  unfold kT iz
  repeat' split
  all_goals decide
theorem xE {n a b c:Int} (h:eo n a b c=true):gD n a b c=Go.Lib.join (kT n::(jU n a b c).map num) [32]:=by
  unfold gD;rw[af h,Go.Lib.join_cons]
  congr 1
  generalize jU n a b c=l
  induction l with
  |nil=>rfl
  |cons v r ih=>
   rw[List.map_cons,show Go.Lib.joinTail [32] (num v::r.map num)=32::(num v++Go.Lib.joinTail [32] (r.map num))by simp[Go.Lib.joinTail],←ih];simp[fu]
theorem tB {n a b c:Int} (h:eo n a b c=true) {x:List UInt8} {r:List (List UInt8)} (hg:∀w∈x::r,iz w) (he:gD n a b c=Go.Lib.join (x::r) [32]):x=kT n∧r=(jU n a b c).map num:=by
  rw[xE h]at he
  have:=y7 (fun w hw=>by
    rcases List.mem_cons.mp hw with rfl|hw
    · exact zU n
    · obtain⟨v,_,rfl⟩:=List.mem_map.mp hw;exact Ae v) hg he
  injection this with h1 h2;exact⟨h1.symm,h2.symm⟩
theorem zk {n:Int} (h1:1≤n) (h7:n≤7):dQ (kT n)=n:=by
  have:n=1∨n=2∨n=3∨n=4∨n=5∨n=6∨n=7:=by omega
  rcases this with rfl|rfl|rfl|rfl|rfl|rfl|rfl<;>decide
def dW:List Int→Int×Int×Int
  |[]=>(0,0,0)
  |[a]=>(a,0,0)
  |[a,b]=>(a,b,0)
  |a::b::c::_=>(a,b,c)
theorem tC {n a b c:Int} (h:eo n a b c=true):dW (jU n a b c)=(a,b,c)∧(jU n a b c).length≤3∧∀v∈jU n a b c,-1000000000≤v∧v≤1000000000:=by
  unfold eo at h;unfold jU;by_cases h1:n=1∨n=5∨n=6
  · rw[af h1]at h;obtain⟨rfl,rfl,rfl⟩:=of_decide_eq_true h;rw[ag (by omega),ag (by omega),ag (by omega)];simp[dW]
  rw[ag h1]at h;by_cases h2:n=2
  · rw[af h2]at h;obtain⟨h3,rfl,rfl⟩:=of_decide_eq_true h;rw[af (Or.inl h2)];simp[dW];omega
  rw[ag h2]at h;by_cases h3:n=3
  · rw[af h3]at h;have h4:=of_decide_eq_true h;rw[ag (by omega),af h3];simp[dW];omega
  rw[ag h3]at h;by_cases h4:n=4
  · rw[af h4]at h;obtain⟨h5,h6,rfl⟩:=of_decide_eq_true h;rw[ag (by omega),ag (by omega),af h4];simp[dW];omega
  rw[ag h4]at h;by_cases h7:n=7
  · rw[af h7]at h;obtain⟨h5,rfl,rfl⟩:=of_decide_eq_true h;rw[af (Or.inr h7)];simp[dW];omega
  rw[ag h7]at h;cases h
abbrev Zp:Int×Int×Int×Int×Bool:=(0,0,0,0,false)
def ln (r:List (List UInt8)):Option (Int×Int×Int):=dc.gg 0 (r.map txt) 0 0 0
def kL:List (List UInt8)→Int×Int×Int×Int×Bool
  |[]=>Zp
  |x::r=>match ln r with
   |none=>Zp
   |some (A,B,C)=>if eo (dQ x) A B C=true∧gD (dQ x) A B C=Go.Lib.join (x::r) [32]then(dQ x,A,B,C,true)else Zp
theorem vF {x:List UInt8} {r:List (List UInt8)} (h:ln r=none):kL (x::r)=Zp:=by simp only[kL,h]
theorem su {x:List UInt8} {r:List (List UInt8)} {A B C:Int} (h:ln r=some (A,B,C)):kL (x::r)=if eo (dQ x) A B C=true∧gD (dQ x) A B C=Go.Lib.join (x::r) [32]then(dQ x,A,B,C,true)else Zp:=by simp only[kL,h]
theorem xG {s:ByteArray} {v:Int} (h:jV s=some v):eM v:=by
  unfold jV at h
  split at h
  · next x e=>obtain rfl:=aH h;exact Go.Lib.atoiAll_bounds e
  · cases h
theorem uM:∀(r:List ByteArray) (i:Nat) (A B C:Int),eM A→eM B→eM C→∀x y z,dc.gg i r A B C=some (x,y,z)→eM x∧eM y∧eM z
  |[],i,A,B,C,hA,hB,hC,x,y,z,h=>by
   rw[dc.gg]at h;simp only[Option.some.injEq,Prod.mk.injEq]at h;obtain⟨rfl,rfl,rfl⟩:=h;exact⟨hA,hB,hC⟩
  |s::r,i,A,B,C,hA,hB,hC,x,y,z,h=>by
   rw[dc.gg]at h;obtain⟨n,hn,h⟩:=aD h;have hi:=xG hn;refine uM r (i+1) _ _ _ ?_ ?_ ?_ x y z h
   · split<;>assumption
   · split<;>assumption
   · split<;>assumption
theorem Af {l:List Int} (hl:l.length≤3) (h:∀v∈l,-1000000000≤v∧v≤1000000000):ln (l.map num)=some (dW l):=by
  unfold ln;have e:∀v∈l,jV (txt (num v))=some v:=fun v hv=>Ad (h v hv).1 (h v hv).2;rcases l with _|⟨a,_|⟨b,_|⟨c,_|⟨d,t⟩⟩⟩⟩
  · rfl
  · simp[dc.gg,e a (by simp),dW]
  · simp[dc.gg,e a (by simp),e b (by simp),dW]
  · simp[dc.gg,e a (by simp),e b (by simp),e c (by simp),dW]
  · simp at hl
theorem yQ (s:ByteArray):Ev (fun k=>dc.f k s) (if(eu s).2=true then kL (dp [] s.data.toList)else Zp):=by
  unfold dc.f;refine Ev.bind (tZ s) ?_;have hl:s.data.toList.length=s.size:=Array.length_toList;by_cases h0:s.size≤600∧s.data.toList.all okB=true;rotate_left
  · have e:eu s=([],false):=(by unfold eu;rw[ag h0]);rw[e];exact aw (by decide) (Ev.now _)
  by_cases h1:((dp [] s.data.toList).map txt).length>24
  · have e:eu s=([],false):=(by unfold eu;rw[af h0,af h1]);rw[e];exact aw (by decide) (Ev.now _)
  have e:eu s=((dp [] s.data.toList).map txt,true):=by unfold eu;rw[af h0,ag h1]
  rw[e];refine ai rfl (bC rfl ?_);have hw:=oM s.data.toList [];generalize dp [] s.data.toList=W at*;cases W with
  |nil=>exact Ev.now _
  |cons x r=>
   simp only[List.map_cons]
   have hsz:∀y∈txt x::r.map txt,y.size≤1000:=by
     intro y hy;rw[←List.map_cons (f:=txt)]at hy;obtain⟨w,hm,rfl⟩:=List.mem_map.mp hy;have:=hw w hm;rw[eU];simp at this;omega
   simp only[dc.rest,af hsz,kQ];show Ev (fun k=>dc.last k (txt x::r.map txt) (dQ x) (ln r)) _;cases hn:ln r with
   |none=>rw[vF hn];exact Ev.now _
   |some q=>
    obtain⟨A,B,C⟩:=q;rw[su hn];obtain⟨hA,hB,hC⟩:=uM _ 0 0 0 0 (by unfold eM;omega) (by unfold eM;omega) (by unfold eM;omega) A B C hn;show Ev (fun k=>(kZ.f k (dQ x) A B C).bind _) _;refine Ev.bind (yx (dQ x) A B C hA hB hC) ?_;refine er (fun ho=> ?_) (fun ho=>bf (fun hh=>ho hh.1) (Ev.now _))
    have hj:strings_Join.f (txt x::r.map txt) ⟨#[32]⟩=some (txt (Go.Lib.join (x::r) [32])):=by
      have e1:(txt x::r.map txt).map (·.data.toList)=x::r:=by
        rw[←List.map_cons (f:=txt),List.map_map]
        conv=>rhs;rw[←List.map_id (x::r)]
        exact List.map_congr_left (fun w _=>kQ w)
      unfold strings_Join.f;rw[e1]
      have hlen:∀(L:List (List UInt8)),(∀w∈L,w.length≤600)→Go.Lib.lens L≤600*L.length:=by
        intro L
        induction L with
        |nil=>intro _;simp[Go.Lib.lens]
        |cons a t ih=>
         intro h;have h2:=ih (fun w hw=>h w (by simp[hw]));have h3:=h a (by simp);simp[Go.Lib.lens]at h2 ⊢;omega
      have h2:=hlen (x::r) (fun w hm=>by have:=hw w hm;simp at this;omega);have h3:=Go.Lib.join_length x r [32];simp at h1 h2 h3;rw[af]
      · rfl
      · refine⟨by simp;omega,?_⟩;show(Go.Lib.join (x::r) [32]).length≤_;rw[h3];simp[Go.Lib.lens]at h2 ⊢;omega
    refine bc hj ?_;by_cases he:gD (dQ x) A B C=Go.Lib.join (x::r) [32]
    · refine bC ⟨ho,he⟩ ?_;rw[af (by rw[he])];exact Ev.now _
    · refine bf (fun hh=>he hh.2) ?_;rw[ag (fun hh=>he (CQ hh))];exact Ev.now _
def gV:List UInt8→List UInt8→List (List UInt8)
  |cur,[]=>[cur]
  |cur,b::r=>if b=10 then cur::gV [] r else gV (cur++[b]) r
theorem zB (b:UInt8) (hb:b≠10) (k:Nat) (l:List UInt8):Go.Lib.splitK [10] 0 k (b::l)=gh [b] (Go.Lib.splitK [10] 0 k l):=by
  cases k with
  |zero=>rfl
  |succ k=>
   have h1:=Go.Lib.indexByte_ge l 10
   have e:Go.Lib.index (b::l) [10]=if(Go.Lib.index l [10]== -1)=true then-1 else Go.Lib.index l [10]+1:=by
     rw[ky,ky,Go.Lib.indexByte];have:(b==10)=false:=(by simpa using hb);rw[this];simp
   rw[←ky]at h1;unfold Go.Lib.splitK;rw[e];by_cases h:Go.Lib.index l [10]= -1
   · simp[h,gh]
   · obtain⟨i,hi⟩:∃i:Nat,Go.Lib.index l [10]=i:=⟨(Go.Lib.index l [10]).toNat,by omega⟩;have n1:((i:Int)== -1)=false:=(by rw[beq_eq_false_iff_ne];omega);have n2:((i:Int)+1== -1)=false:=(by rw[beq_eq_false_iff_ne];omega);rw[hi,n1];simp only[Bool.false_eq_true,if_false,n2,gh];have n3:((i:Int)+1).toNat=i+1:=(by omega);rw[n3];simp
theorem zA (k:Nat) (l:List UInt8):Go.Lib.splitK [10] 0 (k+1) (10::l)=[]::Go.Lib.splitK [10] 0 k l:=by
  have e:Go.Lib.index (10::l) [10]=0:=by rw[ky,Go.Lib.indexByte];simp
  rw[Go.Lib.splitK,e];simp
theorem rU:∀(l cur:List UInt8),gh cur (Go.Lib.splitK [10] 0 (l.count 10) l)=gV cur l
  |[],cur=>by simp only[List.count_nil,Go.Lib.splitK,gh,gV,List.append_nil]
  |b::r,cur=>by
   rw[gV];by_cases hb:b=10
   · subst hb;rw[af rfl,List.count_cons_self,zA];have ih:=rU r [];rw[qg]at ih;rw[←ih,gh,List.append_nil]
   · rw[ag hb,List.count_cons_of_ne hb,zB b hb,vk];exact rU r (cur++[b])
theorem Cl (l:List UInt8):Go.Lib.split l [10]=gV [] l:=by
  rw[Go.Lib.split,Go.Lib.count_one,←rU l [],qg]
theorem rT:∀(l cur:List UInt8),(gV cur l).length≤l.length+1
  |[],cur=>by rw[gV];simp
  |b::r,cur=>by
   rw[gV]
   split
   · have:=rT r [];simp;omega
   · have:=rT r (cur++[b]);simp;omega
def eO (s:ByteArray):Int×Int×Int×Int×Bool:=if(eu s).2=true then kL (dp [] s.data.toList)else Zp
def nZ (s:ByteArray):Prop:=(eu s).2=true∧((eu s).1.length:Int)=0
instance (s:ByteArray):Decidable (nZ s):=inferInstanceAs (Decidable (_∧_))
def iW:List (List UInt8)→List bM→Option (List bM)
  |[],acc=>some acc
  |w::r,acc=>if nZ (txt w)then iW r acc else if(eO (txt w)).2.2.2.2=true then iW r (acc++[⟨(eO (txt w)).1,(eO (txt w)).2.1,(eO (txt w)).2.2.1,(eO (txt w)).2.2.2.1⟩])else none
def qN (w:List UInt8):Int:=kC (txt w)
theorem AD {l:List Int} (h:∀v∈l,-1000000000≤v∧v≤1000000000):(l.map num).map qN=l:=by
  rw[List.map_map]
  conv=>rhs;rw[←List.map_id l]
  exact List.map_congr_left (fun v hv=>zu (h v hv).1 (h v hv).2)
theorem Bd (l:List Int) (hl:l.length≤3):rd (l++[0,0,0]) 0=(dW l).1∧rd (l++[0,0,0]) 1=(dW l).2.1∧rd (l++[0,0,0]) 2=(dW l).2.2:=by
  rcases l with _|⟨a,_|⟨b,_|⟨c,_|⟨d,t⟩⟩⟩⟩
  · exact⟨rfl,rfl,rfl⟩
  · exact⟨rfl,rfl,rfl⟩
  · exact⟨rfl,rfl,rfl⟩
  · exact⟨rfl,rfl,rfl⟩
  · simp at hl
theorem AB (l:List Int) (h:∀v∈l,eM v):eM (dW l).1∧eM (dW l).2.1∧eM (dW l).2.2:=by
  have z:eM 0:=by unfold eM;omega
  rcases l with _|⟨a,_|⟨b,_|⟨c,t⟩⟩⟩
  · exact⟨z,z,z⟩
  · exact⟨h a (by simp),z,z⟩
  · exact⟨h a (by simp),h b (by simp),z⟩
  · exact⟨h a (by simp),h b (by simp),h c (by simp)⟩
theorem zi (x:List UInt8):dQ x≤7:=by
  unfold dQ
  repeat' split
  all_goals decide
def pk (x:List UInt8) (r:List (List UInt8)) (j:Int):Prop:=eo j (dW (r.map qN)).1 (dW (r.map qN)).2.1 (dW (r.map qN)).2.2=true∧gD j (dW (r.map qN)).1 (dW (r.map qN)).2.1 (dW (r.map qN)).2.2=Go.Lib.join (x::r) [32]
instance (x r j):Decidable (pk x r j):=by unfold pk;infer_instance
theorem r_ {x:List UInt8} {r:List (List UInt8)} (hg:∀w∈x::r,iz w) {j:Int} (h:pk x r j):j=dQ x∧ln r=some (dW (r.map qN))∧r.length≤3:=by
  obtain⟨h1,h2⟩:=h;obtain⟨hx,hr⟩:=tB h1 hg h2;obtain⟨p1,p2,p3⟩:=tC h1;obtain⟨k1,u⟩:=nT h1;refine⟨by rw[hx,zk k1 u],?_,by rw[hr];simpa using p2⟩;have e:=Af p2 p3;rw[←hr,p1]at e;exact e
theorem vG (x:List UInt8) (r:List (List UInt8)) (hg:∀w∈x::r,iz w):kL (x::r)=if 1≤dQ x∧pk x r (dQ x)then(dQ x,(dW (r.map qN)).1,(dW (r.map qN)).2.1,(dW (r.map qN)).2.2,true)else Zp:=by
  by_cases h:pk x r (dQ x)
  · rw[af ⟨(nT h.1).1,h⟩];have hn:=(r_ hg h).2.1;rw[su (A:=(dW (r.map qN)).1) (B:=(dW (r.map qN)).2.1) (C:=(dW (r.map qN)).2.2) hn];exact af h
  · rw[ag (fun hh=>h hh.2)];cases hn:ln r with
    |none=>exact vF hn
    |some q=>
     obtain⟨A,B,C⟩:=q;rw[su hn];refine ag (fun hh=>h ?_);obtain⟨h1,h2⟩:=hh;obtain⟨hx,hr⟩:=tB h1 hg h2;obtain⟨p1,p2,p3⟩:=tC h1;have e2:=AD p3;rw[←hr]at e2;unfold pk;rw[e2,p1];exact⟨h1,h2⟩
theorem Bl (x:List UInt8) (r:List (List UInt8)) (hg:∀w∈x::r,iz w) (hl:4<(x::r).length):kL (x::r)=Zp:=by
  rw[vG x r hg];refine ag (fun hh=> ?_);have:=(r_ hg hh.2).2.2;simp at hl;omega
theorem Cg (x:List UInt8) (r:List (List UInt8)) (hg:∀w∈x::r,iz w) (hl:r.length≤3):∀(d i:Nat),i+d=8→1≤i→
    Ev (fun k=>cf.l1 k (txt (Go.Lib.join (x::r) [32])) (r.map qN++[0,0,0]) (i:Int)) (if(i:Int)≤dQ x∧pk x r (dQ x)then(dQ x,(dW (r.map qN)).1,(dW (r.map qN)).2.1,(dW (r.map qN)).2.2,true)else Zp):=by
  intro d
  induction d with
  |zero=>
   intro i h hi;have:=zi x;refine Ev.step (fun k=>by rw[cf.l1]) (aw (by omega) (bf (fun hh=>by omega) (Ev.now _)))
  |succ d ih=>
   intro i h hi;have hlen:(r.map qN++[0,0,0]).length=r.length+3:=(by simp);obtain⟨q0,q1,q2⟩:=Bd (r.map qN) (by simpa using hl)
   obtain⟨i0,i1,i2⟩:=AB (r.map qN) (fun v hv=>by
     obtain⟨w,_,rfl⟩:=List.mem_map.mp hv;have:=zr (txt w);unfold eM qN;omega)
   have u:=ih (i+1) (by omega) (by omega);refine Ev.step (fun k=>by rw[cf.l1]) (ai (by omega) (ai (by omega) (ai (by omega) (ai (by omega) ?_))));rw[q0,q1,q2,cm (by omega) (by omega)];refine Ev.bind (yz (i:Int) _ _ _ i0 i1 i2) ?_;rw[show((i+1:Nat):Int)=(i:Int)+1 by omega]at u;rw[toList_eq,toList_eq,kQ,kQ];by_cases hp:pk x r (i:Int)
   · have hk:=(r_ hg hp).1;refine ai hp.1 (ai hp.2 ?_);rw[←hk];exact bC ⟨by omega,hp⟩ (Ev.now _)
   · have e:((i:Int)≤dQ x∧pk x r (dQ x))=((i:Int)+1≤dQ x∧pk x r (dQ x)):=by
       apply propext;constructor
       · rintro⟨a,b⟩;refine⟨?_,b⟩;rcases Int.lt_or_eq_of_le a with h'|h'
         · omega
         · rw[h']at hp;exact absurd b hp
       · rintro⟨a,b⟩;exact⟨by omega,b⟩
     simp only[e];exact er (fun h1=>aw (fun h2=>hp ⟨h1,h2⟩) u) (fun h1=>u)
theorem Cf (x:List UInt8) (r:List (List UInt8)) (hg:∀w∈x::r,iz w) (hl:r.length≤3) (hs:∀w∈x::r,w.length≤600):∀(d j:Nat),j+d=r.length→
    Ev (fun k=>cf.l0 k ((x::r).map txt) (txt (Go.Lib.join (x::r.take j) [32])) ((r.take j).map qN) ((j+1:Nat):Int)) (kL (x::r)):=by
  intro d
  induction d with
  |zero=>
   intro j h;obtain rfl:j=r.length:=(by omega);rw[List.take_length,vG x r hg];have z:((x::r).map txt).length=r.length+1:=(by simp);refine Ev.step (fun k=>by rw[cf.l0]) (aw (by rw[z];omega) ?_);refine bc (a:=[0,0,0]) rfl ?_;refine ai (by rw[List.length_map];show r.length+3<17592186044416;omega) ?_;exact Cg x r hg hl 7 1 rfl (Nat.le_refl _)
  |succ d ih=>
   intro j h;have hj:j<r.length:=(by omega);have D:=ih (j+1) (by omega)
   have hlen:∀(L:List (List UInt8)),(∀w∈L,w.length≤600)→Go.Lib.lens L≤600*L.length:=by
     intro L
     induction L with
     |nil=>intro _;simp[Go.Lib.lens]
     |cons a t ih=>
      intro h;have h2:=ih (fun w hw=>h w (by simp[hw]));have h3:=h a (by simp);simp[Go.Lib.lens]at h2 ⊢;omega
   have h2:=hlen (x::r.take j) (fun w hm=>hs w (by
     rcases List.mem_cons.mp hm with rfl|hm
     · simp
     · exact List.mem_cons_of_mem _ (List.mem_of_mem_take hm)))
   have h3:=Go.Lib.join_length x (r.take j) [32];have h4:=hs r[j] (by simp)
   have hL:(Go.Lib.join (x::r.take j) [32]).length≤10000:=by
     rw[h3];simp[Go.Lib.lens]at h2 ⊢;omega
   have e:bF ByteArray.empty ((x::r).map txt) ((j+1:Nat):Int)=txt r[j]:=by
     simp[bF,List.getD_eq_getElem?_getD,hj]
   have u:(⟨#[32]⟩:ByteArray)=txt [32]:=rfl;refine Ev.step (fun k=>by rw[cf.l0]) (ai (by simp;omega) (ai (by rw[eU];omega) (ai (by omega) (ai (by rw[e,u,iO,eU,eU,List.length_append];simp;omega) ?_))));rw[e];refine Ev.bind (zt (txt r[j])) (ai (by simp;omega) ?_);rw[cm (by omega) (by omega),u,iO,iO]
   have e1:Go.Lib.join (x::r.take j) [32]++[32]++r[j]=Go.Lib.join (x::r.take (j+1)) [32]:=by
     rw[Go.Lib.join_cons,Go.Lib.join_cons,Go.Lib.joinTail_take_succ [32] r j r[j] (List.getElem?_eq_getElem hj)];simp
   have e2:(r.take j).map qN++[kC (txt r[j])]=(r.take (j+1)).map qN:=by
     rw[List.take_succ_eq_append_getElem hj,List.map_append];rfl
   rw[e1,e2,show((j+1:Nat):Int)+1=((j+1+1:Nat):Int)by omega];exact D
theorem Ce (s:ByteArray):Ev (fun k=>cf.f k s) (if(eu s).2=true then kL (dp [] s.data.toList)else Zp):=by
  unfold cf.f;refine Ev.bind (t_ s) ?_;have hl:s.data.toList.length=s.size:=Array.length_toList;have J:∀L:List ByteArray,Ev (fun k=>cf.j0 k L true) Zp:=fun L=>Ev.step (fun k=>by rw[cf.j0]) (ai rfl (Ev.now _));by_cases h0:s.size≤600∧s.data.toList.all okB=true;rotate_left
  · have e:eu s=([],false):=(by unfold eu;rw[ag h0]);rw[e];exact aw (by decide) (J _)
  by_cases h1:((dp [] s.data.toList).map txt).length>24
  · have e:eu s=([],false):=(by unfold eu;rw[af h0,af h1]);rw[e];exact aw (by decide) (J _)
  have e:eu s=((dp [] s.data.toList).map txt,true):=by unfold eu;rw[af h0,ag h1]
  rw[e];refine ai rfl (bC rfl ?_);have hw:=oM s.data.toList [];have hg:=qo s.data.toList [] (by simp);generalize dp [] s.data.toList=W at*;cases W with
  |nil=>
   refine bc (a:=false) rfl ?_;exact J _
  |cons x r=>
   by_cases h4:(x::r).length≤4
   · refine bc (a:=true) (by unfold cu.f;rw[af (by simp;omega),ah (by simp at h4 ⊢;omega)]) ?_;refine Ev.step (fun k=>by rw[cf.j0]) (aw (by decide) (ai (by simp;try omega) ?_));have:=Cf x r hg (by simp at h4;omega) (fun w hm=>by have:=hw w hm;simp at this;omega) r.length 0 (by omega);simp only[List.take_zero,Go.Lib.join_one,List.map_nil]at this;exact this
   · refine bc (a:=false) (by unfold cu.f;rw[af (by simp;omega),ay (by simp at h4 ⊢;omega)]) ?_;rw[Bl x r hg (by omega)];exact J _
end Q
namespace P
set_option maxRecDepth 100000
set_option synthInstance.maxHeartbeats 400000
set_option synthInstance.maxSize 100000
open Go.RowKit WW.bq WW.cg WW.cd V
attribute [local go_sem] dN dO
attribute [local go_sem] cN cR cQ cU cP cT cO cS
def bp.f (k:Nat) (G:List (aj)) (F:Int) (H:List Int) (z:Int) (u:Int) (D:List (S64)):Option (Bool):=(cK.f k G F H).bind fun b=>some (b&&(Q.dK D&&(decide (-10≤z∧z≤40)&&(decide (0≤u∧u≤100000)&&decide (Q.jZ D u)))))
def bp.T2:Bool×List (List Nat×List Nat):=(true,[([],[]),([0],[0]),([1],[1]),([2,2],[2]),([3],[3]),([4,3],[3,4]),([5,3,3],[3,5]),([3,6],[3,6]),([7,6],[7]),([8],[8]),([9,8],[8,9]),([10,8,8],[8,10]),([8,11],[8,11]),([12,11],[12]),([13],[13]),([14,13],[13,14]),([15,13,13],[13,15]),([13,16],[13,16]),([17,16],[17]),([18],[18]),([19,18],[18,19]),([20,18,18],[18,20]),([21],[21]),([22,21],[21,22]),([21],[21]),([24,21],[21,24]),([23,25,21],[21,23,25]),([26,21],[21,26]),([27,21],[21,27]),([21],[21]),([29,21],[21,29]),([28,30,21],[21,28,30]),([21,31,18],[18,21,31]),([18,32],[18,32]),([33,21,0,1,2,3,4,5,6,7,8,9,10,11,12,13,14,15,16,17,18,19,20,21,22,23,24,25,26,27,28,29,30,31,32,33],[33])])
def bp.B2:List Nat:=[0,1,3,7,15,31,63,127,255,511,1023,2047,4095,8191,16383,32767,65535,131071,262143,524287,1048575,2097151,4194303,8388607,4194303,20971519,67108863,134217727,268435455,4194303,541065215,2147483647,4294967295,8589934591,17179869183]
theorem bp.sM:bo .any (opsOf Tryz.f31 2)=bp.T2:=by kernel_rfl
theorem bp.ry:cp bp.T2.2 bp.B2=true:=by kernel_rfl
def bp.m (n:Nat):Array Bool:=((List.range 35).map (fun j=>decide (j<n))).toArray
attribute [local go_sem] iY
set_option maxHeartbeats 4000000 in
theorem bp.calls (k:Nat) (U:Option Addr) (X:Nat) (G:List (aj)) (O:Int) (V:Option Addr) (Y:Nat) (H:List Int) (F:Int) (D:Int) (ad:Option Addr) (Z:Nat) (z:List (S64)) (r:Bool) (w:World) (aB:Kd.C aX w U G.length G) (ar:G.length≤X) (aC:Kd.C (Kd.int .i64) w V H.length H) (aw:H.length≤Y) (ak:Kd.C aW w ad z.length z) (aA:z.length≤Z) (h:bp.f k G O H F D z=some r):
  Calls Tryz.prog 31 #[.agg #[.slice U G.length X,.int .i64 O,.slice V H.length Y,.int .i64 F,.int .i64 D,.slice ad z.length Z]] w fun e w'=>e= .returned (.bool r)∧Below w.heap.size w w':=by
 obtain⟨b1,hb1,h⟩:=aD h;obtain⟨b2,hb2⟩:∃b,Q.dK z=b:=⟨_,rfl⟩;obtain⟨b3,hb3⟩:∃b,decide (-10≤F∧F≤40)=b:=⟨_,rfl⟩;obtain⟨b4,hb4⟩:∃b,decide (0≤D∧D≤100000)=b:=⟨_,rfl⟩;obtain⟨ai,al⟩:∃b,decide (Q.jZ z D)=b:=⟨_,rfl⟩;have ao:ae ((b1&&(b2&&(b3&&(b4&&ai))))=r):=⟨by rw[←hb2,←hb3,←hb4,←al];exact aH h⟩;have A1:ae (cK.f k G O H=some b1):=⟨hb1⟩;have A2:ae (iK.f k z=some b2):=⟨by rw[←hb2];rfl⟩;have aF:ae (cu.f F (-10) 40=some b3):=⟨by rw[←hb3];unfold cu.f;by_cases hh:F≥ -10<;>simp[hh]<;>omega⟩;have aI:ae (cu.f D 0 100000=some b4):=⟨by rw[←hb4];unfold cu.f;by_cases hh:D≥0<;>simp[hh]<;>omega⟩;have H5:=A_ al;have ap:=A_ ak;have am:=A_ (Kd.mV ak);have i0:=bn.mk aB;have i1:=aq.mk ar;have i2:=bn.mk aC;have i3:=aq.mk aw;have i4:=bn.mk ak;have i5:=aq.mk aA;have hu:=Tryz.underlying30;clear aB ar aC aw ak aA h hb1 hb2 hb3 hb4 al
 have hzz:z.length=0∨∃(J:Addr) (j:Nat) (y:S64),ad=some J∧((z.length:Int)==0)=false∧((z.length:Int) != 0)=true∧wrap64 ((z.length:Int)-1)=(j:Int)∧IntKind.i64.wrap ((z.length:Int)-1)=(j:Int)∧(j:Int)<(z.length:Int)∧j<z.length∧dC w ⟨(J.add (j*4)).block,(J.add (j*4)).off+3,none⟩ (.int .i64 y.f2)∧decide (y.f2≤D)=ai:=by
  by_cases hz:z.length=0
  ·exact .inl hz
  right;obtain⟨j,hj⟩:∃j,j+1=z.length:=⟨z.length-1,by omega⟩;have hM:=am.out;obtain⟨J,e2,_,_,_,aE⟩:=eW ap.out (j:Int) (by omega) (by omega);have hw1:wrap64 ((z.length:Int)-1)=(j:Int):=by unfold wrap64;omega
  simp only[Int.toNat_natCast]at aE;refine⟨J,j,au z (j:Int),e2,beq_eq_false_iff_ne.mpr (by omega),bne_iff_ne.mpr (by omega),hw1,by rw[bG];exact hw1,by omega,by omega,⟨aE⟩,?_⟩;rw[←H5.out];refine decide_eq_decide.mpr ?_;unfold Q.jZ;rw[show z.length-1=j by omega];simp[au,hz]
 have aJ:(b1=false∧r=false)∨(b1=true∧b2=false∧r=false)∨(b1=true∧b2=true∧b3=false∧r=false)∨(b1=true∧b2=true∧b3=true∧b4=false∧r=false)∨(b1=true∧b2=true∧b3=true∧b4=true∧ai=r):=by
  have:=ao.out;cases b1<;>cases b2<;>cases b3<;>cases b4<;>simp_all
 replace hzz:=hzz.imp (fun hz=>(⟨by rw[←H5.out];exact(ah (.inl hz)).symm,beq_iff_eq.mpr (by omega),bne_eq_false_iff_eq.mpr (by omega)⟩:true=ai∧((z.length:Int)==0)=true∧((z.length:Int) != 0)=false)) id;clear ao H5 ap am;rcases aJ with ⟨rfl,rfl⟩|⟨rfl,rfl,rfl⟩|⟨rfl,rfl,rfl,rfl⟩|⟨rfl,rfl,rfl,rfl,rfl⟩|⟨rfl,rfl,rfl,rfl,rfl⟩
 rotate_right
 rcases hzz with ⟨rfl,aL,z2⟩|⟨J,j,y,rfl,aL,z2,z3,z4,z5,aN,aO,aP⟩
 all_goals try clear hzz
 all_goals go_enter Tryz.func31,Tryz.ntmps31
 all_goals go_wp2_with (first|((with_reducible refine ax (N:=1) rfl ?_);(try(refine dE (by rfl) ?_;dsimp only));(first|refine py rfl (N:=1) rfl (cs:= #[.slice U G.length X,.int .i64 O,.slice V H.length Y,.int .i64 F,.int .i64 D,.slice ad z.length Z]) (t:=30) (by first|(go_simp;done)|(go_simp;rfl)) ?_|refine py rfl (N:=1) rfl (cs:= #[.slice U G.length X,.int .i64 O,.slice V H.length Y,.int .i64 F,.int .i64 D,.slice (some J) z.length Z]) (t:=30) (by first|(go_simp;done)|(go_simp;rfl)) ?_);intro g hg w1 hk hb;have j1:=jC.mk hg;have j2:=az.mk hb;have aM:=aU.mk hk;clear hg hb hk))
 all_goals(refine fk (n:=35) (S:=fun w'=>Below w1.heap.size w1 w') (ds:=[]) (bp.m 0) (by kernel_rfl) rfl (by kernel_rfl) From.out (fun hHeld=> ?_);refine fP bp.sM bp.ry (fun u I=> ?_))
 all_goals first|(refine pA 0 (some 7) u.out ?_ (l':=(bp.m 1)) (hl:=by rfl))|(refine pU 0 (some 7) u.out ?_ (l':=(bp.m 1)) (hl:=by rfl))
 all_goals first|(refine pT 1 (some 8) u.out I.out hHeld ?_ (l':=(bp.m 2)) (hl:=by rfl) (hy:=by intro w' hS;have jS:gl w1 w':=⟨hS⟩;go_simp;with_reducible rfl))|(refine pU 1 (some 8) u.out ?_ (l':=(bp.m 2)) (hl:=by rfl))
 all_goals first|(refine dh (i:=2) (N:=some 9) (bp.m 3) rfl rfl (cX u.out (by kernel_rfl)) (by decide) (fun K hK=> ?_);refine cy Tryz.func70 (by kernel_rfl) rfl #[.agg #[.slice U G.length X,.int .i64 O,.slice V H.length Y]] (by rfl) rfl rfl (by(try simp only[List.map_toArray,List.map_cons,List.map_nil]);first|done|rfl) ?_;refine(cK.c k _ _ _ _ _ _ _ _ _ Rd.out aq.out Rd.out aq.out A1.out).mono ?_;rintro e w2 ⟨rfl,hb⟩;have aK:=az.mk hb;clear hb;refine⟨_,rfl,?_⟩;refine hK.out _ _ From.out (fun hHeld=> ?_);clear hK K;refine dL (a':= ?_) ?_ ?_;rotate_left;(focus (show Act.put _ (some 9) _=_;simp only[Act.put,List.setIfInBounds_toArray,List.set_cons_zero,List.set_cons_succ,bG,bN];rfl)))|(refine pU 2 (some 9) u.out ?_ (l':=(bp.m 3)) (hl:=by rfl))
 all_goals first|(refine pA 3 (some 10) u.out ?_ (l':=(bp.m 4)) (hl:=by rfl))|(refine pU 3 (some 10) u.out ?_ (l':=(bp.m 4)) (hl:=by rfl))
 all_goals first|(refine pA 4 (some 11) u.out ?_ (l':=(bp.m 5)) (hl:=by rfl))|(refine pU 4 (some 11) u.out ?_ (l':=(bp.m 5)) (hl:=by rfl))
 all_goals first|(refine pT 5 (some 12) u.out I.out hHeld ?_ (l':=(bp.m 6)) (hl:=by rfl) (hy:=by intro w' hS;have jS:gl w1 w':=⟨hS⟩;go_simp;with_reducible rfl))|(refine pU 5 (some 12) u.out ?_ (l':=(bp.m 6)) (hl:=by rfl))
 all_goals first|(refine dh (i:=6) (N:=some 13) (bp.m 7) rfl rfl (cX u.out (by kernel_rfl)) (by decide) (fun K hK=> ?_);refine cy Tryz.func71 (by kernel_rfl) rfl #[.slice _ z.length Z] (by rfl) rfl rfl (by(try simp only[List.map_toArray,List.map_cons,List.map_nil]);first|done|rfl) ?_;refine(iK.c k _ _ _ _ _ Rd.out aq.out A2.out).mono ?_;rintro e w2 ⟨rfl,hb⟩;have aK:=az.mk hb;clear hb;refine⟨_,rfl,?_⟩;refine hK.out _ _ From.out (fun hHeld=> ?_);clear hK K;refine dL (a':= ?_) ?_ ?_;rotate_left;(focus (show Act.put _ (some 13) _=_;simp only[Act.put,List.setIfInBounds_toArray,List.set_cons_zero,List.set_cons_succ,bG,bN];rfl)))|(refine pU 6 (some 13) u.out ?_ (l':=(bp.m 7)) (hl:=by rfl))
 all_goals first|(refine pA 7 (some 14) u.out ?_ (l':=(bp.m 8)) (hl:=by rfl))|(refine pU 7 (some 14) u.out ?_ (l':=(bp.m 8)) (hl:=by rfl))
 all_goals first|(refine pA 8 (some 15) u.out ?_ (l':=(bp.m 9)) (hl:=by rfl))|(refine pU 8 (some 15) u.out ?_ (l':=(bp.m 9)) (hl:=by rfl))
 all_goals first|(refine pA 9 (some 16) u.out ?_ (l':=(bp.m 10)) (hl:=by rfl))|(refine pU 9 (some 16) u.out ?_ (l':=(bp.m 10)) (hl:=by rfl))
 all_goals first|(refine pT 10 (some 17) u.out I.out hHeld ?_ (l':=(bp.m 11)) (hl:=by rfl) (hy:=by intro w' hS;have jS:gl w1 w':=⟨hS⟩;go_simp;with_reducible rfl))|(refine pU 10 (some 17) u.out ?_ (l':=(bp.m 11)) (hl:=by rfl))
 all_goals first|(refine dh (i:=11) (N:=some 18) (bp.m 12) rfl rfl (cX u.out (by kernel_rfl)) (by decide) (fun K hK=> ?_);refine cy Tryz.func72 (by kernel_rfl) rfl #[.int .i64 F,.int .i64 (-10),.int .i64 40] (by rfl) rfl rfl (by(try simp only[List.map_toArray,List.map_cons,List.map_nil]);first|done|rfl) ?_;refine(cu.c _ _ _ _ _ aF.out).mono ?_;rintro e w2 ⟨rfl,n,rfl⟩;refine⟨_,rfl,?_⟩;refine hK.out _ _ From.out (fun hHeld=> ?_);clear hK K;refine dL (a':= ?_) ?_ ?_;rotate_left;(focus (show Act.put _ (some 18) _=_;simp only[Act.put,List.setIfInBounds_toArray,List.set_cons_zero,List.set_cons_succ,bG,bN];rfl)))|(refine pU 11 (some 18) u.out ?_ (l':=(bp.m 12)) (hl:=by rfl))
 all_goals first|(refine pA 12 (some 19) u.out ?_ (l':=(bp.m 13)) (hl:=by rfl))|(refine pU 12 (some 19) u.out ?_ (l':=(bp.m 13)) (hl:=by rfl))
 all_goals first|(refine pA 13 (some 20) u.out ?_ (l':=(bp.m 14)) (hl:=by rfl))|(refine pU 13 (some 20) u.out ?_ (l':=(bp.m 14)) (hl:=by rfl))
 all_goals first|(refine pA 14 (some 21) u.out ?_ (l':=(bp.m 15)) (hl:=by rfl))|(refine pU 14 (some 21) u.out ?_ (l':=(bp.m 15)) (hl:=by rfl))
 all_goals first|(refine pT 15 (some 22) u.out I.out hHeld ?_ (l':=(bp.m 16)) (hl:=by rfl) (hy:=by intro w' hS;have jS:gl w1 w':=⟨hS⟩;go_simp;with_reducible rfl))|(refine pU 15 (some 22) u.out ?_ (l':=(bp.m 16)) (hl:=by rfl))
 all_goals first|(refine dh (i:=16) (N:=some 23) (bp.m 17) rfl rfl (cX u.out (by kernel_rfl)) (by decide) (fun K hK=> ?_);refine cy Tryz.func72 (by kernel_rfl) rfl #[.int .i64 D,.int .i64 0,.int .i64 100000] (by rfl) rfl rfl (by(try simp only[List.map_toArray,List.map_cons,List.map_nil]);first|done|rfl) ?_;refine(cu.c _ _ _ _ _ aI.out).mono ?_;rintro e w2 ⟨rfl,n,rfl⟩;refine⟨_,rfl,?_⟩;refine hK.out _ _ From.out (fun hHeld=> ?_);clear hK K;refine dL (a':= ?_) ?_ ?_;rotate_left;(focus (show Act.put _ (some 23) _=_;simp only[Act.put,List.setIfInBounds_toArray,List.set_cons_zero,List.set_cons_succ,bG,bN];rfl)))|(refine pU 16 (some 23) u.out ?_ (l':=(bp.m 17)) (hl:=by rfl))
 all_goals first|(refine pA 17 (some 24) u.out ?_ (l':=(bp.m 18)) (hl:=by rfl))|(refine pU 17 (some 24) u.out ?_ (l':=(bp.m 18)) (hl:=by rfl))
 all_goals first|(refine pA 18 (some 25) u.out ?_ (l':=(bp.m 19)) (hl:=by rfl))|(refine pU 18 (some 25) u.out ?_ (l':=(bp.m 19)) (hl:=by rfl))
 all_goals first|(refine pA 19 (some 26) u.out ?_ (l':=(bp.m 20)) (hl:=by rfl))|(refine pU 19 (some 26) u.out ?_ (l':=(bp.m 20)) (hl:=by rfl))
 all_goals first|(refine pA 20 (some 27) u.out ?_ (l':=(bp.m 21)) (hl:=by rfl))|(refine pU 20 (some 27) u.out ?_ (l':=(bp.m 21)) (hl:=by rfl))
 all_goals first|(refine pA 21 (some 28) u.out ?_ (l':=(bp.m 22)) (hl:=by rfl))|(refine pU 21 (some 28) u.out ?_ (l':=(bp.m 22)) (hl:=by rfl))
 all_goals first|(refine pA 22 (some 29) u.out ?_ (l':=(bp.m 23)) (hl:=by rfl))|(refine pU 22 (some 29) u.out ?_ (l':=(bp.m 23)) (hl:=by rfl))
 all_goals first|(refine pT 23 (some 30) u.out I.out hHeld ?_ (l':=(bp.m 24)) (hl:=by rfl) (hy:=by intro w' hS;have jS:gl w1 w':=⟨hS⟩;go_simp;with_reducible rfl))|(refine pU 23 (some 30) u.out ?_ (l':=(bp.m 24)) (hl:=by rfl))
 all_goals first|(refine pA 24 (some 31) u.out ?_ (l':=(bp.m 25)) (hl:=by rfl))|(refine pU 24 (some 31) u.out ?_ (l':=(bp.m 25)) (hl:=by rfl))
 all_goals first|(refine pA 25 (some 32) u.out ?_ (l':=(bp.m 26)) (hl:=by rfl))|(refine pU 25 (some 32) u.out ?_ (l':=(bp.m 26)) (hl:=by rfl))
 all_goals first|(refine pA 26 (some 33) u.out ?_ (l':=(bp.m 27)) (hl:=by rfl))|(refine pU 26 (some 33) u.out ?_ (l':=(bp.m 27)) (hl:=by rfl))
 all_goals first|(refine pA 27 (some 34) u.out ?_ (l':=(bp.m 28)) (hl:=by rfl))|(refine pU 27 (some 34) u.out ?_ (l':=(bp.m 28)) (hl:=by rfl))
 all_goals first|(refine pT 28 (some 35) u.out I.out hHeld ?_ (l':=(bp.m 29)) (hl:=by rfl) (hy:=by intro w' hS;have jS:gl w1 w':=⟨hS⟩;go_simp;with_reducible rfl))|(refine pU 28 (some 35) u.out ?_ (l':=(bp.m 29)) (hl:=by rfl))
 all_goals first|(refine pA 29 (some 36) u.out ?_ (l':=(bp.m 30)) (hl:=by rfl))|(refine pU 29 (some 36) u.out ?_ (l':=(bp.m 30)) (hl:=by rfl))
 all_goals first|(refine pT 30 (some 37) u.out I.out hHeld ?_ (l':=(bp.m 31)) (hl:=by rfl) (hy:=by intro w' hS;have jS:gl w1 w':=⟨hS⟩;go_simp;with_reducible rfl))|(refine pU 30 (some 37) u.out ?_ (l':=(bp.m 31)) (hl:=by rfl))
 all_goals first|(refine pA 31 (some 38) u.out ?_ (l':=(bp.m 32)) (hl:=by rfl))|(refine pU 31 (some 38) u.out ?_ (l':=(bp.m 32)) (hl:=by rfl))
 all_goals first|(refine pA 32 (some 39) u.out ?_ (l':=(bp.m 33)) (hl:=by rfl))|(refine pU 32 (some 39) u.out ?_ (l':=(bp.m 33)) (hl:=by rfl))
 all_goals first|(refine pA 33 (some 40) u.out ?_ (l':=(bp.m 34)) (hl:=by rfl))|(refine pU 33 (some 40) u.out ?_ (l':=(bp.m 34)) (hl:=by rfl))
 all_goals first|(refine pA 34 (some 2) u.out ?_ (l':=(bp.m 35)) (hl:=by rfl))|(refine pU 34 (some 2) u.out ?_ (l':=(bp.m 35)) (hl:=by rfl))
 all_goals refine eY (fH u.out (by kernel_rfl)) ?_
 all_goals try go_wp2
 all_goals go_ret
 all_goals exact⟨by first|rfl|(simp[*];done),From.out⟩
end P
namespace P
set_option maxHeartbeats 8000000
set_option maxRecDepth 100000
set_option synthInstance.maxHeartbeats 400000
set_option synthInstance.maxSize 100000
open Go.RowKit WW.bq WW.cg WW.cd V
attribute [local go_sem] dN dO
attribute [local go_sem] cN cR cQ cU cP cT cO cS
def mL.f (k:Nat) (D:List (aj)) (z:Int) (F:List Int) (I:Int) (J:Int) (K:List (S64)):Option ((List (aj))×Int×List Int×Int×Int×(List (S64))×Bool):=(fM.f D z F I J K).bind fun u=>((bp.f k D z F I J K).bind fun O=>(if O=true then((dR.f k D z F).bind fun U=>(if(U.length:Int)>0 then((e7.f k D z F).bind fun G=>(some (G.1,G.2.1,G.2.2.1,u.2.2.2.1,u.2.2.2.2.1,u.2.2.2.2.2,G.2.2.2)))else((fh.f k D z F).bind fun H=>(some (H.1,H.2.1,H.2.2.1,u.2.2.2.1,u.2.2.2.2.1,u.2.2.2.2.2,H.2.2.2)))))else(some (u.1,u.2.1,u.2.2.1,u.2.2.2.1,u.2.2.2.2.1,u.2.2.2.2.2,false))))
theorem mL.c (k:Nat) (I:Option Addr) (Y:Nat) (D:List (aj)) (U:Int) (J:Option Addr) (Z:Nat) (F:List Int) (V:Int) (X:Int) (K:Option Addr) (ad:Nat) (G:List (S64)) (r1:List (aj)) (r2:Int) (r3:List Int) (au:Int) (aw:Int) (aA:List (S64)) (aB:Bool) (w:World) (am:Kd.C aX w I D.length D) (ae:D.length≤Y) (ao:Kd.C (Kd.int .i64) w J F.length F) (ai:F.length≤Z) (ap:Kd.C aW w K G.length G) (ak:G.length≤ad) (h:mL.f k D U F V X G=some (r1,r2,r3,au,aw,aA,aB)):
  Calls Tryz.prog 74 #[.agg #[.slice I D.length Y,.int .i64 U,.slice J F.length Z,.int .i64 V,.int .i64 X,.slice K G.length ad]] w fun e w'=>∃aC aE aF:Value,e= .returned (.tuple #[.agg #[aC,.int .i64 r2,aE,.int .i64 au,.int .i64 aw,aF],.bool aB])∧Kd.R aX 110 w' w.heap.size (fun _=>True) aC r1∧Kd.R (Kd.int .i64) 3 w' w.heap.size (fun _=>True) aE r3∧Kd.R aW 64 w' w.heap.size (fun _=>True) aF aA∧Below w.heap.size w w':=by
 replace am:=bn.mk am;replace ae:=aq.mk ae;replace ao:=bn.mk ao;replace ai:=aq.mk ai;replace ap:=bn.mk ap;replace ak:=aq.mk ak;unfold mL.f at h;have aI:=Tryz.underlying30
 all_goals go_enter Tryz.func74,Tryz.ntmps74
 all_goals go_wp2_with ((first
  |((with_reducible refine ax (N:=1) rfl ?_);refine bV #[.slice I D.length Y,.int .i64 U,.slice J F.length Z,.int .i64 V,.int .i64 X,.slice K G.length ad] 30 fun g w1 j1 j2 ar=> ?_)
  |((with_reducible refine ax (N:=2) rfl ?_);refine bV #[.slice none 0 0,.int .i64 0,.slice none 0 0,.int .i64 0,.int .i64 0,.slice none 0 0] 30 fun g w1 j1 j2 ar=> ?_)
  |((with_reducible refine ax (N:=4) rfl ?_);refine bV #[.slice none 0 0,.int .i64 0,.slice none 0 0,.int .i64 0,.int .i64 0,.slice none 0 0] 30 fun g w1 j1 j2 ar=> ?_)
  |(go_at_call 30;replace h:=bI h;obtain⟨⟨t1,t2,t3,t4,t5,t6⟩,A,h⟩:=h;(try dsimp only at h);refine(fM.c _ _ _ _ _ _ _ _ _ _ _ _ _ _ _ _ _ _ _ Rd.out aq.out Rd.out aq.out Rd.out aq.out A).mono ?_;rintro e w2 ⟨v0,v1,v2,rfl,u,z,al,hb⟩;obtain⟨O,b0,rfl,j0,q0⟩:=aQ u;obtain⟨B1,b1,rfl,j1,q1⟩:=aQ z;obtain⟨B2,b2,rfl,j2,q2⟩:=aQ al;have H:=az.mk hb;clear A u z al hb)
  |(go_at_call 31;replace h:=bI h;obtain⟨t,A,h⟩:=h;(try dsimp only at h);refine(bp.calls _ _ _ _ _ _ _ _ _ _ _ _ _ _ _ Rd.out aq.out Rd.out aq.out Rd.out aq.out A).mono ?_;rintro e w2 ⟨rfl,hb⟩;have H:=az.mk hb;clear A hb)
  |(go_at_call 112;replace h:=bI h;obtain⟨t,A,h⟩:=h;(try dsimp only at h);refine(dR.c _ _ _ _ _ _ _ _ _ _ Rd.out aq.out Rd.out aq.out A).mono ?_;rintro e w2 ⟨v0,rfl,u,hb⟩;obtain⟨O,b0,rfl,j0,q0⟩:=aQ u;have H:=az.mk hb;clear A u hb)
  |(go_at_call 113;replace h:=bI h;obtain⟨⟨t1,t2,t3,t4⟩,A,h⟩:=h;(try dsimp only at h);refine(e7.c _ _ _ _ _ _ _ _ _ _ _ _ _ Rd.out aq.out Rd.out aq.out A).mono ?_;rintro e w2 ⟨v0,v1,rfl,u,z,hb⟩;obtain⟨O,b0,rfl,j0,q0⟩:=aQ u;obtain⟨B1,b1,rfl,j1,q1⟩:=aQ z;have H:=az.mk hb;clear A u z hb)
  |(go_at_call 114;replace h:=bI h;obtain⟨⟨t1,t2,t3,t4⟩,A,h⟩:=h;(try dsimp only at h);refine(fh.c _ _ _ _ _ _ _ _ _ _ _ _ _ Rd.out aq.out Rd.out aq.out A).mono ?_;rintro e w2 ⟨v0,v1,rfl,u,z,hb⟩;obtain⟨O,b0,rfl,j0,q0⟩:=aQ u;obtain⟨B1,b1,rfl,j1,q1⟩:=aQ z;have H:=az.mk hb;clear A u z hb));(repeat' first|((with_reducible replace h:=bU h);rcases h with ⟨hc,h⟩|⟨hc,h⟩<;>first|exact(bL h).elim|exact absurd hc (by decide)|subst hc|(replace hc:=bA hc;subst hc)|(have hd:=bQ hc;have he:=bR hc;clear hc)|(have hd:=bS hc;have he:=bT hc)|(have hd:=ay hc)|(have hd:=ah hc)|skip));all_goals(try have hn:decide (0<t.length)=true:=ah (by omega));all_goals(try have hn:decide (0<t.length)=false:=ay (by omega)))
 all_goals simp only[Option.some.injEq,Prod.mk.injEq]at h
 all_goals obtain⟨rfl,rfl,rfl,rfl,rfl,rfl,rfl⟩:=h
 all_goals refine bodyPost_ret (di rfl _ _ _ _ _ (0,0) _ rfl aU.out Tryz.underlying30 rfl (by kernel_rfl)) rfl ?_
 all_goals exact⟨_,_,_,rfl,(by first|exact bl|exact Kd.bj _ _ _ _ _),(by first|exact bl|exact Kd.bj _ _ _ _ _),(by first|exact bl|exact Kd.bj _ _ _ _ _),From.out⟩
def mM.f (k:Nat) (J:List (aj)) (H:Int) (K:List Int) (I:Int) (z:Int) (O:List (S64)) (a1:Int):Option ((List (aj))×Int×List Int×Int×Int×(List (S64))×Bool):=(fM.f J H K I z O).bind fun u=>((bp.f k J H K I z O).bind fun U=>(if U=true then(if z=100000 then((fM.f J H K I z O).bind fun D=>(some (D.1,D.2.1,D.2.2.1,D.2.2.2.1,D.2.2.2.2.1,D.2.2.2.2.2,false)))else((bp.f k u.1 u.2.1 u.2.2.1 a1 u.2.2.2.2.1 u.2.2.2.2.2).bind fun V=>(if V=true then(some (u.1,u.2.1,u.2.2.1,a1,wrap64 (z+1),u.2.2.2.2.2,true))else((fM.f J H K I z O).bind fun F=>(some (F.1,F.2.1,F.2.2.1,F.2.2.2.1,F.2.2.2.2.1,F.2.2.2.2.2,false))))))else((fM.f J H K I z O).bind fun G=>(some (G.1,G.2.1,G.2.2.1,G.2.2.2.1,G.2.2.2.2.1,G.2.2.2.2.2,false)))))
theorem mM.c (k:Nat) (F:Option Addr) (O:Nat) (u:List (aj)) (I:Int) (G:Option Addr) (U:Nat) (z:List Int) (J:Int) (K:Int) (H:Option Addr) (V:Nat) (D:List (S64)) (a1:Int) (r1:List (aj)) (r2:Int) (r3:List Int) (ap:Int) (ar:Int) (au:List (S64)) (aw:Bool) (w:World) (ak:Kd.C aX w F u.length u) (X:u.length≤O) (al:Kd.C (Kd.int .i64) w G z.length z) (Y:z.length≤U) (am:Kd.C aW w H D.length D) (Z:D.length≤V) (h:mM.f k u I z J K D a1=some (r1,r2,r3,ap,ar,au,aw)):
  Calls Tryz.prog 75 #[.agg #[.slice F u.length O,.int .i64 I,.slice G z.length U,.int .i64 J,.int .i64 K,.slice H D.length V],.int .i64 a1] w fun e w'=>∃aA aB aC:Value,e= .returned (.tuple #[.agg #[aA,.int .i64 r2,aB,.int .i64 ap,.int .i64 ar,aC],.bool aw])∧Kd.R aX 110 w' w.heap.size (fun _=>True) aA r1∧Kd.R (Kd.int .i64) 3 w' w.heap.size (fun _=>True) aB r3∧Kd.R aW 64 w' w.heap.size (fun _=>True) aC au∧Below w.heap.size w w':=by
 replace ak:=bn.mk ak;replace X:=aq.mk X;replace al:=bn.mk al;replace Y:=aq.mk Y;replace am:=bn.mk am;replace Z:=aq.mk Z;unfold mM.f at h;have aI:=Tryz.underlying30
 all_goals go_enter Tryz.func75,Tryz.ntmps75
 all_goals go_wp2_with ((first
  |((with_reducible refine ax (N:=2) rfl ?_);refine bV #[.slice F u.length O,.int .i64 I,.slice G z.length U,.int .i64 J,.int .i64 K,.slice H D.length V] 30 fun g w1 j1 j2 ao=> ?_)
  |((with_reducible refine ax (N:=4) rfl ?_);refine bV #[.slice none 0 0,.int .i64 0,.slice none 0 0,.int .i64 0,.int .i64 0,.slice none 0 0] 30 fun g w1 j1 j2 ao=> ?_)
  |((with_reducible refine ax (N:=6) rfl ?_);refine bV #[.slice none 0 0,.int .i64 0,.slice none 0 0,.int .i64 0,.int .i64 0,.slice none 0 0] 30 fun g w1 j1 j2 ao=> ?_)
  |(go_at_call 30;replace h:=bI h;obtain⟨⟨t1,t2,t3,t4,t5,t6⟩,A,h⟩:=h;(try dsimp only at h);refine(fM.c _ _ _ _ _ _ _ _ _ _ _ _ _ _ _ _ _ _ _ Rd.out aq.out Rd.out aq.out Rd.out aq.out A).mono ?_;rintro e w2 ⟨v0,v1,v2,rfl,ad,ae,ai,hb⟩;obtain⟨aF,b0,rfl,j0,q0⟩:=aQ ad;obtain⟨B1,b1,rfl,j1,q1⟩:=aQ ae;obtain⟨B2,b2,rfl,j2,q2⟩:=aQ ai;have aE:=az.mk hb;clear A ad ae ai hb)
  |(go_at_call 31;replace h:=bI h;obtain⟨t,A,h⟩:=h;(try dsimp only at h);refine(bp.calls _ _ _ _ _ _ _ _ _ _ _ _ _ _ _ Rd.out aq.out Rd.out aq.out Rd.out aq.out A).mono ?_;rintro e w2 ⟨rfl,hb⟩;have aE:=az.mk hb;clear A hb));(repeat' first|((with_reducible replace h:=bU h);rcases h with ⟨hc,h⟩|⟨hc,h⟩<;>first|exact(bL h).elim|exact absurd hc (by decide)|subst hc|(replace hc:=bA hc;subst hc)|(have hd:=bQ hc;have he:=bR hc;clear hc)|(have hd:=bS hc;have he:=bT hc)|(have hd:=ay hc)|(have hd:=ah hc)|skip)))
 all_goals simp only[Option.some.injEq,Prod.mk.injEq]at h
 all_goals obtain⟨rfl,rfl,rfl,rfl,rfl,rfl,rfl⟩:=h
 all_goals refine bodyPost_ret (di rfl _ _ _ _ _ (0,0) _ rfl aU.out Tryz.underlying30 rfl (by kernel_rfl)) rfl ?_
 all_goals exact⟨_,_,_,rfl,(by first|exact bl|exact Kd.bj _ _ _ _ _),(by first|exact bl|exact Kd.bj _ _ _ _ _),(by first|exact bl|exact Kd.bj _ _ _ _ _),From.out⟩
def mJ.f (k:Nat) (I:List (aj)) (F:Int) (J:List Int) (G:Int) (z:Int) (D:List (S64)) (K:Int) (O:Int) (a2:Int):Option ((List (aj))×Int×List Int×Int×Int×(List (S64))×Bool):=(fM.f I F J G z D).bind fun u=>((gw.f k D K O a2 z).bind fun H=>((bp.f k I F J G z D).bind fun U=>(if U=true then(if H.2=true then(some (u.1,u.2.1,u.2.2.1,u.2.2.2.1,u.2.2.2.2.1,H.1,true))else(some (u.1,u.2.1,u.2.2.1,u.2.2.2.1,u.2.2.2.2.1,u.2.2.2.2.2,false)))else(some (u.1,u.2.1,u.2.2.1,u.2.2.2.1,u.2.2.2.2.1,u.2.2.2.2.2,false)))))
theorem mJ.c (k:Nat) (G:Option Addr) (X:Nat) (u:List (aj)) (J:Int) (H:Option Addr) (Y:Nat) (z:List Int) (K:Int) (O:Int) (I:Option Addr) (Z:Nat) (D:List (S64)) (U:Int) (V:Int) (a2:Int) (r1:List (aj)) (r2:Int) (r3:List Int) (aw:Int) (aA:Int) (aB:List (S64)) (aC:Bool) (w:World) (ao:Kd.C aX w G u.length u) (ae:u.length≤X) (ap:Kd.C (Kd.int .i64) w H z.length z) (ai:z.length≤Y) (ar:Kd.C aW w I D.length D) (ak:D.length≤Z) (h:mJ.f k u J z K O D U V a2=some (r1,r2,r3,aw,aA,aB,aC)):
  Calls Tryz.prog 76 #[.agg #[.slice G u.length X,.int .i64 J,.slice H z.length Y,.int .i64 K,.int .i64 O,.slice I D.length Z],.agg #[.int .i64 U,.int .i64 V],.int .i64 a2] w fun e w'=>∃aE aF aI:Value,e= .returned (.tuple #[.agg #[aE,.int .i64 r2,aF,.int .i64 aw,.int .i64 aA,aI],.bool aC])∧Kd.R aX 110 w' w.heap.size (fun _=>True) aE r1∧Kd.R (Kd.int .i64) 3 w' w.heap.size (fun _=>True) aF r3∧Kd.R aW 64 w' w.heap.size (fun _=>True) aI aB∧Below w.heap.size w w':=by
 replace ao:=bn.mk ao;replace ae:=aq.mk ae;replace ap:=bn.mk ap;replace ai:=aq.mk ai;replace ar:=bn.mk ar;replace ak:=aq.mk ak;unfold mJ.f at h;have aK:=Tryz.underlying30;have aL:=Tryz.underlying62
 all_goals go_enter Tryz.func76,Tryz.ntmps76
 all_goals go_wp2_with ((first
  |((with_reducible refine ax (N:=3) rfl ?_);refine bV #[.slice G u.length X,.int .i64 J,.slice H z.length Y,.int .i64 K,.int .i64 O,.slice I D.length Z] 30 fun g w1 j1 j2 ad=> ?_)
  |((with_reducible refine ax (N:=4) rfl ?_);refine bV #[.int .i64 U,.int .i64 V] 62 fun g w1 j1 j2 ad=> ?_)
  |((with_reducible refine ax (N:=6) rfl ?_);refine bV #[.slice none 0 0,.int .i64 0,.slice none 0 0,.int .i64 0,.int .i64 0,.slice none 0 0] 30 fun g w1 j1 j2 ad=> ?_)
  |((with_reducible refine ax (N:=8) rfl ?_);refine bV #[.slice none 0 0,.int .i64 0,.slice none 0 0,.int .i64 0,.int .i64 0,.slice none 0 0] 30 fun g w1 j1 j2 ad=> ?_)
  |(go_at_call 30;replace h:=bI h;obtain⟨⟨t1,t2,t3,t4,t5,t6⟩,A,h⟩:=h;(try dsimp only at h);refine(fM.c _ _ _ _ _ _ _ _ _ _ _ _ _ _ _ _ _ _ _ Rd.out aq.out Rd.out aq.out Rd.out aq.out A).mono ?_;rintro e w2 ⟨v0,v1,v2,rfl,F,al,am,hb⟩;obtain⟨aJ,b0,rfl,j0,q0⟩:=aQ F;obtain⟨B1,b1,rfl,j1,q1⟩:=aQ al;obtain⟨B2,b2,rfl,j2,q2⟩:=aQ am;have au:=az.mk hb;clear A F al am hb)
  |(go_at_call 115;replace h:=bI h;obtain⟨⟨t1,t2⟩,A,h⟩:=h;(try dsimp only at h);refine(gw.c _ _ _ _ _ _ _ _ _ _ _ Rd.out aq.out A).mono ?_;rintro e w2 ⟨v0,rfl,F,hb⟩;obtain⟨aJ,b0,rfl,j0,q0⟩:=aQ F;have au:=az.mk hb;clear A F hb)
  |(go_at_call 31;replace h:=bI h;obtain⟨t,A,h⟩:=h;(try dsimp only at h);refine(bp.calls _ _ _ _ _ _ _ _ _ _ _ _ _ _ _ Rd.out aq.out Rd.out aq.out Rd.out aq.out A).mono ?_;rintro e w2 ⟨rfl,hb⟩;have au:=az.mk hb;clear A hb));(repeat' first|((with_reducible replace h:=bU h);rcases h with ⟨hc,h⟩|⟨hc,h⟩<;>first|exact(bL h).elim|exact absurd hc (by decide)|subst hc|(replace hc:=bA hc;subst hc)|(have hd:=bQ hc;have he:=bR hc;clear hc)|(have hd:=bS hc;have he:=bT hc)|(have hd:=ay hc)|(have hd:=ah hc)|skip)))
 all_goals simp only[Option.some.injEq,Prod.mk.injEq]at h
 all_goals obtain⟨rfl,rfl,rfl,rfl,rfl,rfl,rfl⟩:=h
 all_goals refine bodyPost_ret (di rfl _ _ _ _ _ (0,0) _ rfl aU.out Tryz.underlying30 rfl (by kernel_rfl)) rfl ?_
 all_goals exact⟨_,_,_,rfl,(by first|exact bl|exact Kd.bj _ _ _ _ _),(by first|exact bl|exact Kd.bj _ _ _ _ _),(by first|exact bl|exact Kd.bj _ _ _ _ _),From.out⟩
def mK.f (k:Nat) (F:List (aj)) (D:Int) (G:List Int) (H:Int) (I:Int) (J:List (S64)) (a1:Int) (a2:Int):Option ((List (aj))×Int×List Int×Int×Int×(List (S64))×Bool):=(fM.f F D G H I J).bind fun u=>((bp.f k F D G H I J).bind fun K=>(if K=true then((eT.f k F D G a1 a2).bind fun z=>(some (z.1,z.2.1,z.2.2.1,u.2.2.2.1,u.2.2.2.2.1,u.2.2.2.2.2,z.2.2.2)))else(some (u.1,u.2.1,u.2.2.1,u.2.2.2.1,u.2.2.2.2.1,u.2.2.2.2.2,false))))
theorem mK.c (k:Nat) (H:Option Addr) (V:Nat) (u:List (aj)) (K:Int) (I:Option Addr) (X:Nat) (z:List Int) (O:Int) (U:Int) (J:Option Addr) (Y:Nat) (D:List (S64)) (a1:Int) (a2:Int) (r1:List (aj)) (r2:Int) (r3:List Int) (ar:Int) (au:Int) (aw:List (S64)) (aA:Bool) (w:World) (al:Kd.C aX w H u.length u) (ad:u.length≤V) (am:Kd.C (Kd.int .i64) w I z.length z) (ae:z.length≤X) (ao:Kd.C aW w J D.length D) (ai:D.length≤Y) (h:mK.f k u K z O U D a1 a2=some (r1,r2,r3,ar,au,aw,aA)):
  Calls Tryz.prog 77 #[.agg #[.slice H u.length V,.int .i64 K,.slice I z.length X,.int .i64 O,.int .i64 U,.slice J D.length Y],.int .i64 a1,.int .i64 a2] w fun e w'=>∃aB aC aE:Value,e= .returned (.tuple #[.agg #[aB,.int .i64 r2,aC,.int .i64 ar,.int .i64 au,aE],.bool aA])∧Kd.R aX 110 w' w.heap.size (fun _=>True) aB r1∧Kd.R (Kd.int .i64) 3 w' w.heap.size (fun _=>True) aC r3∧Kd.R aW 64 w' w.heap.size (fun _=>True) aE aw∧Below w.heap.size w w':=by
 replace al:=bn.mk al;replace ad:=aq.mk ad;replace am:=bn.mk am;replace ae:=aq.mk ae;replace ao:=bn.mk ao;replace ai:=aq.mk ai;unfold mK.f at h;have aI:=Tryz.underlying27;have aJ:=Tryz.underlying30
 all_goals go_enter Tryz.func77,Tryz.ntmps77
 all_goals go_wp2_with ((first
  |((with_reducible refine ax (N:=3) rfl ?_);refine bV #[.slice H u.length V,.int .i64 K,.slice I z.length X,.int .i64 O,.int .i64 U,.slice J D.length Y] 30 fun g w1 j1 j2 Z=> ?_)
  |((with_reducible refine ax (N:=6) rfl ?_);refine bV #[.slice none 0 0,.int .i64 0,.slice none 0 0,.int .i64 0,.int .i64 0,.slice none 0 0] 30 fun g w1 j1 j2 Z=> ?_)
  |((with_reducible refine ax (N:=8) rfl ?_);refine bV #[.slice none 0 0,.int .i64 0,.slice none 0 0,.int .i64 0,.int .i64 0,.slice none 0 0] 30 fun g w1 j1 j2 Z=> ?_)
  |((with_reducible refine ax (N:=9) rfl ?_);refine bV #[.slice none 0 0,.int .i64 0,.slice none 0 0] 27 fun g w1 j1 j2 Z=> ?_)
  |(go_at_call 30;replace h:=bI h;obtain⟨⟨t1,t2,t3,t4,t5,t6⟩,A,h⟩:=h;(try dsimp only at h);refine(fM.c _ _ _ _ _ _ _ _ _ _ _ _ _ _ _ _ _ _ _ Rd.out aq.out Rd.out aq.out Rd.out aq.out A).mono ?_;rintro e w2 ⟨v0,v1,v2,rfl,F,G,ak,hb⟩;obtain⟨aF,b0,rfl,j0,q0⟩:=aQ F;obtain⟨B1,b1,rfl,j1,q1⟩:=aQ G;obtain⟨B2,b2,rfl,j2,q2⟩:=aQ ak;have ap:=az.mk hb;clear A F G ak hb)
  |(go_at_call 31;replace h:=bI h;obtain⟨t,A,h⟩:=h;(try dsimp only at h);refine(bp.calls _ _ _ _ _ _ _ _ _ _ _ _ _ _ _ Rd.out aq.out Rd.out aq.out Rd.out aq.out A).mono ?_;rintro e w2 ⟨rfl,hb⟩;have ap:=az.mk hb;clear A hb)
  |(go_at_call 116;replace h:=bI h;obtain⟨⟨t1,t2,t3,t4⟩,A,h⟩:=h;(try dsimp only at h);refine(eT.c _ _ _ _ _ _ _ _ _ _ _ _ _ _ _ Rd.out aq.out Rd.out aq.out A).mono ?_;rintro e w2 ⟨v0,v1,rfl,F,G,hb⟩;obtain⟨aF,b0,rfl,j0,q0⟩:=aQ F;obtain⟨B1,b1,rfl,j1,q1⟩:=aQ G;have ap:=az.mk hb;clear A F G hb));(repeat' first|((with_reducible replace h:=bU h);rcases h with ⟨hc,h⟩|⟨hc,h⟩<;>first|exact(bL h).elim|exact absurd hc (by decide)|subst hc|(replace hc:=bA hc;subst hc)|(have hd:=bQ hc;have he:=bR hc;clear hc)|(have hd:=bS hc;have he:=bT hc)|(have hd:=ay hc)|(have hd:=ah hc)|skip)))
 all_goals simp only[Option.some.injEq,Prod.mk.injEq]at h
 all_goals obtain⟨rfl,rfl,rfl,rfl,rfl,rfl,rfl⟩:=h
 all_goals refine bodyPost_ret (di rfl _ _ _ _ _ (0,0) _ rfl aU.out Tryz.underlying30 rfl (by kernel_rfl)) rfl ?_
 all_goals exact⟨_,_,_,rfl,(by first|exact bl|exact Kd.bj _ _ _ _ _),(by first|exact bl|exact Kd.bj _ _ _ _ _),(by first|exact bl|exact Kd.bj _ _ _ _ _),From.out⟩
end P
namespace P
set_option maxHeartbeats 8000000
set_option maxRecDepth 100000
open Go.RowKit WW.bq WW.cg WW.cd
attribute [local go_sem] cN cR cQ cU cP cT cO cS
def iq.f (k:Nat) (z:List (aj)) (u:Int) (D:List Int) (F:Int) (G:Int) (H:List (S64)):Option (Int):=(bp.f k z u D F G H).bind fun I=>(if I=true then((dR.f k z u D).bind fun J=>(some (wrap64 ((wrap64 ((z.length:Int)-u))+(J.length:Int)))))else(some 0))
def iq.T3:Bool×List (List Nat×List Nat):=(true,[([],[]),([0],[0]),([1],[1]),([2],[2]),([],[]),([4],[4]),([5],[5]),([3,6],[3,6]),([],[]),([8],[8]),([9],[9]),([10],[10]),([7,11],[7,11]),([12,10,0,1,2,3,4,5,6,7,8,9,10,11,12],[12])])
def iq.B3:List Nat:=[0,1,3,7,0,16,48,127,0,256,768,1792,4095,8191]
theorem iq.kn:bo .any (opsOf Tryz.f79 3)=iq.T3:=by kernel_rfl
theorem iq.jY:cp iq.T3.2 iq.B3=true:=by kernel_rfl
theorem iq.c (k:Nat) (Z:Option Addr) (ae:Nat) (D:List (aj)) (O:Int) (ad:Option Addr) (ai:Nat) (I:List Int) (X:Int) (Y:Int) (al:Option Addr) (am:Nat) (U:List (S64)) (r:Int) (w:World) (aU:Kd.C aX w Z D.length D) (aQ:D.length≤ae) (aV:Kd.C (Kd.int .i64) w ad I.length I) (aR:I.length≤ai) (aY:Kd.C aW w al U.length U) (aS:U.length≤am) (h:iq.f k D O I X Y U=some r):
  Calls Tryz.prog 79 #[.agg #[.slice Z D.length ae,.int .i64 O,.slice ad I.length ai,.int .i64 X,.int .i64 Y,.slice al U.length am]] w fun e w'=>e= .returned (.int .i64 r)∧Below w.heap.size w w':=by
 have bI:=Tryz.underlying30;have bH:=Tryz.underlying27;have aw:=A_ aU;have aq:=A_ aQ;clear aU aQ;have az:=A_ aV;have au:=A_ aR;clear aV aR;have aL:=A_ aY;have aK:=A_ aS;clear aY aS;have z:=A_ (Below.refl w.heap.size w);have H:((bp.f k D O I X Y U).bind fun aE=>(if aE=true then((dR.f k D O I).bind fun aF=>(some (wrap64 ((wrap64 ((D.length:Int)-O))+(aF.length:Int)))))else(some 0)))=some r:=h;clear h;replace H:=aD H;obtain⟨aE,aI,H⟩:=H
 (try dsimp only at H)
 have A2:=A_ aI;clear aI;by_cases c3:aE=true
 ·subst c3;rw[af rfl]at H;replace H:=aD H;obtain⟨aF,aJ,H⟩:=H
  (try dsimp only at H)
  have a0:=A_ aJ;clear aJ;obtain rfl:=aH H;go_enter Tryz.func79,Tryz.ntmps79
  try go_wp2_with (first|((with_reducible refine ax (N:=1) rfl ?_);refine bX (N:=1) (cs:= #[.slice Z D.length ae,.int .i64 O,.slice ad I.length ai,.int .i64 X,.int .i64 Y,.slice al U.length am]) (t:=30) ?_;intro V hg bM ao hb;have F:=A_ (aC (oB z) hb);have G:=A_ (ao);have ak:=A_ ((by rw[hg];exact(aA (oB z)):w.heap.size≤V));have ap:=A_ ((by rw[hg];exact(aA (oB z)):w.heap.size≤V));clear z;have z:=F;have u:=G;have a2:=ak;have a1:=ap;clear F G ak ap hb ao hg;have bj:=cz u 0;have bk:=cz u 1;have bm:=cz u 2;have bn:=cz u 3;have bo:=cz u 4;have bq:=cz u 5;have bx:=ar u.out 0;have bA:=ar u.out 1;have bB:=ar u.out 2;have bC:=ar u.out 3;have bD:=ar u.out 4;have bF:=ar u.out 5)|((with_reducible refine aZ (f:=31) rfl ?_);refine gL (some 4) Tryz.func31 #[.agg #[.slice Z D.length ae,.int .i64 O,.slice ad I.length ai,.int .i64 X,.int .i64 Y,.slice al U.length am]] ?_;(with_reducible refine(bp.calls k _ _ D O _ _ I X Y _ _ U true _ ?a6 ?a7 ?cG ?cH ?fq ?ft A2.out).mono ?_);(case a6=>exact bO aw.out);(case a7=>exact aq.out);(case cG=>exact bO az.out);(case cH=>exact au.out);(case fq=>exact bO aL.out);(case ft=>exact aK.out);rintro e w7 ⟨rfl,hb⟩;refine⟨_,rfl,?_⟩;have F:=A_ (bb u hb);have G:=A_ (aC (oB z) hb);clear u z;have u:=F;have z:=G;clear F G;(try clear hb);(try clear hb2);(try clear hk);(try clear hi)))
  have F:=A_ (aM u.out);have G:=A_ (cr z.out);clear u z;have u:=F;have z:=G;clear F G;refine fk (n:=14) (S:=fun w'=>w'.cell? ⟨V,0,none⟩=some (.slice Z D.length ae)∧w'.cell? ⟨V,1,none⟩=some (.int .i64 O)∧w'.cell? ⟨V,2,none⟩=some (.slice ad I.length ai)∧w'.cell? ⟨V,3,none⟩=some (.int .i64 X)∧w'.cell? ⟨V,4,none⟩=some (.int .i64 Y)∧w'.cell? ⟨V,5,none⟩=some (.slice al U.length am)) (ds:=[]) #[false,false,false,false,false,false,false,false,false,false,false,false,false,false] (by kernel_rfl) rfl rfl ⟨cz u 0,cz u 1,cz u 2,cz u 3,cz u 4,cz u 5⟩ (fun hHeld=> ?_);refine fP iq.kn iq.jY (fun J aB=> ?_);generalize w7.drew=bP at u z hHeld ⊢;refine pA 0 (some 6) J.out ?_;refine pA 1 (some 7) J.out ?_;refine pA 4 (some 10) J.out ?_;refine pA 5 (some 11) J.out ?_;refine pA 8 (some 14) J.out ?_;refine pT 2 (some 8) J.out aB.out hHeld ?_;refine pA 3 (some 9) J.out ?_;refine pT 6 (some 12) J.out aB.out hHeld ?_;refine pA 7 (some 13) J.out ?_;refine pT 9 (some 15) J.out aB.out hHeld ?_;refine dh (i:=10) (N:=some 16) #[true,true,true,true,true,true,true,true,true,true,true,false,false,false] rfl rfl (cX J.out (by kernel_rfl)) (by decide) (fun K hK=> ?_);refine cy Tryz.func112 (by kernel_rfl) rfl #[.agg #[.slice Z D.length ae,.int .i64 O,.slice ad I.length ai]] (by rfl) rfl rfl (by(try simp only[List.map_toArray,List.map_cons,List.map_nil]);first|done|rfl|(simp only[List.length_drop,List.length_take];rfl)) ?_
  with_reducible refine(dR.c k _ _ D O _ _ I aF _ ?a6 ?a7 ?cG ?cH a0.out).mono ?_
  (case a6=>exact bO aw.out)
  (case a7=>exact aq.out)
  (case cG=>exact bO az.out)
  (case cH=>exact au.out)
  rintro e bQ ⟨bJ,rfl,aT,hb⟩;refine⟨_,rfl,?_⟩;have F:=A_ (Kd.bE aT (aA (oB z)));have G:=A_ (bb u hb);have ak:=A_ (aC (oB z) hb);clear u z;have a3:=F;have u:=G;have z:=ak;clear F G ak
  (try clear hb)
  (try clear hb2)
  (try clear hk)
  (try clear hi)
  (try clear aT)
  obtain⟨a9,a_,aN⟩:=Kd.bz a3.out
  (first|subst aN|(injection aN with aO a4 aP;have a5:=aO.symm;have a8:=aP.symm;clear aO a4 aP;subst a5;subst a8))
  refine hK.out _ _ ⟨cz u 0,cz u 1,cz u 2,cz u 3,cz u 4,cz u 5⟩ (fun hHeld=> ?_);clear hK K;refine dL (a':= ?_) ?_ ?_;rotate_left
  ·show Act.put _ (some 16) _=_;simp only[Act.put,List.setIfInBounds_toArray,List.set_cons_zero,List.set_cons_succ,bG,bN];rfl
  refine pA 11 (some 17) J.out ?_;refine pA 12 (some 18) J.out ?_;refine pA 13 (some 2) J.out ?_;refine eY (fH J.out (by kernel_rfl)) ?_
  try go_wp2
  go_ret;exact⟨eR,oB z⟩
 ·replace c3:=Bool.eq_false_iff.mpr c3;subst c3;rw[ag (show¬(false=true)by decide)]at H;obtain rfl:=aH H;go_enter Tryz.func79,Tryz.ntmps79
  go_wp2_with (first|((with_reducible refine ax (N:=1) rfl ?_);refine bX (N:=1) (cs:= #[.slice Z D.length ae,.int .i64 O,.slice ad I.length ai,.int .i64 X,.int .i64 Y,.slice al U.length am]) (t:=30) ?_;intro V hg bK ao hb;have F:=A_ (aC (oB z) hb);have G:=A_ (ao);have ak:=A_ ((by rw[hg];exact(aA (oB z)):w.heap.size≤V));have ap:=A_ ((by rw[hg];exact(aA (oB z)):w.heap.size≤V));clear z;have z:=F;have u:=G;have a2:=ak;have a1:=ap;clear F G ak ap hb ao hg;have bc:=cz u 0;have bd:=cz u 1;have be:=cz u 2;have bf:=cz u 3;have bg:=cz u 4;have bh:=cz u 5;have br:=ar u.out 0;have bs:=ar u.out 1;have bt:=ar u.out 2;have bu:=ar u.out 3;have bv:=ar u.out 4;have bw:=ar u.out 5)|((with_reducible refine aZ (f:=31) rfl ?_);refine gL (some 4) Tryz.func31 #[.agg #[.slice Z D.length ae,.int .i64 O,.slice ad I.length ai,.int .i64 X,.int .i64 Y,.slice al U.length am]] ?_;(with_reducible refine(bp.calls k _ _ D O _ _ I X Y _ _ U false _ ?a6 ?a7 ?cG ?cH ?fq ?ft A2.out).mono ?_);(case a6=>exact bO aw.out);(case a7=>exact aq.out);(case cG=>exact bO az.out);(case cH=>exact au.out);(case fq=>exact bO aL.out);(case ft=>exact aK.out);rintro e bL ⟨rfl,hb⟩;refine⟨_,rfl,?_⟩;have F:=A_ (bb u hb);have G:=A_ (aC (oB z) hb);clear u z;have u:=F;have z:=G;clear F G;(try clear hb);(try clear hb2);(try clear hk);(try clear hi)))
  go_ret;exact⟨eR,oB z⟩
def eB.l0:Nat→List ByteArray→Int→List (aj)→Int→List Int→Int→Int→List (S64)→Option (List ByteArray)
 |0,_,_,_,_,_,_,_,_=>none
 |k+1,x3,u,F,G,H,I,J,z=>if u<(z.length:Int)then(if 0≤u then((fN.f k (([(au z u).f0.f0,(au z u).f0.f1,(au z u).f1,(au z u).f2]:List Int))).bind fun D=>(if x3.length<8796093022208 then(eB.l0 k (x3++[D]) (wrap64 (u+1)) F G H I J z)else(none)))else(none))else(some x3)
def eB.f (k:Nat) (G:List (aj)) (u:Int) (F:List Int) (z:Int) (D:Int) (H:List (S64)):Option (List ByteArray):=(bp.f k G u F z D H).bind fun U=>(if U=true then((fN.f k F).bind fun I=>(if 8+I.size≤9223372036854775807 then((cY.f k u).bind fun J=>(if 5+J.size≤9223372036854775807 then((cY.f k z).bind fun K=>(if 7+K.size≤9223372036854775807 then((cY.f k D).bind fun O=>(if 7+O.size≤9223372036854775807 then(eB.l0 k (([(⟨#[112,105,116,99,104,101,115,32]⟩:ByteArray)++I,(⟨#[100,111,110,101,32]⟩:ByteArray)++J,(⟨#[119,97,114,109,116,104,32]⟩:ByteArray)++K,(⟨#[109,111,109,101,110,116,32]⟩:ByteArray)++O]:List ByteArray)) 0 G u F z D H)else(none)))else(none)))else(none)))else(none)))else(some (([]:List ByteArray))))
def eB.T3:Bool×List (List Nat×List Nat):=(true,[([],[]),([0],[0]),([1],[1]),([2],[2]),([3],[3]),([],[]),([5],[5]),([6],[6]),([7,3],[7]),([8],[8]),([],[]),([10],[10]),([11,8],[11]),([12],[12]),([],[]),([14],[14]),([15,12],[15]),([16],[16]),([4,9,13,17],[4,9,13,17]),([18,16,0,1,2,3,4,5,6,7,8,9,10,11,12,13,14,15,16,17,18],[18])])
def eB.B3:List Nat:=[0,1,3,7,15,0,32,96,239,495,0,1024,3567,7663,0,16384,56815,122351,262143,524287]
theorem eB.kn:bo .any (opsOf Tryz.f13 3)=eB.T3:=by kernel_rfl
theorem eB.jY:cp eB.T3.2 eB.B3=true:=by kernel_rfl
theorem eB.c (k:Nat) (aQ:Option Addr) (aU:Nat) (Z:List (aj)) (V:Int) (aE:Option Addr) (aK:Nat) (J:List Int) (X:Int) (Y:Int) (a1:Option Addr) (a0:Nat) (D:List (S64)) (r:List ByteArray) (w:World) (b3:Kd.C aX w aQ Z.length Z) (b0:Z.length≤aU) (b4:Kd.C (Kd.int .i64) w aE J.length J) (b1:J.length≤aK) (b5:Kd.C aW w a1 D.length D) (b2:D.length≤a0) (h:eB.f k Z V J X Y D=some r):
  Calls Tryz.prog 13 #[.agg #[.slice aQ Z.length aU,.int .i64 V,.slice aE J.length aK,.int .i64 X,.int .i64 Y,.slice a1 D.length a0]] w fun e w'=>∃cc:Value,e= .returned (cc)∧Kd.R Kd.string 9 w' w.heap.size (fun _=>True) cc r∧Below w.heap.size w w':=by
 have d8:=Tryz.underlying30;have hu64:=Tryz.underlying64;have bV:=A_ b3;have bS:=A_ b0;clear b3 b0;have bC:=A_ b4;have bA:=A_ b1;clear b4 b1;have bD:=A_ b5;have bT:=A_ b2;clear b5 b2;have z:=A_ (Below.refl w.heap.size w);have H:((bp.f k Z V J X Y D).bind fun bI=>(if bI=true then((fN.f k J).bind fun ao=>(if 8+ao.size≤9223372036854775807 then((cY.f k V).bind fun ap=>(if 5+ap.size≤9223372036854775807 then((cY.f k X).bind fun aq=>(if 7+aq.size≤9223372036854775807 then((cY.f k Y).bind fun aw=>(if 7+aw.size≤9223372036854775807 then(eB.l0 k (([(⟨#[112,105,116,99,104,101,115,32]⟩:ByteArray)++ao,(⟨#[100,111,110,101,32]⟩:ByteArray)++ap,(⟨#[119,97,114,109,116,104,32]⟩:ByteArray)++aq,(⟨#[109,111,109,101,110,116,32]⟩:ByteArray)++aw]:List ByteArray)) 0 Z V J X Y D)else(none)))else(none)))else(none)))else(none)))else(some (([]:List ByteArray)))))=some r:=h;clear h;replace H:=aD H;obtain⟨bI,bL,H⟩:=H
 (try dsimp only at H)
 have A2:=A_ bL;clear bL;by_cases c3:bI=true
 ·subst c3;rw[af rfl]at H;replace H:=aD H;obtain⟨ao,bP,H⟩:=H
  (try dsimp only at H)
  have ch:=A_ bP;clear bP;by_cases c5:8+ao.size≤9223372036854775807
  ·rw[af c5]at H;have cD:=av c5;have cE:decide (8+ao.size≤9223372036854775807)=true:=ah c5
   try have cF:(9223372036854775807<8+ao.size)=False:=d_ (Nat.not_lt.2 c5)
   replace H:=aD H;obtain⟨ap,bQ,H⟩:=H
   (try dsimp only at H)
   have ci:=A_ bQ;clear bQ;by_cases c7:5+ap.size≤9223372036854775807
   ·rw[af c7]at H;have cI:=av c7;have cJ:decide (5+ap.size≤9223372036854775807)=true:=ah c7
    try have cK:(9223372036854775807<5+ap.size)=False:=d_ (Nat.not_lt.2 c7)
    replace H:=aD H;obtain⟨aq,bR,H⟩:=H
    (try dsimp only at H)
    have cj:=A_ bR;clear bR;by_cases c9:7+aq.size≤9223372036854775807
    ·rw[af c9]at H;have cL:=av c9;have cM:decide (7+aq.size≤9223372036854775807)=true:=ah c9
     try have cN:(9223372036854775807<7+aq.size)=False:=d_ (Nat.not_lt.2 c9)
     replace H:=aD H;obtain⟨aw,bK,H⟩:=H
     (try dsimp only at H)
     have cf:=A_ bK;clear bK;by_cases c11:7+aw.size≤9223372036854775807
     ·rw[af c11]at H;have cw:=av c11;have cA:decide (7+aw.size≤9223372036854775807)=true:=ah c11
      try have cB:(9223372036854775807<7+aw.size)=False:=d_ (Nat.not_lt.2 c11)
      obtain⟨cd,bo⟩:∃a5:List ByteArray,a5=(([(⟨#[112,105,116,99,104,101,115,32]⟩:ByteArray)++ao,(⟨#[100,111,110,101,32]⟩:ByteArray)++ap,(⟨#[119,97,114,109,116,104,32]⟩:ByteArray)++aq,(⟨#[109,111,109,101,110,116,32]⟩:ByteArray)++aw]:List ByteArray)):=⟨_,rfl⟩;replace H:(eB.l0 k cd 0 Z V J X Y D)=some r:=by first|(rw[bo];with_reducible exact H)|(have ak:=(aG _ _).symm.trans H;rw[bo];with_reducible exact ak)|(have ak:=(aG _ _).symm.trans H;with_reducible exact ak)|with_reducible exact H|(rw[bo];exact H)|exact H
      have bY:=A_ bo;clear bo;have H':=A_ H;clear H;go_enter Tryz.func13,Tryz.ntmps13
      try go_wp2_with (first|((with_reducible refine ax (N:=1) rfl ?_);refine bX (N:=1) (cs:= #[.slice aQ Z.length aU,.int .i64 V,.slice aE J.length aK,.int .i64 X,.int .i64 Y,.slice a1 D.length a0]) (t:=30) ?_;intro am hg ec a2 hb;have G:=A_ (aC (oB z) hb);have I:=A_ (a2);have O:=A_ ((by rw[hg];exact(aA (oB z)):w.heap.size≤am));have ai:=A_ ((by rw[hg];exact(aA (oB z)):w.heap.size≤am));clear z;have z:=G;have u:=I;have cm:=O;have cl:=ai;clear G I O ai hb a2 hg;have cR:=cz u 0;have cS:=cz u 1;have cT:=cz u 2;have cU:=cz u 3;have cV:=cz u 4;have cW:=cz u 5;have c0:=ar u.out 0;have c4:=ar u.out 1;have c6:=ar u.out 2;have c8:=ar u.out 3;have c_:=ar u.out 4;have c':=ar u.out 5)|((with_reducible refine aZ (f:=31) rfl ?_);refine gL (some 7) Tryz.func31 #[.agg #[.slice aQ Z.length aU,.int .i64 V,.slice aE J.length aK,.int .i64 X,.int .i64 Y,.slice a1 D.length a0]] ?_;(with_reducible refine(bp.calls k _ _ Z V _ _ J X Y _ _ D true _ ?a6 ?a7 ?cG ?cH ?fq ?ft A2.out).mono ?_);(case a6=>exact bO bV.out);(case a7=>exact bS.out);(case cG=>exact bO bC.out);(case cH=>exact bA.out);(case fq=>exact bO bD.out);(case ft=>exact bT.out);rintro e da ⟨rfl,hb⟩;refine⟨_,rfl,?_⟩;have G:=A_ (bb u hb);have I:=A_ (aC (oB z) hb);clear u z;have u:=G;have z:=I;clear G I;(try clear hb);(try clear hb2);(try clear hk);(try clear hi)))
      have G:=A_ (aM u.out);have I:=A_ (cr z.out);clear u z;have u:=G;have z:=I;clear G I;refine fk (n:=20) (S:=fun w'=>w'.cell? ⟨am,0,none⟩=some (.slice aQ Z.length aU)∧w'.cell? ⟨am,1,none⟩=some (.int .i64 V)∧w'.cell? ⟨am,2,none⟩=some (.slice aE J.length aK)∧w'.cell? ⟨am,3,none⟩=some (.int .i64 X)∧w'.cell? ⟨am,4,none⟩=some (.int .i64 Y)∧w'.cell? ⟨am,5,none⟩=some (.slice a1 D.length a0)) (ds:=[]) #[false,false,false,false,false,false,false,false,false,false,false,false,false,false,false,false,false,false,false,false] (by kernel_rfl) rfl rfl ⟨cz u 0,cz u 1,cz u 2,cz u 3,cz u 4,cz u 5⟩ (fun hHeld=> ?_);refine fP eB.kn eB.jY (fun U bt=> ?_);generalize da.drew=ef at u z hHeld ⊢;refine pA 0 (some 10) U.out ?_;refine pA 1 (some 11) U.out ?_;refine pA 5 (some 15) U.out ?_;refine pA 6 (some 16) U.out ?_;refine pA 10 (some 20) U.out ?_;refine pA 14 (some 24) U.out ?_;refine pT 2 (some 12) U.out bt.out hHeld ?_;refine pT 7 (some 17) U.out bt.out hHeld ?_;refine pT 11 (some 21) U.out bt.out hHeld ?_;refine pT 15 (some 25) U.out bt.out hHeld ?_;refine dh (i:=3) (N:=some 13) #[true,true,true,true,false,true,true,true,false,false,true,true,false,false,true,true,false,false,false,false] rfl rfl (cX U.out (by kernel_rfl)) (by decide) (fun K hK=> ?_);refine cy Tryz.func34 (by kernel_rfl) rfl #[.slice aE J.length aK] (by rfl) rfl rfl (by(try simp only[List.map_toArray,List.map_cons,List.map_nil]);first|done|rfl|(simp only[List.length_drop,List.length_take];rfl)) ?_
      with_reducible refine(fN.c k _ _ J ao _ ?a6 ?a7 ch.out).mono ?_
      (case a6=>exact bO bC.out)
      (case a7=>exact bA.out)
      rintro e eg ⟨rfl,hb⟩;refine⟨_,rfl,?_⟩;have G:=A_ (bb u hb);have I:=A_ (aC (oB z) hb);clear u z;have u:=G;have z:=I;clear G I
      (try clear hb)
      (try clear hb2)
      (try clear hk)
      (try clear hi)
      refine hK.out _ _ ⟨cz u 0,cz u 1,cz u 2,cz u 3,cz u 4,cz u 5⟩ (fun hHeld=> ?_);clear hK K;refine dL (a':= ?_) ?_ ?_;rotate_left
      ·show Act.put _ (some 13) _=_;simp only[Act.put,List.setIfInBounds_toArray,List.set_cons_zero,List.set_cons_succ,bG,bN];rfl
      refine pA 4 (some 14) U.out ?_;refine dh (i:=8) (N:=some 18) #[true,true,true,true,true,true,true,true,true,false,true,true,false,false,true,true,false,false,false,false] rfl rfl (cX U.out (by kernel_rfl)) (by decide) (fun K hK=> ?_);refine cy Tryz.func35 (by kernel_rfl) rfl #[.int .i64 V] (by rfl) rfl rfl (by(try simp only[List.map_toArray,List.map_cons,List.map_nil]);first|done|rfl|(simp only[List.length_drop,List.length_take];rfl)) ?_
      with_reducible refine(cY.c k V ap _ ci.out).mono ?_
      rintro e eh ⟨rfl,hb⟩;refine⟨_,rfl,?_⟩;have G:=A_ (bb u hb);have I:=A_ (aC (oB z) hb);clear u z;have u:=G;have z:=I;clear G I
      (try clear hb)
      (try clear hb2)
      (try clear hk)
      (try clear hi)
      refine hK.out _ _ ⟨cz u 0,cz u 1,cz u 2,cz u 3,cz u 4,cz u 5⟩ (fun hHeld=> ?_);clear hK K;refine dL (a':= ?_) ?_ ?_;rotate_left
      ·show Act.put _ (some 18) _=_;simp only[Act.put,List.setIfInBounds_toArray,List.set_cons_zero,List.set_cons_succ,bG,bN];rfl
      refine pA 9 (some 19) U.out ?_;refine dh (i:=12) (N:=some 22) #[true,true,true,true,true,true,true,true,true,true,true,true,true,false,true,true,false,false,false,false] rfl rfl (cX U.out (by kernel_rfl)) (by decide) (fun K hK=> ?_);refine cy Tryz.func35 (by kernel_rfl) rfl #[.int .i64 X] (by rfl) rfl rfl (by(try simp only[List.map_toArray,List.map_cons,List.map_nil]);first|done|rfl|(simp only[List.length_drop,List.length_take];rfl)) ?_
      with_reducible refine(cY.c k X aq _ cj.out).mono ?_
      rintro e ei ⟨rfl,hb⟩;refine⟨_,rfl,?_⟩;have G:=A_ (bb u hb);have I:=A_ (aC (oB z) hb);clear u z;have u:=G;have z:=I;clear G I
      (try clear hb)
      (try clear hb2)
      (try clear hk)
      (try clear hi)
      refine hK.out _ _ ⟨cz u 0,cz u 1,cz u 2,cz u 3,cz u 4,cz u 5⟩ (fun hHeld=> ?_);clear hK K;refine dL (a':= ?_) ?_ ?_;rotate_left
      ·show Act.put _ (some 22) _=_;simp only[Act.put,List.setIfInBounds_toArray,List.set_cons_zero,List.set_cons_succ,bG,bN];rfl
      refine pA 13 (some 23) U.out ?_;refine dh (i:=16) (N:=some 26) #[true,true,true,true,true,true,true,true,true,true,true,true,true,true,true,true,true,false,false,false] rfl rfl (cX U.out (by kernel_rfl)) (by decide) (fun K hK=> ?_);refine cy Tryz.func35 (by kernel_rfl) rfl #[.int .i64 Y] (by rfl) rfl rfl (by(try simp only[List.map_toArray,List.map_cons,List.map_nil]);first|done|rfl|(simp only[List.length_drop,List.length_take];rfl)) ?_
      with_reducible refine(cY.c k Y aw _ cf.out).mono ?_
      rintro e ej ⟨rfl,hb⟩;refine⟨_,rfl,?_⟩;have G:=A_ (bb u hb);have I:=A_ (aC (oB z) hb);clear u z;have u:=G;have z:=I;clear G I
      (try clear hb)
      (try clear hb2)
      (try clear hk)
      (try clear hi)
      refine hK.out _ _ ⟨cz u 0,cz u 1,cz u 2,cz u 3,cz u 4,cz u 5⟩ (fun hHeld=> ?_);clear hK K;refine dL (a':= ?_) ?_ ?_;rotate_left
      ·show Act.put _ (some 26) _=_;simp only[Act.put,List.setIfInBounds_toArray,List.set_cons_zero,List.set_cons_succ,bG,bN];rfl
      refine pA 17 (some 27) U.out ?_;refine dh (i:=18) (N:=some 28) #[true,true,true,true,true,true,true,true,true,true,true,true,true,true,true,true,true,true,true,false] rfl rfl (cX U.out (by kernel_rfl)) (by decide) (fun K hK=> ?_);refine Kd.kS Kd.string _ 9 ?hg (N:=28) ?hd (xs:=([(⟨#[112,105,116,99,104,101,115,32]⟩:ByteArray)++ao,(⟨#[100,111,110,101,32]⟩:ByteArray)++ap,(⟨#[119,97,114,109,116,104,32]⟩:ByteArray)++aq,(⟨#[109,111,109,101,110,116,32]⟩:ByteArray)++aw]:List ByteArray)) (inner:=[.string ((⟨#[112,105,116,99,104,101,115,32]⟩:ByteArray)++ao),.string ((⟨#[100,111,110,101,32]⟩:ByteArray)++ap),.string ((⟨#[119,97,114,109,116,104,32]⟩:ByteArray)++aq),.string ((⟨#[109,111,109,101,110,116,32]⟩:ByteArray)++aw)]) (ok:=fun _=>True) (bB:=fun _=>True) ?hr ?hp (fun _ hk=>hk) trivial (Below.refl _ _) (Nat.le_refl _) (by simp) ?_;(case hd=>rfl);(case hg=>rfl);(case hr=>first|(go_simp;done)|(go_simp;rfl));(case hp=>exact(aI.one (show Kd.M Kd.string _ _ _ ((⟨#[112,105,116,99,104,101,115,32]⟩:ByteArray)++ao) [.string ((⟨#[112,105,116,99,104,101,115,32]⟩:ByteArray)++ao)]from rfl) (aI.one (show Kd.M Kd.string _ _ _ ((⟨#[100,111,110,101,32]⟩:ByteArray)++ap) [.string ((⟨#[100,111,110,101,32]⟩:ByteArray)++ap)]from rfl) (aI.one (show Kd.M Kd.string _ _ _ ((⟨#[119,97,114,109,116,104,32]⟩:ByteArray)++aq) [.string ((⟨#[119,97,114,109,116,104,32]⟩:ByteArray)++aq)]from rfl) (aI.one (show Kd.M Kd.string _ _ _ ((⟨#[109,111,109,101,110,116,32]⟩:ByteArray)++aw) [.string ((⟨#[109,111,109,101,110,116,32]⟩:ByteArray)++aw)]from rfl) (aI.none _ _))))));intro d' ek bf hb bd be;clear bd be
      (first|rw[←bY.out]at bf|(simp only[Int.reduceToNat]at bf;rw[←bY.out]at bf))
      have G:=A_ (Kd.bE bf (aA (oB z)));have I:=A_ (bb u hb);have O:=A_ (aC (oB z) hb);clear u z;have co:=G;have u:=I;have z:=O;clear G I O hb bf;refine hK.out _ _ ⟨cz u 0,cz u 1,cz u 2,cz u 3,cz u 4,cz u 5⟩ (fun hHeld=> ?_);clear hK K;refine dL (a':= ?_) ?_ ?_;rotate_left
      ·show Act.put _ (some 28) _=_;simp only[Act.put,List.setIfInBounds_toArray,List.set_cons_zero,List.set_cons_succ,bG,bN];rfl
      refine pA 19 (some 3) U.out ?_;refine eY (fH U.out (by kernel_rfl)) ?_
      try go_wp2
      go_loopg [3,4] k (fun b_ v3 v4 w'=>∃(a3:List ByteArray) (F:Int),v4= .int .i64 F∧ae (eB.l0 b_ a3 F Z V J X Y D=some r)∧ae (b_≤k)∧ae (Kd.R Kd.string 9 w' w.heap.size (fun _=>True) v3 a3)∧ae (w'.heap[am]? =some (.cells #[(.slice aQ Z.length aU),.int .i64 V,(.slice aE J.length aK),.int .i64 X,.int .i64 Y,(.slice a1 D.length a0)] 30 (0,0)))∧ae (Below w.heap.size w w'))
      case atStart=>exact⟨(cd),(0),eS,H',⟨Nat.le_refl _⟩,⟨oR co⟩,⟨oK u⟩,⟨oB z⟩⟩
      case round=>
       clear H'
       try clear c1
       try clear p2
       try clear c3
       try clear c5
       try clear cD
       try clear cE
       try clear cF
       try clear c7
       try clear cI
       try clear cJ
       try clear cK
       try clear c9
       try clear cL
       try clear cM
       try clear cN
       try clear c11
       try clear cw
       try clear cA
       try clear cB
       try clear c13
       try clear cR
       try clear cS
       try clear cT
       try clear cU
       try clear cV
       try clear cW
       try clear c0
       try clear c4
       try clear c6
       try clear c8
       try clear c_
       try clear c'
       obtain⟨a3,F,rfl,bx,bU,al,u,z⟩:=hrel;cases gk with
       |zero=>exact absurd bx.out (by simp[eB.l0])
       |succ k1=>
        have H:=bx.out;clear bx;simp only[eB.l0]at H;by_cases a9:F<(D.length:Int)
        ·rw[af a9]at H;have cC:decide (F<(D.length:Int))=true:=ah a9;clear a9;by_cases bu:0≤F
         ·rw[af bu]at H;have de:decide (0≤F)=true:=ah bu;clear bu;obtain⟨bJ,bq⟩:∃a5:List Int,a5=(([(au D F).f0.f0,(au D F).f0.f1,(au D F).f1,(au D F).f2]:List Int)):=⟨_,rfl⟩;replace H:((fN.f k1 bJ).bind fun a_=>(if a3.length<8796093022208 then(eB.l0 k1 (a3++[a_]) (wrap64 (F+1)) Z V J X Y D)else(none)))=some r:=by first|(rw[bq];with_reducible exact H)|(have ak:=(aG _ _).symm.trans H;rw[bq];with_reducible exact ak)|(have ak:=(aG _ _).symm.trans H;with_reducible exact ak)|with_reducible exact H|(rw[bq];exact H)|exact H
          have bZ:=A_ bq;clear bq;replace H:=aD H;obtain⟨a_,bM,H⟩:=H
          (try dsimp only at H)
          have cg:=A_ bM;clear bM;by_cases bv:a3.length<8796093022208
          ·rw[af bv]at H;have cq:=A_ bv;clear bv;obtain⟨ce,bs⟩:∃a5:List ByteArray,a5=(a3++[a_]):=⟨_,rfl⟩;replace H:(eB.l0 k1 ce (wrap64 (F+1)) Z V J X Y D)=some r:=by first|(rw[bs];with_reducible exact H)|(have ak:=(aG _ _).symm.trans H;rw[bs];with_reducible exact ak)|(have ak:=(aG _ _).symm.trans H;with_reducible exact ak)|with_reducible exact H|(rw[bs];exact H)|exact H
           have cu:=A_ bs;clear bs;have H':=A_ H;clear H;have df:=cz u 0;have dg:=cz u 1;have di:=cz u 2;have dj:=cz u 3;have dk:=cz u 4;have dl:=cz u 5;have dI:=ar u.out 0;have dJ:=ar u.out 1;have dK:=ar u.out 2;have dM:=ar u.out 3;have dN:=ar u.out 4;have dO:=ar u.out 5;have bF:0≤(F:Int):=oD;have bH:F<(D.length:Int):=oD;obtain⟨cv,cP,b6,b7,b8,b9⟩:=eW bD.out F bF bH;cases cP;replace b6:=hW z b6;replace b7:=hW z b7;replace b8:=hW z b8;replace b9:=hW z b9;replace bF:=av bF;replace bH:=av bH
           go_wp2_with (first|((with_reducible refine ax (N:=5) rfl ?_);refine bX (N:=5) (cs:= #[.int .i64 0,.int .i64 0,.int .i64 0,.int .i64 0]) (t:=64) ?_;intro a4 hg el a2 hb;have G:=A_ (Kd.aV (oR al) hb);have I:=A_ (bb u hb);have O:=A_ (aC (oB z) hb);have ai:=A_ (a2);have az:=A_ ((by rw[hg];exact(aA (oB z)):w.heap.size≤a4));have b':=A_ ((by rw[hg];exact(aA (oB z)):w.heap.size≤a4));have ca:=A_ (nL u hg);have cb:=A_ (nG u hg);clear al u z;have al:=G;have u:=I;have z:=O;have ad:=ai;have dd:=az;have dc:=b';have bc:=ca;have ct:=cb;clear G I O ai az b' ca cb hb a2 hg;have d6:=ct.out;have d7:=bc.out;have dp:=cz ad 0;have dq:=cz ad 1;have dr:=cz ad 2;have dt:=cz ad 3;have dQ:=ar ad.out 0;have dR:=ar ad.out 1;have dS:=ar ad.out 2;have dT:=ar ad.out 3)|((with_reducible refine ax (N:=52) rfl ?_);refine Kd.cx (Kd.int .i64) _ 3 ?hg (N:=52) ?hd (xs:=([(au D F).f0.f0,(au D F).f0.f1,(au D F).f1,(au D F).f2]:List Int)) (inner:=[.int .i64 ((au D F).f0.f0),.int .i64 ((au D F).f0.f1),.int .i64 ((au D F).f1),.int .i64 ((au D F).f2)]) (ok:=fun _=>True) (bB:=fun _=>True) ?hr ?hp (fun _ hk=>hk) trivial (Below.refl _ _) (Nat.le_refl _) (by simp) ?_;(case hd=>rfl);(case hg=>rfl);(case hr=>first|(go_simp;done)|(go_simp;rfl));(case hp=>exact(aI.one (show Kd.M (Kd.int .i64) _ _ _ ((au D F).f0.f0) [.int .i64 ((au D F).f0.f0)]from rfl) (aI.one (show Kd.M (Kd.int .i64) _ _ _ ((au D F).f0.f1) [.int .i64 ((au D F).f0.f1)]from rfl) (aI.one (show Kd.M (Kd.int .i64) _ _ _ ((au D F).f1) [.int .i64 ((au D F).f1)]from rfl) (aI.one (show Kd.M (Kd.int .i64) _ _ _ ((au D F).f2) [.int .i64 ((au D F).f2)]from rfl) (aI.none _ _))))));intro ea em bj hb bd be;clear bd be;(first|rw[←bZ.out]at bj|(simp only[Int.reduceToNat]at bj;rw[←bZ.out]at bj));have G:=A_ (Kd.aV (by(with_reducible repeat(first|apply Kd.bm|apply Kd.br|apply Kd.a8));exact(Kd.bh (Kd.aJ (p:=⟨a4,3,none⟩) (Kd.aJ (p:=⟨a4,2,none⟩) (Kd.aJ (p:=⟨a4,1,none⟩) (Kd.aJ (p:=⟨a4,0,none⟩) (Kd.dD al.out ad.out (by decide)) (fun _ hk=>hk.2) (.int .i64 ((au D F).f0.f0))) (fun _ hk=>hk.2) (.int .i64 ((au D F).f0.f1))) (fun _ hk=>hk.2) (.int .i64 ((au D F).f1))) (fun _ hk=>hk.2) (.int .i64 ((au D F).f2))) (fun _ h_=>h_.1))) hb);have I:=A_ (Kd.bE bj (aA (oB z)));have O:=A_ (fV (g:=am) (o:= .cells #[.slice aQ Z.length aU,.int .i64 V,.slice aE J.length aK,.int .i64 X,.int .i64 Y,.slice (some cv) D.length a0] 30 (0,0)) (by(with_reducible repeat(first|refine aT ?_ _|refine aM ?_|refine aN ?_ _));refine dx ?_ bc.out _;(with_reducible repeat(first|refine aT ?_ _|refine aM ?_|refine aN ?_ _));refine dx ?_ bc.out _;(with_reducible repeat(first|refine aT ?_ _|refine aM ?_|refine aN ?_ _));refine dx ?_ bc.out _;(with_reducible repeat(first|refine aT ?_ _|refine aM ?_|refine aN ?_ _));refine dx ?_ bc.out _;(with_reducible repeat(first|refine aT ?_ _|refine aM ?_|refine aN ?_ _));exact u.out) hb);have ai:=A_ (fV (g:=a4) (o:= .cells #[.int .i64 ((au D F).f0.f0),.int .i64 ((au D F).f0.f1),.int .i64 ((au D F).f1),.int .i64 ((au D F).f2)] 64 (0,0)) (by(with_reducible repeat(first|refine aT ?_ _|refine aM ?_|refine aN ?_ _));refine bw (cs:= #[.int .i64 ((au D F).f0.f0),.int .i64 ((au D F).f0.f1),.int .i64 ((au D F).f1),.int .i64 0]) ?_ 3 _ rfl;(with_reducible repeat(first|refine aT ?_ _|refine aM ?_|refine aN ?_ _));refine bw (cs:= #[.int .i64 ((au D F).f0.f0),.int .i64 ((au D F).f0.f1),.int .i64 0,.int .i64 0]) ?_ 2 _ rfl;(with_reducible repeat(first|refine aT ?_ _|refine aM ?_|refine aN ?_ _));refine bw (cs:= #[.int .i64 ((au D F).f0.f0),.int .i64 0,.int .i64 0,.int .i64 0]) ?_ 1 _ rfl;(with_reducible repeat(first|refine aT ?_ _|refine aM ?_|refine aN ?_ _));refine bw (cs:= #[.int .i64 0,.int .i64 0,.int .i64 0,.int .i64 0]) ?_ 0 _ rfl;(with_reducible repeat(first|refine aT ?_ _|refine aM ?_|refine aN ?_ _));exact ad.out) hb);have az:=A_ (aC (oB z) hb);clear al u ad z;have al:=G;have aR:=I;have u:=O;have ad:=ai;have z:=az;clear G I O ai az hb bj;obtain⟨ck,cO,cQ⟩:=Kd.bz aR.out;subst cQ)|((with_reducible refine aZ (f:=34) rfl ?_);refine gL (some 53) Tryz.func34 #[.slice ck bJ.length cO] ?_;(with_reducible refine(fN.c k1 _ _ bJ a_ _ ?a6 ?a7 cg.out).mono ?_);(case a6=>repeat(first|exact(Kd.aY aR.out).2.2|(with_reducible refine Kd.cZ ?_ _)|(with_reducible refine Kd.dn ?_ _)|(with_reducible refine Kd.dm ?_)));(case a7=>exact(Kd.aY aR.out).2.1);rintro e en ⟨rfl,hb⟩;refine⟨_,rfl,?_⟩;have G:=A_ (Kd.aV (oR al) hb);have I:=A_ (Kd.aV (oR aR) hb);have O:=A_ (bb u hb);have ai:=A_ (bb ad hb);have az:=A_ (aC (oB z) hb);clear al aR u ad z;have al:=G;have aR:=I;have u:=O;have ad:=ai;have z:=az;clear G I O ai az;(try clear hb);(try clear hb2);(try clear hk);(try clear hi))|((with_reducible refine dP (b:= .append) (xs:= #[.tmp 41,.tmp 54]) rfl ?_);at_builtin;refine Kd.eF Kd.string (w0:=w) w.heap.size rfl (.tmp 41) (.tmp 54) 38 9 (.string ⟨#[]⟩) 16 rfl Tryz.underlying38 ld rfl (by decide) (by omega) u3 a3 a_ [.string a_] (fun _=>True) (fun _=>False) rfl rfl ?aP (fun _ hk=>hk.elim) ?aF ?aO ?aB ?aS ?aL ?_;(case aP=>exact rfl);(case aB=>exact(oB z));(case aF=>exact(fun _ _=>trivial));(case aO=>exact(oR al));(case aS=>exact(aA (oB z)));(case aL=>have:=cq.out;omega);intro eb eo ho hb hg hat;rw[←cu.out]at ho;have G:=A_ (bg u hg (Kd.fU al.out u.out (by decide)));have I:=A_ (bg ad hg (Kd.fU al.out ad.out (by decide)));have O:=A_ (Kd.eG (oR aR) (Kd.eH (oR al)) (by decide) hg);have ai:=A_ (hb);have az:=A_ (ho);clear u ad aR z al;have u:=G;have ad:=I;have aR:=O;have z:=ai;have cp:=az;clear G I O ai az ho hb hg hat))
           go_roundg k1
           case measure=>have:=bU.out;omega
           case rel=>exact⟨(ce),(wrap64 (F+1)),eS,H',⟨by have:=bU.out;omega⟩,⟨oR cp⟩,⟨oK u⟩,⟨oB z⟩⟩
          ·rw[ag bv]at H;exact absurd H (by simp)
         ·rw[ag bu]at H;exact absurd H (by simp)
        ·rw[ag a9]at H;have cC:decide (F<(D.length:Int))=false:=ay a9;clear a9;obtain rfl:=aH H;have du:=cz u 0;have dv:=cz u 1;have dw:=cz u 2;have dy:=cz u 3;have dz:=cz u 4;have dA:=cz u 5;have dU:=ar u.out 0;have dV:=ar u.out 1;have dW:=ar u.out 2;have dX:=ar u.out 3;have dY:=ar u.out 4;have dZ:=ar u.out 5;go_wp2;go_ret;exact⟨_,eR,oR al,oB z⟩
     ·rw[ag c11]at H;exact absurd H (by simp)
    ·rw[ag c9]at H;exact absurd H (by simp)
   ·rw[ag c7]at H;exact absurd H (by simp)
  ·rw[ag c5]at H;exact absurd H (by simp)
 ·replace c3:=Bool.eq_false_iff.mpr c3;subst c3;rw[ag (show¬(false=true)by decide)]at H;obtain⟨db,bn⟩:∃a5:List ByteArray,a5=(([]:List ByteArray)):=⟨_,rfl⟩;replace H:(some db)=some r:=by first|(rw[bn];with_reducible exact H)|(have ak:=(aG _ _).symm.trans H;rw[bn];with_reducible exact ak)|(have ak:=(aG _ _).symm.trans H;with_reducible exact ak)|with_reducible exact H|(rw[bn];exact H)|exact H
  have bW:=A_ bn;clear bn;obtain rfl:=aH H;go_enter Tryz.func13,Tryz.ntmps13
  go_wp2_with (first|((with_reducible refine ax (N:=1) rfl ?_);refine bX (N:=1) (cs:= #[.slice aQ Z.length aU,.int .i64 V,.slice aE J.length aK,.int .i64 X,.int .i64 Y,.slice a1 D.length a0]) (t:=30) ?_;intro am hg ep a2 hb;have G:=A_ (aC (oB z) hb);have I:=A_ (a2);have O:=A_ ((by rw[hg];exact(aA (oB z)):w.heap.size≤am));have ai:=A_ ((by rw[hg];exact(aA (oB z)):w.heap.size≤am));clear z;have z:=G;have u:=I;have cm:=O;have cl:=ai;clear G I O ai hb a2 hg;have dB:=cz u 0;have dC:=cz u 1;have dE:=cz u 2;have dF:=cz u 3;have dG:=cz u 4;have dH:=cz u 5;have d0:=ar u.out 0;have d1:=ar u.out 1;have d2:=ar u.out 2;have d3:=ar u.out 3;have d4:=ar u.out 4;have d5:=ar u.out 5)|((with_reducible refine aZ (f:=31) rfl ?_);refine gL (some 7) Tryz.func31 #[.agg #[.slice aQ Z.length aU,.int .i64 V,.slice aE J.length aK,.int .i64 X,.int .i64 Y,.slice a1 D.length a0]] ?_;(with_reducible refine(bp.calls k _ _ Z V _ _ J X Y _ _ D false _ ?a6 ?a7 ?cG ?cH ?fq ?ft A2.out).mono ?_);(case a6=>exact bO bV.out);(case a7=>exact bS.out);(case cG=>exact bO bC.out);(case cH=>exact bA.out);(case fq=>exact bO bD.out);(case ft=>exact bT.out);rintro e er ⟨rfl,hb⟩;refine⟨_,rfl,?_⟩;have G:=A_ (bb u hb);have I:=A_ (aC (oB z) hb);clear u z;have u:=G;have z:=I;clear G I;(try clear hb);(try clear hb2);(try clear hk);(try clear hi))|((with_reducible refine ax (N:=9) rfl ?_);refine Kd.cx Kd.string _ 9 ?hg (N:=9) ?hd (xs:=([]:List ByteArray)) (inner:=[]) (ok:=fun _=>True) (bB:=fun _=>True) ?hr ?hp (fun _ hk=>hk) trivial (Below.refl _ _) (Nat.le_refl _) (by simp) ?_;(case hd=>rfl);(case hg=>rfl);(case hr=>first|(go_simp;done)|(go_simp;rfl));(case hp=>exact(aI.none _ _));intro d9 es bk hb bd be;clear bd be;(first|rw[←bW.out]at bk|(simp only[Int.reduceToNat]at bk;rw[←bW.out]at bk));have G:=A_ (Kd.bE bk (aA (oB z)));have I:=A_ (bb u hb);have O:=A_ (aC (oB z) hb);clear u z;have cn:=G;have u:=I;have z:=O;clear G I O hb bk))
  go_ret;exact⟨_,eR,oR cn,oB z⟩
end P
namespace P
set_option maxHeartbeats 8000000
set_option maxRecDepth 100000
set_option synthInstance.maxHeartbeats 400000
set_option synthInstance.maxSize 100000
open Go.RowKit WW.bq WW.cg WW.cd V
attribute [local go_sem] dN dO iY kV kX lK lQ
attribute [local go_sem] cN cR cQ cU cP cT cO cS
def ia.f (k:Nat) (H:List (aj)) (F:Int) (u:List Int) (z:Int) (G:Int) (D:List (S64)) (a1:Int):Option (Int):=(bp.f k H F u z G D).bind fun I=>(if I=true then((cu.f a1 0 11).bind fun J=>(if J=true then((eE.f k D 0 a1).bind fun K=>(if K=1 then(some 0)else(if 0≤a1 then(if a1<(u.length:Int)then((nD.f (rd u a1) z).bind fun O=>(some O))else(none))else(none))))else(some 0)))else(some 0))
noncomputable def ia.T3:Bool×List (List Nat×List Nat):=bo .any (opsOf Tryz.f80 3)
def ia.B3:List Nat:=[0,1,3,0,15,31,0,64,255,511]
theorem ia.kn:bo .any (opsOf Tryz.f80 3)=ia.T3:=rfl
theorem ia.jY:cp ia.T3.2 ia.B3=true:=by kernel_rfl
theorem ia.c (k:Nat) (H:Option Addr) (Y:Nat) (D:List (aj)) (U:Int) (I:Option Addr) (Z:Nat) (F:List Int) (V:Int) (X:Int) (J:Option Addr) (ad:Nat) (G:List (S64)) (a1:Int) (r:Int) (w:World) (al:Kd.C aX w H D.length D) (ae:D.length≤Y) (am:Kd.C (Kd.int .i64) w I F.length F) (ai:F.length≤Z) (ao:Kd.C aW w J G.length G) (ak:G.length≤ad) (h:ia.f k D U F V X G a1=some r):
  Calls Tryz.prog 80 #[.agg #[.slice H D.length Y,.int .i64 U,.slice I F.length Z,.int .i64 V,.int .i64 X,.slice J G.length ad],.int .i64 a1] w fun e w'=>e= .returned (.int .i64 r)∧Below w.heap.size w w':=by
 replace al:=bn.mk al;replace ae:=aq.mk ae;replace am:=bn.mk am;replace ai:=aq.mk ai;replace ao:=bn.mk ao;replace ak:=aq.mk ak;unfold ia.f at h;have aA:=Tryz.underlying30;have aB:=Tryz.underlying62
 all_goals go_enter Tryz.func80,Tryz.ntmps80
 all_goals go_wp2_with ((first
  |((with_reducible refine ax (N:=2) rfl ?_);refine bV #[.slice H D.length Y,.int .i64 U,.slice I F.length Z,.int .i64 V,.int .i64 X,.slice J G.length ad] 30 fun g w1 j1 j2 aE=> ?_)
  |(go_at_call 31;(try rw[z.out]);replace h:=bI h;obtain⟨t,A,h⟩:=h;(try dsimp only at h);refine(bp.calls _ _ _ _ _ _ _ _ _ _ _ _ _ _ _ Rd.out aq.out Rd.out aq.out Rd.out aq.out A).mono ?_;rintro e w2 ⟨rfl,hb⟩;have aw:=az.mk hb;clear A hb)
  |(go_at_call 72;(try rw[z.out]);replace h:=bI h;obtain⟨t,A,h⟩:=h;(try dsimp only at h);refine(cu.c _ _ _ _ _ A).mono ?_;rintro e w2 ⟨rfl,n,rfl⟩;clear A)
  |(go_at_call 118;(try rw[z.out]);replace h:=bI h;obtain⟨t,A,h⟩:=h;(try dsimp only at h);refine(eE.c _ _ _ _ _ _ _ _ Rd.out aq.out A).mono ?_;rintro e w2 ⟨rfl,hb⟩;have aw:=az.mk hb;clear A hb)
  |(refine qR (id:=3) (ds:=[]) (l:= #[false,false,false,false,false,false,false,false,false,false]) ia.kn ia.jY ?_;intro u O w3 aF u0 aC hHeld;replace h:=bI h;obtain⟨aI,ap,h⟩:=h;(try dsimp only at h);refine qA 0 (some 21) u ?_;refine qA 1 (some 22) u ?_;refine qT 2 (some 23) u O hHeld ?_;refine qA 3 (some 24) u ?_;refine qA 4 (some 25) u ?_;refine qT 5 (some 26) u O hHeld ?_;refine qA 6 (some 27) u ?_;refine qT 7 (some 28) u O hHeld ?_;refine gu 8 (some 29) u fun K hK=> ?_;refine cy Tryz.func119 (by kernel_rfl) rfl _ (by rfl) rfl rfl (by(try simp only[List.map_toArray,List.map_cons,List.map_nil]);rfl) ?_;refine(nD.c _ _ _ _ ap).mono ?_;rintro e u8 ⟨rfl,n,rfl⟩;refine⟨_,rfl,hK.out _ _ From.out fun hHeld=> ?_⟩;clear hK K;refine qN ?_;refine qA 9 (some 4) u ?_;refine qD u ?_;all_goals((try simp only[aG]at h);(repeat' first|((with_reducible replace h:=bU h);rcases h with ⟨hc,h⟩|⟨hc,h⟩<;>first|exact(bL h).elim|exact absurd hc (by decide)|subst hc|(replace hc:=bA hc;subst hc)|(replace hc:=dz hc;subst hc)|(replace hc:=dA hc;subst hc)|(have hd:(_==_)=true:=hc)|(have hd:(_==_)=false:=bA hc)|(have hd:=bQ hc;have he:=bR hc;clear hc)|(have hd:=bS hc;have he:=bT hc)|(have hd:=ay hc)|(have hd:=ah hc;(try(have hn:=Int.natCast_pos.mp hc;have hm:=ah hn;replace hn:=av hn));first|(obtain⟨au,e_,i_⟩:=dy (by assumption) (by first|assumption|decide) hc;cases e_)|(obtain⟨ar,e_,c_⟩:=dv (by assumption) (by first|assumption|decide) hc;cases e_))|(have hd:=ah hc)|skip)|((with_reducible replace h:=dw h);obtain⟨z,h⟩:=h;replace z:=A_ z;(try dsimp only at h))))));(repeat' first|((with_reducible replace h:=bU h);rcases h with ⟨hc,h⟩|⟨hc,h⟩<;>first|exact(bL h).elim|exact absurd hc (by decide)|subst hc|(replace hc:=bA hc;subst hc)|(replace hc:=dz hc;subst hc)|(replace hc:=dA hc;subst hc)|(have hd:(_==_)=true:=hc)|(have hd:(_==_)=false:=bA hc)|(have hd:=bQ hc;have he:=bR hc;clear hc)|(have hd:=bS hc;have he:=bT hc)|(have hd:=ay hc)|(have hd:=ah hc;(try(have hn:=Int.natCast_pos.mp hc;have hm:=ah hn;replace hn:=av hn));first|(obtain⟨au,e_,i_⟩:=dy (by assumption) (by first|assumption|decide) hc;cases e_)|(obtain⟨ar,e_,c_⟩:=dv (by assumption) (by first|assumption|decide) hc;cases e_))|(have hd:=ah hc)|skip)|((with_reducible replace h:=dw h);obtain⟨z,h⟩:=h;replace z:=A_ z;(try dsimp only at h))))
 all_goals obtain rfl:=aH h
 all_goals go_ret
 all_goals exact⟨(by first|rfl|(simp_all;done)),From.out⟩
def cA.j0:Nat→Bool→List (aj)→Int→List Int→Int→Int→List (S64)→Int→Int→Int→Int→List (aj)→Int→List Int→Int→Int→List (S64)→Option ((List (aj))×Int×List Int×Int×Int×(List (S64))×Int)
 |0,_,_,_,_,_,_,_,_,_,_,_,_,_,_,_,_,_=>none
 |k+1,aA,J,K,O,U,G,H,I,ae,al,az,V,X,Y,Z,ad,ai=>if aA=true then(some (V,X,Y,Z,ad,ai,(-1)))else(if I=1 then((mL.f k J K O U G H).bind fun u=>((kj.f u.2.2.2.2.2.2).bind fun am=>(some (u.1,u.2.1,u.2.2.1,u.2.2.2.1,u.2.2.2.2.1,u.2.2.2.2.2.1,am))))else(if I=2 then((mM.f k J K O U G H ae).bind fun z=>((kj.f z.2.2.2.2.2.2).bind fun ao=>(some (z.1,z.2.1,z.2.2.1,z.2.2.2.1,z.2.2.2.2.1,z.2.2.2.2.2.1,ao))))else(if I=3 then((mJ.f k J K O U G H ae al az).bind fun D=>((kj.f D.2.2.2.2.2.2).bind fun ap=>(some (D.1,D.2.1,D.2.2.1,D.2.2.2.1,D.2.2.2.2.1,D.2.2.2.2.2.1,ap))))else(if I=4 then((mK.f k J K O U G H ae al).bind fun F=>((kj.f F.2.2.2.2.2.2).bind fun aq=>(some (F.1,F.2.1,F.2.2.1,F.2.2.2.1,F.2.2.2.2.1,F.2.2.2.2.2.1,aq))))else(if I=5 then((mH.f k H G).bind fun ak=>((kj.f ak.2).bind fun ar=>(some (V,X,Y,Z,ad,ak.1,ar))))else(if I=6 then((iq.f k J K O U G H).bind fun au=>(some (V,X,Y,Z,ad,ai,au)))else(if I=7 then((ia.f k J K O U G H ae).bind fun aw=>(some (V,X,Y,Z,ad,ai,aw)))else((kj.f false).bind fun ax=>(some (V,X,Y,Z,ad,ai,ax))))))))))
def cA.f (k:Nat) (G:List (aj)) (z:Int) (H:List Int) (D:Int) (F:Int) (I:List (S64)) (J:Int) (K:Int) (O:Int) (U:Int):Option ((List (aj))×Int×List Int×Int×Int×(List (S64))×Int):=(fM.f G z H D F I).bind fun u=>((bp.f k G z H D F I).bind fun V=>(if V=true then((fL.f k J K O U).bind fun X=>(cA.j0 k (!X) G z H D F I J K O U u.1 u.2.1 u.2.2.1 u.2.2.2.1 u.2.2.2.2.1 u.2.2.2.2.2))else(cA.j0 k true G z H D F I J K O U u.1 u.2.1 u.2.2.1 u.2.2.2.1 u.2.2.2.2.1 u.2.2.2.2.2)))
noncomputable def cA.tr:Bool×List (List Nat×List Nat):=bo .any (opsOf Tryz.f32 17)
def cA.wK:List Nat:=[0,0,2,7,15]
theorem cA.CD:bo .any (opsOf Tryz.f32 17)=cA.tr:=rfl
theorem cA.xM:cp cA.tr.2 cA.wK=true:=by kernel_rfl
noncomputable def cA.tu:Bool×List (List Nat×List Nat):=bo .any (opsOf Tryz.f32 19)
def cA.wL:List Nat:=[0,0,0,4,14,31,63]
theorem cA.CE:bo .any (opsOf Tryz.f32 19)=cA.tu:=rfl
theorem cA.xN:cp cA.tu.2 cA.wL=true:=by kernel_rfl
noncomputable def cA.nS:Bool×List (List Nat×List Nat):=bo .any (opsOf Tryz.f32 20)
def cA.qQ:List Nat:=[0,0,2,7,15]
theorem cA.sN:bo .any (opsOf Tryz.f32 20)=cA.nS:=rfl
theorem cA.rz:cp cA.nS.2 cA.qQ=true:=by kernel_rfl
theorem cA.c (k:Nat) (X:Option Addr) (ap:Nat) (J:List (aj)) (ad:Int) (Y:Option Addr) (ar:Nat) (O:List Int) (ae:Int) (ai:Int) (Z:Option Addr) (au:Nat) (U:List (S64)) (ak:Int) (al:Int) (am:Int) (ao:Int) (r1:List (aj)) (r2:Int) (r3:List Int) (aL:Int) (aM:Int) (aN:List (S64)) (aO:Int) (w:World) (aE:Kd.C aX w X J.length J) (aA:J.length≤ap) (aF:Kd.C (Kd.int .i64) w Y O.length O) (aB:O.length≤ar) (aI:Kd.C aW w Z U.length U) (aC:U.length≤au) (h:cA.f k J ad O ae ai U ak al am ao=some (r1,r2,r3,aL,aM,aN,aO)):
  Calls Tryz.prog 32 #[.agg #[.slice X J.length ap,.int .i64 ad,.slice Y O.length ar,.int .i64 ae,.int .i64 ai,.slice Z U.length au],.agg #[.int .i64 ak,.int .i64 al,.int .i64 am,.int .i64 ao]] w fun e w'=>∃aP aR aS:Value,e= .returned (.tuple #[.agg #[aP,.int .i64 r2,aR,.int .i64 aL,.int .i64 aM,aS],.int .i64 aO])∧Kd.R aX 110 w' w.heap.size (fun _=>True) aP r1∧Kd.R (Kd.int .i64) 3 w' w.heap.size (fun _=>True) aR r3∧Kd.R aW 64 w' w.heap.size (fun _=>True) aS aN∧Below w.heap.size w w':=by
 replace aE:=bn.mk aE;replace aA:=aq.mk aA;replace aF:=bn.mk aF;replace aB:=aq.mk aB;replace aI:=bn.mk aI;replace aC:=aq.mk aC;have a1:=cL.mk (d:=aX) (e:=110) (t:=3) (by decide);have a2:=cL.mk (d:=aX) (e:=110) (t:=30) (by decide);have a3:=cL.mk (d:=aX) (e:=110) (t:=57) (by decide);have a4:=cL.mk (d:=aW) (e:=64) (t:=3) (by decide);have a5:=cL.mk (d:=aW) (e:=64) (t:=30) (by decide);have a6:=cL.mk (d:=aW) (e:=64) (t:=57) (by decide);unfold cA.f at h;have aY:=Tryz.underlying30;have aZ:=Tryz.underlying57;have a0:=Tryz.underlying62
 all_goals go_enter Tryz.func32,Tryz.ntmps32
 all_goals go_wp2_with ((first
  |((with_reducible refine ax (N:=2) rfl ?_);refine bV #[.slice X J.length ap,.int .i64 ad,.slice Y O.length ar,.int .i64 ae,.int .i64 ai,.slice Z U.length au] 30 fun g w1 j1 j2 aw=> ?_)
  |((with_reducible refine ax (N:=3) rfl ?_);refine bV #[.int .i64 ak,.int .i64 al,.int .i64 am,.int .i64 ao] 57 fun g w1 j1 j2 aw=> ?_)
  |((with_reducible refine ax (N:=4) rfl ?_);refine bV #[.slice none 0 0,.int .i64 0,.slice none 0 0,.int .i64 0,.int .i64 0,.slice none 0 0] 30 fun g w1 j1 j2 aw=> ?_)
  |((with_reducible refine ax (N:=6) rfl ?_);refine bV #[.slice none 0 0,.int .i64 0,.slice none 0 0,.int .i64 0,.int .i64 0,.slice none 0 0] 30 fun g w1 j1 j2 aw=> ?_)
  |(go_at_call 30;(try rw[G.out]);replace h:=bI h;obtain⟨⟨t1,t2,t3,t4,t5,t6⟩,A,h⟩:=h;(try dsimp only at h);refine(fM.c _ _ _ _ _ _ _ _ _ _ _ _ _ _ _ _ _ _ _ Rd.out aq.out Rd.out aq.out Rd.out aq.out A).mono ?_;rintro e w2 ⟨v0,v1,v2,rfl,z,D,F,hb⟩;obtain⟨V,b0,rfl,j0,q0⟩:=aQ z;obtain⟨B1,b1,rfl,j1,q1⟩:=aQ D;obtain⟨B2,b2,rfl,j2,q2⟩:=aQ F;have H:=az.mk hb;clear A z D F hb)
  |(go_at_call 31;(try rw[G.out]);replace h:=bI h;obtain⟨t,A,h⟩:=h;(try dsimp only at h);refine(bp.calls _ _ _ _ _ _ _ _ _ _ _ _ _ _ _ Rd.out aq.out Rd.out aq.out Rd.out aq.out A).mono ?_;rintro e w2 ⟨rfl,hb⟩;have H:=az.mk hb;clear A hb)
  |(go_at_call 73;(try rw[G.out]);replace h:=bI h;obtain⟨t,A,h⟩:=h;(try dsimp only at h);refine(fL.c _ _ _ _ _ _ _ A).mono ?_;rintro e w2 ⟨rfl,hb⟩;have H:=az.mk hb;clear A hb)
  |(go_at_call 74;(try rw[G.out]);replace h:=bI h;obtain⟨⟨t1,t2,t3,t4,t5,t6,t7⟩,A,h⟩:=h;(try dsimp only at h);refine(mL.c _ _ _ _ _ _ _ _ _ _ _ _ _ _ _ _ _ _ _ _ _ Rd.out aq.out Rd.out aq.out Rd.out aq.out A).mono ?_;rintro e w2 ⟨v0,v1,v2,rfl,z,D,F,hb⟩;obtain⟨V,b0,rfl,j0,q0⟩:=aQ z;obtain⟨B1,b1,rfl,j1,q1⟩:=aQ D;obtain⟨B2,b2,rfl,j2,q2⟩:=aQ F;have H:=az.mk hb;clear A z D F hb)
  |(go_at_call 75;(try rw[G.out]);replace h:=bI h;obtain⟨⟨t1,t2,t3,t4,t5,t6,t7⟩,A,h⟩:=h;(try dsimp only at h);refine(mM.c _ _ _ _ _ _ _ _ _ _ _ _ _ _ _ _ _ _ _ _ _ _ Rd.out aq.out Rd.out aq.out Rd.out aq.out A).mono ?_;rintro e w2 ⟨v0,v1,v2,rfl,z,D,F,hb⟩;obtain⟨V,b0,rfl,j0,q0⟩:=aQ z;obtain⟨B1,b1,rfl,j1,q1⟩:=aQ D;obtain⟨B2,b2,rfl,j2,q2⟩:=aQ F;have H:=az.mk hb;clear A z D F hb)
  |(go_at_call 76;(try rw[G.out]);replace h:=bI h;obtain⟨⟨t1,t2,t3,t4,t5,t6,t7⟩,A,h⟩:=h;(try dsimp only at h);refine(mJ.c _ _ _ _ _ _ _ _ _ _ _ _ _ _ _ _ _ _ _ _ _ _ _ _ Rd.out aq.out Rd.out aq.out Rd.out aq.out A).mono ?_;rintro e w2 ⟨v0,v1,v2,rfl,z,D,F,hb⟩;obtain⟨V,b0,rfl,j0,q0⟩:=aQ z;obtain⟨B1,b1,rfl,j1,q1⟩:=aQ D;obtain⟨B2,b2,rfl,j2,q2⟩:=aQ F;have H:=az.mk hb;clear A z D F hb)
  |(go_at_call 77;(try rw[G.out]);replace h:=bI h;obtain⟨⟨t1,t2,t3,t4,t5,t6,t7⟩,A,h⟩:=h;(try dsimp only at h);refine(mK.c _ _ _ _ _ _ _ _ _ _ _ _ _ _ _ _ _ _ _ _ _ _ _ Rd.out aq.out Rd.out aq.out Rd.out aq.out A).mono ?_;rintro e w2 ⟨v0,v1,v2,rfl,z,D,F,hb⟩;obtain⟨V,b0,rfl,j0,q0⟩:=aQ z;obtain⟨B1,b1,rfl,j1,q1⟩:=aQ D;obtain⟨B2,b2,rfl,j2,q2⟩:=aQ F;have H:=az.mk hb;clear A z D F hb)
  |(go_at_call 78;(try rw[G.out]);replace h:=bI h;obtain⟨⟨t1,t2⟩,A,h⟩:=h;(try dsimp only at h);refine(mH.c _ _ _ _ _ _ _ _ Rd.out aq.out A).mono ?_;rintro e w2 ⟨v0,rfl,z,hb⟩;obtain⟨V,b0,rfl,j0,q0⟩:=aQ z;have H:=az.mk hb;clear A z hb)
  |(refine qR (id:=17) (ds:=[3]) (l:= #[false,false,false,false,false]) cA.CD cA.xM ?_;intro u I w3 aK u0 aJ hHeld;refine qT 0 (some 75) u I hHeld ?_;refine qT 1 (some 76) u I hHeld ?_;replace h:=bI h;obtain⟨t,A,h⟩:=h;(try dsimp only at h);refine qC 2 77 Tryz.func79 u fun K hK=> ?_;refine(iq.c _ _ _ _ _ _ _ _ _ _ _ _ _ _ _ Rd.out aq.out Rd.out aq.out Rd.out aq.out A).mono ?_;rintro e w2 ⟨rfl,hb⟩;have H:=az.mk hb;clear A hb;refine⟨_,rfl,hK _ _ From.out fun hHeld=> ?_⟩;clear hK K;refine qN ?_;refine qL 3 u ?_;refine qA 4 (some 5) u ?_;refine qD u ?_)
  |(refine qR (id:=19) (ds:=[5]) (l:= #[false,false,false,false,false,false,false]) cA.CE cA.xN ?_;intro u I w3 aK u0 aJ hHeld;refine qA 2 (some 82) u ?_;refine qT 0 (some 80) u I hHeld ?_;refine qT 1 (some 81) u I hHeld ?_;refine qT 3 (some 83) u I hHeld ?_;replace h:=bI h;obtain⟨t,A,h⟩:=h;(try dsimp only at h);refine qC 4 84 Tryz.func80 u fun K hK=> ?_;refine(ia.c _ _ _ _ _ _ _ _ _ _ _ _ _ _ _ _ Rd.out aq.out Rd.out aq.out Rd.out aq.out A).mono ?_;rintro e w2 ⟨rfl,hb⟩;have H:=az.mk hb;clear A hb;refine⟨_,rfl,hK _ _ From.out fun hHeld=> ?_⟩;clear hK K;refine qN ?_;refine qL 5 u ?_;refine qA 6 (some 5) u ?_;refine qD u ?_)
  |(refine qR (id:=20) (ds:=[3]) (l:= #[false,false,false,false,false]) cA.sN cA.rz ?_;intro u I w3 aK u0 aJ hHeld;refine qA 1 (some 86) u ?_;refine qT 0 (some 85) u I hHeld ?_;replace h:=bI h;obtain⟨t,A,h⟩:=h;(try dsimp only at h);refine qC 2 87 Tryz.func81 u fun K hK=> ?_;refine(kj.c _ _ _ A).mono ?_;rintro e w2 ⟨rfl,n,rfl⟩;clear A;refine⟨_,rfl,hK _ _ From.out fun hHeld=> ?_⟩;clear hK K;refine qN ?_;refine qL 3 u ?_;refine qA 4 (some 5) u ?_;refine qD u ?_));(repeat' first|((with_reducible replace h:=bU h);rcases h with ⟨hc,h⟩|⟨hc,h⟩<;>first|exact(bL h).elim|exact absurd hc (by decide)|subst hc|(replace hc:=bA hc;subst hc)|(replace hc:=dz hc;subst hc)|(replace hc:=dA hc;subst hc)|(have hd:(_==_)=true:=hc)|(have hd:(_==_)=false:=bA hc)|(have hd:=bQ hc;have he:=bR hc;clear hc)|(have hd:=bS hc;have he:=bT hc)|(have hd:=ay hc)|(have hd:=ah hc;(try(have hn:=Int.natCast_pos.mp hc;have hm:=ah hn;replace hn:=av hn));first|(obtain⟨aV,e_,i_⟩:=dy (by assumption) (by first|assumption|decide) hc;cases e_)|(obtain⟨aT,e_,c_⟩:=dv (by assumption) (by first|assumption|decide) hc;cases e_))|(have hd:=ah hc)|skip)|((with_reducible have hj:cA.j0 k _ _ _ _ _ _ _ _ _ _ _ _ _ _ _ _ _=_:=h);clear hj;rcases k with _|k<;>rw[cA.j0]at h<;>first|exact(bL h).elim|skip)|((with_reducible replace h:=dw h);obtain⟨G,h⟩:=h;replace G:=A_ G;(try dsimp only at h))))
 all_goals simp only[Option.some.injEq,Prod.mk.injEq]at h
 all_goals obtain⟨rfl,rfl,rfl,rfl,rfl,rfl,rfl⟩:=h
 all_goals refine bodyPost_ret (di rfl _ _ _ _ _ (0,0) _ rfl aU.out Tryz.underlying30 rfl (by kernel_rfl)) rfl ?_
 all_goals exact⟨_,_,_,rfl,(by first|exact bl|exact Kd.bj _ _ _ _ _|exact bZ|exact dJ (by simp)),(by first|exact bl|exact Kd.bj _ _ _ _ _|exact bZ|exact dJ (by simp)),(by first|exact bl|exact Kd.bj _ _ _ _ _|exact bZ|exact dJ (by simp)),From.out⟩
mutual
def cJ.j0:Nat→List (bM)→List Int→Bool→List (aj)→Int→List Int→Int→Int→List (S64)→Option ((List (aj))×Int×List Int×Int×Int×(List (S64))×List Int)
 |0,_,_,_,_,_,_,_,_,_=>none
 |k+1,x1,I,J,u,z,D,F,G,H=>if J=true then(some (u,z,D,F,G,H,I))else(cJ.l0 k x1 I 0 u z D F G H)
def cJ.l0:Nat→List (bM)→List Int→Int→List (aj)→Int→List Int→Int→Int→List (S64)→Option ((List (aj))×Int×List Int×Int×Int×(List (S64))×List Int)
 |0,_,_,_,_,_,_,_,_,_=>none
 |k+1,x1,D,z,F,G,H,I,J,K=>if z<(x1.length:Int)then(if 0≤z then((cA.f k F G H I J K ((iI x1 z).f0) ((iI x1 z).f1) ((iI x1 z).f2) ((iI x1 z).f3)).bind fun u=>(if D.length<17592186044416 then(cJ.l0 k x1 (D++[u.2.2.2.2.2.2]) (wrap64 (z+1)) u.1 u.2.1 u.2.2.1 u.2.2.2.1 u.2.2.2.2.1 u.2.2.2.2.2.1)else(none)))else(none))else(some (F,G,H,I,J,K,D))
end
def cJ.f (k:Nat) (G:List (aj)) (z:Int) (H:List Int) (D:Int) (F:Int) (I:List (S64)) (l1:List (bM)):Option ((List (aj))×Int×List Int×Int×Int×(List (S64))×List Int):=(fM.f G z H D F I).bind fun u=>((some (([]:List Int):List Int)).bind fun J=>((bp.f k G z H D F I).bind fun K=>(if K=true then(cJ.j0 k l1 J (decide ((l1.length:Int)>40)) u.1 u.2.1 u.2.2.1 u.2.2.2.1 u.2.2.2.2.1 u.2.2.2.2.2)else(cJ.j0 k l1 J true u.1 u.2.1 u.2.2.1 u.2.2.2.1 u.2.2.2.2.1 u.2.2.2.2.2))))
def cJ.T8:Bool×List (List Nat×List Nat):=(true,[([],[]),([],[]),([],[]),([1,2],[1,2]),([3],[3]),([0,4],[0,4]),([5],[5]),([6],[6]),([6],[6]),([],[]),([9,7,5,0,1,2,3,4,5,6,7,9],[7,9]),([8,10,0,1,2,3,4,5,6,7,8,9,10],[8])])
def cJ.B8:List Nat:=[0,0,0,6,14,31,63,127,127,0,767,2047]
theorem cJ.ju:bo .any (opsOf Tryz.f10 8)=cJ.T8:=by kernel_rfl
theorem cJ.iX:cp cJ.T8.2 cJ.B8=true:=by kernel_rfl
theorem cJ.c (k:Nat) (al:Option Addr) (aA:Nat) (V:List (aj)) (ar:Int) (am:Option Addr) (aC:Nat) (X:List Int) (au:Int) (aw:Int) (ao:Option Addr) (aE:Nat) (Y:List (S64)) (A1:Option Addr) (c1:Nat) (l1:List (bM)) (r1:List (aj)) (r2:Int) (r3:List Int) (a5:Int) (a6:Int) (a7:List (S64)) (a8:List Int) (w:World) (bF:Kd.C aX w al V.length V) (bC:V.length≤aA) (bH:Kd.C (Kd.int .i64) w am X.length X) (bD:X.length≤aC) (bJ:Kd.C aW w ao Y.length Y) (bE:Y.length≤aE) (hr1:Kd.C iD w A1 l1.length l1) (hc1:l1.length≤c1) (h:cJ.f k V ar X au aw Y l1=some (r1,r2,r3,a5,a6,a7,a8)):
  Calls Tryz.prog 10 #[.agg #[.slice al V.length aA,.int .i64 ar,.slice am X.length aC,.int .i64 au,.int .i64 aw,.slice ao Y.length aE],.slice A1 l1.length c1] w fun e w'=>∃b6 a9 b7 a_:Value,e= .returned (.tuple #[.agg #[b6,.int .i64 r2,a9,.int .i64 a5,.int .i64 a6,b7],a_])∧Kd.R aX 110 w' w.heap.size (fun _=>True) b6 r1∧Kd.R (Kd.int .i64) 3 w' w.heap.size (fun k_=>some k_≠(a_:Value).ownBlock) a9 r3∧Kd.R aW 64 w' w.heap.size (fun _=>True) b7 a7∧Kd.R (Kd.int .i64) 3 w' w.heap.size (fun k_=>some k_≠(a9:Value).ownBlock) a_ a8∧Below w.heap.size w w':=by
 have cD:=bn.mk bF;have cw:=aq.mk bC;have cE:=bn.mk bH;have cz:=aq.mk bD;have cF:=bn.mk bJ;have cB:=aq.mk bE;have cG:=bn.mk hr1;have cC:=aq.mk hc1;clear bF bC bH bD bJ bE hr1 hc1;have cP:=cL.mk (d:=(Kd.int .i64)) (e:=3) (t:=30) (by decide);have cO:=cL.mk (d:=aX) (e:=110) (t:=30) (by decide);have cQ:=cL.mk (d:=aW) (e:=64) (t:=30) (by decide);have cN:=mW.mk (e:=3) (t:=30) (by decide);unfold cJ.f at h
 (try simp only[aG]at h)
 have cu:=Tryz.underlying30;have cv:=Tryz.underlying57
 all_goals go_enter Tryz.func10,Tryz.ntmps10
 all_goals go_wp2_with ((first
  |((with_reducible refine ax (N:=2) rfl ?_);refine bV #[.slice al V.length aA,.int .i64 ar,.slice am X.length aC,.int .i64 au,.int .i64 aw,.slice ao Y.length aE] 30 fun g2 w1 aJ aK aM=> ?_)
  |((with_reducible refine ax (N:=4) rfl ?_);refine bV #[.slice none 0 0,.int .i64 0,.slice none 0 0,.int .i64 0,.int .i64 0,.slice none 0 0] 30 fun g4 w1 aJ aK aM=> ?_)
  |((with_reducible refine ax (N:=6) rfl ?_);refine bV #[.slice none 0 0,.int .i64 0,.slice none 0 0,.int .i64 0,.int .i64 0,.slice none 0 0] 30 fun g6 w1 aJ aK aM=> ?_)
  |((with_reducible refine ax (N:=13) rfl ?_);refine Kd.cx (Kd.int .i64) _ 3 ?hg (N:=13) ?hd (xs:=([]:List Int)) (inner:=[]) (ok:=fun _=>True) (bB:=fun _=>True) ?hr ?hp (fun _ hk=>hk) trivial (Below.refl _ _) (Nat.le_refl _) (by simp) ?_;(case hd=>rfl);(case hg=>rfl);(case hr=>first|(go_simp;done)|(go_simp;rfl));(case hp=>exact(aI.none _ _));intro v5 cj ho hb aY aZ;obtain⟨Z,c5,rfl⟩:=Kd.bz ho;have a0:=dT.mk ho;have q5:=aq.mk (iJ a0);have b_:=az.mk hb;clear aY aZ ho hb)
  |(go_at_call 30;(try rw[H.out]);replace h:=bI h;obtain⟨⟨t1,t2,t3,t4,t5,t6⟩,A,h⟩:=h;(try dsimp only at h);refine(fM.c _ _ _ _ _ _ _ _ _ _ _ _ _ _ _ _ _ _ _ Rd.out aq.out Rd.out aq.out Rd.out aq.out A).mono ?_;rintro e w2 ⟨v0,v1,v2,rfl,I,J,O,hb⟩;obtain⟨ad,b0,rfl,j0,q0⟩:=aQ I;obtain⟨B1,b1,rfl,j1,q1⟩:=aQ J;obtain⟨B2,b2,rfl,j2,q2⟩:=aQ O;have ai:=az.mk hb;clear A I J O hb)
  |(go_at_call 31;(try rw[H.out]);replace h:=bI h;obtain⟨t,A,h⟩:=h;(try dsimp only at h);refine(bp.calls _ _ _ _ _ _ _ _ _ _ _ _ _ _ _ Rd.out aq.out Rd.out aq.out Rd.out aq.out A).mono ?_;rintro e w2 ⟨rfl,hb⟩;have ai:=az.mk hb;clear A hb)
  |(refine qR (id:=8) (ds:=[]) (l:= #[false,false,false,false,false,false,false,false,false,false,false,false]) cJ.ju cJ.iX ?_;intro u ap w3 cf u0 b9 hHeld;replace h:=bI h;obtain⟨⟨b3,cg,b4,ch,ci,b5,aN⟩,Z,h⟩:=h;(try dsimp only at h);refine qT 0 (some 31) u ap hHeld ?_;refine qA 1 (some 32) u ?_;refine qA 2 (some 33) u ?_;refine qA 3 (some 34) u ?_;refine qT 4 (some 35) u ap hHeld ?_;refine kI 5 9 (some 36) (some 9) u (fun K hK=> ?_) (fun K hK=> ?_);(focus (refine cy Tryz.func32 (by kernel_rfl) rfl _ (by rfl) rfl rfl (by(try simp only[List.map_toArray,List.map_cons,List.map_nil]);rfl) ?_;refine(cA.c _ _ _ _ _ _ _ _ _ _ _ _ _ _ _ _ _ _ _ _ _ _ _ _ _ Rd.out aq.out Rd.out aq.out Rd.out aq.out Z).mono ?_;rintro e u5 ⟨v0,v1,v2,rfl,I,J,O,hb⟩;obtain⟨ad,b0,rfl,j0,q0⟩:=aQ I;obtain⟨B1,b1,rfl,j1,q1⟩:=aQ J;obtain⟨B2,b2,rfl,j2,q2⟩:=aQ O;have ai:=az.mk hb;(try clear I J O hb);refine⟨_,rfl,hK.out _ _ From.out fun hHeld=> ?_⟩;clear hK K;refine qN ?_;refine qA 6 (some 30) u ?_;refine qA 7 (some 37) u ?_;refine qA 8 (some 38) u ?_;refine gu 9 (some 9) u fun K hK=> ?_;refine iH 9 #[.slice none 0 0,.int .i64 0,.slice none 0 0,.int .i64 0,.int .i64 0,.slice none 0 0] 30 ?_;intro g9 a1 u9 a2 a3;refine hK.out _ _ From.out fun hHeld=> ?_;clear hK K;refine qN ?_;refine qS 10 u fun hHeld=> ?_;refine qA 11 (some 10) u ?_;refine qD u ?_));rotate_left 1;(focus (refine iH 9 #[.slice none 0 0,.int .i64 0,.slice none 0 0,.int .i64 0,.int .i64 0,.slice none 0 0] 30 ?_;intro g9 a1 u9 a2 a3;refine hK.out _ _ From.out fun hHeld=> ?_;clear hK K;refine qN ?_;refine gu 5 (some 36) u fun K hK=> ?_;refine cy Tryz.func32 (by kernel_rfl) rfl _ (by rfl) rfl rfl (by(try simp only[List.map_toArray,List.map_cons,List.map_nil]);rfl) ?_;refine(cA.c _ _ _ _ _ _ _ _ _ _ _ _ _ _ _ _ _ _ _ _ _ _ _ _ _ Rd.out aq.out Rd.out aq.out Rd.out aq.out Z).mono ?_;rintro e u5 ⟨v0,v1,v2,rfl,I,J,O,hb⟩;obtain⟨ad,b0,rfl,j0,q0⟩:=aQ I;obtain⟨B1,b1,rfl,j1,q1⟩:=aQ J;obtain⟨B2,b2,rfl,j2,q2⟩:=aQ O;have ai:=az.mk hb;(try clear I J O hb);refine⟨_,rfl,hK.out _ _ From.out fun hHeld=> ?_⟩;clear hK K;refine qN ?_;refine qA 6 (some 30) u ?_;refine qA 7 (some 37) u ?_;refine qA 8 (some 38) u ?_;refine qS 10 u fun hHeld=> ?_;refine qA 11 (some 10) u ?_;refine qD u ?_));all_goals((try simp only[aG]at h);(repeat' first|((with_reducible replace h:=bU h);rcases h with ⟨hc,h⟩|⟨hc,h⟩<;>first|exact(bL h).elim|exact absurd hc (by decide)|subst hc|(replace hc:=bA hc;subst hc)|(replace hc:=dz hc;subst hc)|(replace hc:=dA hc;subst hc)|(have hd:(_==_)=true:=hc)|(have hd:(_==_)=false:=bA hc)|(have hd:=bQ hc;have he:=bR hc;clear hc)|(have hd:=bS hc;have he:=bT hc)|(have hd:=ay hc)|(have hd:=ah hc;(try(have hn:=Int.natCast_pos.mp hc;have hm:=ah hn;replace hn:=av hn));first|(have hz:=dy (by assumption) (by first|assumption|decide) hc;obtain⟨aR,e_,i_⟩:=hz;cases e_)|(have hz:=dv (by assumption) (by first|assumption|decide) hc;obtain⟨U,e_,c_⟩:=hz;cases e_)|(have hz:=gQ (bn.out (self:=by assumption)) _ (by first|assumption|decide) hc;obtain⟨U,e_,z,D,F,G⟩:=hz;cases e_;replace z:=bu.mk z;replace D:=bu.mk D;replace F:=bu.mk F;replace G:=bu.mk G)|(have hz:=gQ (bn.out (self:=by assumption)) _ hc (by assumption);obtain⟨U,e_,z,D,F,G⟩:=hz;cases e_;replace z:=bu.mk z;replace D:=bu.mk D;replace F:=bu.mk F;replace G:=bu.mk G))|(have hd:=ah hc)|skip)|((with_reducible have hj:cJ.j0 k _ _ _ _ _ _ _ _ _=_:=h);clear hj;rcases k with _|k<;>rw[cJ.j0]at h<;>first|exact(bL h).elim|skip)|((with_reducible replace h:=dw h);obtain⟨H,h⟩:=h;replace H:=A_ H;(try dsimp only at h)))))
  |((with_reducible refine dP (b:= .append) (xs:= #[.tmp 40,.tmp 42]) rfl ?_);(try(refine dE (by rfl) ?_;dsimp only));at_builtin;refine Kd.eF (Kd.int .i64) (w0:=w) w.heap.size rfl (.tmp 40) (.tmp 42) 25 3 (.int .i64 0) 8 rfl Tryz.underlying25 info3 rfl (by decide) (by omega) (.slice bk ak.length bx) ak aN [.int .i64 aN] (fun _=>True) (fun _=>False) rfl (by first|(go_simp;done)|(go_simp;rfl)) ?aP (fun _ hk=>hk.elim) ?aF ?aO ?aB ?aS ?aL ?_;(case aP=>exact rfl);(case aO=>exact bZ);(case aB=>exact From.out);(case aF=>exact(fun _ _=>trivial));(case aS=>exact(From.out (w0:=w)).size);(case aL=>omega);intro v7 w7 ho hb hg hat;have cc:=pL hg;obtain⟨b8,c7,rfl⟩:=Kd.bz ho;have cd:=pP j0 hg;have a4:=pD j1 hat;have ca:=pE a4;have b':=At.mk ho;have cb:From w w7:=⟨hb⟩;have ce:Sz w w7:=⟨hb.size⟩;clear ho hb hg hat));(repeat' first|((with_reducible replace h:=bU h);rcases h with ⟨hc,h⟩|⟨hc,h⟩<;>first|exact(bL h).elim|exact absurd hc (by decide)|subst hc|(replace hc:=bA hc;subst hc)|(replace hc:=dz hc;subst hc)|(replace hc:=dA hc;subst hc)|(have hd:(_==_)=true:=hc)|(have hd:(_==_)=false:=bA hc)|(have hd:=bQ hc;have he:=bR hc;clear hc)|(have hd:=bS hc;have he:=bT hc)|(have hd:=ay hc)|(have hd:=ah hc;(try(have hn:=Int.natCast_pos.mp hc;have hm:=ah hn;replace hn:=av hn));first|(have hz:=dy (by assumption) (by first|assumption|decide) hc;obtain⟨aR,e_,i_⟩:=hz;cases e_)|(have hz:=dv (by assumption) (by first|assumption|decide) hc;obtain⟨U,e_,c_⟩:=hz;cases e_)|(have hz:=gQ (bn.out (self:=by assumption)) _ (by first|assumption|decide) hc;obtain⟨U,e_,z,D,F,G⟩:=hz;cases e_;replace z:=bu.mk z;replace D:=bu.mk D;replace F:=bu.mk F;replace G:=bu.mk G)|(have hz:=gQ (bn.out (self:=by assumption)) _ hc (by assumption);obtain⟨U,e_,z,D,F,G⟩:=hz;cases e_;replace z:=bu.mk z;replace D:=bu.mk D;replace F:=bu.mk F;replace G:=bu.mk G))|(have hd:=ah hc)|skip)|((with_reducible have hj:cJ.j0 k _ _ _ _ _ _ _ _ _=_:=h);clear hj;rcases k with _|k<;>rw[cJ.j0]at h<;>first|exact(bL h).elim|skip)|((with_reducible replace h:=dw h);obtain⟨H,h⟩:=h;replace H:=A_ H;(try dsimp only at h))))
 all_goals first
  |((try simp only[Option.some.injEq,Prod.mk.injEq]at h);(try obtain⟨rfl,rfl,rfl,rfl,rfl,rfl,rfl⟩:=h);refine bodyPost_ret (di rfl _ _ _ _ _ (0,0) _ rfl aU.out Tryz.underlying30 rfl (by kernel_rfl)) rfl ?_;exact⟨_,_,_,_,rfl,(by first|exact bl|exact bW rfl|exact bW (by simp)|exact Kd.bj _ _ _ _ _|exact bZ|exact dJ (by simp)),(by first|exact Kd.bj _ _ _ _ _|exact gR (ok:=fun _=>True) (by first|exact bl|exact bZ|exact gP (by simp)|exact bW (by simp))),(by first|exact bl|exact bW rfl|exact bW (by simp)|exact Kd.bj _ _ _ _ _|exact bZ|exact dJ (by simp)),(by first|exact Kd.bj _ _ _ _ _|exact gR (ok:=fun _=>True) (by first|exact bl|exact bZ|exact gP (by simp)|exact bW (by simp))),From.out⟩)
  |(exfalso;simp at hd;omega)
  |skip
 go_loopg [7,8] k (fun bK v7 v8 w'=>∃(ak:List Int) (bh:Int) (bb:List (aj)) (bc:Int) (bd:List Int) (be:Int) (bf:Int) (bg:List (S64)) (u1339000:Value) (u1339002:Value) (u1339005:Value),v8= .int .i64 bh∧ae (cJ.l0 bK l1 ak bh bb bc bd be bf bg=some (r1,r2,r3,a5,a6,a7,a8))∧ae (bK≤k)∧ae (Kd.R (Kd.int .i64) 3 w' w.heap.size (fun k_=>some k_≠(u1339002:Value).ownBlock) v7 ak)∧ae (Kd.R aX 110 w' w.heap.size (fun _=>True) u1339000 bb)∧ae (Kd.R (Kd.int .i64) 3 w' w.heap.size (fun k_=>some k_≠(v7:Value).ownBlock) u1339002 bd)∧ae (Kd.R aW 64 w' w.heap.size (fun _=>True) u1339005 bg)∧ae (w'.heap[g2]? =some (.cells #[(.slice al V.length aA),.int .i64 ar,(.slice am X.length aC),.int .i64 au,.int .i64 aw,(.slice ao Y.length aE)] 30 (0,0)))∧ae (w'.heap[g4]? =some (.cells #[(.slice none 0 0),.int .i64 0,(.slice none 0 0),.int .i64 0,.int .i64 0,(.slice none 0 0)] 30 (0,0)))∧ae (w'.heap[g6]? =some (.cells #[u1339000,.int .i64 bc,u1339002,.int .i64 be,.int .i64 bf,u1339005] 30 (0,0)))∧ae (Below w.heap.size w w'))
 case atStart=>exact⟨_,_,_,_,_,_,_,_,(.slice ad t1.length b0),(.slice B1 t3.length b1),(.slice B2 t6.length b2),(by first|rfl|(simp;done)),⟨h⟩,⟨Nat.le_refl _⟩,⟨gR (ok:=fun _=>True) (by first|exact bl|exact bZ|exact gP (by simp)|exact bW (by simp))⟩,⟨by first|exact bl|exact bW rfl|exact bW (by simp)|exact Kd.bj _ _ _ _ _⟩,⟨gR (ok:=fun _=>True) (by first|exact bl|exact bZ|exact gP (by simp)|exact bW (by simp))⟩,⟨by first|exact bl|exact bW rfl|exact bW (by simp)|exact Kd.bj _ _ _ _ _⟩,⟨aU.out⟩,⟨aU.out⟩,⟨aU.out⟩,⟨From.out⟩⟩
 case round=>
  clear h;obtain⟨ak,bh,bb,bc,bd,be,bf,bg,u1339000,u1339002,u1339005,rfl,aT,br,bw,bs,bt,bv,bm,bo,bq,aV⟩:=hrel;rcases gk with _|k1
  ·exact absurd aT.out (by simp[cJ.l0])
  have h:=aT.out;clear aT;simp only[cJ.l0]at h;obtain⟨bk,bx,rfl,cH,cR,bO⟩:=lJ bw.out;clear bw;obtain⟨ck,c91,rfl,cI,cS,bP⟩:=lJ bs.out;clear bs;obtain⟨cl,ct,rfl,cK,cT,bX⟩:=lJ bt.out;clear bt;obtain⟨cm,c93,rfl,cM,cU,bY⟩:=lJ bv.out;clear bv;have cn:=aU.mk bm.out;clear bm;have co:=aU.mk bo.out;clear bo;have cp:=aU.mk bq.out;clear bq;have cq:From w wr:=⟨aV.out⟩;have cr:Sz w wr:=⟨aV.out.size⟩;clear aV
  (try have d90:=lM bO);(try have d91:=lM bP);(try have d92:=lM bX);(try have d93:=lM bY);clear bO bP bX bY
  (repeat' first|((with_reducible replace h:=bU h);rcases h with ⟨hc,h⟩|⟨hc,h⟩<;>first|exact(bL h).elim|exact absurd hc (by decide)|subst hc|(replace hc:=bA hc;subst hc)|(replace hc:=dz hc;subst hc)|(replace hc:=dA hc;subst hc)|(have hd:(_==_)=true:=hc)|(have hd:(_==_)=false:=bA hc)|(have hd:=bQ hc;have he:=bR hc;clear hc)|(have hd:=bS hc;have he:=bT hc)|(have hd:=ay hc)|(have hd:=ah hc;(try(have hn:=Int.natCast_pos.mp hc;have hm:=ah hn;replace hn:=av hn));first|(have hz:=dy (by assumption) (by first|assumption|decide) hc;obtain⟨aR,e_,i_⟩:=hz;cases e_)|(have hz:=dv (by assumption) (by first|assumption|decide) hc;obtain⟨U,e_,c_⟩:=hz;cases e_)|(have hz:=gQ (bn.out (self:=by assumption)) _ (by first|assumption|decide) hc;obtain⟨U,e_,z,D,F,G⟩:=hz;cases e_;replace z:=bu.mk z;replace D:=bu.mk D;replace F:=bu.mk F;replace G:=bu.mk G)|(have hz:=gQ (bn.out (self:=by assumption)) _ hc (by assumption);obtain⟨U,e_,z,D,F,G⟩:=hz;cases e_;replace z:=bu.mk z;replace D:=bu.mk D;replace F:=bu.mk F;replace G:=bu.mk G))|(have hd:=ah hc)|skip)|((with_reducible have hj:cJ.j0 k _ _ _ _ _ _ _ _ _=_:=h);clear hj;rcases k with _|k<;>rw[cJ.j0]at h<;>first|exact(bL h).elim|skip)|((with_reducible replace h:=dw h);obtain⟨H,h⟩:=h;replace H:=A_ H;(try dsimp only at h)))
  all_goals go_wp2_with ((first
   |((with_reducible refine ax (N:=2) rfl ?_);refine bV #[.slice al V.length aA,.int .i64 ar,.slice am X.length aC,.int .i64 au,.int .i64 aw,.slice ao Y.length aE] 30 fun g2 w1 aJ aK aM=> ?_)
   |((with_reducible refine ax (N:=4) rfl ?_);refine bV #[.slice none 0 0,.int .i64 0,.slice none 0 0,.int .i64 0,.int .i64 0,.slice none 0 0] 30 fun g4 w1 aJ aK aM=> ?_)
   |((with_reducible refine ax (N:=6) rfl ?_);refine bV #[.slice none 0 0,.int .i64 0,.slice none 0 0,.int .i64 0,.int .i64 0,.slice none 0 0] 30 fun g6 w1 aJ aK aM=> ?_)
   |((with_reducible refine ax (N:=13) rfl ?_);refine Kd.cx (Kd.int .i64) _ 3 ?hg (N:=13) ?hd (xs:=([]:List Int)) (inner:=[]) (ok:=fun _=>True) (bB:=fun _=>True) ?hr ?hp (fun _ hk=>hk) trivial (Below.refl _ _) (Nat.le_refl _) (by simp) ?_;(case hd=>rfl);(case hg=>rfl);(case hr=>first|(go_simp;done)|(go_simp;rfl));(case hp=>exact(aI.none _ _));intro v5 cj ho hb aY aZ;obtain⟨Z,c5,rfl⟩:=Kd.bz ho;have a0:=dT.mk ho;have q5:=aq.mk (iJ a0);have b_:=az.mk hb;clear aY aZ ho hb)
   |(go_at_call 30;(try rw[H.out]);replace h:=bI h;obtain⟨⟨t1,t2,t3,t4,t5,t6⟩,A,h⟩:=h;(try dsimp only at h);refine(fM.c _ _ _ _ _ _ _ _ _ _ _ _ _ _ _ _ _ _ _ Rd.out aq.out Rd.out aq.out Rd.out aq.out A).mono ?_;rintro e w2 ⟨v0,v1,v2,rfl,I,J,O,hb⟩;obtain⟨ad,b0,rfl,j0,q0⟩:=aQ I;obtain⟨B1,b1,rfl,j1,q1⟩:=aQ J;obtain⟨B2,b2,rfl,j2,q2⟩:=aQ O;have ai:=az.mk hb;clear A I J O hb)
   |(go_at_call 31;(try rw[H.out]);replace h:=bI h;obtain⟨t,A,h⟩:=h;(try dsimp only at h);refine(bp.calls _ _ _ _ _ _ _ _ _ _ _ _ _ _ _ Rd.out aq.out Rd.out aq.out Rd.out aq.out A).mono ?_;rintro e w2 ⟨rfl,hb⟩;have ai:=az.mk hb;clear A hb)
   |(refine qR (id:=8) (ds:=[]) (l:= #[false,false,false,false,false,false,false,false,false,false,false,false]) cJ.ju cJ.iX ?_;intro u ap w3 cf u0 b9 hHeld;replace h:=bI h;obtain⟨⟨b3,cg,b4,ch,ci,b5,aN⟩,Z,h⟩:=h;(try dsimp only at h);refine qT 0 (some 31) u ap hHeld ?_;refine qA 1 (some 32) u ?_;refine qA 2 (some 33) u ?_;refine qA 3 (some 34) u ?_;refine qT 4 (some 35) u ap hHeld ?_;refine kI 5 9 (some 36) (some 9) u (fun K hK=> ?_) (fun K hK=> ?_);(focus (refine cy Tryz.func32 (by kernel_rfl) rfl _ (by rfl) rfl rfl (by(try simp only[List.map_toArray,List.map_cons,List.map_nil]);rfl) ?_;refine(cA.c _ _ _ _ _ _ _ _ _ _ _ _ _ _ _ _ _ _ _ _ _ _ _ _ _ Rd.out aq.out Rd.out aq.out Rd.out aq.out Z).mono ?_;rintro e u5 ⟨v0,v1,v2,rfl,I,J,O,hb⟩;obtain⟨ad,b0,rfl,j0,q0⟩:=aQ I;obtain⟨B1,b1,rfl,j1,q1⟩:=aQ J;obtain⟨B2,b2,rfl,j2,q2⟩:=aQ O;have ai:=az.mk hb;(try clear I J O hb);refine⟨_,rfl,hK.out _ _ From.out fun hHeld=> ?_⟩;clear hK K;refine qN ?_;refine qA 6 (some 30) u ?_;refine qA 7 (some 37) u ?_;refine qA 8 (some 38) u ?_;refine gu 9 (some 9) u fun K hK=> ?_;refine iH 9 #[.slice none 0 0,.int .i64 0,.slice none 0 0,.int .i64 0,.int .i64 0,.slice none 0 0] 30 ?_;intro g9 a1 u9 a2 a3;refine hK.out _ _ From.out fun hHeld=> ?_;clear hK K;refine qN ?_;refine qS 10 u fun hHeld=> ?_;refine qA 11 (some 10) u ?_;refine qD u ?_));rotate_left 1;(focus (refine iH 9 #[.slice none 0 0,.int .i64 0,.slice none 0 0,.int .i64 0,.int .i64 0,.slice none 0 0] 30 ?_;intro g9 a1 u9 a2 a3;refine hK.out _ _ From.out fun hHeld=> ?_;clear hK K;refine qN ?_;refine gu 5 (some 36) u fun K hK=> ?_;refine cy Tryz.func32 (by kernel_rfl) rfl _ (by rfl) rfl rfl (by(try simp only[List.map_toArray,List.map_cons,List.map_nil]);rfl) ?_;refine(cA.c _ _ _ _ _ _ _ _ _ _ _ _ _ _ _ _ _ _ _ _ _ _ _ _ _ Rd.out aq.out Rd.out aq.out Rd.out aq.out Z).mono ?_;rintro e u5 ⟨v0,v1,v2,rfl,I,J,O,hb⟩;obtain⟨ad,b0,rfl,j0,q0⟩:=aQ I;obtain⟨B1,b1,rfl,j1,q1⟩:=aQ J;obtain⟨B2,b2,rfl,j2,q2⟩:=aQ O;have ai:=az.mk hb;(try clear I J O hb);refine⟨_,rfl,hK.out _ _ From.out fun hHeld=> ?_⟩;clear hK K;refine qN ?_;refine qA 6 (some 30) u ?_;refine qA 7 (some 37) u ?_;refine qA 8 (some 38) u ?_;refine qS 10 u fun hHeld=> ?_;refine qA 11 (some 10) u ?_;refine qD u ?_));all_goals((try simp only[aG]at h);(repeat' first|((with_reducible replace h:=bU h);rcases h with ⟨hc,h⟩|⟨hc,h⟩<;>first|exact(bL h).elim|exact absurd hc (by decide)|subst hc|(replace hc:=bA hc;subst hc)|(replace hc:=dz hc;subst hc)|(replace hc:=dA hc;subst hc)|(have hd:(_==_)=true:=hc)|(have hd:(_==_)=false:=bA hc)|(have hd:=bQ hc;have he:=bR hc;clear hc)|(have hd:=bS hc;have he:=bT hc)|(have hd:=ay hc)|(have hd:=ah hc;(try(have hn:=Int.natCast_pos.mp hc;have hm:=ah hn;replace hn:=av hn));first|(have hz:=dy (by assumption) (by first|assumption|decide) hc;obtain⟨aR,e_,i_⟩:=hz;cases e_)|(have hz:=dv (by assumption) (by first|assumption|decide) hc;obtain⟨U,e_,c_⟩:=hz;cases e_)|(have hz:=gQ (bn.out (self:=by assumption)) _ (by first|assumption|decide) hc;obtain⟨U,e_,z,D,F,G⟩:=hz;cases e_;replace z:=bu.mk z;replace D:=bu.mk D;replace F:=bu.mk F;replace G:=bu.mk G)|(have hz:=gQ (bn.out (self:=by assumption)) _ hc (by assumption);obtain⟨U,e_,z,D,F,G⟩:=hz;cases e_;replace z:=bu.mk z;replace D:=bu.mk D;replace F:=bu.mk F;replace G:=bu.mk G))|(have hd:=ah hc)|skip)|((with_reducible have hj:cJ.j0 k _ _ _ _ _ _ _ _ _=_:=h);clear hj;rcases k with _|k<;>rw[cJ.j0]at h<;>first|exact(bL h).elim|skip)|((with_reducible replace h:=dw h);obtain⟨H,h⟩:=h;replace H:=A_ H;(try dsimp only at h)))))
   |((with_reducible refine dP (b:= .append) (xs:= #[.tmp 40,.tmp 42]) rfl ?_);(try(refine dE (by rfl) ?_;dsimp only));at_builtin;refine Kd.eF (Kd.int .i64) (w0:=w) w.heap.size rfl (.tmp 40) (.tmp 42) 25 3 (.int .i64 0) 8 rfl Tryz.underlying25 info3 rfl (by decide) (by omega) (.slice bk ak.length bx) ak aN [.int .i64 aN] (fun _=>True) (fun _=>False) rfl (by first|(go_simp;done)|(go_simp;rfl)) ?aP (fun _ hk=>hk.elim) ?aF ?aO ?aB ?aS ?aL ?_;(case aP=>exact rfl);(case aO=>exact bZ);(case aB=>exact From.out);(case aF=>exact(fun _ _=>trivial));(case aS=>exact(From.out (w0:=w)).size);(case aL=>omega);intro v7 w7 ho hb hg hat;have cc:=pL hg;obtain⟨b8,c7,rfl⟩:=Kd.bz ho;have cd:=pP j0 hg;have a4:=pD j1 hat;have ca:=pE a4;have b':=At.mk ho;have cb:From w w7:=⟨hb⟩;have ce:Sz w w7:=⟨hb.size⟩;clear ho hb hg hat));(repeat' first|((with_reducible replace h:=bU h);rcases h with ⟨hc,h⟩|⟨hc,h⟩<;>first|exact(bL h).elim|exact absurd hc (by decide)|subst hc|(replace hc:=bA hc;subst hc)|(replace hc:=dz hc;subst hc)|(replace hc:=dA hc;subst hc)|(have hd:(_==_)=true:=hc)|(have hd:(_==_)=false:=bA hc)|(have hd:=bQ hc;have he:=bR hc;clear hc)|(have hd:=bS hc;have he:=bT hc)|(have hd:=ay hc)|(have hd:=ah hc;(try(have hn:=Int.natCast_pos.mp hc;have hm:=ah hn;replace hn:=av hn));first|(have hz:=dy (by assumption) (by first|assumption|decide) hc;obtain⟨aR,e_,i_⟩:=hz;cases e_)|(have hz:=dv (by assumption) (by first|assumption|decide) hc;obtain⟨U,e_,c_⟩:=hz;cases e_)|(have hz:=gQ (bn.out (self:=by assumption)) _ (by first|assumption|decide) hc;obtain⟨U,e_,z,D,F,G⟩:=hz;cases e_;replace z:=bu.mk z;replace D:=bu.mk D;replace F:=bu.mk F;replace G:=bu.mk G)|(have hz:=gQ (bn.out (self:=by assumption)) _ hc (by assumption);obtain⟨U,e_,z,D,F,G⟩:=hz;cases e_;replace z:=bu.mk z;replace D:=bu.mk D;replace F:=bu.mk F;replace G:=bu.mk G))|(have hd:=ah hc)|skip)|((with_reducible have hj:cJ.j0 k _ _ _ _ _ _ _ _ _=_:=h);clear hj;rcases k with _|k<;>rw[cJ.j0]at h<;>first|exact(bL h).elim|skip)|((with_reducible replace h:=dw h);obtain⟨H,h⟩:=h;replace H:=A_ H;(try dsimp only at h))))
  all_goals first
   |(go_roundg k1;(case measure=>have:=br.out;omega);(case rel=>exact⟨_,_,_,_,_,_,_,_,(.slice ad b3.length b0),(.slice B1 b4.length b1),(.slice B2 b5.length b2),(by first|rfl|(simp;done)),⟨h⟩,⟨by have:=br.out;omega⟩,⟨gR (ok:=fun _=>True) (by first|exact bl|exact bZ|exact gP (by simp)|exact bW (by simp))⟩,⟨by first|exact bl|exact bW rfl|exact bW (by simp)|exact Kd.bj _ _ _ _ _⟩,⟨gR (ok:=fun _=>True) (by first|exact bl|exact bZ|exact gP (by simp)|exact bW (by simp))⟩,⟨by first|exact bl|exact bW rfl|exact bW (by simp)|exact Kd.bj _ _ _ _ _⟩,⟨aU.out⟩,⟨aU.out⟩,⟨aU.out⟩,⟨From.out⟩⟩))
   |((try simp only[Option.some.injEq,Prod.mk.injEq]at h);(try obtain⟨rfl,rfl,rfl,rfl,rfl,rfl,rfl⟩:=h);refine bodyPost_ret (di rfl _ _ _ _ _ (0,0) _ rfl aU.out Tryz.underlying30 rfl (by kernel_rfl)) rfl ?_;exact⟨_,_,_,_,rfl,(by first|exact bl|exact bW rfl|exact bW (by simp)|exact Kd.bj _ _ _ _ _|exact bZ|exact dJ (by simp)),(by first|exact Kd.bj _ _ _ _ _|exact gR (ok:=fun _=>True) (by first|exact bl|exact bZ|exact gP (by simp)|exact bW (by simp))),(by first|exact bl|exact bW rfl|exact bW (by simp)|exact Kd.bj _ _ _ _ _|exact bZ|exact dJ (by simp)),(by first|exact Kd.bj _ _ _ _ _|exact gR (ok:=fun _=>True) (by first|exact bl|exact bZ|exact gP (by simp)|exact bW (by simp))),From.out⟩)
end P
namespace P
set_option maxHeartbeats 8000000
set_option maxRecDepth 100000
open Go.RowKit WW.bq WW.cg WW.cd
attribute [local go_sem] cN cR cQ cU cP cT cO cS
mutual
def bY.l0:Nat→ByteArray→List ByteArray→List (bM)→Int→Int→Option (List ByteArray×Bool)
 |0,_,_,_,_,_=>none
 |k+1,x0,G,F,H,D=>if D≤(x0.size:Int)then(if D<(x0.size:Int)then(if 0≤D then(bY.j1 k x0 G F H D ((bt x0 D) != 10))else(none))else(bY.j1 k x0 G F H D false))else(if(F.length:Int)>40 then(some (G,false))else((mI.f k).bind fun z=>((cJ.f k z.1 z.2.1 z.2.2.1 z.2.2.2.1 z.2.2.2.2.1 z.2.2.2.2.2 F).bind fun u=>(bY.l1 k u.2.2.2.2.2.2 (([]:List ByteArray)) 0 u.1 u.2.1 u.2.2.1 u.2.2.2.1 u.2.2.2.2.1 u.2.2.2.2.2.1))))
def bY.j1:Nat→ByteArray→List ByteArray→List (bM)→Int→Int→Bool→Option (List ByteArray×Bool)
 |0,_,_,_,_,_,_=>none
 |k+1,x0,D,F,z,u,H=>if H=true then(bY.l0 k x0 D F z (wrap64 (u+1)))else(if 0≤z then(if z≤u then(if u≤(x0.size:Int)then((cB.f k (x0.extract (z:Int).toNat (u:Int).toNat)).bind fun G=>(if G.2=true then(bY.j2 k x0 D F (wrap64 (u+1)) u (x0.extract (z:Int).toNat (u:Int).toNat) ((G.1.length:Int)==0))else(bY.j2 k x0 D F (wrap64 (u+1)) u (x0.extract (z:Int).toNat (u:Int).toNat) false)))else(none))else(none))else(none))
def bY.j2:Nat→ByteArray→List ByteArray→List (bM)→Int→Int→ByteArray→Bool→Option (List ByteArray×Bool)
 |0,_,_,_,_,_,_,_=>none
 |k+1,x0,z,D,F,G,I,H=>if H=true then(bY.l0 k x0 z D F (wrap64 (G+1)))else((cf.f k I).bind fun u=>(if u.2.2.2.2=true then(if D.length<4398046511104 then(bY.l0 k x0 z (D++[(⟨u.1,u.2.1,u.2.2.1,u.2.2.2.1⟩:bM)]) F (wrap64 (G+1)))else(none))else(some (z,false))))
def bY.l1:Nat→List Int→List ByteArray→Int→List (aj)→Int→List Int→Int→Int→List (S64)→Option (List ByteArray×Bool)
 |0,_,_,_,_,_,_,_,_,_=>none
 |k+1,D,u,z,G,H,I,J,K,O=>if z<(D.length:Int)then(if 0≤z then((cY.f k (rd D z)).bind fun U=>(if u.length<8796093022208 then(bY.l1 k D (u++[U]) (wrap64 (z+1)) G H I J K O)else(none)))else(none))else((eB.f k G H I J K O).bind fun F=>(if u.length+F.length<8796093022208 then(some ((u++F),true))else(none)))
end
def bY.f (k:Nat) (a0:ByteArray):Option (List ByteArray×Bool):=(some (([]:List ByteArray):List ByteArray)).bind fun u=>(if(a0.size:Int)>20000 then(some (u,false))else(bY.l0 k a0 u (([]:List (bM))) 0 0))
theorem bY.c (k:Nat) (a0:ByteArray) (r1:List ByteArray) (r2:Bool) (w:World) (h:bY.f k a0=some (r1,r2)):
  Calls Tryz.prog 19 #[.string a0] w fun e w'=>∃dd:Value,e= .returned (.tuple #[dd,.bool r2])∧Kd.R Kd.string 9 w' w.heap.size (fun _=>True) dd r1∧Below w.heap.size w w':=by
 have fe:=Tryz.underlying57;have fd:=Tryz.underlying30;have u:=A_ (Below.refl w.heap.size w);have H:((some (([]:List ByteArray):List ByteArray)).bind fun bq=>(if(a0.size:Int)>20000 then(some (bq,false))else(bY.l0 k a0 bq (([]:List (bM))) 0 0)))=some (r1,r2):=h;clear h;obtain⟨bq,b9⟩:∃bx:List ByteArray,bx=(([]:List ByteArray)):=⟨_,rfl⟩;replace H:(if(a0.size:Int)>20000 then(some (bq,false))else(bY.l0 k a0 bq (([]:List (bM))) 0 0))=some (r1,r2):=by first|(rw[b9];with_reducible exact H)|(have aj:=(aG _ _).symm.trans H;rw[b9];with_reducible exact aj)|(have aj:=(aG _ _).symm.trans H;with_reducible exact aj)|with_reducible exact H|(rw[b9];exact H)|exact H
 have cj:=A_ b9;clear b9;by_cases c2:(a0.size:Int)>20000
 ·rw[af c2]at H;have b4:decide (20000<(a0.size:Int))=true:=ah c2;have b5:decide (20000<a0.size)=true:=ah (by omega);clear c2;simp only[Option.some.injEq,Prod.mk.injEq]at H;obtain⟨rfl,rfl⟩:=H;go_enter Tryz.func19,Tryz.ntmps19
  go_wp2_with (first|((with_reducible refine ax (N:=17) rfl ?_);(try(refine dE (by rfl) ?_;dsimp only));refine Kd.cx Kd.string _ 9 ?hg (N:=17) ?hd (xs:=([]:List ByteArray)) (inner:=[]) (ok:=fun _=>True) (bB:=fun _=>True) ?hr ?hp (fun _ hk=>hk) trivial (Below.refl _ _) (Nat.le_refl _) (by simp) ?_;(case hd=>rfl);(case hg=>rfl);(case hr=>first|(go_simp;done)|(go_simp;rfl));(case hp=>exact(aI.none _ _));intro co w3 b6 hb bS bT;clear bS bT;(first|rw[←cj.out]at b6|(simp only[Int.reduceToNat]at b6;rw[←cj.out]at b6));have F:=A_ (Kd.bE b6 (aA (oB u)));have G:=A_ (aC (oB u) hb);clear u;have bU:=F;have u:=G;clear F G hb b6))
  go_ret2;exact⟨_,eR,oR bU,oB u⟩
 ·rw[ag c2]at H;have b4:decide (20000<(a0.size:Int))=false:=ay c2;have b5:decide (20000<a0.size)=false:=ay (by omega);clear c2;obtain⟨df,b_⟩:∃bx:List (bM),bx=(([]:List (bM))):=⟨_,rfl⟩;replace H:(bY.l0 k a0 bq df 0 0)=some (r1,r2):=by first|(rw[b_];with_reducible exact H)|(have aj:=(aG _ _).symm.trans H;rw[b_];with_reducible exact aj)|(have aj:=(aG _ _).symm.trans H;with_reducible exact aj)|with_reducible exact H|(rw[b_];exact H)|exact H
  have cU:=A_ b_;clear b_;have H':=A_ H;clear H;go_enter Tryz.func19,Tryz.ntmps19
  go_wp2_with (first|((with_reducible refine ax (N:=17) rfl ?_);(try(refine dE (by rfl) ?_;dsimp only));refine Kd.cx Kd.string _ 9 ?hg (N:=17) ?hd (xs:=([]:List ByteArray)) (inner:=[]) (ok:=fun _=>True) (bB:=fun _=>True) ?hr ?hp (fun _ hk=>hk) trivial (Below.refl _ _) (Nat.le_refl _) (by simp) ?_;(case hd=>rfl);(case hg=>rfl);(case hr=>first|(go_simp;done)|(go_simp;rfl));(case hp=>exact(aI.none _ _));intro co fH b7 hb bS bT;clear bS bT;(first|rw[←cj.out]at b7|(simp only[Int.reduceToNat]at b7;rw[←cj.out]at b7));have F:=A_ (Kd.bE b7 (aA (oB u)));have G:=A_ (aC (oB u) hb);clear u;have bU:=F;have u:=G;clear F G hb b7)|((with_reducible refine ax (N:=22) rfl ?_);(try(refine dE (by rfl) ?_;dsimp only));refine Kd.cx iD _ 57 ?hg (N:=22) ?hd (xs:=([]:List (bM))) (inner:=[]) (ok:=fun _=>True) (bB:=fun _=>True) ?hr ?hp (fun _ hk=>hk) trivial (Below.refl _ _) (Nat.le_refl _) (by simp) ?_;(case hd=>rfl);(case hg=>rfl);(case hr=>first|(go_simp;done)|(go_simp;rfl));(case hp=>exact(aI.none _ _));intro fg w7 b8 hb bS bT;clear bS bT;(first|rw[←cU.out]at b8|(simp only[Int.reduceToNat]at b8;rw[←cU.out]at b8));have F:=A_ (Kd.aV (oR bU) hb);have G:=A_ (Kd.bE b8 (aA (oB u)));have I:=A_ (aC (oB u) hb);clear bU u;have bU:=F;have dA:=G;have u:=I;clear F G I hb b8))
  go_loopg [5,6,7] k (fun a_ v5 v6 v7 w'=>∃(az:List (bM)) (a2:Int) (O:Int),v6= .int .i64 a2∧v7= .int .i64 O∧ae (bY.l0 a_ a0 bq az a2 O=some (r1,r2))∧ae (a_≤k)∧ae (Kd.R Kd.string 9 w' w.heap.size (fun _=>True) co bq)∧ae (Kd.R iD 57 w' w.heap.size (fun _=>True) v5 az)∧ae (Below w.heap.size w w'))
  case atStart=>exact⟨(df),(0),(0),eS,eS,H',⟨Nat.le_refl _⟩,⟨oR bU⟩,⟨oR dA⟩,⟨oB u⟩⟩
  case round=>
   clear H'
   try clear c1
   try clear c2
   try clear b4
   try clear b5
   try clear p2
   obtain⟨az,a2,O,rfl,rfl,a3,bs,J,K,u⟩:=hrel;cases gk with
   |zero=>exact absurd a3.out (by simp[bY.l0])
   |succ k1=>
    have H:=a3.out;clear a3;simp only[bY.l0]at H;by_cases c9:O≤(a0.size:Int)
    ·rw[af c9]at H;have cm:decide (O≤(a0.size:Int))=true:=ah c9;clear c9;have cr:=A_ H;clear H
     go_upto_region 9 with (fail)
     go_cut [38] (fun v38 wc=>∃(a_:Nat) (cp:Bool),v38= .bool cp∧ae (bY.j1 a_ a0 bq az a2 O cp=some (r1,r2))∧ae (a_≤k1)∧ae (Kd.R Kd.string 9 wc w.heap.size (fun _=>True) co bq)∧ae (Kd.R iD 57 wc w.heap.size (fun _=>True) u5 az)∧ae (Below w.heap.size w wc))
     case first=>
      have H:=cr.out;clear cr;by_cases c11:O<(a0.size:Int)
      ·rw[af c11]at H;have bI:decide (O<(a0.size:Int))=true:=ah c11;clear c11
       (first|rw[bI]|(simp only[bG,bN];rw[bI])|skip)
       by_cases c12:0≤O
       ·rw[af c12]at H;have cu:decide (0≤O)=true:=ah c12;clear c12;have H':=A_ H;clear H;have bO:0≤(O:Int):=oD;have bP:O<(a0.size:Int):=oD;have cw:=gm a0 O;replace bO:=av bO;replace bP:=av bP;go_wp2
        go_meet
        case rel=>exact⟨_,(((bt a0 O) != 10)),eS,H',⟨by have:=bs.out;first|omega|exact Nat.le_refl _⟩,⟨oR J⟩,⟨oR K⟩,⟨oB u⟩⟩
       ·rw[ag c12]at H;exact absurd H (by simp)
      ·rw[ag c11]at H;have bI:decide (O<(a0.size:Int))=false:=ay c11;clear c11
       (first|rw[bI]|(simp only[bG,bN];rw[bI])|skip)
       have H':=A_ H;clear H;go_wp2
       go_meet
       case rel=>exact⟨_,(false),eS,H',⟨by have:=bs.out;first|omega|exact Nat.le_refl _⟩,⟨oR J⟩,⟨oR K⟩,⟨oB u⟩⟩
     case rest=>
      clear cr
      try clear c1
      try clear p1
      try clear q1
      try clear hx1
      try clear c2
      try clear b4
      try clear b5
      try clear p2
      try clear c9
      try clear cm
      try clear c11
      try clear bI
      try clear c12
      try clear cu
      try clear bO
      try clear bP
      try clear cw
      try clear bO
      try clear p2
      try clear bP
      obtain⟨a_,cp,rfl,a3,bC,J,K,u⟩:=hcut;cases a_ with
      |zero=>exact absurd a3.out (by simp[bY.j1])
      |succ cy=>
       have H:=a3.out;clear a3;simp only[bY.j1]at H;by_cases c14:cp=true
       ·subst c14;rw[af rfl]at H;have H':=A_ H;clear H;go_wp2
        go_roundg cy
        case measure=>have:=bs.out;have:=bC.out;omega
        case rel=>exact⟨(az),(a2),(wrap64 (O+1)),eS,eS,H',⟨by have:=bs.out;have:=bC.out;omega⟩,⟨oR J⟩,⟨oR K⟩,⟨oB u⟩⟩
       ·replace c14:=Bool.eq_false_iff.mpr c14;subst c14;rw[ag (show¬(false=true)by decide)]at H;by_cases c15:0≤a2
        ·rw[af c15]at H;have cW:=av c15;have cX:decide (0≤a2)=true:=ah c15;clear c15;by_cases c16:a2≤O
         ·rw[af c16]at H;have c0:=av c16;have c5:decide (a2≤O)=true:=ah c16;clear c16;by_cases c17:O≤(a0.size:Int)
          ·rw[af c17]at H;have c6:=av c17;have c7:decide (O≤(a0.size:Int))=true:=ah c17;clear c17;replace H:=aD H;obtain⟨⟨db,dc⟩,cM,H⟩:=H
           (try dsimp only at H)
           have dj:=A_ cM;clear cM;have ct:=A_ H;clear H
           go_upto_region 13 with (first|((with_reducible refine aZ (f:=45) rfl ?_);refine gL (some 47) Tryz.func45 #[.string (a0.extract (a2:Int).toNat (O:Int).toNat)] ?_;(with_reducible refine(cB.c cy (a0.extract (a2:Int).toNat (O:Int).toNat) db dc _ dj.out).mono ?_);rintro e fx ⟨fh,rfl,bj,hb⟩;refine⟨_,rfl,?_⟩;have F:=A_ (Kd.dZ (oR J) (Kd.dr bj) hb);have G:=A_ (Kd.aV (oR K) hb);have I:=A_ (Kd.bE (Kd.fl bj (Kd.en (oR J))) (aA (oB u)));have U:=A_ (aC (oB u) hb);clear J K u;have J:=F;have K:=G;have dB:=I;have u:=U;clear F G I U;(try clear hb);(try clear hb2);(try clear hk);(try clear hi);(try clear bj)))
           (try simp only[Act.put,List.setIfInBounds_toArray,List.set_cons_zero,List.set_cons_succ])
           go_cut [55] (fun v55 wc=>∃(a_:Nat) (cq:Bool),v55= .bool cq∧ae (bY.j2 a_ a0 bq az (wrap64 (O+1)) O (a0.extract (a2:Int).toNat (O:Int).toNat) cq=some (r1,r2))∧ae (a_≤cy)∧ae (Kd.R Kd.string 9 wc w.heap.size (fun _=>True) co bq)∧ae (Kd.R iD 57 wc w.heap.size (fun _=>True) u5 az)∧ae (Below w.heap.size w wc))
           case first=>
            have H:=ct.out;clear ct;by_cases c21:dc=true
            ·subst c21;rw[af rfl]at H;have H':=A_ H;clear H;obtain⟨eN,eZ,dX⟩:=Kd.bz dB.out;subst dX;go_wp2
             go_meet
             case rel=>exact⟨_,(((db.length:Int)==0)),eS,H',⟨by have:=bs.out;have:=bC.out;first|omega|exact Nat.le_refl _⟩,⟨by(with_reducible repeat(first|apply Kd.bm|apply Kd.br|apply Kd.a8));exact Kd.bh J.out (fun _ hk=>trivial)⟩,⟨oR K⟩,⟨oB u⟩⟩
            ·replace c21:=Bool.eq_false_iff.mpr c21;subst c21;rw[ag (show¬(false=true)by decide)]at H;have H':=A_ H;clear H;go_wp2
             go_meet
             case rel=>exact⟨_,(false),eS,H',⟨by have:=bs.out;have:=bC.out;first|omega|exact Nat.le_refl _⟩,⟨by(with_reducible repeat(first|apply Kd.bm|apply Kd.br|apply Kd.a8));exact Kd.bh J.out (fun _ hk=>trivial)⟩,⟨oR K⟩,⟨oB u⟩⟩
           case rest=>
            clear ct
            try clear c1
            try clear p1
            try clear q1
            try clear hx1
            try clear c2
            try clear b4
            try clear b5
            try clear p2
            try clear c4
            try clear da
            try clear c9
            try clear cm
            try clear c11
            try clear bI
            try clear c12
            try clear cu
            try clear bO
            try clear bP
            try clear cw
            try clear c14
            try clear c15
            try clear cW
            try clear cX
            try clear c16
            try clear c0
            try clear c5
            try clear c17
            try clear c6
            try clear c7
            try clear c19
            try clear c21
            try clear p1
            try clear bO
            try clear p2
            try clear q1
            try clear bP
            obtain⟨a_,cq,rfl,a3,ci,J,K,u⟩:=hcut;cases a_ with
            |zero=>exact absurd a3.out (by simp[bY.j2])
            |succ cd=>
             have H:=a3.out;clear a3;simp only[bY.j2]at H;by_cases b1:cq=true
             ·subst b1;rw[af rfl]at H;have H':=A_ H;clear H;go_wp2
              go_roundg cd
              case measure=>have:=bs.out;have:=bC.out;have:=ci.out;omega
              case rel=>exact⟨(az),((wrap64 (O+1))),(wrap64 (O+1)),eS,eS,H',⟨by have:=bs.out;have:=bC.out;have:=ci.out;omega⟩,⟨oR J⟩,⟨oR K⟩,⟨oB u⟩⟩
             ·replace b1:=Bool.eq_false_iff.mpr b1;subst b1;rw[ag (show¬(false=true)by decide)]at H;replace H:=aD H;obtain⟨⟨aQ,a1,bn,bu,eL⟩,cO,H⟩:=H
              (try dsimp only at H)
              have cN:=A_ cO;clear cO;by_cases b2:eL=true
              ·subst b2;rw[af rfl]at H;by_cases b3:az.length<4398046511104
               ·rw[af b3]at H;have dJ:=A_ b3;clear b3;obtain⟨dg,b'⟩:∃bx:List (bM),bx=(az++[(⟨aQ,a1,bn,bu⟩:bM)]):=⟨_,rfl⟩;replace H:(bY.l0 cd a0 bq dg (wrap64 (O+1)) (wrap64 (O+1)))=some (r1,r2):=by first|(rw[b'];with_reducible exact H)|(have aj:=(aG _ _).symm.trans H;rw[b'];with_reducible exact aj)|(have aj:=(aG _ _).symm.trans H;with_reducible exact aj)|with_reducible exact H|(rw[b'];exact H)|exact H
                have dM:=A_ b';clear b';have H':=A_ H;clear H
                go_wp2_with (first|((with_reducible refine aZ (f:=46) rfl ?_);refine gL (some 58) Tryz.func46 #[.string (a0.extract (a2:Int).toNat (O:Int).toNat)] ?_;(with_reducible refine(cf.c cd (a0.extract (a2:Int).toNat (O:Int).toNat) aQ a1 bn bu true _ cN.out).mono ?_);rintro e fy ⟨rfl,hb⟩;refine⟨_,rfl,?_⟩;have F:=A_ (Kd.aV (oR J) hb);have G:=A_ (Kd.aV (oR K) hb);have I:=A_ (aC (oB u) hb);clear J K u;have J:=F;have K:=G;have u:=I;clear F G I;(try clear hb);(try clear hb2);(try clear hk);(try clear hi))|((with_reducible refine ax (N:=11) rfl ?_);(try(refine dE (by rfl) ?_;dsimp only));refine bX (N:=11) (cs:= #[.int .i64 0,.int .i64 0,.int .i64 0,.int .i64 0]) (t:=57) ?_;intro Y hg fz bJ hb;have F:=A_ (Kd.aV (oR J) hb);have G:=A_ (Kd.aV (Kd.pc (oR K) Y (Nat.le_of_eq hg.symm)) hb);have I:=A_ (aC (oB u) hb);have U:=A_ (bJ);have V:=A_ ((by rw[hg];exact(aA (oB u)):w.heap.size≤Y));have X:=A_ ((by rw[hg];exact(aA (oB u)):w.heap.size≤Y));clear J K u;have J:=F;have K:=G;have u:=I;have ai:=U;have dz:=V;have dy:=X;clear F G I U V X hb bJ hg;have d':=cz ai 0;have ea:=cz ai 1;have eb:=cz ai 2;have ec:=cz ai 3;have er:=ar ai.out 0;have es:=ar ai.out 1;have et:=ar ai.out 2;have eu:=ar ai.out 3)|((with_reducible refine dP (b:= .append) (xs:= #[.tmp 64,.tmp 66]) rfl ?_);(try(refine dE (by rfl) ?_;dsimp only));at_builtin;refine Kd.eF iD (w0:=w) w.heap.size rfl (.tmp 64) (.tmp 66) 31 57 (.agg #[(.int .i64 0),(.int .i64 0),(.int .i64 0),(.int .i64 0)]) 32 rfl Tryz.underlying31 uj rfl (by decide) (by omega) u5 az (⟨aQ,a1,bn,bu⟩:bM) [.int .i64 aQ,.int .i64 a1,.int .i64 bn,.int .i64 bu] (fun k_=>k_≠Y) (fun _=>False) rfl (by first|(go_simp;done)|(go_simp;rfl)) ?aP (fun _ hk=>hk.elim) ?aF ?aO ?aB ?aS ?aL ?_;(case aP=>exact uq _ _ _ (⟨aQ,a1,bn,bu⟩:bM));(case aB=>exact(oB u));(case aF=>exact(fun k_ hk=>Kd.uf (g:=Y) (o:= .cells #[.int .i64 aQ,.int .i64 a1,.int .i64 bn,.int .i64 bu] 57 (0,0)) (by(with_reducible repeat(first|refine aT ?_ _|refine aM ?_|refine aN ?_ _));refine bw (cs:= #[.int .i64 aQ,.int .i64 a1,.int .i64 bn,.int .i64 0]) ?_ 3 _ rfl;(with_reducible repeat(first|refine aT ?_ _|refine aM ?_|refine aN ?_ _));refine bw (cs:= #[.int .i64 aQ,.int .i64 a1,.int .i64 0,.int .i64 0]) ?_ 2 _ rfl;(with_reducible repeat(first|refine aT ?_ _|refine aM ?_|refine aN ?_ _));refine bw (cs:= #[.int .i64 aQ,.int .i64 0,.int .i64 0,.int .i64 0]) ?_ 1 _ rfl;(with_reducible repeat(first|refine aT ?_ _|refine aM ?_|refine aN ?_ _));refine bw (cs:= #[.int .i64 0,.int .i64 0,.int .i64 0,.int .i64 0]) ?_ 0 _ rfl;(with_reducible repeat(first|refine aT ?_ _|refine aM ?_|refine aN ?_ _));exact ai.out) k_ hk));(case aO=>exact(by(with_reducible repeat(first|apply Kd.bm|apply Kd.br|apply Kd.a8));exact Kd.bh (Kd.aJ (p:=⟨Y,3,none⟩) (Kd.aJ (p:=⟨Y,2,none⟩) (Kd.aJ (p:=⟨Y,1,none⟩) (Kd.aJ (p:=⟨Y,0,none⟩) (Kd.bh K.out (fun k_ hk=>(⟨hk,hk.2⟩:_∧k_≠Y))) (fun _ hk=>hk.2) (.int .i64 aQ)) (fun _ hk=>hk.2) (.int .i64 a1)) (fun _ hk=>hk.2) (.int .i64 bn)) (fun _ hk=>hk.2) (.int .i64 bu)) (fun _ hk=>hk.1.2)));(case aS=>exact(aA (oB u)));(case aL=>have:=dJ.out;omega);intro fi fA ho hb hg hat;rw[←dM.out]at ho;have F:=A_ (Kd.eG (by(with_reducible repeat(first|apply Kd.bm|apply Kd.br|apply Kd.a8));exact(Kd.bh (Kd.aJ (p:=⟨Y,3,none⟩) (Kd.aJ (p:=⟨Y,2,none⟩) (Kd.aJ (p:=⟨Y,1,none⟩) (Kd.aJ (p:=⟨Y,0,none⟩) (Kd.dD J.out ai.out (by decide)) (fun _ hk=>hk.2) (.int .i64 aQ)) (fun _ hk=>hk.2) (.int .i64 a1)) (fun _ hk=>hk.2) (.int .i64 bn)) (fun _ hk=>hk.2) (.int .i64 bu)) (fun _ h_=>h_.1))) (Kd.eH (by(with_reducible repeat(first|apply Kd.bm|apply Kd.br|apply Kd.a8));exact(Kd.bh (Kd.aJ (p:=⟨Y,3,none⟩) (Kd.aJ (p:=⟨Y,2,none⟩) (Kd.aJ (p:=⟨Y,1,none⟩) (Kd.aJ (p:=⟨Y,0,none⟩) (Kd.bh K.out (fun k_ hk=>(⟨hk,hk.2⟩:_∧k_≠Y))) (fun _ hk=>hk.2) (.int .i64 aQ)) (fun _ hk=>hk.2) (.int .i64 a1)) (fun _ hk=>hk.2) (.int .i64 bn)) (fun _ hk=>hk.2) (.int .i64 bu)) (fun _ h_=>h_.1)))) (by decide) hg);have G:=A_ (px (g:=Y) (o:= .cells #[.int .i64 aQ,.int .i64 a1,.int .i64 bn,.int .i64 bu] 57 (0,0)) (by(with_reducible repeat(first|refine aT ?_ _|refine aM ?_|refine aN ?_ _));refine bw (cs:= #[.int .i64 aQ,.int .i64 a1,.int .i64 bn,.int .i64 0]) ?_ 3 _ rfl;(with_reducible repeat(first|refine aT ?_ _|refine aM ?_|refine aN ?_ _));refine bw (cs:= #[.int .i64 aQ,.int .i64 a1,.int .i64 0,.int .i64 0]) ?_ 2 _ rfl;(with_reducible repeat(first|refine aT ?_ _|refine aM ?_|refine aN ?_ _));refine bw (cs:= #[.int .i64 aQ,.int .i64 0,.int .i64 0,.int .i64 0]) ?_ 1 _ rfl;(with_reducible repeat(first|refine aT ?_ _|refine aM ?_|refine aN ?_ _));refine bw (cs:= #[.int .i64 0,.int .i64 0,.int .i64 0,.int .i64 0]) ?_ 0 _ rfl;(with_reducible repeat(first|refine aT ?_ _|refine aM ?_|refine aN ?_ _));exact ai.out) hg (Kd.s8 K.out (fun _ hk=>hk.2)));have I:=A_ (hb);have U:=A_ (ho);clear J ai u K;have J:=F;have ai:=G;have u:=I;have dC:=U;clear F G I U ho hb hg hat))
                go_roundg cd
                case measure=>have:=bs.out;have:=bC.out;have:=ci.out;omega
                case rel=>exact⟨(dg),((wrap64 (O+1))),(wrap64 (O+1)),eS,eS,H',⟨by have:=bs.out;have:=bC.out;have:=ci.out;omega⟩,⟨oR J⟩,⟨by(with_reducible repeat(first|apply Kd.bm|apply Kd.br|apply Kd.a8));exact Kd.bh dC.out (fun _ hk=>trivial)⟩,⟨oB u⟩⟩
               ·rw[ag b3]at H;exact absurd H (by simp)
              ·replace b2:=Bool.eq_false_iff.mpr b2;subst b2;rw[ag (show¬(false=true)by decide)]at H;simp only[Option.some.injEq,Prod.mk.injEq]at H;obtain⟨rfl,rfl⟩:=H
               go_wp2_with (first|((with_reducible refine aZ (f:=46) rfl ?_);refine gL (some 58) Tryz.func46 #[.string (a0.extract (a2:Int).toNat (O:Int).toNat)] ?_;(with_reducible refine(cf.c cd (a0.extract (a2:Int).toNat (O:Int).toNat) aQ a1 bn bu false _ cN.out).mono ?_);rintro e fB ⟨rfl,hb⟩;refine⟨_,rfl,?_⟩;have F:=A_ (Kd.aV (oR J) hb);have G:=A_ (Kd.aV (oR K) hb);have I:=A_ (aC (oB u) hb);clear J K u;have J:=F;have K:=G;have u:=I;clear F G I;(try clear hb);(try clear hb2);(try clear hk);(try clear hi))|((with_reducible refine ax (N:=11) rfl ?_);(try(refine dE (by rfl) ?_;dsimp only));refine bX (N:=11) (cs:= #[.int .i64 0,.int .i64 0,.int .i64 0,.int .i64 0]) (t:=57) ?_;intro Y hg fC bJ hb;have F:=A_ (Kd.aV (oR J) hb);have G:=A_ (Kd.aV (Kd.pc (oR K) Y (Nat.le_of_eq hg.symm)) hb);have I:=A_ (aC (oB u) hb);have U:=A_ (bJ);have V:=A_ ((by rw[hg];exact(aA (oB u)):w.heap.size≤Y));have X:=A_ ((by rw[hg];exact(aA (oB u)):w.heap.size≤Y));clear J K u;have J:=F;have K:=G;have u:=I;have ai:=U;have dz:=V;have dy:=X;clear F G I U V X hb bJ hg;have ef:=cz ai 0;have eg:=cz ai 1;have eh:=cz ai 2;have ei:=cz ai 3;have ev:=ar ai.out 0;have ew:=ar ai.out 1;have ex:=ar ai.out 2;have ey:=ar ai.out 3))
               go_ret2;exact⟨_,eR,by(with_reducible repeat(first|apply Kd.bm|apply Kd.br|apply Kd.a8));exact Kd.bh (Kd.aJ (p:=⟨Y,3,none⟩) (Kd.aJ (p:=⟨Y,2,none⟩) (Kd.aJ (p:=⟨Y,1,none⟩) (Kd.aJ (p:=⟨Y,0,none⟩) (Kd.dD J.out ai.out (by decide)) (fun _ hk=>hk.2) (.int .i64 aQ)) (fun _ hk=>hk.2) (.int .i64 a1)) (fun _ hk=>hk.2) (.int .i64 bn)) (fun _ hk=>hk.2) (.int .i64 bu)) (fun _ hk=>trivial),oB u⟩
          ·rw[ag c17]at H;exact absurd H (by simp)
         ·rw[ag c16]at H;exact absurd H (by simp)
        ·rw[ag c15]at H;exact absurd H (by simp)
    ·rw[ag c9]at H;have cm:decide (O≤(a0.size:Int))=false:=ay c9;clear c9;by_cases bR:(az.length:Int)>40
     ·rw[af bR]at H;have c8:decide (40<(az.length:Int))=true:=ah bR;have c_:decide (40<az.length)=true:=ah (by omega);clear bR;simp only[Option.some.injEq,Prod.mk.injEq]at H;obtain⟨rfl,rfl⟩:=H;obtain⟨eO,e0,dY⟩:=Kd.bz K.out;subst dY;go_wp2;go_ret2;exact⟨_,eR,oR J,oB u⟩
     ·rw[ag bR]at H;have c8:decide (40<(az.length:Int))=false:=ay bR;have c_:decide (40<az.length)=false:=ay (by omega);clear bR;replace H:=aD H;obtain⟨⟨cD,cE,cF,cI,cK,cL⟩,cP,H⟩:=H
      (try dsimp only at H)
      have dk:=A_ cP;clear cP;replace H:=aD H;obtain⟨⟨Z,ak,ad,ao,aw,ap,bv⟩,cQ,H⟩:=H
      (try dsimp only at H)
      have dl:=A_ cQ;clear cQ;obtain⟨dh,ca⟩:∃bx:List ByteArray,bx=(([]:List ByteArray)):=⟨_,rfl⟩;replace H:(bY.l1 k1 bv dh 0 Z ak ad ao aw ap)=some (r1,r2):=by first|(rw[ca];with_reducible exact H)|(have aj:=(aG _ _).symm.trans H;rw[ca];with_reducible exact aj)|(have aj:=(aG _ _).symm.trans H;with_reducible exact aj)|with_reducible exact H|(rw[ca];exact H)|exact H
      have cV:=A_ ca;clear ca;have H':=A_ H;clear H;obtain⟨dt,dR,d0⟩:=Kd.bz K.out;subst d0
      go_wp2_with (first|((with_reducible refine aZ (f:=47) rfl ?_);refine gL (some 73) Tryz.func47 #[] ?_;(with_reducible refine(mI.c k1  cD cE cF cI cK cL _ dk.out).mono ?_);rintro e fD ⟨fj,fk,fm,rfl,bj,bW,bZ,hb⟩;refine⟨_,rfl,?_⟩;have F:=A_ (Kd.aV (oR J) hb);have G:=A_ (Kd.aV (oR K) hb);have I:=A_ (Kd.bE bj (aA (oB u)));have U:=A_ (Kd.bE bW (aA (oB u)));have V:=A_ (Kd.bE bZ (aA (oB u)));have X:=A_ (aC (oB u) hb);clear J K u;have J:=F;have K:=G;have bo:=I;have be:=U;have bp:=V;have u:=X;clear F G I U V X;(try clear hb);(try clear hb2);(try clear hk);(try clear hi);(try clear bj);(try clear bW);(try clear bZ);obtain⟨du,dS,d1⟩:=Kd.bz bo.out;subst d1;obtain⟨dv,dT,d2⟩:=Kd.bz be.out;subst d2;obtain⟨dw,dU,d3⟩:=Kd.bz bp.out;subst d3)|((with_reducible refine aZ (f:=10) rfl ?_);refine gL (some 75) Tryz.func10 #[.agg #[.slice du cD.length dS,.int .i64 cE,.slice dv cF.length dT,.int .i64 cI,.int .i64 cK,.slice dw cL.length dU],.slice dt az.length dR] ?_;(with_reducible refine(cJ.c k1 _ _ cD cE _ _ cF cI cK _ _ cL _ _ az Z ak ad ao aw ap bv _ ?a6 ?a7 ?cG ?cH ?fq ?ft ?sH ?sI dl.out).mono ?_);(case a6=>repeat(first|exact(Kd.aY bo.out).2.2|(with_reducible refine Kd.cZ ?_ _)|(with_reducible refine Kd.dn ?_ _)|(with_reducible refine Kd.dm ?_)));(case a7=>exact(Kd.aY bo.out).2.1);(case cG=>repeat(first|exact(Kd.aY be.out).2.2|(with_reducible refine Kd.cZ ?_ _)|(with_reducible refine Kd.dn ?_ _)|(with_reducible refine Kd.dm ?_)));(case cH=>exact(Kd.aY be.out).2.1);(case fq=>repeat(first|exact(Kd.aY bp.out).2.2|(with_reducible refine Kd.cZ ?_ _)|(with_reducible refine Kd.dn ?_ _)|(with_reducible refine Kd.dm ?_)));(case ft=>exact(Kd.aY bp.out).2.1);(case sH=>repeat(first|exact(Kd.aY K.out).2.2|(with_reducible refine Kd.cZ ?_ _)|(with_reducible refine Kd.dn ?_ _)|(with_reducible refine Kd.dm ?_)));(case sI=>exact(Kd.aY K.out).2.1);rintro e fE ⟨fo,fp,fr,de,rfl,bj,bW,bZ,cv,hb⟩;refine⟨_,rfl,?_⟩;have F:=A_ (Kd.aV (oR J) hb);have G:=A_ (Kd.aV (oR K) hb);have I:=A_ (Kd.dZ (oR bo) (Kd.dr bj) hb);have U:=A_ (Kd.bh (Kd.pg (Kd.pg (Kd.s9 (oR be) hb) (Kd.dr bW)) (Kd.dr cv)) (fun _ h_=>h_.1));have V:=A_ (Kd.dZ (oR bp) (Kd.dr bZ) hb);have X:=A_ (Kd.bE (Kd.fl bj (Kd.en (oR bo))) (aA (oB u)));have am:=A_ (Kd.bE (Kd.fl bW (Kd.en (oR be))) (aA (oB u)));have bk:=A_ (Kd.bE (Kd.fl bZ (Kd.en (oR bp))) (aA (oB u)));have bK:=A_ (Kd.bE (Kd.fl cv (Kd.en (oR be))) (aA (oB u)));have bL:=A_ (aC (oB u) hb);clear J K bo be bp u;have J:=F;have K:=G;have bo:=I;have be:=U;have bp:=V;have bD:=X;have bF:=am;have bH:=bk;have bQ:=bK;have u:=bL;clear F G I U V X am bk bK bL;(try clear hb);(try clear hb2);(try clear hk);(try clear hi);(try clear bj);(try clear bW);(try clear bZ);(try clear cv))|((with_reducible refine ax (N:=13) rfl ?_);(try(refine dE (by rfl) ?_;dsimp only));refine bX (N:=13) (cs:= #[.slice none 0 0,.int .i64 0,.slice none 0 0,.int .i64 0,.int .i64 0,.slice none 0 0]) (t:=30) ?_;intro z hg fF bJ hb;have F:=A_ (Kd.aV (oR J) hb);have G:=A_ (Kd.aV (oR K) hb);have I:=A_ (Kd.aV (oR bo) hb);have U:=A_ (Kd.aV (oR be) hb);have V:=A_ (Kd.aV (oR bp) hb);have X:=A_ (Kd.aV (oR bD) hb);have am:=A_ (Kd.aV (oR bF) hb);have bk:=A_ (Kd.aV (oR bH) hb);have bK:=A_ (Kd.aV (oR bQ) hb);have bL:=A_ (aC (oB u) hb);have ce:=A_ (bJ);have cg:=A_ ((by rw[hg];exact(aA (oB u)):w.heap.size≤z));have c':=A_ ((by rw[hg];exact(aA (oB u)):w.heap.size≤z));clear J K bo be bp bD bF bH bQ u;have J:=F;have K:=G;have bo:=I;have be:=U;have bp:=V;have bD:=X;have bF:=am;have bH:=bk;have bQ:=bK;have u:=bL;have D:=ce;have eU:=cg;have eT:=c';clear F G I U V X am bk bK bL ce cg c' hb bJ hg;obtain⟨aq,au,d4⟩:=Kd.bz bD.out;subst d4;have ej:=cz D 0;have ek:=cz D 1;have el:=cz D 2;have em:=cz D 3;have eo:=cz D 4;have ep:=cz D 5;have ez:=ar D.out 0;have eA:=ar D.out 1;have eC:=ar D.out 2;have eD:=ar D.out 3;have eE:=ar D.out 4;have eI:=ar D.out 5;obtain⟨aE,aK,d5⟩:=Kd.bz bF.out;subst d5;obtain⟨bd,bf,d6⟩:=Kd.bz bH.out;subst d6)|((with_reducible refine ax (N:=78) rfl ?_);(try(refine dE (by rfl) ?_;dsimp only));refine Kd.cx Kd.string _ 9 ?hg (N:=78) ?hd (xs:=([]:List ByteArray)) (inner:=[]) (ok:=fun _=>True) (bB:=fun _=>True) ?hr ?hp (fun _ hk=>hk) trivial (Below.refl _ _) (Nat.le_refl _) (by simp) ?_;(case hd=>rfl);(case hg=>rfl);(case hr=>first|(go_simp;done)|(go_simp;rfl));(case hp=>exact(aI.none _ _));intro fs fG b0 hb bS bT;clear bS bT;(first|rw[←cV.out]at b0|(simp only[Int.reduceToNat]at b0;rw[←cV.out]at b0));have F:=A_ (Kd.dZ (by(with_reducible repeat(first|apply Kd.bm|apply Kd.br|apply Kd.a8));exact(Kd.bh (Kd.aJ (p:=⟨z,5,none⟩) (Kd.aJ (p:=⟨z,4,none⟩) (Kd.aJ (p:=⟨z,3,none⟩) (Kd.aJ (p:=⟨z,2,none⟩) (Kd.aJ (p:=⟨z,1,none⟩) (Kd.aJ (p:=⟨z,0,none⟩) (Kd.dD J.out D.out (by decide)) (fun _ hk=>hk.2) (.slice aq Z.length au)) (fun _ hk=>hk.2) (.int .i64 ak)) (fun _ hk=>hk.2) (.slice aE ad.length aK)) (fun _ hk=>hk.2) (.int .i64 ao)) (fun _ hk=>hk.2) (.int .i64 aw)) (fun _ hk=>hk.2) (.slice bd ap.length bf)) (fun _ h_=>h_.1))) (Kd.dr b0) hb);have G:=A_ (Kd.aV (by(with_reducible repeat(first|apply Kd.bm|apply Kd.br|apply Kd.a8));exact(Kd.bh (Kd.aJ (p:=⟨z,5,none⟩) (Kd.aJ (p:=⟨z,4,none⟩) (Kd.aJ (p:=⟨z,3,none⟩) (Kd.aJ (p:=⟨z,2,none⟩) (Kd.aJ (p:=⟨z,1,none⟩) (Kd.aJ (p:=⟨z,0,none⟩) (Kd.dD K.out D.out (by decide)) (fun _ hk=>hk.2) (.slice aq Z.length au)) (fun _ hk=>hk.2) (.int .i64 ak)) (fun _ hk=>hk.2) (.slice aE ad.length aK)) (fun _ hk=>hk.2) (.int .i64 ao)) (fun _ hk=>hk.2) (.int .i64 aw)) (fun _ hk=>hk.2) (.slice bd ap.length bf)) (fun _ h_=>h_.1))) hb);have I:=A_ (Kd.aV (by(with_reducible repeat(first|apply Kd.bm|apply Kd.br|apply Kd.a8));exact(Kd.bh (Kd.aJ (p:=⟨z,5,none⟩) (Kd.aJ (p:=⟨z,4,none⟩) (Kd.aJ (p:=⟨z,3,none⟩) (Kd.aJ (p:=⟨z,2,none⟩) (Kd.aJ (p:=⟨z,1,none⟩) (Kd.aJ (p:=⟨z,0,none⟩) (Kd.dD bo.out D.out (by decide)) (fun _ hk=>hk.2) (.slice aq Z.length au)) (fun _ hk=>hk.2) (.int .i64 ak)) (fun _ hk=>hk.2) (.slice aE ad.length aK)) (fun _ hk=>hk.2) (.int .i64 ao)) (fun _ hk=>hk.2) (.int .i64 aw)) (fun _ hk=>hk.2) (.slice bd ap.length bf)) (fun _ h_=>h_.1))) hb);have U:=A_ (Kd.aV (by(with_reducible repeat(first|apply Kd.bm|apply Kd.br|apply Kd.a8));exact(Kd.bh (Kd.aJ (p:=⟨z,5,none⟩) (Kd.aJ (p:=⟨z,4,none⟩) (Kd.aJ (p:=⟨z,3,none⟩) (Kd.aJ (p:=⟨z,2,none⟩) (Kd.aJ (p:=⟨z,1,none⟩) (Kd.aJ (p:=⟨z,0,none⟩) (Kd.dD be.out D.out (by decide)) (fun _ hk=>hk.2) (.slice aq Z.length au)) (fun _ hk=>hk.2) (.int .i64 ak)) (fun _ hk=>hk.2) (.slice aE ad.length aK)) (fun _ hk=>hk.2) (.int .i64 ao)) (fun _ hk=>hk.2) (.int .i64 aw)) (fun _ hk=>hk.2) (.slice bd ap.length bf)) (fun _ h_=>h_.1))) hb);have V:=A_ (Kd.aV (by(with_reducible repeat(first|apply Kd.bm|apply Kd.br|apply Kd.a8));exact(Kd.bh (Kd.aJ (p:=⟨z,5,none⟩) (Kd.aJ (p:=⟨z,4,none⟩) (Kd.aJ (p:=⟨z,3,none⟩) (Kd.aJ (p:=⟨z,2,none⟩) (Kd.aJ (p:=⟨z,1,none⟩) (Kd.aJ (p:=⟨z,0,none⟩) (Kd.dD bp.out D.out (by decide)) (fun _ hk=>hk.2) (.slice aq Z.length au)) (fun _ hk=>hk.2) (.int .i64 ak)) (fun _ hk=>hk.2) (.slice aE ad.length aK)) (fun _ hk=>hk.2) (.int .i64 ao)) (fun _ hk=>hk.2) (.int .i64 aw)) (fun _ hk=>hk.2) (.slice bd ap.length bf)) (fun _ h_=>h_.1))) hb);have X:=A_ (Kd.aV (by(with_reducible repeat(first|apply Kd.bm|apply Kd.br|apply Kd.a8));exact(Kd.bh (Kd.aJ (p:=⟨z,5,none⟩) (Kd.aJ (p:=⟨z,4,none⟩) (Kd.aJ (p:=⟨z,3,none⟩) (Kd.aJ (p:=⟨z,2,none⟩) (Kd.aJ (p:=⟨z,1,none⟩) (Kd.aJ (p:=⟨z,0,none⟩) (Kd.dD bD.out D.out (by decide)) (fun _ hk=>hk.2) (.slice aq Z.length au)) (fun _ hk=>hk.2) (.int .i64 ak)) (fun _ hk=>hk.2) (.slice aE ad.length aK)) (fun _ hk=>hk.2) (.int .i64 ao)) (fun _ hk=>hk.2) (.int .i64 aw)) (fun _ hk=>hk.2) (.slice bd ap.length bf)) (fun _ h_=>h_.1))) hb);have am:=A_ (Kd.aV (by(with_reducible repeat(first|apply Kd.bm|apply Kd.br|apply Kd.a8));exact(Kd.bh (Kd.aJ (p:=⟨z,5,none⟩) (Kd.aJ (p:=⟨z,4,none⟩) (Kd.aJ (p:=⟨z,3,none⟩) (Kd.aJ (p:=⟨z,2,none⟩) (Kd.aJ (p:=⟨z,1,none⟩) (Kd.aJ (p:=⟨z,0,none⟩) (Kd.dD bF.out D.out (by decide)) (fun _ hk=>hk.2) (.slice aq Z.length au)) (fun _ hk=>hk.2) (.int .i64 ak)) (fun _ hk=>hk.2) (.slice aE ad.length aK)) (fun _ hk=>hk.2) (.int .i64 ao)) (fun _ hk=>hk.2) (.int .i64 aw)) (fun _ hk=>hk.2) (.slice bd ap.length bf)) (fun _ h_=>h_.1))) hb);have bk:=A_ (Kd.aV (by(with_reducible repeat(first|apply Kd.bm|apply Kd.br|apply Kd.a8));exact(Kd.bh (Kd.aJ (p:=⟨z,5,none⟩) (Kd.aJ (p:=⟨z,4,none⟩) (Kd.aJ (p:=⟨z,3,none⟩) (Kd.aJ (p:=⟨z,2,none⟩) (Kd.aJ (p:=⟨z,1,none⟩) (Kd.aJ (p:=⟨z,0,none⟩) (Kd.dD bH.out D.out (by decide)) (fun _ hk=>hk.2) (.slice aq Z.length au)) (fun _ hk=>hk.2) (.int .i64 ak)) (fun _ hk=>hk.2) (.slice aE ad.length aK)) (fun _ hk=>hk.2) (.int .i64 ao)) (fun _ hk=>hk.2) (.int .i64 aw)) (fun _ hk=>hk.2) (.slice bd ap.length bf)) (fun _ h_=>h_.1))) hb);have bK:=A_ (Kd.aV (by(with_reducible repeat(first|apply Kd.bm|apply Kd.br|apply Kd.a8));exact(Kd.bh (Kd.aJ (p:=⟨z,5,none⟩) (Kd.aJ (p:=⟨z,4,none⟩) (Kd.aJ (p:=⟨z,3,none⟩) (Kd.aJ (p:=⟨z,2,none⟩) (Kd.aJ (p:=⟨z,1,none⟩) (Kd.aJ (p:=⟨z,0,none⟩) (Kd.dD bQ.out D.out (by decide)) (fun _ hk=>hk.2) (.slice aq Z.length au)) (fun _ hk=>hk.2) (.int .i64 ak)) (fun _ hk=>hk.2) (.slice aE ad.length aK)) (fun _ hk=>hk.2) (.int .i64 ao)) (fun _ hk=>hk.2) (.int .i64 aw)) (fun _ hk=>hk.2) (.slice bd ap.length bf)) (fun _ h_=>h_.1))) hb);have bL:=A_ (Kd.bE (Kd.fl b0 (Kd.en (by(with_reducible repeat(first|apply Kd.bm|apply Kd.br|apply Kd.a8));exact(Kd.bh (Kd.aJ (p:=⟨z,5,none⟩) (Kd.aJ (p:=⟨z,4,none⟩) (Kd.aJ (p:=⟨z,3,none⟩) (Kd.aJ (p:=⟨z,2,none⟩) (Kd.aJ (p:=⟨z,1,none⟩) (Kd.aJ (p:=⟨z,0,none⟩) (Kd.dD J.out D.out (by decide)) (fun _ hk=>hk.2) (.slice aq Z.length au)) (fun _ hk=>hk.2) (.int .i64 ak)) (fun _ hk=>hk.2) (.slice aE ad.length aK)) (fun _ hk=>hk.2) (.int .i64 ao)) (fun _ hk=>hk.2) (.int .i64 aw)) (fun _ hk=>hk.2) (.slice bd ap.length bf)) (fun _ h_=>h_.1))))) (aA (oB u)));have ce:=A_ (fV (g:=z) (o:= .cells #[.slice aq Z.length au,.int .i64 ak,.slice aE ad.length aK,.int .i64 ao,.int .i64 aw,.slice bd ap.length bf] 30 (0,0)) (by(with_reducible repeat(first|refine aT ?_ _|refine aM ?_|refine aN ?_ _));refine bw (cs:= #[.slice aq Z.length au,.int .i64 ak,.slice aE ad.length aK,.int .i64 ao,.int .i64 aw,.slice none 0 0]) ?_ 5 _ rfl;(with_reducible repeat(first|refine aT ?_ _|refine aM ?_|refine aN ?_ _));refine bw (cs:= #[.slice aq Z.length au,.int .i64 ak,.slice aE ad.length aK,.int .i64 ao,.int .i64 0,.slice none 0 0]) ?_ 4 _ rfl;(with_reducible repeat(first|refine aT ?_ _|refine aM ?_|refine aN ?_ _));refine bw (cs:= #[.slice aq Z.length au,.int .i64 ak,.slice aE ad.length aK,.int .i64 0,.int .i64 0,.slice none 0 0]) ?_ 3 _ rfl;(with_reducible repeat(first|refine aT ?_ _|refine aM ?_|refine aN ?_ _));refine bw (cs:= #[.slice aq Z.length au,.int .i64 ak,.slice none 0 0,.int .i64 0,.int .i64 0,.slice none 0 0]) ?_ 2 _ rfl;(with_reducible repeat(first|refine aT ?_ _|refine aM ?_|refine aN ?_ _));refine bw (cs:= #[.slice aq Z.length au,.int .i64 0,.slice none 0 0,.int .i64 0,.int .i64 0,.slice none 0 0]) ?_ 1 _ rfl;(with_reducible repeat(first|refine aT ?_ _|refine aM ?_|refine aN ?_ _));refine bw (cs:= #[.slice none 0 0,.int .i64 0,.slice none 0 0,.int .i64 0,.int .i64 0,.slice none 0 0]) ?_ 0 _ rfl;(with_reducible repeat(first|refine aT ?_ _|refine aM ?_|refine aN ?_ _));exact D.out) hb);have cg:=A_ (aC (oB u) hb);clear J K bo be bp bD bF bH bQ D u;have J:=F;have K:=G;have bo:=I;have be:=U;have bp:=V;have bD:=X;have bF:=am;have bH:=bk;have bQ:=bK;have dF:=bL;have D:=ce;have u:=cg;clear F G I U V X am bk bK bL ce cg hb b0))
      go_loopg [15,16] k1 (fun a_ v15 v16 w'=>∃(bA:List ByteArray) (bc:Int),v16= .int .i64 bc∧ae (bY.l1 a_ bv bA bc Z ak ad ao aw ap=some (r1,r2))∧ae (a_≤k1)∧ae (Kd.R (Kd.int .i64) 3 w' w.heap.size (fun k_=>some k_≠((.slice aE ad.length aK):Value).ownBlock) de bv)∧ae (Kd.R Kd.string 9 w' w.heap.size (fun _=>True) v15 bA)∧ae (Kd.R aX 110 w' w.heap.size (fun _=>True) (.slice aq Z.length au) Z)∧ae (Kd.R (Kd.int .i64) 3 w' w.heap.size (fun k_=>some k_≠(de:Value).ownBlock) (.slice aE ad.length aK) ad)∧ae (Kd.R aW 64 w' w.heap.size (fun _=>True) (.slice bd ap.length bf) ap)∧ae (w'.heap[z]? =some (.cells #[(.slice aq Z.length au),.int .i64 ak,(.slice aE ad.length aK),.int .i64 ao,.int .i64 aw,(.slice bd ap.length bf)] 30 (0,0)))∧ae (Below w.heap.size w w'))
      case atStart=>exact⟨(dh),(0),eS,H',⟨Nat.le_refl _⟩,⟨by(with_reducible repeat(first|apply Kd.bm|apply Kd.br|apply Kd.a8));exact Kd.bh bQ.out (fun _ hk=>hk.1)⟩,⟨by(with_reducible repeat(first|apply Kd.bm|apply Kd.br|apply Kd.a8));exact Kd.bh dF.out (fun _ hk=>trivial)⟩,⟨by(with_reducible repeat(first|apply Kd.bm|apply Kd.br|apply Kd.a8));exact Kd.bh bD.out (fun _ hk=>trivial)⟩,⟨by(with_reducible repeat(first|apply Kd.bm|apply Kd.br|apply Kd.a8));exact Kd.bh bF.out (fun _ hk=>hk.1)⟩,⟨by(with_reducible repeat(first|apply Kd.bm|apply Kd.br|apply Kd.a8));exact Kd.bh bH.out (fun _ hk=>trivial)⟩,⟨oK D⟩,⟨oB u⟩⟩
      case round=>
       clear H'
       try clear c1
       try clear p1
       try clear q1
       try clear hx1
       try clear c2
       try clear b4
       try clear b5
       try clear p2
       try clear c3
       try clear c4
       try clear da
       try clear c9
       try clear cm
       try clear c10
       try clear c11
       try clear bI
       try clear c12
       try clear cu
       try clear bO
       try clear bP
       try clear cw
       try clear c14
       try clear c15
       try clear cW
       try clear cX
       try clear c16
       try clear c0
       try clear c5
       try clear c17
       try clear c6
       try clear c7
       try clear c19
       try clear c21
       try clear b1
       try clear b2
       try clear b3
       try clear bR
       try clear c8
       try clear c_
       try clear eW
       try clear c46
       try clear eX
       try clear d'
       try clear ea
       try clear eb
       try clear ec
       try clear ef
       try clear eg
       try clear eh
       try clear ei
       try clear ej
       try clear ek
       try clear el
       try clear em
       try clear eo
       try clear ep
       try clear er
       try clear es
       try clear et
       try clear eu
       try clear ev
       try clear ew
       try clear ex
       try clear ey
       try clear ez
       try clear eA
       try clear eC
       try clear eD
       try clear eE
       try clear eI
       try clear p1
       try clear bO
       try clear p2
       try clear da
       try clear q1
       try clear bP
       obtain⟨bA,bc,rfl,a3,cT,aU,al,a4,a5,a9,D,u⟩:=hrel;cases gk with
       |zero=>exact absurd a3.out (by simp[bY.l1])
       |succ k2=>
        have H:=a3.out;clear a3;simp only[bY.l1]at H;by_cases c51:bc<(bv.length:Int)
        ·rw[af c51]at H;have dQ:decide (bc<(bv.length:Int))=true:=ah c51;clear c51;by_cases ck:0≤bc
         ·rw[af ck]at H;have eY:decide (0≤bc)=true:=ah ck;clear ck;replace H:=aD H;obtain⟨cn,cR,H⟩:=H
          (try dsimp only at H)
          have dp:=A_ cR;clear cR;by_cases cl:bA.length<8796093022208
          ·rw[af cl]at H;have dK:=A_ cl;clear cl;obtain⟨di,cb⟩:∃bx:List ByteArray,bx=(bA++[cn]):=⟨_,rfl⟩;replace H:(bY.l1 k2 bv di (wrap64 (bc+1)) Z ak ad ao aw ap)=some (r1,r2):=by first|(rw[cb];with_reducible exact H)|(have aj:=(aG _ _).symm.trans H;rw[cb];with_reducible exact aj)|(have aj:=(aG _ _).symm.trans H;with_reducible exact aj)|with_reducible exact H|(rw[cb];exact H)|exact H
           have dN:=A_ cb;clear cb;have H':=A_ H;clear H;obtain⟨eP,e1,d7⟩:=Kd.bz aU.out;subst d7;have cA:0≤(bc:Int):=oD;have cC:bc<(bv.length:Int):=oD;obtain⟨eV,dW,ff⟩:=Kd.dG (Kd.aY aU.out).2.2 bc cA cC;cases dW;replace cA:=av cA;replace cC:=av cC
           go_wp2_with (first|((with_reducible refine aZ (f:=35) rfl ?_);refine gL (some 90) Tryz.func35 #[.int .i64 (rd bv bc)] ?_;(with_reducible refine(cY.c k2 (rd bv bc) cn _ dp.out).mono ?_);rintro e fI ⟨rfl,hb⟩;refine⟨_,rfl,?_⟩;have F:=A_ (Kd.aV (oR aU) hb);have G:=A_ (Kd.aV (oR al) hb);have I:=A_ (Kd.aV (oR a4) hb);have U:=A_ (Kd.aV (oR a5) hb);have V:=A_ (Kd.aV (oR a9) hb);have X:=A_ (bb D hb);have am:=A_ (aC (oB u) hb);clear aU al a4 a5 a9 D u;have aU:=F;have al:=G;have a4:=I;have a5:=U;have a9:=V;have D:=X;have u:=am;clear F G I U V X am;(try clear hb);(try clear hb2);(try clear hk);(try clear hi))|((with_reducible refine dP (b:= .append) (xs:= #[.tmp 85,.tmp 91]) rfl ?_);(try(refine dE (by rfl) ?_;dsimp only));at_builtin;refine Kd.eF Kd.string (w0:=w) w.heap.size rfl (.tmp 85) (.tmp 91) 38 9 (.string ⟨#[]⟩) 16 rfl Tryz.underlying38 ld rfl (by decide) (by omega) u15 bA cn [.string cn] (fun _=>True) (fun _=>False) rfl rfl ?aP (fun _ hk=>hk.elim) ?aF ?aO ?aB ?aS ?aL ?_;(case aP=>exact rfl);(case aB=>exact(oB u));(case aF=>exact(fun _ _=>trivial));(case aO=>exact(oR al));(case aS=>exact(aA (oB u)));(case aL=>have:=dK.out;omega);intro fu fJ ho hb hg hat;rw[←dN.out]at ho;have F:=A_ (Kd.eG (oR aU) (Kd.eH (oR al)) (by decide) hg);have G:=A_ (Kd.eG (oR a4) (Kd.eH (oR al)) (by decide) hg);have I:=A_ (Kd.eG (oR a5) (Kd.eH (oR al)) (by decide) hg);have U:=A_ (Kd.eG (oR a9) (Kd.eH (oR al)) (by decide) hg);have V:=A_ (bg D hg (Kd.fU al.out D.out (by decide)));have X:=A_ (hb);have am:=A_ (ho);clear aU a4 a5 a9 D u al;have aU:=F;have a4:=G;have a5:=I;have a9:=U;have D:=V;have u:=X;have dH:=am;clear F G I U V X am ho hb hg hat))
           go_roundg k2
           case measure=>have:=bs.out;have:=cT.out;omega
           case rel=>exact⟨(di),(wrap64 (bc+1)),eS,H',⟨by have:=bs.out;have:=cT.out;omega⟩,⟨oR aU⟩,⟨oR dH⟩,⟨oR a4⟩,⟨oR a5⟩,⟨oR a9⟩,⟨oK D⟩,⟨oB u⟩⟩
          ·rw[ag cl]at H;exact absurd H (by simp)
         ·rw[ag ck]at H;exact absurd H (by simp)
        ·rw[ag c51]at H;have dQ:decide (bc<(bv.length:Int))=false:=ay c51;clear c51;replace H:=aD H;obtain⟨ch,cS,H⟩:=H
         (try dsimp only at H)
         have dq:=A_ cS;clear cS;by_cases c59:bA.length+ch.length<8796093022208
         ·rw[af c59]at H;have dL:=A_ c59;clear c59;obtain⟨eM,cc⟩:∃bx:List ByteArray,bx=(bA++ch):=⟨_,rfl⟩;replace H:(some (eM,true))=some (r1,r2):=by first|(rw[cc];with_reducible exact H)|(have aj:=(aG _ _).symm.trans H;rw[cc];with_reducible exact aj)|(have aj:=(aG _ _).symm.trans H;with_reducible exact aj)|with_reducible exact H|(rw[cc];exact H)|exact H
          have dO:=A_ cc;clear cc;simp only[Option.some.injEq,Prod.mk.injEq]at H;obtain⟨rfl,rfl⟩:=H;obtain⟨eQ,e2,d8⟩:=Kd.bz aU.out;subst d8;have e3:=cz D 0;have e4:=cz D 1;have e5:=cz D 2;have e6:=cz D 3;have e7:=cz D 4;have e8:=cz D 5;have e9:=ar D.out 0;have e_:=ar D.out 1;have e':=ar D.out 2;have fa:=ar D.out 3;have fb:=ar D.out 4;have fc:=ar D.out 5
          go_wp2_with (first|((with_reducible refine aZ (f:=13) rfl ?_);refine gL (some 95) Tryz.func13 #[.agg #[.slice aq Z.length au,.int .i64 ak,.slice aE ad.length aK,.int .i64 ao,.int .i64 aw,.slice bd ap.length bf]] ?_;(with_reducible refine(eB.c k2 _ _ Z ak _ _ ad ao aw _ _ ap ch _ ?a6 ?a7 ?cG ?cH ?fq ?ft dq.out).mono ?_);(case a6=>repeat(first|exact(Kd.aY a4.out).2.2|(with_reducible refine Kd.cZ ?_ _)|(with_reducible refine Kd.dn ?_ _)|(with_reducible refine Kd.dm ?_)));(case a7=>exact(Kd.aY a4.out).2.1);(case cG=>repeat(first|exact(Kd.aY a5.out).2.2|(with_reducible refine Kd.cZ ?_ _)|(with_reducible refine Kd.dn ?_ _)|(with_reducible refine Kd.dm ?_)));(case cH=>exact(Kd.aY a5.out).2.1);(case fq=>repeat(first|exact(Kd.aY a9.out).2.2|(with_reducible refine Kd.cZ ?_ _)|(with_reducible refine Kd.dn ?_ _)|(with_reducible refine Kd.dm ?_)));(case ft=>exact(Kd.aY a9.out).2.1);rintro e fK ⟨fv,rfl,bj,hb⟩;refine⟨_,rfl,?_⟩;have F:=A_ (Kd.aV (oR aU) hb);have G:=A_ (Kd.dZ (oR al) (Kd.dr bj) hb);have I:=A_ (Kd.aV (oR a4) hb);have U:=A_ (Kd.aV (oR a5) hb);have V:=A_ (Kd.aV (oR a9) hb);have X:=A_ (Kd.bE (Kd.fl bj (Kd.en (oR al))) (aA (oB u)));have am:=A_ (bb D hb);have bk:=A_ (aC (oB u) hb);clear aU al a4 a5 a9 D u;have aU:=F;have al:=G;have a4:=I;have a5:=U;have a9:=V;have bV:=X;have D:=am;have u:=bk;clear F G I U V X am bk;(try clear hb);(try clear hb2);(try clear hk);(try clear hi);(try clear bj);obtain⟨dx,dV,d9⟩:=Kd.bz bV.out;subst d9)|((with_reducible refine dP (b:= .append) (xs:= #[.tmp 93,.tmp 95]) rfl ?_);(try(refine dE (by rfl) ?_;dsimp only));at_builtin;refine Kd.lH Kd.string (w0:=w) w.heap.size rfl (.tmp 93) (.tmp 95) 38 9 (.string ⟨#[]⟩) 16 rfl Tryz.underlying38 ld rfl (by decide) (by omega) u15 bA ch _ _ _ (fun k_=>some k_≠(.slice dx ch.length dV:Value).ownBlock) (fun _=>False) rfl rfl ?aO ?aR (fun _ _ h=>h) (fun _ h=>h.elim) ?aF ?aB ?aS ?aL ?_;(case aR=>repeat(first|exact(Kd.aY bV.out).2.2|(with_reducible refine Kd.cZ ?_ _)|(with_reducible refine Kd.dn ?_ _)|(with_reducible refine Kd.dm ?_)));(case aB=>exact(oB u));(case aF=>exact(fun k_ hk=>Kd.fresh' (Kd.en (oR bV)) k_ hk));(case aO=>exact(by(with_reducible repeat(first|apply Kd.bm|apply Kd.br|apply Kd.a8));exact Kd.bh al.out (fun _ hk=>hk.2)));(case aS=>exact(aA (oB u)));(case aL=>have:=dL.out;omega);intro fw fL ho hb hg hat;rw[←dO.out]at ho;have F:=A_ (Kd.eG (oR aU) (Kd.eH (oR al)) (by decide) hg);have G:=A_ (Kd.eG (oR a4) (Kd.eH (oR al)) (by decide) hg);have I:=A_ (Kd.eG (oR a5) (Kd.eH (oR al)) (by decide) hg);have U:=A_ (Kd.eG (oR a9) (Kd.eH (oR al)) (by decide) hg);have V:=A_ (bg D hg (Kd.fU al.out D.out (by decide)));have X:=A_ (Kd.o9 (ok:=(fun _=>True)) (oR bV) hg hat);have am:=A_ (hb);have bk:=A_ (ho);clear aU a4 a5 a9 D bV u al;have aU:=F;have a4:=G;have a5:=I;have a9:=U;have D:=V;have bV:=X;have u:=am;have dI:=bk;clear F G I U V X am bk ho hb hg hat))
          go_ret2;exact⟨_,eR,by(with_reducible repeat(first|apply Kd.bm|apply Kd.br|apply Kd.a8));exact Kd.bh dI.out (fun _ hk=>trivial),oB u⟩
         ·rw[ag c59]at H;exact absurd H (by simp)
end P
namespace P
set_option maxHeartbeats 8000000
set_option maxRecDepth 100000
open Go.RowKit WW.bq WW.cg WW.cd V
attribute [local go_sem] dN dO
attribute [local go_sem] cN cR cQ cU cP cT cO cS
mutual
def fI.j0:Nat→ByteArray→List ByteArray→Bool→List ByteArray→Bool→Option (Bool)
 |0,_,_,_,_,_=>none
 |k+1,x0,x3,H,I,G=>if G=true then(some false)else((gG.f k I 1).bind fun u=>((gq.f k u.2 1).bind fun D=>(if D<0 then(some false)else(if D=u.1 then((cE.f k x0).bind fun z=>((fJ.f k z.1 x3).bind fun F=>(if F=true then(fI.j1 k u.2 u.1 (z.2 != H))else(fI.j1 k u.2 u.1 true))))else(some false)))))
def fI.j1:Nat→List ByteArray→Int→Bool→Option (Bool)
 |0,_,_,_=>none
 |k+1,z,F,D=>if D=true then(some false)else((gq.f k z 1).bind fun u=>(if u<0 then(some false)else(if u=F then(some true)else(some false))))
end
def fI.f (k:Nat) (a0:ByteArray):Option (Bool):=if(a0.size:Int)>1048576 then(some true)else((bY.f k a0).bind fun u=>((cE.f k a0).bind fun z=>((fJ.f k z.1 u.1).bind fun D=>(if D=true then(fI.j0 k a0 u.1 u.2 z.1 (z.2 != u.2))else(fI.j0 k a0 u.1 u.2 z.1 true)))))
theorem fI.c (k:Nat) (a0:ByteArray) (r:Bool) (w:World) (h:fI.f k a0=some r) (ar:ae (r=true)) (a_:ae (mZ w)):
  Calls Tryz.prog 5 #[.string a0] w fun e w'=>e= .returned (.bool r)∧Below w.heap.size w w':=by
 have u:=A_ (Below.refl w.heap.size w);have H:(if(a0.size:Int)>1048576 then(some true)else((bY.f k a0).bind fun ap=>((cE.f k a0).bind fun az=>((fJ.f k az.1 ap.1).bind fun aN=>(if aN=true then(fI.j0 k a0 ap.1 ap.2 az.1 (az.2 != ap.2))else(fI.j0 k a0 ap.1 ap.2 az.1 true))))))=some r:=h;clear h;by_cases c2:(a0.size:Int)>1048576
 ·rw[af c2]at H;have aK:decide (1048576<(a0.size:Int))=true:=ah c2;have aL:decide (1048576<a0.size)=true:=ah (by omega);clear c2;obtain rfl:=aH H;go_enter Tryz.func5,Tryz.ntmps5;go_wp2;go_ret;exact⟨eR,oB u⟩
 ·rw[ag c2]at H;have aK:decide (1048576<(a0.size:Int))=false:=ay c2;have aL:decide (1048576<a0.size)=false:=ay (by omega);clear c2;replace H:=aD H;obtain⟨⟨V,aB⟩,aT,H⟩:=H
  (try dsimp only at H)
  have bn:=A_ aT;clear aT;replace H:=aD H;obtain⟨⟨I,bc⟩,aW,H⟩:=H
  (try dsimp only at H)
  have bp:=A_ aW;clear aW;have aJ:=A_ H;clear H;go_enter Tryz.func5,Tryz.ntmps5
  go_upto_region 5 with (first|((with_reducible refine aZ (f:=19) rfl ?_);refine gL (some 16) Tryz.func19 #[.string a0] ?_;(with_reducible refine(bY.c k a0 V aB _ bn.out).mono ?_);rintro e b8 ⟨be,rfl,O,hb⟩;refine⟨_,rfl,?_⟩;have D:=A_ (Kd.bE O (aA (oB u)));have F:=A_ (aC (oB u) hb);clear u;have J:=D;have u:=F;clear D F;(try clear hb);(try clear hb2);(try clear hk);(try clear hi);(try clear O))|((with_reducible refine aZ (f:=16) rfl ?_);refine gL (some 21) Tryz.func16 #[.string a0] ?_;(with_reducible refine(cE.c k a0 I bc _ bp.out ?ek).mono ?_);(case ek=>exact⟨qx a_.out (oB u)⟩);rintro e w7 ⟨bf,rfl,O,hb⟩;refine⟨_,rfl,?_⟩;have D:=A_ (Kd.dZ (oR J) (Kd.dr O) hb);have F:=A_ (Kd.bE (Kd.fl O (Kd.en (oR J))) (aA (oB u)));have U:=A_ (aC (oB u) hb);clear J u;have J:=D;have ai:=F;have u:=U;clear D F U;(try clear hb);(try clear hb2);(try clear hk);(try clear hi);(try clear O)))
  (try simp only[Act.put,List.setIfInBounds_toArray,List.set_cons_zero,List.set_cons_succ])
  go_cut [32] (fun v32 wc=>∃(X:Nat) (aE:Bool),v32= .bool aE∧ae (fI.j0 X a0 V aB I aE=some r)∧ae (X≤k)∧ae (Kd.R Kd.string 9 wc w.heap.size (fun k_=>some k_≠(bf:Value).ownBlock) be V)∧ae (Kd.R Kd.string 9 wc w.heap.size (fun k_=>some k_≠(be:Value).ownBlock) bf I)∧ae (Below w.heap.size w wc))
  case first=>
   have H:=aJ.out;clear aJ;replace H:=aD H;obtain⟨aN,a1,H⟩:=H
   (try dsimp only at H)
   have aX:=A_ a1;clear a1;by_cases c9:aN=true
   ·subst c9;rw[af rfl]at H;have H':=A_ H;clear H;obtain⟨bq,bF,bP⟩:=Kd.bz ai.out;subst bP;obtain⟨bs,bH,bQ⟩:=Kd.bz J.out;subst bQ
    go_wp2_with (first|((with_reducible refine aZ (f:=20) rfl ?_);refine gL (some 26) Tryz.func20 #[.slice bq I.length bF,.slice bs V.length bH] ?_;(with_reducible refine(fJ.c k _ _ I _ _ V true _ ?a6 ?a7 ?cG ?cH aX.out).mono ?_);(case a6=>repeat(first|exact(Kd.aY ai.out).2.2|(with_reducible refine Kd.cZ ?_ _)|(with_reducible refine Kd.dn ?_ _)|(with_reducible refine Kd.dm ?_)));(case a7=>exact(Kd.aY ai.out).2.1);(case cG=>repeat(first|exact(Kd.aY J.out).2.2|(with_reducible refine Kd.cZ ?_ _)|(with_reducible refine Kd.dn ?_ _)|(with_reducible refine Kd.dm ?_)));(case cH=>exact(Kd.aY J.out).2.1);rintro e w' ⟨rfl,⟨nd,rfl⟩⟩;refine⟨_,rfl,?_⟩))
    go_meet
    case rel=>exact⟨_,((bc != aB)),eS,H',⟨by first|omega|exact Nat.le_refl _⟩,⟨by(with_reducible repeat(first|apply Kd.bm|apply Kd.br|apply Kd.a8));exact Kd.bh J.out (fun _ hk=>hk.2)⟩,⟨by(with_reducible repeat(first|apply Kd.bm|apply Kd.br|apply Kd.a8));exact Kd.bh ai.out (fun _ hk=>hk.2)⟩,⟨oB u⟩⟩
   ·replace c9:=Bool.eq_false_iff.mpr c9;subst c9;rw[ag (show¬(false=true)by decide)]at H;have H':=A_ H;clear H;obtain⟨bt,bI,bR⟩:=Kd.bz ai.out;subst bR;obtain⟨bu,bJ,bS⟩:=Kd.bz J.out;subst bS
    go_wp2_with (first|((with_reducible refine aZ (f:=20) rfl ?_);refine gL (some 26) Tryz.func20 #[.slice bt I.length bI,.slice bu V.length bJ] ?_;(with_reducible refine(fJ.c k _ _ I _ _ V false _ ?a6 ?a7 ?cG ?cH aX.out).mono ?_);(case a6=>repeat(first|exact(Kd.aY ai.out).2.2|(with_reducible refine Kd.cZ ?_ _)|(with_reducible refine Kd.dn ?_ _)|(with_reducible refine Kd.dm ?_)));(case a7=>exact(Kd.aY ai.out).2.1);(case cG=>repeat(first|exact(Kd.aY J.out).2.2|(with_reducible refine Kd.cZ ?_ _)|(with_reducible refine Kd.dn ?_ _)|(with_reducible refine Kd.dm ?_)));(case cH=>exact(Kd.aY J.out).2.1);rintro e w' ⟨rfl,⟨nd,rfl⟩⟩;refine⟨_,rfl,?_⟩))
    go_meet
    case rel=>exact⟨_,(true),eS,H',⟨by first|omega|exact Nat.le_refl _⟩,⟨by(with_reducible repeat(first|apply Kd.bm|apply Kd.br|apply Kd.a8));exact Kd.bh J.out (fun _ hk=>hk.2)⟩,⟨by(with_reducible repeat(first|apply Kd.bm|apply Kd.br|apply Kd.a8));exact Kd.bh ai.out (fun _ hk=>hk.2)⟩,⟨oB u⟩⟩
  case rest=>
   clear aJ
   try clear c1
   try clear c2
   try clear aK
   try clear aL
   try clear p2
   try clear c5
   try clear c9
   obtain⟨X,aE,rfl,ak,a2,G,z,u⟩:=hcut;cases X with
   |zero=>exact absurd ak.out (by simp[fI.j0])
   |succ au=>
    have H:=ak.out;clear ak;simp only[fI.j0]at H;by_cases c14:aE=true
    ·subst c14;rw[af rfl]at H;exact absurd ((aH H).trans ar.out) (by decide)
    ·replace c14:=Bool.eq_false_iff.mpr c14;subst c14;rw[ag (show¬(false=true)by decide)]at H;replace H:=aD H;obtain⟨⟨K,Y⟩,aO,H⟩:=H
     (try dsimp only at H)
     have bg:=A_ aO;clear aO;replace H:=aD H;obtain⟨Z,aP,H⟩:=H
     (try dsimp only at H)
     have bj:=A_ aP;clear aP;by_cases c17:Z<0
     ·rw[af c17]at H;have a3:decide (Z<0)=true:=ah c17;clear c17;exact absurd ((aH H).trans ar.out) (by decide)
     ·rw[ag c17]at H;have a3:decide (Z<0)=false:=ay c17;clear c17;by_cases c18:Z=K
      ·rw[af c18]at H;have a4:(Z==K)=true:=beq_iff_eq.mpr c18;have a5:(Z != K)=false:=bne_eq_false_iff_eq.mpr c18;clear c18;replace H:=aD H;obtain⟨⟨ax,bd⟩,aQ,H⟩:=H
       (try dsimp only at H)
       have bk:=A_ aQ;clear aQ;have aI:=A_ H;clear H;obtain⟨aj,am,bT⟩:=Kd.bz z.out;subst bT
       go_upto_region 16 with (first|((with_reducible refine aZ (f:=21) rfl ?_);refine gL (some 35) Tryz.func21 #[.slice aj I.length am,.int .i64 1] ?_;(with_reducible refine(gG.c au (fun k_=>some k_=(.slice aj I.length am:Value).ownBlock) (.slice aj I.length am) I 1 K Y w _ ?a6 ?a7 bg.out).mono ?_);(case a6=>repeat(first|(with_reducible first|exact u.out|apply cj|apply dM|apply cr)|exact u.out));(case a7=>exact Kd.tj rfl z.out);rintro e b4 ⟨rfl,hy0,hb,hkp⟩;refine⟨_,rfl,?_⟩;have D:=A_ (Kd.bh (ok':=fun k_=>some k_≠(.slice aj I.length am:Value).ownBlock) (Kd.xp (G.out) hkp (fun k_ aM hs_=>(aM) hs_)) (fun k_ aM=>aM.1));have F:=A_ (Kd.th rfl hy0 (fun k_ e_=>z.out.1 k_ e_));have U:=A_ (hb);clear G z u;have G:=D;have z:=F;have u:=U;clear D F U;(try clear hb);(try clear hkp);(try clear hy0))|((with_reducible refine aZ (f:=22) rfl ?_);refine ku (some 38) rfl rfl Tryz.func22 (by kernel_rfl) rfl #[.slice aj Y.length am,.int .i64 1] rfl (by(try simp only[List.map_toArray,List.map_cons,List.map_nil]);first|done|(rw[show Y.length=I.length from(Kd.aY z.out).1.symm]<;>rfl)|rfl|(simp only[List.length_drop,List.length_take];rfl)) ?_;(with_reducible refine(gq.c au _ _ Y 1 Z _ ?a6 ?a7 bj.out).mono ?_);(case a6=>repeat(first|exact(Kd.aY z.out).2.2|(with_reducible refine Kd.cZ ?_ _)|(with_reducible refine Kd.dn ?_ _)|(with_reducible refine Kd.dm ?_)));(case a7=>rw[show Y.length=I.length from(Kd.aY z.out).1.symm];exact(Kd.aY z.out).2.1);rintro e b5 ⟨rfl,hb⟩;refine⟨_,rfl,?_⟩;have D:=A_ (Kd.aV (oR G) hb);have F:=A_ (Kd.aV (oR z) hb);have U:=A_ (aC (oB u) hb);clear G z u;have G:=D;have z:=F;have u:=U;clear D F U;(try clear hb);(try clear hb2);(try clear hk);(try clear hi))|((with_reducible refine aZ (f:=16) rfl ?_);refine gL (some 46) Tryz.func16 #[.string a0] ?_;(with_reducible refine(cE.c au a0 ax bd _ bk.out ?ek).mono ?_);(case ek=>exact⟨qx a_.out (oB u)⟩);rintro e b6 ⟨b3,rfl,O,hb⟩;refine⟨_,rfl,?_⟩;have D:=A_ (Kd.dZ (oR G) (Kd.dr O) hb);have F:=A_ (Kd.dZ (oR z) (Kd.dr O) hb);have U:=A_ (Kd.bE (Kd.fl (Kd.fl O (Kd.en (oR G))) (Kd.en (oR z))) (aA (oB u)));have bb:=A_ (aC (oB u) hb);clear G z u;have G:=D;have z:=F;have ao:=U;have u:=bb;clear D F U bb;(try clear hb);(try clear hb2);(try clear hk);(try clear hi);(try clear O)))
       (try simp only[Act.put,List.setIfInBounds_toArray,List.set_cons_zero,List.set_cons_succ])
       go_cut [57] (fun v57 wc=>∃(X:Nat) (aF:Bool),v57= .bool aF∧ae (fI.j1 X Y K aF=some r)∧ae (X≤au)∧ae (Kd.R Kd.string 9 wc w.heap.size (fun _=>True) (.slice aj I.length am) Y)∧ae (Below w.heap.size w wc))
       case first=>
        have H:=aI.out;clear aI;replace H:=aD H;obtain⟨b0,aS,H⟩:=H
        (try dsimp only at H)
        have aR:=A_ aS;clear aS;by_cases aw:b0=true
        ·subst aw;rw[af rfl]at H;have H':=A_ H;clear H;obtain⟨bv,bK,bU⟩:=Kd.bz ao.out;subst bU;obtain⟨bw,bL,bV⟩:=Kd.bz G.out;subst bV
         go_wp2_with (first|((with_reducible refine aZ (f:=20) rfl ?_);refine gL (some 51) Tryz.func20 #[.slice bv ax.length bK,.slice bw V.length bL] ?_;(with_reducible refine(fJ.c au _ _ ax _ _ V true _ ?a6 ?a7 ?cG ?cH aR.out).mono ?_);(case a6=>repeat(first|exact(Kd.aY ao.out).2.2|(with_reducible refine Kd.cZ ?_ _)|(with_reducible refine Kd.dn ?_ _)|(with_reducible refine Kd.dm ?_)));(case a7=>exact(Kd.aY ao.out).2.1);(case cG=>repeat(first|exact(Kd.aY G.out).2.2|(with_reducible refine Kd.cZ ?_ _)|(with_reducible refine Kd.dn ?_ _)|(with_reducible refine Kd.dm ?_)));(case cH=>exact(Kd.aY G.out).2.1);rintro e w' ⟨rfl,⟨nd,rfl⟩⟩;refine⟨_,rfl,?_⟩))
         go_meet
         case rel=>exact⟨_,((bd != aB)),eS,H',⟨by have:=a2.out;first|omega|exact Nat.le_refl _⟩,⟨by(with_reducible repeat(first|apply Kd.bm|apply Kd.br|apply Kd.a8));exact Kd.bh z.out (fun _ hk=>trivial)⟩,⟨oB u⟩⟩
        ·replace aw:=Bool.eq_false_iff.mpr aw;subst aw;rw[ag (show¬(false=true)by decide)]at H;have H':=A_ H;clear H;obtain⟨bx,bM,bW⟩:=Kd.bz ao.out;subst bW;obtain⟨bA,bO,bX⟩:=Kd.bz G.out;subst bX
         go_wp2_with (first|((with_reducible refine aZ (f:=20) rfl ?_);refine gL (some 51) Tryz.func20 #[.slice bx ax.length bM,.slice bA V.length bO] ?_;(with_reducible refine(fJ.c au _ _ ax _ _ V false _ ?a6 ?a7 ?cG ?cH aR.out).mono ?_);(case a6=>repeat(first|exact(Kd.aY ao.out).2.2|(with_reducible refine Kd.cZ ?_ _)|(with_reducible refine Kd.dn ?_ _)|(with_reducible refine Kd.dm ?_)));(case a7=>exact(Kd.aY ao.out).2.1);(case cG=>repeat(first|exact(Kd.aY G.out).2.2|(with_reducible refine Kd.cZ ?_ _)|(with_reducible refine Kd.dn ?_ _)|(with_reducible refine Kd.dm ?_)));(case cH=>exact(Kd.aY G.out).2.1);rintro e w' ⟨rfl,⟨nd,rfl⟩⟩;refine⟨_,rfl,?_⟩))
         go_meet
         case rel=>exact⟨_,(true),eS,H',⟨by have:=a2.out;first|omega|exact Nat.le_refl _⟩,⟨by(with_reducible repeat(first|apply Kd.bm|apply Kd.br|apply Kd.a8));exact Kd.bh z.out (fun _ hk=>trivial)⟩,⟨oB u⟩⟩
       case rest=>
        clear aI
        try clear c1
        try clear c2
        try clear aK
        try clear aL
        try clear p2
        try clear c5
        try clear c9
        try clear c14
        try clear c16
        try clear c17
        try clear a3
        try clear c18
        try clear a4
        try clear a5
        try clear c19
        try clear c20
        try clear c21
        try clear b2
        try clear aw
        try clear p2
        obtain⟨X,aF,rfl,ak,b1,z,u⟩:=hcut;have a9:=(Kd.aY z.out).1;rw[a9]at z
        (try simp only[a9])
        cases X with
        |zero=>exact absurd ak.out (by simp[fI.j1])
        |succ bZ=>
         have H:=ak.out;clear ak;simp only[fI.j1]at H;by_cases c31:aF=true
         ·subst c31;rw[af rfl]at H;exact absurd ((aH H).trans ar.out) (by decide)
         ·replace c31:=Bool.eq_false_iff.mpr c31;subst c31;rw[ag (show¬(false=true)by decide)]at H;replace H:=aD H;obtain⟨ad,aU,H⟩:=H
          (try dsimp only at H)
          have bo:=A_ aU;clear aU;by_cases aq:ad<0
          ·rw[af aq]at H;have bB:decide (ad<0)=true:=ah aq;clear aq;exact absurd ((aH H).trans ar.out) (by decide)
          ·rw[ag aq]at H;have bB:decide (ad<0)=false:=ay aq;clear aq;by_cases al:ad=K
           ·rw[af al]at H;have bC:(ad==K)=true:=beq_iff_eq.mpr al;have bD:(ad != K)=false:=bne_eq_false_iff_eq.mpr al;clear al;obtain rfl:=aH H
            go_wp2_with (first|((with_reducible refine aZ (f:=22) rfl ?_);refine gL (some 60) Tryz.func22 #[.slice aj Y.length am,.int .i64 1] ?_;(with_reducible refine(gq.c bZ _ _ Y 1 ad _ ?a6 ?a7 bo.out).mono ?_);(case a6=>repeat(first|exact(Kd.aY z.out).2.2|(with_reducible refine Kd.cZ ?_ _)|(with_reducible refine Kd.dn ?_ _)|(with_reducible refine Kd.dm ?_)));(case a7=>exact(Kd.aY z.out).2.1);rintro e b7 ⟨rfl,hb⟩;refine⟨_,rfl,?_⟩;have D:=A_ (Kd.aV (oR z) hb);have F:=A_ (aC (oB u) hb);clear z u;have z:=D;have u:=F;clear D F;(try clear hb);(try clear hb2);(try clear hk);(try clear hi)))
            go_ret;exact⟨eR,oB u⟩
           ·rw[ag al]at H;have bC:(ad==K)=false:=beq_eq_false_iff_ne.mpr al;have bD:(ad != K)=true:=bne_iff_ne.mpr al;exact absurd ((aH H).trans ar.out) (by decide)
      ·rw[ag c18]at H;have a4:(Z==K)=false:=beq_eq_false_iff_ne.mpr c18;have a5:(Z != K)=true:=bne_iff_ne.mpr c18;exact absurd ((aH H).trans ar.out) (by decide)
end P
namespace Q
open Go.RowKit P WW.bq WW.cd
theorem y4 (a:Int):fX.f a=some (decide (-10≤a∧a≤40)):=by unfold fX.f;rw[iP];rfl
theorem kN (p:List aj) (d:Int) (q:List Int) (a m:Int) (l:List S64) (hl:l.length≤1048577):Ev (fun k=>eD.f k p d q a m l) (dX p d q a m l):=Ev.now _
theorem kO (p:List aj) (d:Int) (q:List Int) (a m:Int) (l:List S64) (hl:l.length≤1048577):Ev (fun k=>bp.f k p d q a m l) (dX p d q a m l):=Ev.bind (o0 p d q) (Ev.now _)
def hZ (p:List aj) (d:Int) (q:List Int) (a m:Int) (l:List S64) (x:Int):List aj×Int×List Int×Int×Int×List S64×Bool:=
  if dX p d q a m l=true∧m≠100000∧(-10≤x∧x≤40)then(p,d,q,x,m+1,l,true)else(p,d,q,a,m,l,false)
theorem zv {l:List S64} {m n:Int} (h:jZ l m) (hm:m≤n):jZ l n:=by
  rcases h with h|h
  · exact .inl h
  · exact .inr (by omega)
theorem CA (p:List aj) (d:Int) (q:List Int) (a m:Int) (l:List S64) (x:Int) (hp:p.length≤4000000) (hq:q.length≤4000000) (hl:l.length≤1048576):Ev (fun k=>mq.f k p d q a m l x) (hZ p d q a m l x):=by
  unfold mq.f hZ;refine bc (lL p d q a m l hp hq (by omega)) (Ev.bind (kN p d q a m l (by omega)) ?_);by_cases h:dX p d q a m l=true;rotate_left
  · exact bf (fun h2=>h h2.1)<|aw h (bc (lL p d q a m l hp hq (by omega)) (Ev.now _))
  obtain⟨h1,h2,h3,h4,h5⟩:=ki.1 h;rw[cm (n:=m+1) (by omega) (by omega)];refine ai h (Ev.bind (kN p d q x (m+1) l (by omega)) ?_);by_cases h6:m≠100000∧(-10≤x∧x≤40)
  · exact bC ⟨h,h6⟩<|ai (ki.2 ⟨h1,h2,h6.2,by omega,zv h5 (by omega)⟩) (Ev.now _)
  · refine bf (fun h7=>h6 h7.2)<|aw (fun h7=> ?_) (bc (lL p d q a m l hp hq (by omega)) (Ev.now _));obtain⟨g1,g2,g3,g4,g5⟩:=ki.1 h7;exact h6 ⟨by omega,g3⟩
theorem CB (p:List aj) (d:Int) (q:List Int) (a m:Int) (l:List S64) (x:Int) (hp:p.length≤4000000) (hq:q.length≤4000000) (hl:l.length≤1048576):Ev (fun k=>mM.f k p d q a m l x) (hZ p d q a m l x):=by
  unfold mM.f hZ;refine bc (lg p d q a m l hp hq (by omega)) (Ev.bind (kO p d q a m l (by omega)) ?_);by_cases h:dX p d q a m l=true;rotate_left
  · exact bf (fun h2=>h h2.1)<|aw h (bc (lg p d q a m l hp hq (by omega)) (Ev.now _))
  obtain⟨h1,h2,h3,h4,h5⟩:=ki.1 h;refine ai h ?_;by_cases h8:m=100000
  · exact bf (fun h7=>h7.2.1 h8)<|ai h8 (bc (lg p d q a m l hp hq (by omega)) (Ev.now _))
  refine aw h8 (Ev.bind (kO p d q x m l (by omega)) ?_);by_cases h6: -10≤x∧x≤40
  · rw[cm (n:=m+1) (by omega) (by omega)];exact bC ⟨h,h8,h6⟩<|ai (ki.2 ⟨h1,h2,h6,h4,h5⟩) (Ev.now _)
  · refine bf (fun h7=>h6 h7.2.2)<|aw (fun h7=> ?_) (bc (lg p d q a m l hp hq (by omega)) (Ev.now _));exact h6 (ki.1 h7).2.2.1
theorem BS (p:List aj) (d:Int) (q:List Int) (a m:Int) (l:List S64) (x:Int):(hZ p d q a m l x).1=p∧(hZ p d q a m l x).2.2.1=q∧(hZ p d q a m l x).2.2.2.2.2.1=l:=by
  unfold hZ;split<;>exact⟨rfl,rfl,rfl⟩
def gX (p:List aj) (d:Int) (q:List Int) (a m:Int) (l:List S64) (r n f:Int):List aj×Int×List Int×Int×Int×List S64×Bool:=
  if dX p d q a m l=true∧(addEntry l r n f m).2=true then(p,d,q,a,m,(addEntry l r n f m).1,true)else(p,d,q,a,m,l,false)
theorem BN (p:List aj) (d:Int) (q:List Int) (a m:Int) (l:List S64) (r n f:Int) (hp:p.length≤4000000) (hq:q.length≤4000000) (hl:l.length≤1048576):Ev (fun k=>mm.f k p d q a m l r n f) (gX p d q a m l r n f):=by
  unfold mm.f gX;refine bc (lL p d q a m l hp hq (by omega)) (Ev.bind (kN p d q a m l (by omega)) ?_);by_cases h:dX p d q a m l=true;rotate_left
  · exact bf (fun h2=>h h2.1)<|aw h (Ev.now _)
  refine ai h (Ev.bind (tF l r n f m hl) ?_);by_cases h2:(addEntry l r n f m).2=true
  · exact bC ⟨h,h2⟩<|ai h2 (Ev.now _)
  · exact bf (fun h3=>h2 h3.2)<|aw h2 (Ev.now _)
theorem BO (p:List aj) (d:Int) (q:List Int) (a m:Int) (l:List S64) (r n f:Int) (hp:p.length≤4000000) (hq:q.length≤4000000) (hl:l.length≤1048576):Ev (fun k=>mJ.f k p d q a m l r n f) (gX p d q a m l r n f):=by
  unfold mJ.f gX;refine bc (lg p d q a m l hp hq (by omega)) (Ev.bind (tG l r n f m hl) (Ev.bind (kO p d q a m l (by omega)) ?_));by_cases h:dX p d q a m l=true;rotate_left
  · exact bf (fun h2=>h h2.1)<|aw h (Ev.now _)
  refine ai h ?_;by_cases h2:(addEntry l r n f m).2=true
  · exact bC ⟨h,h2⟩<|ai h2 (Ev.now _)
  · exact bf (fun h3=>h2 h3.2)<|aw h2 (Ev.now _)
theorem BP (p:List aj) (d:Int) (q:List Int) (a m:Int) (l:List S64) (r n f:Int):(gX p d q a m l r n f).1=p∧(gX p d q a m l r n f).2.2.1=q∧(gX p d q a m l r n f).2.2.2.2.2.1.length≤l.length+1:=by
  unfold gX;split
  · exact⟨rfl,rfl,tE l r n f m⟩
  · exact⟨rfl,rfl,Nat.le_succ _⟩
def gY (p:List aj) (d:Int) (q:List Int) (a m:Int) (l:List S64) (c x:Int):List aj×Int×List Int×Int×Int×List S64×Bool:=
  if dX p d q a m l=true then((iE p d q c x).1,(iE p d q c x).2.1,(iE p d q c x).2.2.1,a,m,l,(iE p d q c x).2.2.2)else(p,d,q,a,m,l,false)
theorem BV (p:List aj) (d:Int) (q:List Int) (a m:Int) (l:List S64) (c x:Int) (hp:p.length≤4000000) (hq:q.length≤4000000) (hl:l.length≤1048576):Ev (fun k=>mn.f k p d q a m l c x) (gY p d q a m l c x):=by
  unfold mn.f gY;refine bc (lL p d q a m l hp hq (by omega)) (Ev.bind (kN p d q a m l (by omega)) ?_);by_cases h:dX p d q a m l=true
  · exact bC h<|ai h (Ev.bind (zn p d q c x hp hq) (Ev.now _))
  · exact bf h<|aw h (Ev.now _)
theorem BW (p:List aj) (d:Int) (q:List Int) (a m:Int) (l:List S64) (c x:Int) (hp:p.length≤4000000) (hq:q.length≤4000000) (hl:l.length≤1048576):Ev (fun k=>mK.f k p d q a m l c x) (gY p d q a m l c x):=by
  unfold mK.f gY;refine bc (lg p d q a m l hp hq (by omega)) (Ev.bind (kO p d q a m l (by omega)) ?_);by_cases h:dX p d q a m l=true
  · exact bC h<|ai h (Ev.bind (zo p d q c x hp hq) (Ev.now _))
  · exact bf h<|aw h (Ev.now _)
theorem BQ (p:List aj) (d:Int) (q:List Int) (a m:Int) (l:List S64) (c x:Int):(gY p d q a m l c x).1=p∧(gY p d q a m l c x).2.2.1.length=q.length∧(gY p d q a m l c x).2.2.2.2.2.1=l:=by
  unfold gY;split
  · exact⟨(uu p d q c x).1,(uu p d q c x).2,rfl⟩
  · exact⟨rfl,rfl,rfl⟩
theorem zQ (p:List aj) (d:Int) (q:List Int) (h:¬(gW p d q).2.2.2=true):gW p d q=(p,d,q,false):=by
  unfold gW at h ⊢
  split
  · rfl
  · split
    · rfl
    · rename_i h2 h3;rw[h2]at h;simp only[ag h3]at h;exact absurd trivial h
theorem CY (p:List aj) (d:Int) (q:List Int) (h:¬(ix p d q).2.2.2=true):ix p d q=(p,d,q,false):=by
  unfold ix at h ⊢
  split
  · rename_i h1
    rw[af h1]at h
    split
    · rfl
    · rename_i h2
      rw[ag h2]at h
      split
      · rfl
      · rename_i h3;rw[ag h3]at h;exact absurd rfl h
  · rfl
def lX (p:List aj) (d:Int) (q:List Int):List aj×Int×List Int×Bool:=if(((jA p d q).length:Nat):Int)>0 then gW p d q else ix p d q
def gZ (p:List aj) (d:Int) (q:List Int) (a m:Int) (l:List S64):List aj×Int×List Int×Int×Int×List S64×Bool:=
  if dX p d q a m l=true then((lX p d q).1,(lX p d q).2.1,(lX p d q).2.2.1,a,m,l,(lX p d q).2.2.2)else(p,d,q,a,m,l,false)
theorem Cx (p:List aj) (d:Int) (q:List Int) (a m:Int) (l:List S64) (hp:p.length≤4000000) (hq:q.length≤4000000) (hl:l.length≤1048576):Ev (fun k=>mo.f k p d q a m l) (gZ p d q a m l):=by
  unfold mo.f gZ lX;refine bc (lL p d q a m l hp hq (by omega)) (Ev.bind (kN p d q a m l (by omega)) ?_);by_cases h:dX p d q a m l=true;rotate_left
  · exact bf h<|aw h (Ev.now _)
  refine bC h<|ai h (Ev.bind (Cu p d q hp hq) (Ev.bind (sV p d q) ?_));by_cases h2:(((jA p d q).length:Nat):Int)>0
  · simp only[af h2];refine Ev.bind (zS p d q hp hq) ?_;by_cases h3:(gW p d q).2.2.2=true
    · exact ai h3 (evs (by rw[h3]))
    · exact aw h3 (evs (by rw[zQ p d q h3]))
  · simp only[ag h2];by_cases h3:(ix p d q).2.2.2=true
    · exact ai h3 (evs (by rw[h3]))
    · exact aw h3 (evs (by rw[CY p d q h3]))
theorem Cy (p:List aj) (d:Int) (q:List Int) (a m:Int) (l:List S64) (hp:p.length≤4000000) (hq:q.length≤4000000) (hl:l.length≤1048576):Ev (fun k=>mL.f k p d q a m l) (gZ p d q a m l):=by
  unfold mL.f gZ lX;refine bc (lg p d q a m l hp hq (by omega)) (Ev.bind (kO p d q a m l (by omega)) ?_);by_cases h:dX p d q a m l=true;rotate_left
  · exact bf h<|aw h (Ev.now _)
  refine bC h<|ai h (Ev.bind (sW p d q) ?_);by_cases h2:(((jA p d q).length:Nat):Int)>0
  · simp only[af h2];exact Ev.bind (zT p d q hp hq) (Ev.now _)
  · simp only[ag h2];exact Ev.bind (Cv p d q hp hq) (Ev.now _)
theorem BR (p:List aj) (d:Int) (q:List Int) (a m:Int) (l:List S64):(gZ p d q a m l).1=p∧(gZ p d q a m l).2.2.1.length=q.length∧(gZ p d q a m l).2.2.2.2.2.1=l:=by
  unfold gZ lX;split
  · split
    · exact⟨(uF p d q).1,(uF p d q).2.2,rfl⟩
    · exact⟨(wE p d q).1,(wE p d q).2,rfl⟩
  · exact⟨rfl,rfl,rfl⟩
def nH (p:List aj) (d:Int) (q:List Int) (a m:Int) (l:List S64):Int:=
  if dX p d q a m l=true then wrap64 ((wrap64 ((p.length:Int)-d))+((jA p d q).length:Int))else 0
theorem zx (p:List aj) (d:Int) (q:List Int) (a m:Int) (l:List S64) (hl:l.length≤1048577):Ev (fun k=>ik.f k p d q a m l) (nH p d q a m l):=by
  unfold ik.f nH;refine Ev.bind (kN p d q a m l hl) ?_;by_cases h:dX p d q a m l=true
  · exact bC h<|ai h (Ev.bind (sV p d q) (Ev.now _))
  · exact bf h<|aw h (Ev.now _)
theorem zy (p:List aj) (d:Int) (q:List Int) (a m:Int) (l:List S64) (hl:l.length≤1048577):Ev (fun k=>iq.f k p d q a m l) (nH p d q a m l):=by
  unfold iq.f nH;refine Ev.bind (kO p d q a m l hl) ?_;by_cases h:dX p d q a m l=true
  · exact bC h<|ai h (Ev.bind (sW p d q) (Ev.now _))
  · exact bf h<|aw h (Ev.now _)
def lY (p t:Int):Int:=if fine p=true then(if-10≤t∧t≤40 then wrap64 (Int.tdiv (wrap64 (p*(wrap64 (1000+(wrap64 (2*(wrap64 (t-15)))))))) 1000)else 0)else 0
theorem CU (p t:Int):nh.f p t=some (lY p t):=by
  unfold nh.f lY;rw[lR,y4];cases fine p<;>by_cases h: -10≤t∧t≤40<;>simp[h]
theorem CV (p t:Int):nD.f p t=some (lY p t):=by
  unfold nD.f lY;rw[lu,gU];cases fine p<;>by_cases h: -10≤t∧t≤40<;>simp[h]
theorem CW (t:Int):lY 0 t=0:=by
  have:fine 0=false:=by decide
  unfold lY;rw[this];rfl
def jh (p:List aj) (d:Int) (q:List Int) (a m:Int) (l:List S64) (c:Int):Int:=
  if dX p d q a m l=true then(if 0≤c∧c≤11 then(if iZ l ⟨0,c⟩=1 then 0 else lY (rd q c) a)else 0)else 0
theorem yK (p:List aj) (d:Int) (q:List Int) (a m:Int) (l:List S64) (c:Int) (hl:l.length≤1048577):Ev (fun k=>ia.f k p d q a m l c) (jh p d q a m l c):=by
  unfold ia.f;refine Ev.bind (kO p d q a m l hl) ?_;by_cases h0:dX p d q a m l=true;rotate_left
  · exact aw h0 (evs (by simp[jh,h0]))
  refine ai h0 (bc (gU _ _ _) ?_);obtain⟨hw,hlo,_⟩:=ki.mp h0
  have hq:q.length=12:=by
    unfold dS at hw;simp only[Bool.and_eq_true,decide_eq_true_eq]at hw;exact hw.2.2.1
  by_cases hc:0≤c∧c≤11;rotate_left
  · exact aw (by simpa using hc) (evs (by simp[jh,hc]))
  have F:=yt l 0 c hl;rw[af hlo]at F;refine ai (by simpa using hc) (Ev.bind F ?_);by_cases hf:iZ l ⟨0,c⟩=1
  · exact ai hf (evs (by simp[jh,hf]))
  exact aw hf (ai hc.1 (ai (by omega) (bc (CV _ _) (evs (by simp[jh,h0,hc,hf])))))
theorem yJ (p:List aj) (d:Int) (q:List Int) (a m:Int) (l:List S64) (c:Int) (hl:l.length≤1048577):Ev (fun k=>gS.f k p d q a m l c) (jh p d q a m l c):=by
  unfold gS.f;refine Ev.bind (kN p d q a m l hl) ?_;by_cases h0:dX p d q a m l=true;rotate_left
  · exact aw h0 (evs (by simp[jh,h0]))
  refine ai h0 (bc (iP _ _ _) ?_);obtain⟨hw,hlo,_⟩:=ki.mp h0
  have hq:q.length=12:=by
    unfold dS at hw;simp only[Bool.and_eq_true,decide_eq_true_eq]at hw;exact hw.2.2.1
  by_cases hc:0≤c∧c≤11;rotate_left
  · exact aw (by simpa using hc) (evs (by simp[jh,hc]))
  refine ai (by simpa using hc) (ai hc.1 (ai (by omega) ?_));by_cases hz:rd q c=0
  · exact ai hz (evs (by simp[jh,hz,CW]))
  refine aw hz ?_
  have F:mh.f l 0 c=some (iZ l ⟨0,c⟩):=by
    unfold mh.f;rw[af ⟨nJ (by omega) (by omega),nJ (by omega) (by omega),hl⟩,af hlo]
  refine bc F ?_;by_cases hf:iZ l ⟨0,c⟩=1
  · exact ai hf (evs (by simp[jh,hf]))
  exact aw hf (bc (CU _ _) (evs (by simp[jh,h0,hc,hf])))
def ko (b:Bool):Int:=if b=true then 1 else 0
theorem oY (b:Bool):iC.f b=some (ko b):=by unfold iC.f ko;cases b<;>rfl
theorem oZ (b:Bool):kj.f b=some (ko b):=by unfold kj.f ko;cases b<;>rfl
def fp (p:List aj) (d:Int) (q:List Int) (a m:Int) (l:List S64) (n x y z:Int):List aj×Int×List Int×Int×Int×List S64×Int:=
  if dX p d q a m l=true∧eo n x y z=true then
    (if n=1 then((gZ p d q a m l).1,(gZ p d q a m l).2.1,(gZ p d q a m l).2.2.1,(gZ p d q a m l).2.2.2.1,(gZ p d q a m l).2.2.2.2.1,(gZ p d q a m l).2.2.2.2.2.1,ko (gZ p d q a m l).2.2.2.2.2.2)
    else if n=2 then((hZ p d q a m l x).1,(hZ p d q a m l x).2.1,(hZ p d q a m l x).2.2.1,(hZ p d q a m l x).2.2.2.1,(hZ p d q a m l x).2.2.2.2.1,(hZ p d q a m l x).2.2.2.2.2.1,ko (hZ p d q a m l x).2.2.2.2.2.2)
    else if n=3 then((gX p d q a m l x y z).1,(gX p d q a m l x y z).2.1,(gX p d q a m l x y z).2.2.1,(gX p d q a m l x y z).2.2.2.1,(gX p d q a m l x y z).2.2.2.2.1,(gX p d q a m l x y z).2.2.2.2.2.1,ko (gX p d q a m l x y z).2.2.2.2.2.2)
    else if n=4 then((gY p d q a m l x y).1,(gY p d q a m l x y).2.1,(gY p d q a m l x y).2.2.1,(gY p d q a m l x y).2.2.2.1,(gY p d q a m l x y).2.2.2.2.1,(gY p d q a m l x y).2.2.2.2.2.1,ko (gY p d q a m l x y).2.2.2.2.2.2)
    else if n=5 then(p,d,q,a,m,(ly l m).1,ko (ly l m).2)
    else if n=6 then(p,d,q,a,m,l,nH p d q a m l)
    else(p,d,q,a,m,l,jh p d q a m l x))
  else(p,d,q,a,m,l,-1)
section
variable (p:List aj) (d:Int) (q:List Int) (a m:Int) (l:List S64) (n x y z:Int) (hp:p.length≤4000000) (hq:q.length≤4000000) (hl:l.length≤1048576)
include hp hq hl
theorem yf:Ev (fun k=>bJ.f k p d q a m l n x y z) (fp p d q a m l n x y z):=by
  have E:=lL p d q a m l hp hq (by omega);have O:=kN p d q a m l (by omega);have D:=tz n x y z;have T:=Cx p d q a m l hp hq hl;have W:=CA p d q a m l x hp hq hl;have F:=BN p d q a m l x y z hp hq hl;have K:=BV p d q a m l x y hp hq hl;have R:=Bg l m hl;have L:=zx p d q a m l (by omega);have H:=yJ p d q a m l x (by omega);have u:Ev (fun k=>bJ.j0 k true p d q a m l n x y z) (p,d,q,a,m,l,-1):=Ev.step (fun k=>by rw[bJ.j0]) (ai rfl (bc E (Ev.now _)));unfold bJ.f fp;refine Ev.bind O ?_;by_cases h0:dX p d q a m l=true;rotate_left
  · exact bf (fun hh=>h0 hh.1) (aw h0 u)
  refine ai h0 (Ev.bind D ?_);by_cases h1:eo n x y z=true;rotate_left
  · exact bf (fun hh=>h1 hh.2) (by rw[show(!eo n x y z)=true by simp[h1]];exact u)
  refine bC ⟨h0,h1⟩ ?_;rw[show(!eo n x y z)=false by simp[h1]];refine Ev.step (fun k=>by rw[bJ.j0]) (aw (by decide) ?_);by_cases c1:n=1
  · exact bC c1 (ai c1 (Ev.bind T (bc (oY _) (Ev.now _))))
  refine bf c1 (aw c1 ?_);by_cases c2:n=2
  · exact bC c2 (ai c2 (Ev.bind W (bc (oY _) (Ev.now _))))
  refine bf c2 (aw c2 ?_);by_cases c3:n=3
  · exact bC c3 (ai c3 (Ev.bind F (bc (oY _) (Ev.now _))))
  refine bf c3 (aw c3 ?_);by_cases c4:n=4
  · exact bC c4 (ai c4 (Ev.bind K (bc (oY _) (Ev.now _))))
  refine bf c4 (aw c4 ?_);by_cases c5:n=5
  · exact bC c5 (ai c5 (bc E (Ev.bind R (bc (oY _) (Ev.now _)))))
  refine bf c5 (aw c5 ?_);by_cases c6:n=6
  · exact bC c6 (ai c6 (bc E (Ev.bind L (Ev.now _))))
  exact bf c6 (aw c6 (bc E (Ev.bind H (Ev.now _))))
theorem yh:Ev (fun k=>cA.f k p d q a m l n x y z) (fp p d q a m l n x y z):=by
  have E:=lg p d q a m l hp hq (by omega);have O:=kO p d q a m l (by omega);have D:=tA n x y z;have T:=Cy p d q a m l hp hq hl;have W:=CB p d q a m l x hp hq hl;have F:=BO p d q a m l x y z hp hq hl;have K:=BW p d q a m l x y hp hq hl;have R:=Bi l m hl;have L:=zy p d q a m l (by omega);have H:=yK p d q a m l x (by omega);have u:Ev (fun k=>cA.j0 k true p d q a m l n x y z p d q a m l) (p,d,q,a,m,l,-1):=Ev.step (fun k=>by rw[cA.j0]) (ai rfl (Ev.now _));unfold cA.f fp;refine bc E (Ev.bind O ?_);by_cases h0:dX p d q a m l=true;rotate_left
  · exact bf (fun hh=>h0 hh.1) (aw h0 u)
  refine ai h0 (Ev.bind D ?_);by_cases h1:eo n x y z=true;rotate_left
  · exact bf (fun hh=>h1 hh.2) (by rw[show(!eo n x y z)=true by simp[h1]];exact u)
  refine bC ⟨h0,h1⟩ ?_;rw[show(!eo n x y z)=false by simp[h1]];refine Ev.step (fun k=>by rw[cA.j0]) (aw (by decide) ?_);by_cases c1:n=1
  · exact bC c1 (ai c1 (Ev.bind T (bc (oZ _) (Ev.now _))))
  refine bf c1 (aw c1 ?_);by_cases c2:n=2
  · exact bC c2 (ai c2 (Ev.bind W (bc (oZ _) (Ev.now _))))
  refine bf c2 (aw c2 ?_);by_cases c3:n=3
  · exact bC c3 (ai c3 (Ev.bind F (bc (oZ _) (Ev.now _))))
  refine bf c3 (aw c3 ?_);by_cases c4:n=4
  · exact bC c4 (ai c4 (Ev.bind K (bc (oZ _) (Ev.now _))))
  refine bf c4 (aw c4 ?_);by_cases c5:n=5
  · exact bC c5 (ai c5 (Ev.bind R (bc (oZ _) (Ev.now _))))
  refine bf c5 (aw c5 ?_);by_cases c6:n=6
  · exact bC c6 (ai c6 (Ev.bind L (Ev.now _)))
  refine bf c6 (aw c6 ?_);have c7:n=7:=by have:=nT h1;omega
  exact ai c7 (Ev.bind H (Ev.now _))
end
theorem rK (p:List aj) (d:Int) (q:List Int) (a m:Int) (l:List S64) (n x y z:Int):(fp p d q a m l n x y z).1=p∧(fp p d q a m l n x y z).2.2.1.length=q.length∧(fp p d q a m l n x y z).2.2.2.2.2.1.length≤l.length+1:=by
  have t:=BR p d q a m l;have w:=BS p d q a m l x;have f:=BP p d q a m l x y z;have k:=BQ p d q a m l x y;have r:=Bh l m;unfold fp
  split
  · split
    · exact⟨t.1,t.2.1,by dsimp only;rw[t.2.2];omega⟩
    split
    · exact⟨w.1,by dsimp only;rw[w.2.1],by dsimp only;rw[w.2.2];omega⟩
    split
    · exact⟨f.1,by dsimp only;rw[f.2.1],f.2.2⟩
    split
    · exact⟨k.1,k.2.1,by dsimp only;rw[k.2.2];omega⟩
    split
    · exact⟨rfl,rfl,r⟩
    split
    · exact⟨rfl,rfl,by dsimp only;omega⟩
    · exact⟨rfl,rfl,by dsimp only;omega⟩
  · exact⟨rfl,rfl,by dsimp only;omega⟩
def gv:List bM→List aj→Int→List Int→Int→Int→List S64→List Int→List aj×Int×List Int×Int×Int×List S64×List Int
  |[],p,d,q,a,m,l,r=>(p,d,q,a,m,l,r)
  |x::xs,p,d,q,a,m,l,r=>gv xs (fp p d q a m l x.f0 x.f1 x.f2 x.f3).1 (fp p d q a m l x.f0 x.f1 x.f2 x.f3).2.1 (fp p d q a m l x.f0 x.f1 x.f2 x.f3).2.2.1 (fp p d q a m l x.f0 x.f1 x.f2 x.f3).2.2.2.1 (fp p d q a m l x.f0 x.f1 x.f2 x.f3).2.2.2.2.1 (fp p d q a m l x.f0 x.f1 x.f2 x.f3).2.2.2.2.2.1 (r++[(fp p d q a m l x.f0 x.f1 x.f2 x.f3).2.2.2.2.2.2])
def gJ (p:List aj) (d:Int) (q:List Int) (a m:Int) (l:List S64) (xs:List bM):List aj×Int×List Int×Int×Int×List S64×List Int:=
  if dX p d q a m l=true∧xs.length≤40 then gv xs p d q a m l []else(p,d,q,a,m,l,[])
theorem vK:∀(xs:List bM) (p:List aj) (d:Int) (q:List Int) (a m:Int) (l:List S64) (r:List Int),
    (gv xs p d q a m l r).1=p∧(gv xs p d q a m l r).2.2.1.length=q.length∧(gv xs p d q a m l r).2.2.2.2.2.1.length≤l.length+xs.length∧(gv xs p d q a m l r).2.2.2.2.2.2.length=r.length+xs.length
  |[],p,d,q,a,m,l,r=>⟨rfl,rfl,Nat.le_refl _,rfl⟩
  |x::xs,p,d,q,a,m,l,r=>by
   obtain⟨h1,h2,h3⟩:=rK p d q a m l x.f0 x.f1 x.f2 x.f3;unfold gv;generalize fp p d q a m l x.f0 x.f1 x.f2 x.f3=R at*;obtain⟨g1,g2,g3,g4⟩:=vK xs R.1 R.2.1 R.2.2.1 R.2.2.2.1 R.2.2.2.2.1 R.2.2.2.2.2.1 (r++[R.2.2.2.2.2.2]);refine⟨g1.trans h1,g2.trans h2,?_,?_⟩
   · simp only[List.length_cons];omega
   · rw[g4];simp;omega
theorem Bx (p:List aj) (d:Int) (q:List Int) (a m:Int) (l:List S64) (xs:List bM):
    (gJ p d q a m l xs).1=p∧(gJ p d q a m l xs).2.2.1.length=q.length∧(gJ p d q a m l xs).2.2.2.2.2.1.length≤l.length+40∧(gJ p d q a m l xs).2.2.2.2.2.2.length≤40:=by
  unfold gJ
  split
  · rename_i h
    obtain⟨g1,g2,g3,g4⟩:=vK xs p d q a m l [];exact⟨g1,g2,by omega,by rw[g4];simp;exact h.2⟩
  · exact⟨rfl,rfl,by dsimp only;omega,by simp⟩
theorem uB {l:List S64} (h:dK l=true):l.length≤30:=by
  unfold dK at h;simp only[Bool.and_eq_true,decide_eq_true_eq]at h;exact h.2
section
variable (xs:List bM) (hx:xs.length≤40)
include hx
theorem BC:∀i,i≤xs.length→∀(p:List aj) (d:Int) (q:List Int) (a m:Int) (l:List S64) (r:List Int),p.length≤4000000→q.length≤4000000→l.length≤30+i→r.length=i→
    Ev (fun k=>ew.l0 k r xs (xs.length:Int) (i:Int) p d q a m l) (gv (xs.drop i) p d q a m l r):=by
  refine down (n:=xs.length) ?_ ?_
  · intro p d q a m l r hp hq hl hr;refine Ev.step (fun k=>by rw[ew.l0]) (aw (by omega) (evs ?_));rw[lN];rfl
  · intro i hi ih p d q a m l r hp hq hl hr;refine Ev.step (fun k=>by rw[ew.l0]) (ai (by omega) (ai (by omega) (ai (by omega) ?_)));rw[vx xs i hi,drop_cons xs i hi];obtain⟨h1,h2,h3⟩:=rK p d q a m l xs[i].f0 xs[i].f1 xs[i].f2 xs[i].f3;refine Ev.bind (yf p d q a m l xs[i].f0 xs[i].f1 xs[i].f2 xs[i].f3 hp hq (by omega)) (ai (by omega) ?_);rw[cm (n:=(i:Int)+1) (by omega) (by omega)];unfold gv;exact ih _ _ _ _ _ _ _ (by rw[h1];exact hp) (by rw[h2];exact hq) (by omega) (by simp;omega)
theorem BD:∀i,i≤xs.length→∀(p:List aj) (d:Int) (q:List Int) (a m:Int) (l:List S64) (r:List Int),p.length≤4000000→q.length≤4000000→l.length≤30+i→r.length=i→
    Ev (fun k=>cJ.l0 k xs r (i:Int) p d q a m l) (gv (xs.drop i) p d q a m l r):=by
  refine down (n:=xs.length) ?_ ?_
  · intro p d q a m l r hp hq hl hr;refine Ev.step (fun k=>by rw[cJ.l0]) (aw (by omega) (evs ?_));rw[lN];rfl
  · intro i hi ih p d q a m l r hp hq hl hr;refine Ev.step (fun k=>by rw[cJ.l0]) (ai (by omega) (ai (by omega) ?_));rw[vx xs i hi,drop_cons xs i hi];obtain⟨h1,h2,h3⟩:=rK p d q a m l xs[i].f0 xs[i].f1 xs[i].f2 xs[i].f3;refine Ev.bind (yh p d q a m l xs[i].f0 xs[i].f1 xs[i].f2 xs[i].f3 hp hq (by omega)) (ai (by omega) ?_);rw[cm (n:=(i:Int)+1) (by omega) (by omega)];unfold gv;exact ih _ _ _ _ _ _ _ (by rw[h1];exact hp) (by rw[h2];exact hq) (by omega) (by simp;omega)
end
section
variable (p:List aj) (d:Int) (q:List Int) (a m:Int) (l:List S64) (xs:List bM) (hp:p.length≤4000000) (hq:q.length≤4000000) (hl:l.length≤1048576)
include hp hq hl
theorem Bv:Ev (fun k=>ew.f k p d q a m l xs) (gJ p d q a m l xs):=by
  have u:Ev (fun k=>ew.j0 k xs true p d q a m l) (p,d,q,a,m,l,[]):=Ev.step (fun k=>by rw[ew.j0]) (ai rfl (Ev.now _));unfold ew.f gJ;refine bc (lL p d q a m l hp hq (by omega)) (Ev.bind (kN p d q a m l (by omega)) ?_);by_cases h0:dX p d q a m l=true;rotate_left
  · exact bf (fun hh=>h0 hh.1) (aw h0 u)
  refine ai h0 ?_;by_cases h1:xs.length≤40;rotate_left
  · exact bf (fun hh=>h1 hh.2) (by rw[show decide ((xs.length:Int)>40)=true from ah (by omega)];exact u)
  refine bC ⟨h0,h1⟩ ?_;rw[show decide ((xs.length:Int)>40)=false from ay (by omega)];have key:=BC xs h1 0 (Nat.zero_le _) p d q a m l [] hp hq (uB (ki.1 h0).2.1) rfl;refine Ev.step (fun k=>by rw[ew.j0]) (aw (by decide) ?_);exact key
theorem Bz:Ev (fun k=>cJ.f k p d q a m l xs) (gJ p d q a m l xs):=by
  have u:Ev (fun k=>cJ.j0 k xs [] true p d q a m l) (p,d,q,a,m,l,[]):=Ev.step (fun k=>by rw[cJ.j0]) (ai rfl (Ev.now _));unfold cJ.f gJ;refine bc (lg p d q a m l hp hq (by omega)) (bc rfl (Ev.bind (kO p d q a m l (by omega)) ?_));by_cases h0:dX p d q a m l=true;rotate_left
  · exact bf (fun hh=>h0 hh.1) (aw h0 u)
  refine ai h0 ?_;by_cases h1:xs.length≤40;rotate_left
  · exact bf (fun hh=>h1 hh.2) (by rw[show decide ((xs.length:Int)>40)=true from ah (by omega)];exact u)
  refine bC ⟨h0,h1⟩ ?_;rw[show decide ((xs.length:Int)>40)=false from ay (by omega)];have key:=BD xs h1 0 (Nat.zero_le _) p d q a m l [] hp hq (uB (ki.1 h0).2.1) rfl;refine Ev.step (fun k=>by rw[cJ.j0]) (aw (by decide) ?_);exact key
end
def cn (n:Int):Prop:= -9223372036854775808≤n∧n≤9223372036854775807
theorem CK (l:List Int) (x:Int):fu (l++[x])=fu l++(32::num x):=by simp[fu]
theorem zC (l:List Int) (x:Int) (h:l≠[]):line (l++[x])=line l++(32::num x):=by
  cases l with
  |nil=>exact absurd rfl h
  |cons a r=>rw[List.cons_append,oy,oy,CK,List.append_assoc]
theorem uy (x:Int):line [x]=num x:=by rw[oy];simp[fu]
theorem wm (l:List Int) (h:∀n∈l,cn n) (hl:l.length≤1048576):Ev (fun k=>fN.f k l) (txt (line l)):=by
  have key:∀i,i≤l.length→Ev (fun k=>fN.l0 k l (txt (line (l.take i))) (i:Int)) (txt (line l)):=by
    refine down (n:=l.length) ?_ ?_
    · exact Ev.step (fun k=>by rw[fN.l0]) (aw (by omega) (evs (by rw[List.take_length])))
    · intro i hi ih;have hq:=h l[i] (List.getElem_mem hi);have hn:=kD _ hq.1 hq.2;have ht:=oz (l.take i) (fun n hn=>h n (List.mem_of_mem_take hn));have u:(l.take i).length=i:=(by rw[List.length_take];omega);refine Ev.step (fun k=>by rw[fN.l0]) (ai (by omega) ?_);rw[ny l i hi,cm (by omega) (by omega)];by_cases hz:i=0
      · subst hz;refine aw (by omega) (ai (by omega) (Ev.bind (lO _ hq.1 hq.2) (ai (by rw[eU,eU];omega) ?_)));rw[iO];rw[show line (List.take (0+1) l)=line (List.take 0 l)++num l[0]from by rw[List.take_succ_eq_append_getElem hi];exact uy _]at ih;exact ih
      · refine ai (by omega) (ai (by rw[eU];omega) (ai (by omega) (Ev.bind (lO _ hq.1 hq.2) (ai ?_ ?_))))
        · rw[show(⟨#[32]⟩:ByteArray)=txt [32]from rfl,iO,eU,eU];simp only[List.length_append,List.length_singleton];omega
        · rw[show(⟨#[32]⟩:ByteArray)=txt [32]from rfl,iO,iO];rw[show line (List.take (i+1) l)=line (List.take i l)++(32::num l[i])from by rw[List.take_succ_eq_append_getElem hi];exact zC _ _ (by intro h0;rw[h0]at u;simp at u;omega)]at ih;rw[show line (List.take i l)++[32]++num l[i]=line (List.take i l)++(32::num l[i])from by simp];exact ih
  unfold fN.f;exact key 0 (Nat.zero_le _)
def om (e:S64):ByteArray:=txt (line [e.f0.f0,e.f0.f1,e.f1,e.f2])
def lf (e:S64):Prop:=cn e.f0.f0∧cn e.f0.f1∧cn e.f1∧cn e.f2
def headText (d:Int) (q:List Int) (a m:Int):List ByteArray:=[txt ([112,105,116,99,104,101,115,32]++line q),txt ([100,111,110,101,32]++num d),txt ([119,97,114,109,116,104,32]++num a),txt ([109,111,109,101,110,116,32]++num m)]
def lz (p:List aj) (d:Int) (q:List Int) (a m:Int) (l:List S64):List ByteArray:=if dX p d q a m l=true then headText d q a m++l.map om else[]
theorem tT {e:S64} (h:lf e):∀n∈[e.f0.f0,e.f0.f1,e.f1,e.f2],cn n:=by
  obtain⟨h1,h2,h3,h4⟩:=h;intro n hn;simp at hn;rcases hn with rfl|rfl|rfl|rfl<;>assumption
theorem vy (l:List S64) (i:Nat) (h:i<l.length):au l (i:Int)=l[i]:=by
  unfold au;simp[List.getD_eq_getElem?_getD,h]
theorem yC (p:List aj) (d:Int) (q:List Int) (a m:Int) (l:List S64) (hd:cn d) (hq:∀n∈q,cn n) (ha:cn a) (hm:cn m) (hl:∀e∈l,lf e) (lq:q.length≤1048576) (ll:l.length≤1048576):
    Ev (fun k=>eB.f k p d q a m l) (lz p d q a m l):=by
  have key:∀i,i≤l.length→Ev (fun k=>eB.l0 k (headText d q a m++(l.take i).map om) (i:Int) p d q a m l) (headText d q a m++l.map om):=by
    refine down (n:=l.length) ?_ ?_
    · exact Ev.step (fun k=>by rw[eB.l0]) (aw (by omega) (evs (by rw[List.take_length])))
    · intro i hi ih;refine Ev.step (fun k=>by rw[eB.l0]) (ai (by omega) (ai (by omega) ?_));rw[vy l i hi,cm (by omega) (by omega)];refine Ev.bind (wm _ (tT (hl l[i] (List.getElem_mem hi))) (by simp)) (ai (by simp[headText];omega) ?_);rw[List.take_succ_eq_append_getElem hi,List.map_append,←List.append_assoc]at ih;exact ih
  unfold eB.f lz;refine Ev.bind (kO p d q a m l (by omega)) ?_;by_cases hok:dX p d q a m l=true
  · rw[af hok];have h1:=oz q hq;have h2:=kD d hd.1 hd.2;have h3:=kD a ha.1 ha.2;have h4:=kD m hm.1 hm.2;refine ai hok (Ev.bind (wm q hq lq) (ai (by rw[eU];omega) (Ev.bind (lO _ hd.1 hd.2) (ai (by rw[eU];omega) (Ev.bind (lO _ ha.1 ha.2) (ai (by rw[eU];omega) (Ev.bind (lO _ hm.1 hm.2) (ai (by rw[eU];omega) ?_))))))));exact key 0 (Nat.zero_le _)
  · rw[ag hok];exact aw hok (Ev.now _)
theorem yB (p:List aj) (d:Int) (q:List Int) (a m:Int) (l:List S64) (hd:cn d) (hq:∀n∈q,cn n) (ha:cn a) (hm:cn m) (hl:∀e∈l,lf e) (lq:q.length≤1048576) (ll:l.length≤1048576):
    Ev (fun k=>eh.f k p d q a m l) (lz p d q a m l):=by
  have key:∀i,i≤l.length→Ev (fun k=>eh.l0 k (headText d q a m++(l.take i).map om) l (l.length:Int) (i:Int)) (headText d q a m++l.map om):=by
    refine down (n:=l.length) ?_ ?_
    · exact Ev.step (fun k=>by rw[eh.l0]) (aw (by omega) (evs (by rw[List.take_length])))
    · intro i hi ih;refine Ev.step (fun k=>by rw[eh.l0]) (ai (by omega) (ai (by omega) (ai (by omega) ?_)));rw[vy l i hi,cm (by omega) (by omega)];refine Ev.bind (qF _ (tT (hl l[i] (List.getElem_mem hi))) (by simp)) (ai (by simp[headText];omega) ?_);rw[List.take_succ_eq_append_getElem hi,List.map_append,←List.append_assoc]at ih;exact ih
  have one:∀x,cn x→Ev (fun k=>b_.f k [x]) (txt (num x)):=fun x hx=>by
    have:=qF [x] (by intro n hn;simp at hn;subst hn;exact hx) (by simp)
    rwa [uy]at this
  unfold eh.f lz;refine Ev.bind (kN p d q a m l (by omega)) ?_;by_cases hok:dX p d q a m l=true
  · rw[af hok];have h1:=oz q hq;have h2:=kD d hd.1 hd.2;have h3:=kD a ha.1 ha.2;have h4:=kD m hm.1 hm.2;refine ai hok (Ev.bind (qF q hq lq) (ai (by rw[eU];omega) (Ev.bind (one _ hd) (ai (by rw[eU];omega) (Ev.bind (one _ ha) (ai (by rw[eU];omega) (Ev.bind (one _ hm) (ai (by rw[eU];omega) ?_))))))));exact key 0 (Nat.zero_le _)
  · rw[ag hok];exact aw hok (Ev.now _)
structure jD (d:Int) (q:List Int) (a m:Int) (l:List S64):Prop where
  d:cn d
  q:∀n∈q,cn n
  a:cn a
  m:cn m
  l:∀e∈l,lf e
theorem qJ (x:Int):cn (wrap64 x):=by unfold cn wrap64;omega
theorem qM:cn 0:=by unfold cn;omega
theorem Ap {x:Int} (h:cn x):cn (iG x):=by
  unfold iG
  split
  · exact h
  · exact qM
theorem wq (a k b:Int):cn (jz a k b):=by
  unfold jz
  repeat' split
  all_goals first|exact qM|exact Ap (qJ _)
theorem sF {q:List Int} (h:∀n∈q,cn n) (i:Nat) {v:Int} (hv:cn v):∀n∈q.set i v,cn n:=fun n hn=>by
  rcases List.mem_or_eq_of_mem_set hn with h1|rfl
  · exact h n h1
  · exact hv
theorem uA:∀(l:List S64) (p:Int),fB p l=true→∀e∈l,lf e
  |[],_,_,e,he=>by simp at he
  |x::r,p,h,e,he=>by
   unfold fB at h;simp only[Bool.and_eq_true]at h;rcases List.mem_cons.1 he with rfl|he
   · have h1:=h.1;unfold l_ at h1;simp only[Bool.and_eq_true,decide_eq_true_eq]at h1;unfold lf cn;omega
   · exact uA r _ h.2.2 e he
theorem zG {l:List S64} (h:dK l=true):∀e∈l,lf e:=by
  unfold dK at h;simp only[Bool.and_eq_true]at h;exact uA l 0 h.1
theorem tD {l:List S64} (h:∀e∈l,lf e) (r n f m:Int):∀e∈(addEntry l r n f m).1,lf e:=by
  unfold addEntry
  split
  · rename_i h2;exact zG h2.2
  · exact h
theorem lW (b:Bool):cn (ko b):=by unfold ko cn;split<;>omega
section
variable {p:List aj} {d:Int} {q:List Int} {a m:Int} {l:List S64}
theorem CZ (h:jD d q a m l):cn (ix p d q).2.1∧∀n∈(ix p d q).2.2.1,cn n:=by
  unfold ix
  split
  · rename_i hw
    have hd:=nK hw;have hl:=kf (mS hw)
    split
    · exact⟨h.d,h.q⟩
    split
    · exact⟨h.d,h.q⟩
    · exact⟨by unfold cn;dsimp only;omega,sF h.q _ (wq _ _ _)⟩
  · exact⟨h.d,h.q⟩
theorem zR (h:jD d q a m l):cn (gW p d q).2.1∧∀n∈(gW p d q).2.2.1,cn n:=by
  unfold gW
  split
  · exact⟨h.d,h.q⟩
  split
  · exact⟨h.d,h.q⟩
  · exact⟨h.d,sF h.q _ (wq _ _ _)⟩
theorem zm (h:jD d q a m l) (c x:Int):cn (iE p d q c x).2.1∧∀n∈(iE p d q c x).2.2.1,cn n:=by
  unfold iE
  split
  · split
    · exact⟨h.d,sF h.q _ (qJ _)⟩
    · exact⟨h.d,h.q⟩
  · exact⟨h.d,h.q⟩
theorem yg (h:jD d q a m l) (n x y z:Int):
    jD (fp p d q a m l n x y z).2.1 (fp p d q a m l n x y z).2.2.1 (fp p d q a m l n x y z).2.2.2.1 (fp p d q a m l n x y z).2.2.2.2.1 (fp p d q a m l n x y z).2.2.2.2.2.1∧cn (fp p d q a m l n x y z).2.2.2.2.2.2:=by
  have ws:=CZ (p:=p) h;have ms:=zR (p:=p) h;have kk:=zm (p:=p) h x y;unfold fp
  split
  · rename_i h0
    obtain⟨hs,ha⟩:=h0;obtain⟨_,_,hw,hm,_⟩:=ki.1 hs
    split
    · unfold gZ;rw[af hs];unfold lX
      split
      · exact⟨⟨ms.1,ms.2,h.a,h.m,h.l⟩,lW _⟩
      · exact⟨⟨ws.1,ws.2,h.a,h.m,h.l⟩,lW _⟩
    split
    · unfold hZ
      split
      · rename_i h2
        dsimp only;exact⟨⟨h.d,h.q,by unfold cn;omega,by unfold cn;omega,h.l⟩,lW _⟩
      · dsimp only;exact⟨h,lW _⟩
    split
    · unfold gX
      split
      · dsimp only;exact⟨⟨h.d,h.q,h.a,h.m,tD h.l _ _ _ _⟩,lW _⟩
      · dsimp only;exact⟨h,lW _⟩
    split
    · unfold gY;rw[af hs];exact⟨⟨kk.1,kk.2,h.a,h.m,h.l⟩,lW _⟩
    split
    · refine⟨⟨h.d,h.q,h.a,h.m,?_⟩,lW _⟩;dsimp only;unfold ly
      split
      · exact tD h.l _ _ _ _
      · exact h.l
    split
    · refine⟨h,?_⟩;dsimp only;unfold nH;rw[af hs];exact qJ _
    · refine⟨h,?_⟩;dsimp only;unfold jh lY
      repeat' split
      all_goals first|exact qM|exact qJ _
  · exact⟨h,by unfold cn;dsimp only;omega⟩
end
theorem vJ:∀(xs:List bM) (p:List aj) (d:Int) (q:List Int) (a m:Int) (l:List S64) (r:List Int),jD d q a m l→(∀n∈r,cn n)→
    jD (gv xs p d q a m l r).2.1 (gv xs p d q a m l r).2.2.1 (gv xs p d q a m l r).2.2.2.1 (gv xs p d q a m l r).2.2.2.2.1 (gv xs p d q a m l r).2.2.2.2.2.1∧∀n∈(gv xs p d q a m l r).2.2.2.2.2.2,cn n
  |[],p,d,q,a,m,l,r,h,hr=>⟨h,hr⟩
  |x::xs,p,d,q,a,m,l,r,h,hr=>by
   obtain⟨h1,h2⟩:=yg (p:=p) h x.f0 x.f1 x.f2 x.f3;unfold gv;refine vJ xs _ _ _ _ _ _ _ h1 ?_;intro n hn;rcases List.mem_append.mp hn with hn|hn
   · exact hr n hn
   · rw[List.mem_singleton.mp hn];exact h2
theorem Bw {p:List aj} {d:Int} {q:List Int} {a m:Int} {l:List S64} (h:jD d q a m l) (xs:List bM):
    jD (gJ p d q a m l xs).2.1 (gJ p d q a m l xs).2.2.1 (gJ p d q a m l xs).2.2.2.1 (gJ p d q a m l xs).2.2.2.2.1 (gJ p d q a m l xs).2.2.2.2.2.1∧∀n∈(gJ p d q a m l xs).2.2.2.2.2.2,cn n:=by
  unfold gJ
  split
  · exact vJ xs _ _ _ _ _ _ _ h (by simp)
  · exact⟨h,by simp⟩
end Q

end Go.Proofs.YtnjfiaekdcekgaaGreatDoor
