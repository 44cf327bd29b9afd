/- What functions of the program come to (f), that their calls come to just this (calls), and the plain laws over lists and numbers, and the law FnExactRunScript: for every argument it answers true. No condition but those of the given row. -/
import Derived.Test.YtnjfiaekdcekgaaGreatDoorRows
import Derived.Test.YtnjfiaekdcekgaaGreatDoorG6
import Derived.WalkKit
import Derived.ProofKit
import Derived.OpenShut
import Derived.ShutString
import Derived.ChangeOld
import Derived.Below
import Derived.SizedLaws
import Derived.Test.YtnjfiaekdcekgaaGreatDoorTie
import Derived.Test.YtnjfiaekdcekgaaGreatDoorCards
import GoSem.PinnedTables
import Derived.SevenTiedAt
import Derived.Stop.Joined
import Derived.Stop.LaidErr
import Derived.LaidLaws
import Derived.LaidMore
import Derived.LaidHandle
import Derived.MakeChecks
set_option linter.unusedVariables false
set_option linter.unusedSimpArgs false
namespace Go.Proofs.YtnjfiaekdcekgaaGreatDoor
namespace Q
open Go.RowKit P WW.bq WW.cd
def oG (n:Int):ByteArray:=txt (num n)
def eP (xs:List bM):=gJ dF.1 dF.2.1 dF.2.2.1 dF.2.2.2.1 dF.2.2.2.2.1 dF.2.2.2.2.2 xs
def outT (xs:List bM):List ByteArray:=(eP xs).2.2.2.2.2.2.map oG++lz (eP xs).1 (eP xs).2.1 (eP xs).2.2.1 (eP xs).2.2.2.1 (eP xs).2.2.2.2.1 (eP xs).2.2.2.2.2.1
def mE (xs:List bM):List ByteArray×Bool:=if xs.length>40 then([],false)else(outT xs,true)
def lS (o:Option (List bM)):List ByteArray×Bool:=match o with
  |none=>([],false)
  |some xs=>mE xs
def mF (s:ByteArray):List ByteArray×Bool:=if s.size>20000 then([],false)else lS (iW (gV [] s.data.toList) [])
theorem BG:jD dF.2.1 dF.2.2.1 dF.2.2.2.1 dF.2.2.2.2.1 dF.2.2.2.2.2:=by
  have z:cn 0:=qM;unfold dF im iF;dsimp only
  split
  · split
    · refine⟨z,?_,by unfold cn;dsimp only;omega,z,by simp⟩;intro n hn;dsimp only[begun]at hn;rcases List.mem_cons.1 hn with rfl|hn
      · unfold cn;omega
      · rw[(List.mem_replicate.1 hn).2];exact z
    · exact⟨z,by simp,by unfold cn;dsimp only;omega,z,by simp⟩
  · exact⟨z,by simp,z,z,by simp⟩
theorem sy (xs:List bM):(eP xs).1.length≤11∧(eP xs).2.2.1.length≤12∧(eP xs).2.2.2.2.2.1.length≤40∧(eP xs).2.2.2.2.2.2.length≤40:=by
  obtain⟨h1,h2,h3⟩:=sA;obtain⟨g1,g2,g3,g4⟩:=Bx dF.1 dF.2.1 dF.2.2.1 dF.2.2.2.1 dF.2.2.2.2.1 dF.2.2.2.2.2 xs;unfold eP;exact⟨by rw[g1];exact h1,by omega,by omega,g4⟩
theorem sG {p:List aj} {d:Int} {q:List Int} {a m:Int} {l:List S64}:(lz p d q a m l).length≤l.length+4:=by
  unfold lz
  split
  · simp[headText]<;>omega
  · simp
section
variable {p:List aj} {d:Int} {q:List Int} {a m:Int} {l:List S64} (hin:jD d q a m l) (lq:q.length≤12) (ll:l.length≤40) (r:List Int) (hr:∀n∈r,cn n) (lr:r.length≤40)
include hin lq ll hr lr
theorem Bp:∀i,i≤r.length→Ev (fun k=>cE.l1 k ((r.take i).map oG) r (r.length:Int) (i:Int) p d q a m l) (r.map oG++lz p d q a m l,true):=by
  refine down (n:=r.length) ?_ ?_
  · have F:=yB p d q a m l hin.d hin.q hin.a hin.m hin.l (by omega) (by omega);have hT:=sG (p:=p) (d:=d) (q:=q) (a:=a) (m:=m) (l:=l);refine Ev.step (fun k=>by rw[cE.l1]) (aw (by omega) (Ev.bind F (ai ?_ (evs ?_))))
    · simp;omega
    · rw[List.take_length]
  · intro i hi ih;have hn:=hr r[i] (List.getElem_mem hi);refine Ev.step (fun k=>by rw[cE.l1]) (ai (by omega) (ai (by omega) (ai (by omega) ?_)));rw[ny r i hi,cm (by omega) (by omega)];refine bc (ua _ hn.1 hn.2) (ai (by simp;omega) ?_);rw[List.take_succ_eq_append_getElem hi,List.map_append]at ih;exact ih
theorem Bt:∀i,i≤r.length→Ev (fun k=>bY.l1 k r ((r.take i).map oG) (i:Int) p d q a m l) (r.map oG++lz p d q a m l,true):=by
  refine down (n:=r.length) ?_ ?_
  · have F:=yC p d q a m l hin.d hin.q hin.a hin.m hin.l (by omega) (by omega);have hT:=sG (p:=p) (d:=d) (q:=q) (a:=a) (m:=m) (l:=l);refine Ev.step (fun k=>by rw[bY.l1]) (aw (by omega) (Ev.bind F (ai ?_ (evs ?_))))
    · simp;omega
    · rw[List.take_length]
  · intro i hi ih;have hn:=hr r[i] (List.getElem_mem hi);refine Ev.step (fun k=>by rw[bY.l1]) (ai (by omega) (ai (by omega) ?_));rw[ny r i hi,cm (by omega) (by omega)];refine Ev.bind (lO _ hn.1 hn.2) (ai (by simp;omega) ?_);rw[List.take_succ_eq_append_getElem hi,List.map_append]at ih;exact ih
end
theorem vL (xs:List bM):jD (eP xs).2.1 (eP xs).2.2.1 (eP xs).2.2.2.1 (eP xs).2.2.2.2.1 (eP xs).2.2.2.2.2.1∧∀n∈(eP xs).2.2.2.2.2.2,cn n:=Bw BG xs
theorem Bq (xs:List bM) (L:List ByteArray):Ev (fun k=>cE.l0 k xs L (L.length:Int) (L.length:Int)) (mE xs):=by
  refine Ev.step (fun k=>by rw[cE.l0]) (aw (by omega) ?_);unfold mE;refine er (fun h=>bC (by omega) (Ev.now _)) (fun h=>bf (by omega) ?_);obtain⟨h1,h2,h3⟩:=sA;have R:=Bv dF.1 dF.2.1 dF.2.2.1 dF.2.2.2.1 dF.2.2.2.2.1 dF.2.2.2.2.2 xs (by omega) (by omega) (by omega);obtain⟨g1,g2,g3,g4⟩:=sy xs;obtain⟨i1,i2⟩:=vL xs;have K:=Bp (p:=(eP xs).1) i1 g2 g3 _ i2 g4 0 (Nat.zero_le _);exact Ev.bind BF (Ev.bind R K)
theorem Bo (u:List (List UInt8)) (hL:u.length≤20001):∀i,i≤u.length→∀acc:List bM,acc.length≤i→Ev (fun k=>cE.l0 k acc (u.map txt) ((u.map txt).length:Int) (i:Int)) (lS (iW (u.drop i) acc)):=by
  refine down (n:=u.length) ?_ ?_
  · intro acc ha;rw[List.drop_length,iW];have:=Bq acc (u.map txt);rw[List.length_map]at this ⊢;exact this
  · intro i hi ih acc ha;have e:bF ByteArray.empty (u.map txt) (i:Int)=txt u[i]:=(by simp[bF,List.getD_eq_getElem?_getD,hi]);refine Ev.step (fun k=>by rw[cE.l0]) (ai (by simp;omega) (ai (by omega) (ai (by simp;omega) ?_)));rw[e,List.drop_eq_getElem_cons hi,iW];have P:=yQ (txt u[i]);have hP:eO (txt u[i])=eO (txt u[i]):=rfl
    have J:¬nZ (txt u[i])→Ev (fun k=>cE.j1 k acc (txt u[i]) (u.map txt) ((u.map txt).length:Int) (i:Int) false) (lS (if(eO (txt u[i])).2.2.2.2=true then iW (u.drop (i+1)) (acc++[⟨(eO (txt u[i])).1,(eO (txt u[i])).2.1,(eO (txt u[i])).2.2.1,(eO (txt u[i])).2.2.2.1⟩])else none)):=by
      intro hb;refine Ev.step (fun k=>by rw[cE.j1]) (aw (by decide) (Ev.bind P ?_));show Ev (fun k=>if(eO (txt u[i])).2.2.2.2=true then _ else _) _;by_cases h:(eO (txt u[i])).2.2.2.2=true
      · rw[af h];refine ai h (ai (by omega) ?_);rw[cm (by omega) (by omega)];exact ih _ (by simp;omega)
      · rw[ag h];exact aw h (Ev.now _)
    refine Ev.bind (tZ (txt u[i])) ?_;by_cases hf:(eu (txt u[i])).2=true
    · refine ai hf ?_;by_cases hb:((eu (txt u[i])).1.length:Int)=0
      · rw[af ⟨hf,hb⟩,show(((eu (txt u[i])).1.length:Int)==0)=true from beq_iff_eq.2 hb];refine Ev.step (fun k=>by rw[cE.j1]) (ai rfl ?_);rw[cm (by omega) (by omega)];exact ih _ (by omega)
      · rw[ag (fun hh=>hb hh.2),show(((eu (txt u[i])).1.length:Int)==0)=false from beq_eq_false_iff_ne.2 hb];exact J (fun hh=>hb hh.2)
    · rw[ag (fun hh=>hf hh.1)];exact aw hf (J (fun hh=>hf hh.1))
theorem BJ (s:ByteArray):Ev (fun k=>cE.f k s) (mF s):=by
  unfold cE.f mF;refine er (fun h=>bC (by omega) (Ev.now _)) (fun h=>bf (by omega) ?_);have hsz:s.size≤20000:=by omega
  refine bc (a:=Go.Lib.splitB (⟨#[10]⟩:ByteArray) 0 (Go.Lib.countB s ⟨#[10]⟩) s) (by unfold strings_Split.f;rw[af ⟨rfl,by omega⟩]) ?_
  have e:Go.Lib.splitB (⟨#[10]⟩:ByteArray) 0 (Go.Lib.countB s ⟨#[10]⟩) s=(gV [] s.data.toList).map txt:=by
    have e1:(Go.Lib.splitB (⟨#[10]⟩:ByteArray) 0 (Go.Lib.countB s ⟨#[10]⟩) s).map (·.data.toList)=Go.Lib.split s.data.toList [10]:=(by rw[Go.Lib.splitB_data];rfl);rw[←Cl,←e1,List.map_map]
    conv=>lhs;rw[←List.map_id (Go.Lib.splitB (⟨#[10]⟩:ByteArray) 0 (Go.Lib.countB s ⟨#[10]⟩) s)]
    exact List.map_congr_left (fun p _=>(wz p).symm)
  rw[e];have hl:s.data.toList.length=s.size:=Array.length_toList;have h1:=rT s.data.toList [];have:=Bo (gV [] s.data.toList) (by omega) 0 (Nat.zero_le _) [] (Nat.le_refl _);rw[List.drop_zero]at this;exact this
theorem Bu (xs:List bM) (s:ByteArray) (b:Int):Ev (fun k=>bY.l0 k s [] xs b ((s.size:Int)+1)) (mE xs):=by
  refine Ev.step (fun k=>by rw[bY.l0]) (aw (by omega) ?_);unfold mE;refine er (fun h=>bC (by omega) (Ev.now _)) (fun h=>bf (by omega) ?_);obtain⟨h1,h2,h3⟩:=sA;have R:=Bz dF.1 dF.2.1 dF.2.2.1 dF.2.2.2.1 dF.2.2.2.2.1 dF.2.2.2.2.2 xs (by omega) (by omega) (by omega);obtain⟨g1,g2,g3,g4⟩:=sy xs;obtain⟨i1,i2⟩:=vL xs;have K:=Bt (p:=(eP xs).1) i1 g2 g3 _ i2 g4 0 (Nat.zero_le _);exact Ev.bind BH (Ev.bind R K)
section
variable (s:ByteArray)
theorem vI (w:List UInt8) (acc:List bM) (ha:acc.length≤20001) (i:Nat) (hi:i≤20001) (O:List bM→Option (List bM)) (u:∀acc':List bM,acc'.length≤acc.length+1→Ev (fun k=>bY.l0 k s [] acc' ((i:Int)+1) ((i:Int)+1)) (lS (O acc'))):
    Ev (fun k=>(cB.f k (txt w)).bind fun t=>(if t.2=true then(bY.j2 k s [] acc ((i:Int)+1) (i:Int) (txt w) ((t.1.length:Int)==0))else(bY.j2 k s [] acc ((i:Int)+1) (i:Int) (txt w) false)))
      (lS (if nZ (txt w)then O acc else if(eO (txt w)).2.2.2.2=true then O (acc++[⟨(eO (txt w)).1,(eO (txt w)).2.1,(eO (txt w)).2.2.1,(eO (txt w)).2.2.2.1⟩])else none)):=by
  have P:=Ce (txt w)
  have J:¬nZ (txt w)→Ev (fun k=>bY.j2 k s [] acc ((i:Int)+1) (i:Int) (txt w) false) (lS (if(eO (txt w)).2.2.2.2=true then O (acc++[⟨(eO (txt w)).1,(eO (txt w)).2.1,(eO (txt w)).2.2.1,(eO (txt w)).2.2.2.1⟩])else none)):=by
    intro hb;refine Ev.step (fun k=>by rw[bY.j2]) (aw (by decide) (Ev.bind P ?_));show Ev (fun k=>if(eO (txt w)).2.2.2.2=true then _ else _) _;by_cases h:(eO (txt w)).2.2.2.2=true
    · rw[af h];refine ai h (ai (by omega) ?_);rw[show wrap64 ((i:Int)+1)=(i:Int)+1 by unfold wrap64;omega];exact u _ (by simp)
    · rw[ag h];exact aw h (Ev.now _)
  refine Ev.bind (t_ (txt w)) ?_;by_cases hf:(eu (txt w)).2=true
  · refine ai hf ?_;by_cases hb:((eu (txt w)).1.length:Int)=0
    · rw[af ⟨hf,hb⟩,show(((eu (txt w)).1.length:Int)==0)=true from beq_iff_eq.2 hb];refine Ev.step (fun k=>by rw[bY.j2]) (ai rfl ?_);rw[show wrap64 ((i:Int)+1)=(i:Int)+1 by unfold wrap64;omega];exact u _ (by omega)
    · rw[ag (fun hh=>hb hh.2),show(((eu (txt w)).1.length:Int)==0)=false from beq_eq_false_iff_ne.2 hb];exact J (fun hh=>hb hh.2)
  · rw[ag (fun hh=>hf hh.1)];exact aw hf (J (fun hh=>hf hh.1))
theorem Br (hsz:s.size≤20000):∀(e i a:Nat) (acc:List bM),i+e=s.size→a≤i→acc.length≤i→
    Ev (fun k=>bY.l0 k s [] acc (a:Int) (i:Int)) (lS (iW (gV ((s.data.toList.drop a).take (i-a)) (s.data.toList.drop i)) acc)):=by
  have hl:s.data.toList.length=s.size:=Array.length_toList
  have ext:∀a i:Nat,a≤i→s.extract a i=txt ((s.data.toList.drop a).take (i-a)):=by
    intro a i h;apply ByteArray.ext;apply Array.toList_inj.mp;simp[txt,ByteArray.data_extract]
  have u:∀a i:Nat,a≤i→(hi:i<s.data.toList.length)→(s.data.toList.drop a).take (i+1-a)=(s.data.toList.drop a).take (i-a)++[s.data.toList[i]]:=by
    intro a i h1 hi;rw[show i+1-a=(i-a)+1 by omega,List.take_succ_eq_append_getElem (by rw[List.length_drop];omega),List.getElem_drop]
    congr 2
    congr 1
    omega
  intro e
  induction e with
  |zero=>
   intro i a acc h ha hc;have hi:i=s.size:=(by omega);refine Ev.step (fun k=>by rw[bY.l0]) (ai (by omega) (aw (by omega) ?_));refine Ev.step (fun k=>by rw[bY.j1]) (aw (by decide) (ai (by omega) (ai (by omega) (ai (by omega) ?_))));rw[List.drop_eq_nil_of_le (show s.data.toList.length≤i by omega),gV,iW,Int.toNat_natCast,Int.toNat_natCast,ext a i ha,show wrap64 ((i:Int)+1)=(i:Int)+1 by unfold wrap64;omega];refine vI s _ acc (by omega) i (by omega) (fun acc'=>iW [] acc') ?_;intro acc' _;rw[iW,hi];exact Bu acc' s _
  |succ e ih=>
   intro i a acc h ha hc;have hi:i<s.data.toList.length:=(by omega);have z:=u a i ha hi;refine Ev.step (fun k=>by rw[bY.l0]) (ai (by omega) (ai (by omega) (ai (by omega) ?_)));rw[nb s i hi,List.drop_eq_getElem_cons hi,gV];by_cases h10:s.data.toList[i]=10
   · rw[af h10,iW,h10,show(((10:UInt8).toNat:Int) != 10)=false from by decide];refine Ev.step (fun k=>by rw[bY.j1]) (aw (by decide) (ai (by omega) (ai (by omega) (ai (by omega) ?_))));rw[Int.toNat_natCast,Int.toNat_natCast,ext a i ha,show wrap64 ((i:Int)+1)=(i:Int)+1 by unfold wrap64;omega];refine vI s _ acc (by omega) i (by omega) (fun acc'=>iW (gV [] (s.data.toList.drop (i+1))) acc') ?_;intro acc' h';have:=ih (i+1) (i+1) acc' (by omega) (Nat.le_refl _) (by omega);rw[Nat.sub_self,List.take_zero]at this;exact this
   · have hn:(s.data.toList[i]).toNat≠10:=fun hh=>h10 (UInt8.toNat_inj.mp hh);rw[ag h10,show(((s.data.toList[i]).toNat:Int) != 10)=true from bne_iff_ne.mpr (by omega)];refine Ev.step (fun k=>by rw[bY.j1]) (ai rfl ?_);rw[cm (by omega) (by omega),←z];exact ih (i+1) a acc (by omega) (by omega) (by omega)
end
theorem BL (s:ByteArray):Ev (fun k=>bY.f k s) (mF s):=by
  unfold bY.f mF;refine bc (a:=[]) rfl (er (fun h=>bC (by omega) (Ev.now _)) (fun h=>bf (by omega) ?_));have:=Br s (by omega) s.size 0 0 [] (Nat.zero_add _) (Nat.le_refl _) (Nat.le_refl _);simp only[List.drop_zero,List.take_zero,Nat.sub_self]at this;exact this
end Q
namespace Pure
open Go.RowKit P Q WW.bq WW.cg
theorem BI (xs:List bM):(mE xs).1.length≤100:=by
  unfold mE
  split
  · simp
  · obtain⟨g1,g2,g3,g4⟩:=sy xs;have hT:=sG (p:=(eP xs).1) (d:=(eP xs).2.1) (q:=(eP xs).2.2.1) (a:=(eP xs).2.2.2.1) (m:=(eP xs).2.2.2.2.1) (l:=(eP xs).2.2.2.2.2.1);unfold outT;simp;omega
theorem BK (s:ByteArray):(mF s).1.length≤100:=by
  unfold mF
  split
  · simp
  · unfold lS
    split
    · simp
    · exact BI _
theorem wX (s:ByteArray) (h:s.size≤maxLen):∃k,fI.f k s=some true:=by
  refine Ev.rounds ?_;unfold fI.f;by_cases hs:(s.size:Int)>1048576
  · exact ai hs (Ev.now _)
  refine aw hs ?_;have A:=BL s;have B:=BJ s;have L:=BK s;generalize mF s=R at*;have S:=yn R.1 (by omega);have G:=zL R.1 1 (by omega) (by omega) (by omega);have H:=yL 1 R.1.length (by omega) (by omega) (by omega);have hb:(R.2 != R.2)=false:=by simp
  refine Ev.bind A (Ev.bind B (Ev.bind S (ai rfl ?_)));rw[hb];refine Ev.step (fun k=>by rw[fI.j0]) (aw (by decide) (Ev.bind G (Ev.bind H ?_)));refine aw (by omega) ?_;refine ai rfl (Ev.bind B (Ev.bind S (ai rfl ?_)));rw[hb];refine Ev.step (fun k=>by rw[fI.j1]) (aw (by decide) (Ev.bind H ?_));refine aw (by omega) ?_;exact ai rfl (Ev.now _)
end Pure
end Go.Proofs.YtnjfiaekdcekgaaGreatDoor
namespace Go.Proofs.YtnjfiaekdcekgaaGreatDoor.ub
open Go.ChangeShapes Go.WideShapes Go.ChangeAt Go.RowKit Go.Proofs.YtnjfiaekdcekgaaGreatDoor.P Go.Proofs.YtnjfiaekdcekgaaGreatDoor.Q Go.Proofs.YtnjfiaekdcekgaaGreatDoor.WW.bq
open Go.ChangeMaps (open_string shut_string)
theorem own:ownKnob Tryz.prog.godebug=none:=by kernel_rfl
theorem laidOut:laidOutB Tryz.prog=true:=by kernel_rfl
noncomputable def tR (os:Os):World:=let w0:=World.doorLaid Tryz.prog 400 os;{w0 with heap:=w0.heap.modify ((Tryz.prog.globalNamed "unicode/utf8.first").getD 0) fun
  | .cells _ t fz=> .cells (Go.Pinned.utf8FirstZ.map fun(z:Nat)=>Value.int .u8 z).toArray t fz
  |o=>o}
def ox:List (String×DataW Unit):=[("math/bits.deBruijn32tab",Rows.laid_math_bits_deBruijn32tab),("math/bits.deBruijn64tab",Rows.laid_math_bits_deBruijn64tab),("internal/strconv.uint64pow10",Rows.laid_internal_strconv_uint64pow10),("unicode/utf8.acceptRanges",Rows.laid_unicode_utf8_acceptRanges),("strconv.ErrRange",Rows.laid_strconv_ErrRange),("strconv.ErrSyntax",Rows.laid_strconv_ErrSyntax),("unicode/utf8.first",Rows.laid_unicode_utf8_first)]
theorem yi (os:Os) (args:Array Value):laidMetH Tryz.prog ox ((tR os).forCall (fun _ _=>0) ⟨#[],args,[]⟩).memory:=
  laidMetH_of_parts3 (fuel:=8) (laidMet_of_run' 8 (by kernel_rfl) (by kernel_rfl)) (by kernel_rfl) (by kernel_rfl)
theorem CH {W:World} (h:laidMetH Tryz.prog ox W):mZ W:=by
  rw[MakeChecks.laidMetH_plain _ _ _ (by kernel_rfl)]at h;refine⟨?_,yo h.tail.tail.tail.tail.tail h.tail.tail.tail.tail⟩;exact Go.Lib.tabIs_of_head (g:=3) (by kernel_rfl) (by kernel_rfl) Tryz.underlying171 Tryz.underlying155 (by kernel_rfl) (by kernel_rfl) h.tail.tail
set_option maxRecDepth 100000 in
theorem lifted (os:Os) (started:os.Started) (H:Type) (enc:TypeId×Value→H):
    ReturnsInHanded {} Tryz.checked os 5 .any (fun w args=>(Rows.fnExactRunScriptSpec.pre enc Tryz.prog Tryz.f5 [] false w args∧laidMetH Tryz.prog ox w)∧sizedMet enc Tryz.prog Tryz.f5 (OpenSpec.ofChange Rows.fnExactRunScriptSpec) false w args) (Rows.fnExactRunScriptSpec.post enc Tryz.prog Tryz.f5 false true false false):=by
  refine returnsInHanded_of_change_and (C:=Tryz.checked) (X:=fun w _=>laidMetH Tryz.prog ox w) (fun _ _ _ hh h=>h.of_heap hh) own started (by kernel_rfl) Tryz.func5
    (ChangeSpec.witness_shaped (enc:=enc) (C:=Tryz.checked) (os:=os) (X:=fun w _=>laidMetH Tryz.prog ox w) false (tR os) #[.string ByteArray.empty] 8 rfl (World.shaped_of_RefB (by kernel_rfl) (by kernel_rfl)) (by kernel_rfl) (by kernel_rfl) (by kernel_rfl) (yi os _)) ?_
  intro W base args ds gs before G hW hcnd O hL _;have htab:=CH hL;have hval:∀(j:Nat) t v,Tryz.f5.params[j]? =some t→args[j]? =some v→Value.okWide Tryz.prog W .any base t v:=G;have F:=hW;obtain⟨p,q,D,hV,rfl,hfz,hnd⟩:=hW;have hA:DataW.TrodAll enc Tryz.prog W 0 (fun _=>true) true Tryz.f5.params.toList args.toList ds p:=D;rw[Tryz.params5]at hA hval;obtain⟨v0,U,d0,K,p0,q0,hargs,rfl,rfl,h0,J⟩:=trodAll_cons hA;obtain⟨rfl,rfl,rfl⟩:=trodAll_nil J;obtain rfl:args= #[v0]:=by cases args;simp_all
  obtain⟨rfl,rfl⟩:=trodVars_none hV;have k0:=h0;have I:∀x∈p0,x.block<W.heap.size:=by obtain⟨m,hm⟩:=k0;exact DataW.trod_lt m _ _ _ hm
  obtain⟨a0,rfl,rfl,rfl,w0⟩:=open_string Tryz.underlying9 (hval 0 9 v0 rfl rfl) h0;obtain⟨k,hP⟩:=Pure.wX a0 w0;refine(P.fI.c k a0 true W  hP ⟨rfl⟩ ⟨htab⟩).mono fun e W' ⟨he,z⟩=> ?_;have u:Below W.heap.size W W':=z;subst he;exact⟨_,rfl,_,_,_,[],_,[],F,trodAll_mk1 (shut_bool Tryz.underlying4 _),(trodAll_cons_mk (Below.trod laidOut (by kernel_rfl) (of_decide_eq_true (by kernel_rfl)) k0 u I) trodAll_mk0),rfl,u.frame _,fun h=>by cases h⟩
theorem over:Rows.fnExactRunScriptRow.holds Tryz.pinned (OpenSpec.ofChange Rows.fnExactRunScriptSpec):=
  OpenClaim.holds_of_wide 5 Tryz.f5 rfl rfl rfl rfl rfl rfl rfl ⟨rfl,rfl,rfl,rfl,rfl⟩ rfl rfl rfl rfl rfl (by kernel_rfl) Tryz.func5 (by kernel_rfl)
    (of_decide_eq_true (by kernel_rfl)) (by unfold Func.isWrapper;first|(rw[af (by decide+kernel)];kernel_rfl)|(rw[ag (by decide+kernel)];exact⟨rfl,rfl⟩))
    (fun os started H enc _=>lifted os started H enc)
theorem proved:Rows.FnExactRunScriptCardSaid:=
  Claim7.holds_tied_plain_at .later [] [.data,.data,.data,.data,.sentinel,.sentinel,.pinned] true (true,"4050f4a83c7a486e796be1258334ad9bcb4c2ca5d9b2abe12ef7f224548e6b1f") true
    over (fun _ h=>by cases h) (by kernel_rfl) (fun _ h=>by cases h) fnExactRunScript_row_tie rfl ⟨rfl,rfl⟩ (by kernel_rfl) rfl
    (fun f fn hf hfn=>by
      obtain rfl:f=5:=aH ((show Tryz.prog.funcNamed "loop.example/g00989/laws.FnExactRunScript" =some 5 by kernel_rfl).symm.trans hf) |>.symm;obtain rfl:fn=Tryz.f5:=(aH (Tryz.func5.symm.trans hfn)).symm
      exact⟨by kernel_rfl,fun j t ht=>by
        rw[Tryz.params5]at ht;have hm:t∈([9]:List Nat):=(by simpa using Array.mem_of_getElem? ht);have hall:(([9]:List Nat).all fun u=> !Tryz.prog.wantsStandIn u)=true:=(by kernel_rfl);exact(show Tryz.prog.wantsStandIn t=false by simpa using List.all_eq_true.1 hall t hm)⟩)
    (by kernel_rfl)
#print axioms proved
end Go.Proofs.YtnjfiaekdcekgaaGreatDoor.ub
namespace Go.Proofs.YtnjfiaekdcekgaaGreatDoor
theorem fnExactRunScript_holds:Rows.FnExactRunScriptCardSaid:=ub.proved
end Go.Proofs.YtnjfiaekdcekgaaGreatDoor
