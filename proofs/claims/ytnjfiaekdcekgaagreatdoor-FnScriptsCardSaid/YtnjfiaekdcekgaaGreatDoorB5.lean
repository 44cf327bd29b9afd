/- What functions of the program come to (f), that their calls come to just this (calls), and the plain laws over lists and numbers. No condition but those of the given row. -/
import Derived.Test.YtnjfiaekdcekgaaGreatDoorB4
import Derived.Sort.WalkA6
import Derived.Sort.WalkC
import Derived.Sort.LotC
import Derived.Shelf.SlSortFuncK.PdqK
import Derived.RangeFuncBox
set_option linter.unusedVariables false
set_option linter.unusedSimpArgs false
namespace Go.Proofs.YtnjfiaekdcekgaaGreatDoor.S
open Go.RowKit Go.Sort Go.Proofs.YtnjfiaekdcekgaaGreatDoor.P Go.Proofs.YtnjfiaekdcekgaaGreatDoor.Q Go.Proofs.YtnjfiaekdcekgaaGreatDoor.V Go.Proofs.YtnjfiaekdcekgaaGreatDoorW.bS
attribute [local go_sem] fV fW N1
theorem ag9 {lt:E→E→Bool} {a b:Nat} {D:Array E} (h:b-a<50):partialInsertionSort lt D a b=(D,decide (scanSorted lt D b (a+1)=b)):=by
  unfold partialInsertionSort;rw[partialIns];by_cases hb:scanSorted lt D b (a+1)=b
  · simp[hb]
  · simp[hb,h]
set_option maxHeartbeats 8000000 in
set_option maxRecDepth 100000 in
set_option synthInstance.maxHeartbeats 400000 in
set_option synthInstance.maxSize 100000 in
theorem ag8 (C:fU) [gQ C] (w:World) (D:Array E) (h:eo C w D) (a b:Nat) (hab:a<b) (hb:b≤C.n):
    Calls Tryz.prog 196 #[n9 C,.int .i64 a,.int .i64 b] w fun e w'=>∃r:Bool,e= .returned (.bool r)∧partialInsertionSort aQ D a b=(D,r)∧RowKit.Below w.heap.size w w':=by
  have j0:=So.mk h;have hsm:=gQ.small (C:=C);have HP:=aj.mk (ag9 (lt:=aQ) (D:=D) (show b-a<50 by omega));have rU:=mC w (.cells (gv C) 184);have d50:decide ((b:Int)-(a:Int)<50)=true:=decide_eq_true (by omega);clear h;have hu:=Tryz.underlying184;go_enter Tryz.func196,Tryz.ntmps196;go_wp2
  go_loopw [7,8] (fun v7 v8 wr=>v7= .int .i64 ((a:Int)+1)∧v8= .int .i64 0∧So C wr D∧From w wr∧a7 wr w.heap.size (gv C) 184) (fun _ _ _=>0)
  case atStart=>exact⟨rfl,rfl,inferInstance,inferInstance,⟨rU⟩⟩
  case round=>
    clear j0 rU;obtain⟨rfl,rfl,j1,j2,j3⟩:=hrel;go_wp2
    go_loopw [7] (fun v7 wr=>∃i:Nat,v7= .int .i64 i∧aj (a<i)∧aj (i≤b)∧So C wr D∧From w wr∧a7 wr w.heap.size (gv C) 184∧aj (scanSorted aQ D b i=scanSorted aQ D b (a+1))) (fun v _=>b-(intOf v).toNat)
    case atStart=>exact⟨a+1,by go_num,⟨by omega⟩,⟨by omega⟩,j1,j2,j3,⟨rfl⟩⟩
    case round=>
      clear j1 j2 j3;obtain⟨i,rfl,HA,HB,j1,j2,j3,HO⟩:=hrel;have hia:=HA.out;have hib:=HB.out;by_cases c1:i<b
      · have d1:decide ((i:Int)<(b:Int))=true:=decide_eq_true (by omega);have d3:((i:Int)==(b:Int))=false:=beq_eq_false_iff_ne.mpr (by omega);have x1:Ix (i:Int) C.n:=⟨by omega,by omega⟩;have x2:Ix ((i:Int)-1) C.n:=⟨by omega,by omega⟩;cases l:aQ D[i]! D[i-1]! with
        |true=>
         have y1:eE D (i:Int) ((i:Int)-1) true:=eE.of l rfl (by omega);have hs:=aj.mk (scanSorted_stop (lt:=aQ) D b i (.inr l));clear l
         go_wp2_with (first|(go_at_call 153;refine(kJ _ _).mono ?_;rintro e w2 ⟨rfl,hb⟩;have jb:=aK.mk hb;clear hb))
         go_ret;refine⟨false,rfl,?_,From.out⟩;rw[HP.out,←HO.out,hs.out,decide_eq_false (by omega)]
        |false=>
         have y1:eE D (i:Int) ((i:Int)-1) false:=eE.of l rfl (by omega);have hs:=aj.mk (scanSorted_go (lt:=aQ) D b i c1 l);clear l
         go_wp2_with (first|(go_at_call 153;refine(kJ _ _).mono ?_;rintro e w2 ⟨rfl,hb⟩;have jb:=aK.mk hb;clear hb))
         exact⟨⟨i+1,by go_num,⟨by omega⟩,⟨by omega⟩,inferInstance,inferInstance,inferInstance,⟨by rw[←HO.out,hs.out]⟩⟩,by simp[intOf];omega⟩
      · have d1:decide ((i:Int)<(b:Int))=false:=decide_eq_false (by omega);obtain rfl:i=b:=(by omega);have hs:=aj.mk (scanSorted_stop (lt:=aQ) D i i (.inl (by omega)));go_wp2;go_ret;refine⟨true,rfl,?_,From.out⟩;rw[HP.out,←HO.out,hs.out,decide_eq_true rfl]
theorem Vq (D:Array E) (a b p i j:Nat) (hi:scanUp (fun x=>aQ x (swp D a p)[a]!) (swp D a p) (b-1) (a+1)=i) (hj:scanDown (fun x=> !aQ x (swp D a p)[a]!) (swp D a p) i (b-1)=j) (h:i>j):
    partition aQ D a b p=(j,true,swp (swp D a p) j a):=by
  unfold partition;simp only[hi,hj,if_pos h]
theorem ahc (D:Array E) (a b p i j:Nat) (hi:scanUp (fun x=>aQ x (swp D a p)[a]!) (swp D a p) (b-1) (a+1)=i) (hj:scanDown (fun x=> !aQ x (swp D a p)[a]!) (swp D a p) i (b-1)=j) (h:¬i>j):
    partition aQ D a b p=((partLoop aQ a (i+1) (j-1) (swp (swp D a p) i j)).1,false,swp (partLoop aQ a (i+1) (j-1) (swp (swp D a p) i j)).2 (partLoop aQ a (i+1) (j-1) (swp (swp D a p) i j)).1 a):=by
  unfold partition;simp only[hi,hj,if_neg h]
set_option maxHeartbeats 16000000 in
set_option maxRecDepth 100000 in
set_option synthInstance.maxHeartbeats 400000 in
set_option synthInstance.maxSize 100000 in
theorem ahb (C:fU) [gQ C] (w:World) (D:Array E) (h:eo C w D) (a b p:Nat) (hap:a≤p) (hpb:p<b) (hb:b≤C.n):
    Calls Tryz.prog 198 #[n9 C,.int .i64 a,.int .i64 b,.int .i64 p] w fun e w'=>e= .returned (.tuple #[.int .i64 (partition aQ D a b p).1,.bool (partition aQ D a b p).2.1])∧eo C w' (partition aQ D a b p).2.2∧w.grownBy w' (some C.g):=by
  have j0:=So.mk h;have hsm:=gQ.small (C:=C);have jx:iL w.heap.size C.g:=⟨Nat.ne_of_gt h.lt⟩;have jy0:=a7.mk (mC w (.cells (gv C) 184));have x5:Ix (a:Int) C.n:=⟨by omega,by omega⟩;have x6:Ix (p:Int) C.n:=⟨by omega,by omega⟩;obtain⟨R,hRR⟩:∃R,partition aQ D a b p=R:=⟨_,rfl⟩;rw[hRR];have hRR:=aj.mk hRR.symm;clear h;have hu:=Tryz.underlying184;go_enter Tryz.func198,Tryz.ntmps198;go_wp2;have jq:So C (sg C D (w.alloc (.cells (gv C) 184)) (a:Int) (p:Int)) (swp D a p):=⟨so_cast (D':=swp D a p) inferInstance rfl⟩;have jf:Fr C w (sg C D (w.alloc (.cells (gv C) 184)) (a:Int) (p:Int)):=inferInstance;have jy:a7 (sg C D (w.alloc (.cells (gv C) 184)) (a:Int) (p:Int)) w.heap.size (gv C) 184:=inferInstance;clear j0 jy0
  go_loopw [10] (fun v wr=>∃i1:Nat,v= .int .i64 i1∧aj (a<i1)∧aj (i1≤b-1+1)∧So C wr (swp D a p)∧Fr C w wr∧a7 wr w.heap.size (gv C) 184∧aj (scanUp (fun x=>aQ x (swp D a p)[a]!) (swp D a p) (b-1) i1=scanUp (fun x=>aQ x (swp D a p)[a]!) (swp D a p) (b-1) (a+1))) (fun v _=>b-1+1-(intOf v).toNat)
  case atStart=>exact⟨a+1,by first|rfl|go_num,⟨by omega⟩,⟨by omega⟩,inferInstance,inferInstance,inferInstance,⟨rfl⟩⟩
  case round=>
    clear jq jy jf;obtain⟨i1,rfl,YQ,xe,m1,m2,m3,p8⟩:=hrel;have ha1:=YQ.out;have hb1:=xe.out;have x2:Ix (a:Int) C.n:=⟨by omega,by omega⟩;by_cases c1:i1≤b-1∧aQ (swp D a p)[i1]! (swp D a p)[a]! =true
    · obtain⟨c1,l⟩:=c1;have d1:decide ((i1:Int)≤(b:Int)-1)=true:=decide_eq_true (by omega);have x1:Ix (i1:Int) C.n:=⟨by omega,by omega⟩;have y1:eE (swp D a p) (i1:Int) (a:Int) true:=eE.of l rfl rfl;have hs:=aj.mk (scanUp_go (fun x=>aQ x (swp D a p)[a]!) (swp D a p) (b-1) i1 c1 l);clear l
      go_wp2_with (first|(go_at_call 153;refine(kJ _ _).mono ?_;rintro e w2 ⟨rfl,hb⟩;have jb:=aK.mk hb;clear hb))
      first
        |exact⟨⟨i1+1,by first|rfl|go_num,⟨by omega⟩,⟨by omega⟩,inferInstance,inferInstance,inferInstance,⟨by rw[←p8.out,hs.out]⟩⟩,by simp[intOf];omega⟩
        |(go_roundw;(case rel=>((repeat apply Exists.intro);exact⟨⟨i1+1,by first|rfl|go_num,⟨by omega⟩,⟨by omega⟩,inferInstance,inferInstance,inferInstance,⟨by rw[←p8.out,hs.out]⟩⟩,(by first|rfl|(simp only[Int.natCast_add,Int.natCast_one];rfl)|(simp only[Int.natCast_add,Int.natCast_one,ez];rfl))⟩));(case measure=>first|(simp[intOf];omega)|(simp[intOf];done)))
    · have GR:aj (scanUp (fun x=>aQ x (swp D a p)[a]!) (swp D a p) (b-1) (a+1)=i1):=⟨by
        rw[←p8.out];refine scanUp_end (fun x=>aQ x (swp D a p)[a]!) (swp D a p) (b-1) i1 ?_;by_cases c:i1≤b-1
        · refine .inr ?_
          have:aQ (swp D a p)[i1]! (swp D a p)[a]! =false:=by
            cases h:aQ (swp D a p)[i1]! (swp D a p)[a]! with
            |true=>exact absurd ⟨c,h⟩ c1
            |false=>rfl
          simp[this]
        · exact .inl c⟩
      have step:(i1≤b-1∧aQ (swp D a p)[i1]! (swp D a p)[a]! =false)∨¬i1≤b-1:=by
        by_cases c:i1≤b-1
        · refine .inl ⟨c,?_⟩;cases h:aQ (swp D a p)[i1]! (swp D a p)[a]! with
          |true=>exact absurd ⟨c,h⟩ c1
          |false=>rfl
        · exact .inr c
      clear c1 p8;rcases step with ⟨c1,l⟩|c1
      · have d1:decide ((i1:Int)≤(b:Int)-1)=true:=decide_eq_true (by omega);have x1:Ix (i1:Int) C.n:=⟨by omega,by omega⟩;have y1:eE (swp D a p) (i1:Int) (a:Int) false:=eE.of l rfl rfl;have EA:=aj.mk l;clear l
        go_wp2_with (first|(go_at_call 153;refine(kJ _ _).mono ?_;rintro e w2 ⟨rfl,hb⟩;have jb:=aK.mk hb;clear hb))
        clear d1
        go_loopw [11] (fun v wr=>∃j1:Nat,v= .int .i64 j1∧aj (i1≤j1+1)∧aj (j1≤b-1)∧So C wr (swp D a p)∧Fr C w wr∧a7 wr w.heap.size (gv C) 184∧aj (scanDown (fun x=> !aQ x (swp D a p)[a]!) (swp D a p) i1 j1=scanDown (fun x=> !aQ x (swp D a p)[a]!) (swp D a p) i1 (b-1))) (fun v _=>(intOf v).toNat)
        case atStart=>exact⟨b-1,by first|rfl|(congr 1;omega),⟨by omega⟩,⟨by omega⟩,inferInstance,inferInstance,inferInstance,⟨rfl⟩⟩
        case round=>
          clear m1 m2 m3;obtain⟨j1,rfl,qZ,JW,n1,n2,n3,p8⟩:=hrel;have hc1:=qZ.out;have hd1:=JW.out;by_cases c2:i1≤j1∧aQ (swp D a p)[j1]! (swp D a p)[a]! =false
          · obtain⟨c2,l⟩:=c2;have d2:decide ((i1:Int)≤(j1:Int))=true:=decide_eq_true (by omega);have qq:decide (i1≤j1)=true:=decide_eq_true (by omega);have x3:Ix (j1:Int) C.n:=⟨by omega,by omega⟩;have y2:eE (swp D a p) (j1:Int) (a:Int) false:=eE.of l rfl rfl;have hs:=aj.mk (scanDown_go (fun x=> !aQ x (swp D a p)[a]!) (swp D a p) i1 j1 c2 (by omega) (by simp[l]));clear l
            go_wp2_with (first|(go_at_call 153;refine(kJ _ _).mono ?_;rintro e w2 ⟨rfl,hb⟩;have jb:=aK.mk hb;clear hb))
            have ez:((j1-1:Nat):Int)=(j1:Int)-1:=by omega
            first
              |exact⟨⟨j1-1,by first|rfl|(congr 1;omega),⟨by omega⟩,⟨by omega⟩,inferInstance,inferInstance,inferInstance,⟨by rw[←p8.out,hs.out]⟩⟩,by simp[intOf];omega⟩
              |(go_roundw;(case rel=>((repeat apply Exists.intro);exact⟨⟨j1-1,by first|rfl|(congr 1;omega),⟨by omega⟩,⟨by omega⟩,inferInstance,inferInstance,inferInstance,⟨by rw[←p8.out,hs.out]⟩⟩,(by first|rfl|(simp only[Int.natCast_add,Int.natCast_one];rfl)|(simp only[Int.natCast_add,Int.natCast_one,ez];rfl))⟩));(case measure=>first|(simp[intOf];omega)|(simp[intOf];done)))
          · have GS:aj (scanDown (fun x=> !aQ x (swp D a p)[a]!) (swp D a p) i1 (b-1)=j1):=⟨by
              rw[←p8.out];refine scanDown_end (fun x=> !aQ x (swp D a p)[a]!) (swp D a p) i1 j1 ?_;by_cases c:i1≤j1
              · refine .inr ?_
                have:aQ (swp D a p)[j1]! (swp D a p)[a]! =true:=by
                  cases h:aQ (swp D a p)[j1]! (swp D a p)[a]! with
                  |false=>exact absurd ⟨c,h⟩ c2
                  |true=>rfl
                simp[this]
              · exact .inl c⟩
            have step:(i1≤j1∧aQ (swp D a p)[j1]! (swp D a p)[a]! =true)∨¬i1≤j1:=by
              by_cases c:i1≤j1
              · refine .inl ⟨c,?_⟩;cases h:aQ (swp D a p)[j1]! (swp D a p)[a]! with
                |false=>exact absurd ⟨c,h⟩ c2
                |true=>rfl
              · exact .inr c
            clear c2 p8;rcases step with ⟨c2,l⟩|c2
            · have d2:decide ((i1:Int)≤(j1:Int))=true:=decide_eq_true (by omega);have qq:decide (i1≤j1)=true:=decide_eq_true (by omega);have d3:decide ((j1:Int)<(i1:Int))=false:=decide_eq_false (by omega);have ui:decide (j1<i1)=false:=decide_eq_false (by omega);have x3:Ix (j1:Int) C.n:=⟨by omega,by omega⟩;have x1:Ix (i1:Int) C.n:=⟨by omega,by omega⟩;have y2:eE (swp D a p) (j1:Int) (a:Int) true:=eE.of l rfl rfl
              have hge:a+1≤i1:=by
                have:=scanUp_ge (fun x=>aQ x (swp D a p)[a]!) (swp D a p) (b-1) (a+1);rw[GR.out]at this;exact this
              have hne:i1≠j1:=by
                rintro rfl;have:=EA.out;rw[l]at this;cases this
              clear l
              go_wp2_with (first|(go_at_call 153;refine(kJ _ _).mono ?_;rintro e w2 ⟨rfl,hb⟩;have jb:=aK.mk hb;clear hb))
              have GQ:=aj.mk (ahc D a b p i1 j1 GR.out GS.out (by omega))
              go_loopw [10,11] (fun v u wr=>∃(i j:Nat) (dk:Array E),v= .int .i64 i∧u= .int .i64 j∧aj (a<i)∧aj (i≤j+1)∧aj (j<b)∧So C wr dk∧Fr C w wr∧a7 wr w.heap.size (gv C) 184∧aj (partLoop aQ a i j dk=partLoop aQ a (i1+1) (j1-1) (swp (swp D a p) i1 j1))) (fun v u _=>(intOf u).toNat+1-(intOf v).toNat)
              case atStart=>exact⟨i1+1,j1-1,swp (swp D a p) i1 j1,by go_num,by congr 1;omega,⟨by omega⟩,⟨by omega⟩,⟨by omega⟩,⟨so_cast (D':=swp (swp D a p) i1 j1) inferInstance rfl⟩,inferInstance,inferInstance,⟨rfl⟩⟩
              case round=>
                clear n1 n2 n3 d2 d3 qq ui y2 x1 x3;obtain⟨i,j,dk,rfl,rfl,HP,HQ,HR,j1_,j2_,j3_,HO⟩:=hrel;have hp:=HP.out;have hq:=HQ.out;have hr:=HR.out;go_wp2
                go_loopw [10] (fun v wr=>∃i2:Nat,v= .int .i64 i2∧aj (a<i2)∧aj (i2≤j+1)∧So C wr dk∧Fr C w wr∧a7 wr w.heap.size (gv C) 184∧aj (scanUp (fun x=>aQ x dk[a]!) dk (j) i2=scanUp (fun x=>aQ x dk[a]!) dk (j) (i))) (fun v _=>j+1-(intOf v).toNat)
                case atStart=>exact⟨i,by first|rfl|go_num,⟨by omega⟩,⟨by omega⟩,inferInstance,inferInstance,inferInstance,⟨rfl⟩⟩
                case round=>
                  clear j1_ j2_ j3_;obtain⟨i2,rfl,JR,vx,m1,m2,m3,jM⟩:=hrel;have ha2:=JR.out;have hb2:=vx.out;have x2:Ix (a:Int) C.n:=⟨by omega,by omega⟩;by_cases c1:i2≤j∧aQ dk[i2]! dk[a]! =true
                  · obtain⟨c1,l⟩:=c1;have d1:decide ((i2:Int)≤(j:Int))=true:=decide_eq_true (by omega);have x1:Ix (i2:Int) C.n:=⟨by omega,by omega⟩;have y1:eE dk (i2:Int) (a:Int) true:=eE.of l rfl rfl;have hs:=aj.mk (scanUp_go (fun x=>aQ x dk[a]!) dk (j) i2 c1 l);clear l
                    go_wp2_with (first|(go_at_call 153;refine(kJ _ _).mono ?_;rintro e w2 ⟨rfl,hb⟩;have jb:=aK.mk hb;clear hb))
                    first
                      |exact⟨⟨i2+1,by first|rfl|go_num,⟨by omega⟩,⟨by omega⟩,inferInstance,inferInstance,inferInstance,⟨by rw[←jM.out,hs.out]⟩⟩,by simp[intOf];omega⟩
                      |(go_roundw;(case rel=>((repeat apply Exists.intro);exact⟨⟨i2+1,by first|rfl|go_num,⟨by omega⟩,⟨by omega⟩,inferInstance,inferInstance,inferInstance,⟨by rw[←jM.out,hs.out]⟩⟩,(by first|rfl|(simp only[Int.natCast_add,Int.natCast_one];rfl)|(simp only[Int.natCast_add,Int.natCast_one,ez];rfl))⟩));(case measure=>first|(simp[intOf];omega)|(simp[intOf];done)))
                  · have rh:aj (scanUp (fun x=>aQ x dk[a]!) dk (j) (i)=i2):=⟨by
                      rw[←jM.out];refine scanUp_end (fun x=>aQ x dk[a]!) dk (j) i2 ?_;by_cases c:i2≤j
                      · refine .inr ?_
                        have:aQ dk[i2]! dk[a]! =false:=by
                          cases h:aQ dk[i2]! dk[a]! with
                          |true=>exact absurd ⟨c,h⟩ c1
                          |false=>rfl
                        simp[this]
                      · exact .inl c⟩
                    have step:(i2≤j∧aQ dk[i2]! dk[a]! =false)∨¬i2≤j:=by
                      by_cases c:i2≤j
                      · refine .inl ⟨c,?_⟩;cases h:aQ dk[i2]! dk[a]! with
                        |true=>exact absurd ⟨c,h⟩ c1
                        |false=>rfl
                      · exact .inr c
                    clear c1 jM;rcases step with ⟨c1,l⟩|c1
                    · have d1:decide ((i2:Int)≤(j:Int))=true:=decide_eq_true (by omega);have x1:Ix (i2:Int) C.n:=⟨by omega,by omega⟩;have y1:eE dk (i2:Int) (a:Int) false:=eE.of l rfl rfl;have EA:=aj.mk l;clear l
                      go_wp2_with (first|(go_at_call 153;refine(kJ _ _).mono ?_;rintro e w2 ⟨rfl,hb⟩;have jb:=aK.mk hb;clear hb))
                      clear d1
                      go_loopw [11] (fun v wr=>∃j2:Nat,v= .int .i64 j2∧aj (i2≤j2+1)∧aj (j2≤j)∧So C wr dk∧Fr C w wr∧a7 wr w.heap.size (gv C) 184∧aj (scanDown (fun x=> !aQ x dk[a]!) dk i2 j2=scanDown (fun x=> !aQ x dk[a]!) dk i2 (j))) (fun v _=>(intOf v).toNat)
                      case atStart=>exact⟨j,by first|rfl|(congr 1;omega),⟨by omega⟩,⟨by omega⟩,inferInstance,inferInstance,inferInstance,⟨rfl⟩⟩
                      case round=>
                        clear m1 m2 m3;obtain⟨j2,rfl,HC2,HD2,n1,n2,n3,jM⟩:=hrel;have hc2:=HC2.out;have hd2:=HD2.out;by_cases c2:i2≤j2∧aQ dk[j2]! dk[a]! =false
                        · obtain⟨c2,l⟩:=c2;have d2:decide ((i2:Int)≤(j2:Int))=true:=decide_eq_true (by omega);have qq:decide (i2≤j2)=true:=decide_eq_true (by omega);have x3:Ix (j2:Int) C.n:=⟨by omega,by omega⟩;have y2:eE dk (j2:Int) (a:Int) false:=eE.of l rfl rfl;have hs:=aj.mk (scanDown_go (fun x=> !aQ x dk[a]!) dk i2 j2 c2 (by omega) (by simp[l]));clear l
                          go_wp2_with (first|(go_at_call 153;refine(kJ _ _).mono ?_;rintro e w2 ⟨rfl,hb⟩;have jb:=aK.mk hb;clear hb))
                          have ez:((j2-1:Nat):Int)=(j2:Int)-1:=by omega
                          first
                            |exact⟨⟨j2-1,by first|rfl|(congr 1;omega),⟨by omega⟩,⟨by omega⟩,inferInstance,inferInstance,inferInstance,⟨by rw[←jM.out,hs.out]⟩⟩,by simp[intOf];omega⟩
                            |(go_roundw;(case rel=>((repeat apply Exists.intro);exact⟨⟨j2-1,by first|rfl|(congr 1;omega),⟨by omega⟩,⟨by omega⟩,inferInstance,inferInstance,inferInstance,⟨by rw[←jM.out,hs.out]⟩⟩,(by first|rfl|(simp only[Int.natCast_add,Int.natCast_one];rfl)|(simp only[Int.natCast_add,Int.natCast_one,ez];rfl))⟩));(case measure=>first|(simp[intOf];omega)|(simp[intOf];done)))
                        · have ri:aj (scanDown (fun x=> !aQ x dk[a]!) dk i2 (j)=j2):=⟨by
                            rw[←jM.out];refine scanDown_end (fun x=> !aQ x dk[a]!) dk i2 j2 ?_;by_cases c:i2≤j2
                            · refine .inr ?_
                              have:aQ dk[j2]! dk[a]! =true:=by
                                cases h:aQ dk[j2]! dk[a]! with
                                |false=>exact absurd ⟨c,h⟩ c2
                                |true=>rfl
                              simp[this]
                            · exact .inl c⟩
                          have step:(i2≤j2∧aQ dk[j2]! dk[a]! =true)∨¬i2≤j2:=by
                            by_cases c:i2≤j2
                            · refine .inl ⟨c,?_⟩;cases h:aQ dk[j2]! dk[a]! with
                              |false=>exact absurd ⟨c,h⟩ c2
                              |true=>rfl
                            · exact .inr c
                          clear c2 jM;rcases step with ⟨c2,l⟩|c2
                          · have d2:decide ((i2:Int)≤(j2:Int))=true:=decide_eq_true (by omega);have qq:decide (i2≤j2)=true:=decide_eq_true (by omega);have d3:decide ((j2:Int)<(i2:Int))=false:=decide_eq_false (by omega);have ui:decide (j2<i2)=false:=decide_eq_false (by omega);have x3:Ix (j2:Int) C.n:=⟨by omega,by omega⟩;have x1:Ix (i2:Int) C.n:=⟨by omega,by omega⟩;have y2:eE dk (j2:Int) (a:Int) true:=eE.of l rfl rfl
                            have hge:i≤i2:=by
                              have:=scanUp_ge (fun x=>aQ x dk[a]!) dk (j) (i);rw[rh.out]at this;exact this
                            have hne:i2≠j2:=by
                              rintro rfl;have:=EA.out;rw[l]at this;cases this
                            clear l
                            go_wp2_with (first|(go_at_call 153;refine(kJ _ _).mono ?_;rintro e w2 ⟨rfl,hb⟩;have jb:=aK.mk hb;clear hb))
                            have ez:((j2-1:Nat):Int)=(j2:Int)-1:=by omega
                            first
                              |exact⟨⟨i2+1,j2-1,swp dk i2 j2,by first|rfl|go_num,by first|rfl|(congr 1;omega),⟨by omega⟩,⟨by omega⟩,⟨by omega⟩,⟨so_cast (D':=swp dk i2 j2) inferInstance rfl⟩,inferInstance,inferInstance,⟨by
                              rw[←HO.out,partLoop_eq aQ a i j dk,rh.out,ri.out,if_neg (by omega)]⟩⟩,by simp[intOf];omega⟩
                              |(go_roundw;(case rel=>((repeat apply Exists.intro);exact⟨⟨i2+1,j2-1,swp dk i2 j2,by first|rfl|go_num,by first|rfl|(congr 1;omega),⟨by omega⟩,⟨by omega⟩,⟨by omega⟩,⟨so_cast (D':=swp dk i2 j2) inferInstance rfl⟩,inferInstance,inferInstance,⟨by
                              rw[←HO.out,partLoop_eq aQ a i j dk,rh.out,ri.out,if_neg (by omega)]⟩⟩,(by first|rfl|(simp only[Int.natCast_add,Int.natCast_one];rfl)|(simp only[Int.natCast_add,Int.natCast_one,ez];rfl))⟩));(case measure=>first|(simp[intOf];omega)|(simp[intOf];done)))
                          · have d2:decide ((i2:Int)≤(j2:Int))=false:=decide_eq_false (by omega);have qq:decide (i2≤j2)=false:=decide_eq_false (by omega);have d3:decide ((j2:Int)<(i2:Int))=true:=decide_eq_true (by omega);have ui:decide (j2<i2)=true:=decide_eq_true (by omega);have x3:Ix (j2:Int) C.n:=⟨by omega,by omega⟩;go_wp2;go_ret2;have hz:=HO.out;rw[partLoop_eq aQ a i j dk,rh.out,ri.out,if_pos (by omega)]at hz;refine⟨by rw[hRR.out,GQ.out,←hz];rfl,so_cast (D':=R.2.2) (D:=swp dk j2 a) ⟨so_cast (D':=swp dk j2 a) inferInstance rfl⟩ (by rw[hRR.out,GQ.out,←hz]),Fr.out⟩
                    · have d1:decide ((i2:Int)≤(j:Int))=false:=decide_eq_false (by omega);go_wp2
                      go_loopw [11] (fun v wr=>∃j2:Nat,v= .int .i64 j2∧aj (i2≤j2+1)∧aj (j2≤j)∧So C wr dk∧Fr C w wr∧a7 wr w.heap.size (gv C) 184∧aj (scanDown (fun x=> !aQ x dk[a]!) dk i2 j2=scanDown (fun x=> !aQ x dk[a]!) dk i2 (j))) (fun v _=>(intOf v).toNat)
                      case atStart=>exact⟨j,by first|rfl|(congr 1;omega),⟨by omega⟩,⟨by omega⟩,inferInstance,inferInstance,inferInstance,⟨rfl⟩⟩
                      case round=>
                        clear m1 m2 m3;obtain⟨j2,rfl,HC2,HD2,n1,n2,n3,jM⟩:=hrel;have hc2:=HC2.out;have hd2:=HD2.out;have c2:¬i2≤j2:=by omega
                        have ri:aj (scanDown (fun x=> !aQ x dk[a]!) dk i2 (j)=j2):=⟨by
                          rw[←jM.out];exact scanDown_end (fun x=> !aQ x dk[a]!) dk i2 j2 (.inl c2)⟩
                        clear jM;have d2:decide ((i2:Int)≤(j2:Int))=false:=decide_eq_false (by omega);have qq:decide (i2≤j2)=false:=decide_eq_false (by omega);have d3:decide ((j2:Int)<(i2:Int))=true:=decide_eq_true (by omega);have ui:decide (j2<i2)=true:=decide_eq_true (by omega);have x3:Ix (j2:Int) C.n:=⟨by omega,by omega⟩;go_wp2;go_ret2;have hz:=HO.out;rw[partLoop_eq aQ a i j dk,rh.out,ri.out,if_pos (by omega)]at hz;refine⟨by rw[hRR.out,GQ.out,←hz];rfl,so_cast (D':=R.2.2) (D:=swp dk j2 a) ⟨so_cast (D':=swp dk j2 a) inferInstance rfl⟩ (by rw[hRR.out,GQ.out,←hz]),Fr.out⟩
            · have d2:decide ((i1:Int)≤(j1:Int))=false:=decide_eq_false (by omega);have qq:decide (i1≤j1)=false:=decide_eq_false (by omega);have d3:decide ((j1:Int)<(i1:Int))=true:=decide_eq_true (by omega);have ui:decide (j1<i1)=true:=decide_eq_true (by omega);have x3:Ix (j1:Int) C.n:=⟨by omega,by omega⟩;go_wp2;go_ret2;have hz:=Vq D a b p i1 j1 GR.out GS.out (by omega);refine⟨by rw[hRR.out,hz];rfl,so_cast (D':=R.2.2) (D:=swp (swp D a p) j1 a) ⟨so_cast (D':=swp (swp D a p) j1 a) inferInstance rfl⟩ (by rw[hRR.out,hz]),Fr.out⟩
      · have d1:decide ((i1:Int)≤(b:Int)-1)=false:=decide_eq_false (by omega);go_wp2
        go_loopw [11] (fun v wr=>∃j1:Nat,v= .int .i64 j1∧aj (i1≤j1+1)∧aj (j1≤b-1)∧So C wr (swp D a p)∧Fr C w wr∧a7 wr w.heap.size (gv C) 184∧aj (scanDown (fun x=> !aQ x (swp D a p)[a]!) (swp D a p) i1 j1=scanDown (fun x=> !aQ x (swp D a p)[a]!) (swp D a p) i1 (b-1))) (fun v _=>(intOf v).toNat)
        case atStart=>exact⟨b-1,by first|rfl|(congr 1;omega),⟨by omega⟩,⟨by omega⟩,inferInstance,inferInstance,inferInstance,⟨rfl⟩⟩
        case round=>
          clear m1 m2 m3;obtain⟨j1,rfl,qZ,JW,n1,n2,n3,p8⟩:=hrel;have hc1:=qZ.out;have hd1:=JW.out;have c2:¬i1≤j1:=by omega
          have GS:aj (scanDown (fun x=> !aQ x (swp D a p)[a]!) (swp D a p) i1 (b-1)=j1):=⟨by
            rw[←p8.out];exact scanDown_end (fun x=> !aQ x (swp D a p)[a]!) (swp D a p) i1 j1 (.inl c2)⟩
          clear p8;have d2:decide ((i1:Int)≤(j1:Int))=false:=decide_eq_false (by omega);have qq:decide (i1≤j1)=false:=decide_eq_false (by omega);have d3:decide ((j1:Int)<(i1:Int))=true:=decide_eq_true (by omega);have ui:decide (j1<i1)=true:=decide_eq_true (by omega);have x3:Ix (j1:Int) C.n:=⟨by omega,by omega⟩;go_wp2;go_ret2;have hz:=Vq D a b p i1 j1 GR.out GS.out (by omega);refine⟨by rw[hRR.out,hz];rfl,so_cast (D':=R.2.2) (D:=swp (swp D a p) j1 a) ⟨so_cast (D':=swp (swp D a p) j1 a) inferInstance rfl⟩ (by rw[hRR.out,hz]),Fr.out⟩
set_option maxHeartbeats 16000000 in
set_option maxRecDepth 100000 in
set_option synthInstance.maxHeartbeats 400000 in
set_option synthInstance.maxSize 100000 in
theorem ag' (C:fU) [gQ C] (w:World) (D:Array E) (h:eo C w D) (a b p:Nat) (hap:a≤p) (hpb:p<b) (hb:b≤C.n):
    Calls Tryz.prog 197 #[n9 C,.int .i64 a,.int .i64 b,.int .i64 p] w fun e w'=>e= .returned (.int .i64 (partitionEqual aQ D a b p).1)∧eo C w' (partitionEqual aQ D a b p).2∧w.grownBy w' (some C.g):=by
  have j0:=So.mk h;have hsm:=gQ.small (C:=C);have jx:iL w.heap.size C.g:=⟨Nat.ne_of_gt h.lt⟩;have jy:=a7.mk (mC w (.cells (gv C) 184));have x5:Ix (a:Int) C.n:=⟨by omega,by omega⟩;have x6:Ix (p:Int) C.n:=⟨by omega,by omega⟩;have hR:partitionEqual aQ D a b p=partEqLoop aQ a (a+1) (b-1) (swp D a p):=rfl;obtain⟨R,hRR⟩:∃R,partitionEqual aQ D a b p=R:=⟨_,rfl⟩;rw[hRR]at hR ⊢;have hR:=aj.mk hR;clear h hRR;have hu:=Tryz.underlying184;go_enter Tryz.func197,Tryz.ntmps197;go_wp2
  go_loopw [9,10] (fun v u wr=>∃(i j:Nat) (dk:Array E),v= .int .i64 i∧u= .int .i64 j∧aj (a<i)∧aj (i≤j+1)∧aj (j<b)∧So C wr dk∧Fr C w wr∧a7 wr w.heap.size (gv C) 184∧aj (partEqLoop aQ a i j dk=R)) (fun v u _=>(intOf u).toNat+1-(intOf v).toNat)
  case atStart=>exact⟨a+1,b-1,swp D a p,by go_num,by congr 1;omega,⟨by omega⟩,⟨by omega⟩,⟨by omega⟩,⟨so_cast (D':=swp D a p) inferInstance rfl⟩,inferInstance,inferInstance,⟨hR.out.symm⟩⟩
  case round=>
    clear j0 jy;obtain⟨i,j,dk,rfl,rfl,HP,HQ,HR,j1,j2,j3,HO⟩:=hrel;have hp:=HP.out;have hq:=HQ.out;have hr:=HR.out;go_wp2
    go_loopw [9] (fun v wr=>∃i2:Nat,v= .int .i64 i2∧aj (a<i2)∧aj (i2≤j+1)∧So C wr dk∧Fr C w wr∧a7 wr w.heap.size (gv C) 184∧aj (scanUp (fun x=> !aQ dk[a]! x) dk (j) i2=scanUp (fun x=> !aQ dk[a]! x) dk (j) (i))) (fun v _=>j+1-(intOf v).toNat)
    case atStart=>exact⟨i,by first|rfl|go_num,⟨by omega⟩,⟨by omega⟩,inferInstance,inferInstance,inferInstance,⟨rfl⟩⟩
    case round=>
      clear j1 j2 j3;obtain⟨i2,rfl,JR,vx,m1,m2,m3,jM⟩:=hrel;have ha2:=JR.out;have hb2:=vx.out;have x2:Ix (a:Int) C.n:=⟨by omega,by omega⟩;by_cases c1:i2≤j∧aQ dk[a]! dk[i2]! =false
      · obtain⟨c1,l⟩:=c1;have d1:decide ((i2:Int)≤(j:Int))=true:=decide_eq_true (by omega);have x1:Ix (i2:Int) C.n:=⟨by omega,by omega⟩;have y1:eE dk (a:Int) (i2:Int) false:=eE.of l rfl rfl;have hs:=aj.mk (scanUp_go (fun x=> !aQ dk[a]! x) dk (j) i2 c1 (by simp[l]));clear l
        go_wp2_with (first|(go_at_call 153;refine(kJ _ _).mono ?_;rintro e w2 ⟨rfl,hb⟩;have jb:=aK.mk hb;clear hb))
        first
          |exact⟨⟨i2+1,by first|rfl|go_num,⟨by omega⟩,⟨by omega⟩,inferInstance,inferInstance,inferInstance,⟨by rw[←jM.out,hs.out]⟩⟩,by simp[intOf];omega⟩
          |(go_roundw;(case rel=>((repeat apply Exists.intro);exact⟨⟨i2+1,by first|rfl|go_num,⟨by omega⟩,⟨by omega⟩,inferInstance,inferInstance,inferInstance,⟨by rw[←jM.out,hs.out]⟩⟩,(by first|rfl|(simp only[Int.natCast_add,Int.natCast_one];rfl)|(simp only[Int.natCast_add,Int.natCast_one,ez];rfl))⟩));(case measure=>first|(simp[intOf];omega)|(simp[intOf];done)))
      · have rh:aj (scanUp (fun x=> !aQ dk[a]! x) dk (j) (i)=i2):=⟨by
          rw[←jM.out];refine scanUp_end (fun x=> !aQ dk[a]! x) dk (j) i2 ?_;by_cases c:i2≤j
          · refine .inr ?_
            have:aQ dk[a]! dk[i2]! =true:=by
              cases h:aQ dk[a]! dk[i2]! with
              |false=>exact absurd ⟨c,h⟩ c1
              |true=>rfl
            simp[this]
          · exact .inl c⟩
        have step:(i2≤j∧aQ dk[a]! dk[i2]! =true)∨¬i2≤j:=by
          by_cases c:i2≤j
          · refine .inl ⟨c,?_⟩;cases h:aQ dk[a]! dk[i2]! with
            |false=>exact absurd ⟨c,h⟩ c1
            |true=>rfl
          · exact .inr c
        clear c1 jM;rcases step with ⟨c1,l⟩|c1
        · have d1:decide ((i2:Int)≤(j:Int))=true:=decide_eq_true (by omega);have x1:Ix (i2:Int) C.n:=⟨by omega,by omega⟩;have y1:eE dk (a:Int) (i2:Int) true:=eE.of l rfl rfl;have EA:=aj.mk l;clear l
          go_wp2_with (first|(go_at_call 153;refine(kJ _ _).mono ?_;rintro e w2 ⟨rfl,hb⟩;have jb:=aK.mk hb;clear hb))
          clear d1
          go_loopw [10] (fun v wr=>∃j2:Nat,v= .int .i64 j2∧aj (i2≤j2+1)∧aj (j2≤j)∧So C wr dk∧Fr C w wr∧a7 wr w.heap.size (gv C) 184∧aj (scanDown (fun x=>aQ dk[a]! x) dk i2 j2=scanDown (fun x=>aQ dk[a]! x) dk i2 (j))) (fun v _=>(intOf v).toNat)
          case atStart=>exact⟨j,by first|rfl|(congr 1;omega),⟨by omega⟩,⟨by omega⟩,inferInstance,inferInstance,inferInstance,⟨rfl⟩⟩
          case round=>
            clear m1 m2 m3;obtain⟨j2,rfl,HC2,HD2,n1,n2,n3,jM⟩:=hrel;have hc2:=HC2.out;have hd2:=HD2.out;by_cases c2:i2≤j2∧aQ dk[a]! dk[j2]! =true
            · obtain⟨c2,l⟩:=c2;have d2:decide ((i2:Int)≤(j2:Int))=true:=decide_eq_true (by omega);have qq:decide (i2≤j2)=true:=decide_eq_true (by omega);have x3:Ix (j2:Int) C.n:=⟨by omega,by omega⟩;have y2:eE dk (a:Int) (j2:Int) true:=eE.of l rfl rfl;have hs:=aj.mk (scanDown_go (fun x=>aQ dk[a]! x) dk i2 j2 c2 (by omega) l);clear l
              go_wp2_with (first|(go_at_call 153;refine(kJ _ _).mono ?_;rintro e w2 ⟨rfl,hb⟩;have jb:=aK.mk hb;clear hb))
              have ez:((j2-1:Nat):Int)=(j2:Int)-1:=by omega
              first
                |exact⟨⟨j2-1,by first|rfl|(congr 1;omega),⟨by omega⟩,⟨by omega⟩,inferInstance,inferInstance,inferInstance,⟨by rw[←jM.out,hs.out]⟩⟩,by simp[intOf];omega⟩
                |(go_roundw;(case rel=>((repeat apply Exists.intro);exact⟨⟨j2-1,by first|rfl|(congr 1;omega),⟨by omega⟩,⟨by omega⟩,inferInstance,inferInstance,inferInstance,⟨by rw[←jM.out,hs.out]⟩⟩,(by first|rfl|(simp only[Int.natCast_add,Int.natCast_one];rfl)|(simp only[Int.natCast_add,Int.natCast_one,ez];rfl))⟩));(case measure=>first|(simp[intOf];omega)|(simp[intOf];done)))
            · have ri:aj (scanDown (fun x=>aQ dk[a]! x) dk i2 (j)=j2):=⟨by
                rw[←jM.out];refine scanDown_end (fun x=>aQ dk[a]! x) dk i2 j2 ?_;by_cases c:i2≤j2
                · refine .inr ?_
                  have:aQ dk[a]! dk[j2]! =false:=by
                    cases h:aQ dk[a]! dk[j2]! with
                    |true=>exact absurd ⟨c,h⟩ c2
                    |false=>rfl
                  simp[this]
                · exact .inl c⟩
              have step:(i2≤j2∧aQ dk[a]! dk[j2]! =false)∨¬i2≤j2:=by
                by_cases c:i2≤j2
                · refine .inl ⟨c,?_⟩;cases h:aQ dk[a]! dk[j2]! with
                  |true=>exact absurd ⟨c,h⟩ c2
                  |false=>rfl
                · exact .inr c
              clear c2 jM;rcases step with ⟨c2,l⟩|c2
              · have d2:decide ((i2:Int)≤(j2:Int))=true:=decide_eq_true (by omega);have qq:decide (i2≤j2)=true:=decide_eq_true (by omega);have d3:decide ((j2:Int)<(i2:Int))=false:=decide_eq_false (by omega);have ui:decide (j2<i2)=false:=decide_eq_false (by omega);have x3:Ix (j2:Int) C.n:=⟨by omega,by omega⟩;have x1:Ix (i2:Int) C.n:=⟨by omega,by omega⟩;have y2:eE dk (a:Int) (j2:Int) false:=eE.of l rfl rfl
                have hge:i≤i2:=by
                  have:=scanUp_ge (fun x=> !aQ dk[a]! x) dk (j) (i);rw[rh.out]at this;exact this
                have hne:i2≠j2:=by
                  rintro rfl;have:=EA.out;rw[l]at this;cases this
                clear l
                go_wp2_with (first|(go_at_call 153;refine(kJ _ _).mono ?_;rintro e w2 ⟨rfl,hb⟩;have jb:=aK.mk hb;clear hb))
                have ez:((j2-1:Nat):Int)=(j2:Int)-1:=by omega
                first
                  |exact⟨⟨i2+1,j2-1,swp dk i2 j2,by first|rfl|go_num,by first|rfl|(congr 1;omega),⟨by omega⟩,⟨by omega⟩,⟨by omega⟩,⟨so_cast (D':=swp dk i2 j2) inferInstance rfl⟩,inferInstance,inferInstance,⟨by
                  rw[←HO.out,partEqLoop_eq aQ a i j dk,rh.out,ri.out,if_neg (by omega)]⟩⟩,by simp[intOf];omega⟩
                  |(go_roundw;(case rel=>((repeat apply Exists.intro);exact⟨⟨i2+1,j2-1,swp dk i2 j2,by first|rfl|go_num,by first|rfl|(congr 1;omega),⟨by omega⟩,⟨by omega⟩,⟨by omega⟩,⟨so_cast (D':=swp dk i2 j2) inferInstance rfl⟩,inferInstance,inferInstance,⟨by
                  rw[←HO.out,partEqLoop_eq aQ a i j dk,rh.out,ri.out,if_neg (by omega)]⟩⟩,(by first|rfl|(simp only[Int.natCast_add,Int.natCast_one];rfl)|(simp only[Int.natCast_add,Int.natCast_one,ez];rfl))⟩));(case measure=>first|(simp[intOf];omega)|(simp[intOf];done)))
              · have d2:decide ((i2:Int)≤(j2:Int))=false:=decide_eq_false (by omega);have qq:decide (i2≤j2)=false:=decide_eq_false (by omega);have d3:decide ((j2:Int)<(i2:Int))=true:=decide_eq_true (by omega);have ui:decide (j2<i2)=true:=decide_eq_true (by omega);have x3:Ix (j2:Int) C.n:=⟨by omega,by omega⟩;go_wp2;go_ret;have hz:=HO.out;rw[partEqLoop_eq aQ a i j dk,rh.out,ri.out,if_pos (by omega)]at hz;exact⟨by rw[←hz];rfl,so_cast (D:=dk) inferInstance (by rw[←hz]),Fr.out⟩
        · have d1:decide ((i2:Int)≤(j:Int))=false:=decide_eq_false (by omega);go_wp2
          go_loopw [10] (fun v wr=>∃j2:Nat,v= .int .i64 j2∧aj (i2≤j2+1)∧aj (j2≤j)∧So C wr dk∧Fr C w wr∧a7 wr w.heap.size (gv C) 184∧aj (scanDown (fun x=>aQ dk[a]! x) dk i2 j2=scanDown (fun x=>aQ dk[a]! x) dk i2 (j))) (fun v _=>(intOf v).toNat)
          case atStart=>exact⟨j,by first|rfl|(congr 1;omega),⟨by omega⟩,⟨by omega⟩,inferInstance,inferInstance,inferInstance,⟨rfl⟩⟩
          case round=>
            clear m1 m2 m3;obtain⟨j2,rfl,HC2,HD2,n1,n2,n3,jM⟩:=hrel;have hc2:=HC2.out;have hd2:=HD2.out;have c2:¬i2≤j2:=by omega
            have ri:aj (scanDown (fun x=>aQ dk[a]! x) dk i2 (j)=j2):=⟨by
              rw[←jM.out];exact scanDown_end (fun x=>aQ dk[a]! x) dk i2 j2 (.inl c2)⟩
            clear jM;have d2:decide ((i2:Int)≤(j2:Int))=false:=decide_eq_false (by omega);have qq:decide (i2≤j2)=false:=decide_eq_false (by omega);have d3:decide ((j2:Int)<(i2:Int))=true:=decide_eq_true (by omega);have ui:decide (j2<i2)=true:=decide_eq_true (by omega);have x3:Ix (j2:Int) C.n:=⟨by omega,by omega⟩;go_wp2;go_ret;have hz:=HO.out;rw[partEqLoop_eq aQ a i j dk,rh.out,ri.out,if_pos (by omega)]at hz;exact⟨by rw[←hz];rfl,so_cast (D:=dk) inferInstance (by rw[←hz]),Fr.out⟩
end Go.Proofs.YtnjfiaekdcekgaaGreatDoor.S
namespace Go.Proofs.YtnjfiaekdcekgaaGreatDoor.S
open Go.RowKit Go.Sort Go.Proofs.YtnjfiaekdcekgaaGreatDoor.P Go.Proofs.YtnjfiaekdcekgaaGreatDoor.Q Go.Proofs.YtnjfiaekdcekgaaGreatDoor.V Go.Proofs.YtnjfiaekdcekgaaGreatDoorW.bS
theorem Fl:SWO aQ where
  irrefl:=before_irrefl
  trans:=fun x y z h k=>before_trans h k
  ntrans:=fun x y z h k=>by
    rw[Bool.eq_false_iff,ne_eq,RB]at h k ⊢;omega
theorem age {a b:Nat} {D D':Array E} (hb:b≤D.size) (h:PermIn a b D D'):∀x∈D',x∈D:=by
  intro x hx;obtain⟨k,hk,rfl⟩:=Array.mem_iff_getElem.mp hx;have hk':k<D.size:=by rw[←h.1];exact hk
  by_cases hin:a≤k∧k<b
  · have hall:=permIn_all D D' a b (fun y=>y∈D) hb h (fun i hi hi'=>by
      rw[getElem!_pos D i (by omega)];exact Array.getElem_mem _) k hin.1 hin.2
    rw[getElem!_pos D' k hk]at hall;exact hall
  · have:=h.2.1 k (by omega);rw[getElem!_pos D' k hk,getElem!_pos D k hk']at this;rw[this];exact Array.getElem_mem _
theorem Wa {C:fU} [g:gQ C] {w:World} {D D':Array E} {a b:Nat} (h:eo C w D) (hb:b≤C.n) (hp:PermIn a b D D') (n:Nat) (os:Array Obj):
    eo C (sortWorldK enc4 4 w C.g 0 n D' os) D'∧w.grownBy (sortWorldK enc4 4 w C.g 0 n D' os) (some C.g):=by
  have hs:D'.size=D.size:=hp.1
  have hg:w.grownBy (sortWorldK enc4 4 w C.g 0 n D' os) (some C.g):=by
    unfold sortWorldK;refine⟨rfl,rfl,rfl,by rw[size_grow,size_putRowK];show w.heap.size≤w.heap.size+os.size;omega,fun k Im hk2=> ?_⟩;rw[heap_grow_old _ _ (by rw[size_putRowK];exact Im)];unfold putRowK putRow;rw[onCells_block,if_neg (fun hh=>hk2 (by rw[hh]))];rfl
  exact⟨⟨holdsK_sortWorldK enc4 4 w C.g 0 n D D' os h.lt h.hold hs,by rw[hs];exact h.size,(hg.block _ h.Cz (fun e=>g.ne (Option.some.inj e))).trans h.box,Nat.lt_of_lt_of_le h.lt hg.size,by
    unfold sortWorldK;rw[heap_grow_old _ _ (by rw[size_putRowK];exact h.lt)];exact VI (W:=Sort.ahead w n) h.shape,fun x hx=>h.ftd x (age (by rw[h.size];exact hb) hp x hx)⟩,hg⟩
theorem abA (C:fU) [g:gQ C] (w:World) (D:Array E) (h:eo C w D) (a b:Nat) (hab:a≤b) (hb:b≤C.n):
    Calls Tryz.prog 193 #[n9 C,.int .i64 a,.int .i64 b] w fun e w'=>e= .returned (.tuple #[])∧∃D',eo C w' D'∧PermIn a b D D'∧w.grownBy w' (some C.g):=by
  have hsw:SwapSwapsK Tryz.prog 189 C.sb enc4 4 C.g 0 D.size:=by rw[h.size];exact g.swap
  have:=Any.breakPatterns_func_cells_w (P:=Tryz.prog) (ρ:=Jb) {Ja with} enc4 4 enc4_len (.func 153) #[] C.lb 189 C.sb C.g 0 a b D w hsw h.hold h.lt hab (by rw[h.size];exact hb) (by have:=g.small;rw[h.size];omega);refine this.mono ?_;rintro e w' ⟨he,n,os,rfl⟩;have hp:=breakPatterns_holds D a b hab (by rw[h.size];exact hb);obtain⟨h1,h2⟩:=Wa h hb hp n os;exact⟨he,_,h1,hp,h2⟩
theorem ahM (C:fU) [g:gQ C] (w:World) (D:Array E) (h:eo C w D) (a b:Nat) (hab:a≤b) (hb:b≤C.n):
    Calls Tryz.prog 195 #[n9 C,.int .i64 a,.int .i64 b] w fun e w'=>e= .returned (.tuple #[])∧∃D',eo C w' D'∧PermIn a b D D'∧w.grownBy w' (some C.g):=by
  have hsw:SwapSwapsK Tryz.prog 189 C.sb enc4 4 C.g 0 D.size:=by rw[h.size];exact g.swap
  have:=Any.reverseRange_func_cells_w (P:=Tryz.prog) (ρ:=Jb) {Ja with} enc4 4 enc4_len (.func 153) #[] C.lb 189 C.sb C.g 0 a b D w hsw h.hold h.lt hab (by rw[h.size];exact hb) (by have:=g.small;rw[h.size];omega);refine this.mono ?_;rintro e w' ⟨he,n,os,rfl⟩;have hp:=reverseRange_holds D a b hab (by rw[h.size];exact hb);obtain⟨h1,h2⟩:=Wa h hb hp n os;exact⟨he,_,h1,hp,h2⟩
theorem af0 {C:fU} {W:World} {D:Array E} [g:gQ C] (h:eo C W D) (i j:Int) (i' j':Nat) (ei:i=i') (ej:j=j') (hi:i'<C.n) (hj:j'<C.n):
    Calls Tryz.prog 153 (#[.int .i64 i,.int .i64 j]++C.lb) W fun e w'=>∃lb,e= .returned (.bool lb)∧aQ D[i']! D[j']! =lb∧RowKit.Below W.heap.size W w':=by
  subst ei ej;exact(UY C W D h g.lb g.small i' j' hi hj).mono fun e w' hh=>⟨_,hh.1,rfl,hh.2⟩
theorem ag_ {C:fU} {W:World} {D:Array E} [gQ C] (h:eo C W D) (a b p:Nat) (p':Int) (e:p'=p) (hap:a≤p) (hpb:p<b) (hb:b≤C.n):
    Calls Tryz.prog 197 #[n9 C,.int .i64 a,.int .i64 b,.int .i64 p'] W fun e w'=>∃mid D',partitionEqual aQ D a b p=(mid,D')∧e= .returned (.int .i64 (mid:Nat))∧eo C w' D'∧W.grownBy w' (some C.g):=by
  subst e;exact(ag' C W D h a b p hap hpb hb).mono fun e w' hh=>⟨_,_,rfl,hh⟩
theorem aha {C:fU} {W:World} {D:Array E} [gQ C] (h:eo C W D) (a b p:Nat) (p':Int) (e:p'=p) (hap:a≤p) (hpb:p<b) (hb:b≤C.n):
    Calls Tryz.prog 198 #[n9 C,.int .i64 a,.int .i64 b,.int .i64 p'] W fun e w'=>∃mid ap D',partition aQ D a b p=(mid,ap,D')∧e= .returned (.tuple #[.int .i64 (mid:Nat),.bool ap])∧eo C w' D'∧W.grownBy w' (some C.g):=by
  subst e;exact(ahb C W D h a b p hap hpb hb).mono fun e w' hh=>⟨_,_,_,rfl,hh⟩
end Go.Proofs.YtnjfiaekdcekgaaGreatDoor.S
namespace Go.Proofs.YtnjfiaekdcekgaaGreatDoor.S
open Go.RowKit Go.Sort Go.Proofs.YtnjfiaekdcekgaaGreatDoor.P Go.Proofs.YtnjfiaekdcekgaaGreatDoor.Q Go.Proofs.YtnjfiaekdcekgaaGreatDoor.V Go.Proofs.YtnjfiaekdcekgaaGreatDoorW.bS
attribute [local go_sem] fV fW N1
def Kf (C:fU) (N:Nat):Prop:=∀(w:World) (D:Array E),eo C w D→∀a b limit:Nat,b-a<N→a≤b→b≤C.n→limit≤100→Sort.Below aQ a b D→∀a' b' l':Int,a'=a→b'=b→l'=limit→
    Calls Tryz.prog 174 #[n9 C,.int .i64 a',.int .i64 b',.int .i64 l'] w fun e w'=>e= .returned (.tuple #[])∧∃D',eo C w' D'∧PermIn a b D D'∧SortedIn aQ a b D'∧w.grownBy w' (some C.g)
set_option maxHeartbeats 16000000 in
set_option maxRecDepth 100000 in
set_option synthInstance.maxHeartbeats 400000 in
set_option synthInstance.maxSize 100000 in
theorem ahd (C:fU) [gQ C] (N:Nat) (ih:Kf C N):Kf C (N+1):=by
  intro w D h a b limit hN hab hb hlim hB a' b' l' ea eb el;subst ea eb el;have j0:=So.mk h;have hsm:=gQ.small (C:=C);have hsz:=h.size;have jx:iL w.heap.size C.g:=⟨Nat.ne_of_gt h.lt⟩;have jy:=a7.mk (mC w (.cells (gv C) 184));have hBA:=aj.mk hB;have IH:=aj.mk ih;clear h hB ih;have hu:=Tryz.underlying184;go_enter Tryz.func174,Tryz.ntmps174;go_wp2
  go_loopg [1,2,3,8,9] (b-a) (fun kx v1 v2 v3 v8 v9 wr=>∃(a1 b1 l1:Nat) (wb wp:Bool) (dk:Array E),v1= .int .i64 a1∧v2= .int .i64 b1∧v3= .int .i64 l1∧v8= .bool wb∧v9= .bool wp∧aj (a1≤b1∧b1≤C.n∧b1-a1≤kx∧kx≤b-a∧l1≤100)∧aj (Sort.Below aQ a1 b1 dk)∧aj (∀R,PermIn a1 b1 dk R→SortedIn aQ a1 b1 R→PermIn a b D R∧SortedIn aQ a b R)∧So C wr dk∧Fr C w wr∧a7 wr w.heap.size (gv C) 184)
  case atStart=>exact⟨a,b,limit,true,true,D,rfl,rfl,rfl,rfl,rfl,⟨⟨by omega,by omega,by omega,by omega,by omega⟩⟩,hBA,⟨fun R h1 h2=>⟨h1,h2⟩⟩,inferInstance,inferInstance,inferInstance⟩
  case round=>
    clear j0 jy;obtain⟨a1,b1,l1,wb,wp,dk,rfl,rfl,rfl,rfl,rfl,HN,HB,HR,j1,j2,j3⟩:=hrel;obtain⟨SZ,hb1,hn1,hn2,hl1⟩:=HN.out;have hds:dk.size=C.n:=j1.out.size;by_cases c12:b1-a1≤12
    · have d1:decide ((b1:Int)-(a1:Int)≤12)=true:=decide_eq_true (by omega)
      go_wp2_with (first|(go_at_call 191;refine(afi C _ _ So.out a1 b1 (by omega) (by omega)).mono ?_;rintro e w2 ⟨rfl,hs,hg⟩;have k1:=So.mk hs;have k2:=Gb.mk hg;clear hs hg))
      ((try simp only[Exit.inBlock,Exit.then]);refine bodyPost_ret (results_none rfl _ _ _) rfl ?_)
      obtain⟨h1,h2⟩:=insertionSort_holds Fl dk a1 b1 SZ (by omega);obtain⟨h3,h4⟩:=HR.out _ h1 h2;exact⟨rfl,_,So.out,h3,h4,Fr.out⟩
    have d1:decide ((b1:Int)-(a1:Int)≤12)=false:=decide_eq_false (by omega);by_cases c0:l1=0
    · subst c0
      go_wp2_with (first|(go_at_call 192;refine(ad3 C _ _ So.out a1 b1 (by omega) (by omega)).mono ?_;rintro e w2 ⟨rfl,hs,hg⟩;have k1:=So.mk hs;have k2:=Gb.mk hg;clear hs hg))
      ((try simp only[Exit.inBlock,Exit.then]);refine bodyPost_ret (results_none rfl _ _ _) rfl ?_)
      obtain⟨h1,h2⟩:=heapSort_holds Fl dk a1 b1 SZ (by omega);obtain⟨h3,h4⟩:=HR.out _ h1 h2;exact⟨rfl,_,So.out,h3,h4,Fr.out⟩
    have d0:((l1:Int)==0)=false:=beq_eq_false_iff_ne.mpr (by omega)
    go_upto_if 35 with fail
    go_cut [3]from 19 (fun s3 wc=>∃(l2:Nat) (dj:Array E),s3= .int .i64 l2∧aj (l2≤100)∧aj (PermIn a1 b1 dk dj)∧So C wc dj∧Fr C w wc∧a7 wc w.heap.size (gv C) 184)
    case first=>
      cases wb
      · go_wp2_with (first|(go_at_call 193;refine(abA C _ _ So.out a1 b1 (by omega) (by omega)).mono ?_;rintro e w2 ⟨rfl,D2,hs,hp,hg⟩;have k1:=So.mk hs;have k2:=Gb.mk hg;have HP:=aj.mk hp;clear hs hg hp))
        go_meet
        case rel=>exact⟨l1-1,D2,by congr 1;omega,⟨by omega⟩,HP,inferInstance,inferInstance,inferInstance⟩
      · go_wp2_with fail
        go_meet
        case rel=>exact⟨l1,dk,rfl,⟨by omega⟩,⟨permIn_refl dk a1 b1⟩,j1,j2,j3⟩
    case rest=>
      clear j1 j2 j3 d0 d1;obtain⟨l2,dj,rfl,YY,HS,j1,j2,j3⟩:=hcut;have hl2:=YY.out
      go_upto_if 50 with (go_at_call 194;refine(ab8 C _ _ So.out a1 b1 (by omega) (by omega)).mono ?_;rintro e w2 ⟨p,k,rfl,hp1,hp2,hk,hb⟩;have jb:=aK.mk hb;clear hb)
      obtain⟨p,rfl⟩:∃p':Nat,p=p':=⟨p.toNat,by omega⟩
      go_cut [11,12]from 19 (fun s11 s12 wc=>∃(q:Nat) (k:Int) (uj:Array E),s11= .int .i64 q∧s12= .int .i64 k∧aj (a1≤q∧q<b1)∧aj (PermIn a1 b1 dk uj)∧So C wc uj∧Fr C w wc∧a7 wc w.heap.size (gv C) 184)
      case first=>
        by_cases h2:k=2
        · have h2b:(k==2)=true:=beq_iff_eq.mpr h2
          go_wp2_with (first|(go_at_call 195;refine(ahM C _ _ So.out a1 b1 (by omega) (by omega)).mono ?_;rintro e w3 ⟨rfl,D2,hs,hp,hg⟩;have k1:=So.mk hs;have k2:=Gb.mk hg;have HP:=aj.mk (permIn_trans _ _ _ _ _ HS.out hp);clear hs hg hp))
          go_meet
          case rel=>exact⟨b1-1-(p-a1),1,D2,by congr 1;omega,rfl,⟨⟨by omega,by omega⟩⟩,HP,inferInstance,inferInstance,inferInstance⟩
        · have h2b:(k==2)=false:=beq_eq_false_iff_ne.mpr h2
          go_wp2_with fail
          go_meet
          case rel=>exact⟨p,k,dj,rfl,rfl,⟨⟨by omega,by omega⟩⟩,HS,inferInstance,inferInstance,inferInstance⟩
      case rest=>
        clear j1 j2 j3 jb hk hp1 hp2 HS;obtain⟨q,k,uj,rfl,rfl,HQ,HS,j1,j2,j3⟩:=hcut;obtain⟨hq1,oO⟩:=HQ.out
        go_upto_region 16 with fail
        go_cut [68]from 19 (fun s68 wx=>∃t:Bool,s68= .bool t∧wx=wc)
        case first=>
          cases wb<;>cases wp<;>by_cases Im:k=1<;>
            (first|have hkb:(k==1)=true:=beq_iff_eq.mpr Im|have hkb:(k==1)=false:=beq_eq_false_iff_ne.mpr Im)<;>
            (go_wp2_with fail
             go_meet
             exact⟨_,rfl,rfl⟩)
        case rest=>
          obtain⟨t,rfl,rfl⟩:=hcut
          go_upto_if 68 with fail
          go_cut []from 19 (fun wx=>So C wx uj∧Fr C w wx∧a7 wx w.heap.size (gv C) 184)
          case first=>
            cases t
            · go_wp2_with fail
              go_meet
              case rel=>exact⟨j1,j2,j3⟩
            · go_wp2_with (first|(go_at_call 196;refine(ag8 C _ _ So.out a1 b1 (by omega) (by omega)).mono ?_;rintro e w3 ⟨r,rfl,hpi,hb⟩;have jb:=aK.mk hb;have Zw:=aj.mk hpi;clear hb hpi;cases r))
              · go_meet
                exact⟨inferInstance,inferInstance,inferInstance⟩
              · ((try simp only[Exit.inBlock,Exit.then]);refine bodyPost_ret (results_none rfl _ _ _) rfl ?_)
                obtain⟨h1,h2⟩:=partialInsertionSort_holds Fl uj a1 b1 (by omega) (by rw[HS.out.1,hds];omega) (Below.perm HB.out (by rw[hds];omega) HS.out);rw[Zw.out]at h1 h2;obtain⟨h3,h4⟩:=HR.out _ (permIn_trans _ _ _ _ _ HS.out h1) (h2 rfl);exact⟨rfl,_,So.out,h3,h4,Fr.out⟩
          case rest=>
            clear j1 j2 j3;obtain⟨j1,j2,j3⟩:=hcut
            go_upto_region 18 with fail
            go_cut [83]from 19 (fun s83 wx=>∃t:Bool,s83= .bool t∧aj (t=true→0<a1∧aQ uj[a1-1]! uj[q]! =false)∧So C wx uj∧Fr C w wx∧a7 wx w.heap.size (gv C) 184)
            case first=>
              by_cases ha0:a1=0
              · have ha1:decide (0<(a1:Int))=false:=decide_eq_false (by omega);have ha2:decide (0<a1)=false:=decide_eq_false (by omega)
                go_wp2_with fail
                go_meet
                case rel=>exact⟨false,rfl,⟨fun h=>by cases h⟩,j1,j2,j3⟩
              · have ha1:decide (0<(a1:Int))=true:=decide_eq_true (by omega);have ha2:decide (0<a1)=true:=decide_eq_true (by omega)
                go_wp2_with (first|(go_at_call 153;refine(af0 So.out _ _ (a1-1) q (by omega) rfl (by omega) (by omega)).mono ?_;rintro e w3 ⟨lb,rfl,hlb,hb⟩;have jb:=aK.mk hb;have HL:=aj.mk hlb;clear hb hlb;cases lb))
                · go_meet
                  exact⟨true,rfl,⟨fun _=>⟨by omega,HL.out⟩⟩,inferInstance,inferInstance,inferInstance⟩
                · go_meet
                  exact⟨false,rfl,⟨fun h=>by cases h⟩,inferInstance,inferInstance,inferInstance⟩
            case rest=>
              clear j1 j2 j3;obtain⟨t,rfl,HT,j1,j2,j3⟩:=hcut;have Ue:b1≤uj.size:=(by rw[HS.out.1,hds];omega);have vx:=aj.mk (Below.perm HB.out (by rw[hds];omega) HS.out);cases t
              · go_upto_if 109 with (go_at_call 198;refine(aha So.out a1 b1 q _ rfl (by omega) (by omega) (by omega)).mono ?_;rintro e w3 ⟨mid,ap,D2,hx,rfl,hs,hg⟩;have k1:=So.mk hs;have k2:=Gb.mk hg;obtain⟨r1,r2,r3,r4,r5,r6,r7⟩:=round_part Fl (partition_holds aQ) hq1 oO Ue vx.out hx;have R4:=aj.mk r4;have R5:=aj.mk r5;have R6:=aj.mk r6;have R7:=aj.mk r7;clear hs hg hx r3 r4 r5 r6 r7)
                by_cases h4:mid-a1<b1-mid
                · have h4z:decide ((mid:Int)-(a1:Int)<(b1:Int)-(mid:Int))=true:=decide_eq_true (by omega)
                  go_wp2_with (first|(go_at_call 174;refine(IH.out _ _ So.out a1 mid l2 (by omega) (by omega) (by omega) (by omega) R4.out _ _ _ rfl rfl rfl).mono ?_;rintro e w4 ⟨rfl,L,hs,hp,hso,hg⟩;have k3:=So.mk hs;have k4:=Gb.mk hg;obtain⟨u1,u2⟩:=R6.out L hp hso;have U1:=aj.mk u1;have U2:=aj.mk u2;clear hs hp hso hg u1 u2))
                  go_roundg (b1-(mid+1))
                  case measure=>omega
                  case rel=>exact⟨mid+1,b1,l2,_,ap,L,by first|rfl|go_num,rfl,rfl,rfl,rfl,⟨⟨by omega,by omega,by omega,by omega,by omega⟩⟩,U1,⟨fun R g1 g2=>by obtain⟨g3,g4⟩:=U2.out R g1 g2;exact HR.out R (permIn_trans _ _ _ _ _ HS.out g3) g4⟩,inferInstance,inferInstance,inferInstance⟩
                · have h4z:decide ((mid:Int)-(a1:Int)<(b1:Int)-(mid:Int))=false:=decide_eq_false (by omega)
                  go_wp2_with (first|(go_at_call 174;refine(IH.out _ _ So.out (mid+1) b1 l2 (by omega) (by omega) (by omega) (by omega) R5.out _ _ _ (by omega) rfl rfl).mono ?_;rintro e w4 ⟨rfl,L,hs,hp,hso,hg⟩;have k3:=So.mk hs;have k4:=Gb.mk hg;obtain⟨u1,u2⟩:=R7.out L hp hso;have U1:=aj.mk u1;have U2:=aj.mk u2;clear hs hp hso hg u1 u2))
                  go_roundg (mid-a1)
                  case measure=>omega
                  case rel=>exact⟨a1,mid,l2,_,ap,L,rfl,rfl,rfl,rfl,rfl,⟨⟨by omega,by omega,by omega,by omega,by omega⟩⟩,U1,⟨fun R g1 g2=>by obtain⟨g3,g4⟩:=U2.out R g1 g2;exact HR.out R (permIn_trans _ _ _ _ _ HS.out g3) g4⟩,inferInstance,inferInstance,inferInstance⟩
              · obtain⟨ha0,hnl⟩:=HT.out rfl;have Y0:=aj.mk hnl;clear hnl
                go_wp2_with (first|(go_at_call 197;refine(ag_ So.out a1 b1 q _ rfl (by omega) (by omega) (by omega)).mono ?_;rintro e w3 ⟨mid,D2,hx,rfl,hs,hg⟩;have k1:=So.mk hs;have k2:=Gb.mk hg;obtain⟨r1,r2,r3,r4,r5⟩:=round_eq Fl (partitionEqual_holds aQ) ha0 hq1 oO Ue vx.out Y0.out hx;have R4:=aj.mk r4;have R5:=aj.mk r5;clear hs hg hx r3 r4 r5))
                go_roundg (b1-mid)
                case measure=>omega
                case rel=>exact⟨mid,b1,l2,wb,wp,D2,rfl,rfl,rfl,rfl,rfl,⟨⟨by omega,by omega,by omega,by omega,by omega⟩⟩,R4,⟨fun R g1 g2=>by obtain⟨g3,g4⟩:=R5.out R g1 g2;exact HR.out R (permIn_trans _ _ _ _ _ HS.out g3) g4⟩,inferInstance,inferInstance,inferInstance⟩
theorem Vr (C:fU) [gQ C]:∀N,Kf C N
  |0=>fun _ _ _ _ _ _ h=>absurd h (Nat.not_lt_zero _)
  |N+1=>ahd C N (Vr C N)
end Go.Proofs.YtnjfiaekdcekgaaGreatDoor.S
namespace Go.Proofs.YtnjfiaekdcekgaaGreatDoor.S
open Go.RowKit Go.Sort Go.Lib Go.Proofs.YtnjfiaekdcekgaaGreatDoor.P Go.Proofs.YtnjfiaekdcekgaaGreatDoor.Q Go.Proofs.YtnjfiaekdcekgaaGreatDoor.V Go.Proofs.YtnjfiaekdcekgaaGreatDoorW.bS
theorem Vy:Plain k64 enc4 where
  len:=fun _=>rfl
  pos:=by decide
  of:=fun{w base ok x cs} h=>by
    obtain⟨c0,c1,rfl,⟨d0,d1,rfl,h0,h1⟩,e0,e1,rfl,h2,h3⟩:=h;rw[h0,h1,h2,h3];rfl
  make:=fun w base ok x=>k64_mkM w base ok x
theorem aaP {C:fU} {w w':World} {base:Nat} {ok:Nat→Prop} {xs:List E} {D:Array E} (h:k64.R 64 w base ok (.slice (some ⟨C.g,0,none⟩) xs.length C.c) xs) (hs:eo C w' D) (hn:xs.length=C.n):
    k64.R 64 w' base ok (.slice (some ⟨C.g,0,none⟩) xs.length C.c) D.toList:=by
  obtain⟨hok,inner,ho,hr⟩:=h;rcases ho.2 with ⟨hn',_⟩|⟨g',cap',R_,hv,hg,hh,hle,hmx,hcs,htk⟩
  · simp at hn'
  obtain⟨e1,e2⟩:C.g=g'∧C.c=cap':=by simpa using hv
  subst e1 e2;obtain⟨cur,hc,Ti⟩:=hs.shape;have hD:D.size=xs.length:=by rw[hs.size,hn]
  have hat:∀i,i<D.size→(cur.toList.drop (i*4)).take 4=enc4 D[i]! :=by
    intro i hi;obtain⟨a0,a1,a2,a3⟩:=hs.at_ i (by rw[←hs.size];exact hi);have e0:=(fQ hc (i*4)).symm.trans a0;have e1:=(fQ hc (i*4+1)).symm.trans a1;have e2:=(fQ hc (i*4+2)).symm.trans a2;have e3:=(fQ hc (i*4+3)).symm.trans a3;refine List.ext_getElem? fun c=> ?_;by_cases hc4:c<4
    · rw[R1 hc4,Array.getElem?_toList];rcases c with _|_|_|_|c
      · exact e0
      · exact e1
      · exact e2
      · exact e3
      · omega
    · rw[List.getElem?_eq_none (by rw[List.length_take];omega),List.getElem?_eq_none (by show(enc4 D[i]!).length≤c;rw[enc4_len];omega)]
  have hlen:D.toList.length=xs.length:=by simpa using hD
  have hln:(cur.toList.take (xs.length*4)).length=xs.length*4:=by
    have hcl:cur.toList.length=C.c*4:=(by simpa using Ti);rw[List.length_take,hcl];exact Nat.min_eq_left (Nat.mul_le_mul_right 4 hle)
  refine⟨hok,cur.toList.take (xs.length*4),⟨?_,.inr ⟨C.g,C.c,cur,by rw[hlen],hg,hc,by rw[hlen];exact hle,hmx,Ti,by rw[hlen];rfl⟩⟩,?_,fun i x hx=> ?_⟩
  · rw[hlen];exact hln
  · rw[hlen];exact hln
  · have hi:i<D.size:=by have:=(List.getElem?_eq_some_iff.1 hx).1;simpa using this
    have MA:D[i]! =x:=by
      have:=(List.getElem?_eq_some_iff.1 hx).2;rw[getElem!_pos D i hi];simpa using this
    have e:((cur.toList.take (xs.length*4)).drop (i*4)).take 4=enc4 x:=by
      rw[List.drop_take,List.take_take,Nat.min_eq_left (by rw[←hD];omega),hat i hi,MA]
    show k64.M w' base _ x (((cur.toList.take (xs.length*4)).drop (i*4)).take 4);rw[e];exact Vy.make _ _ _ _
noncomputable def Wl:TypeInfo:=(Tryz.prog.info? 28).get (by kernel_rfl)
noncomputable def svE:TypeInfo:=(Tryz.prog.info? 64).get (by kernel_rfl)
theorem svK (n:Nat) (h2:2≤n):Lib.swapperK n svE 25=9:=by
  have a:svE.hasPointers=false:=by kernel_rfl
  have b:svE.bytes=32:=by kernel_rfl
  have c:(n==0)=false:=by simp;omega
  have d:(n==1)=false:=by simp;omega
  simp[Lib.swapperK,a,b,c,d]
theorem aip (w:World) (g cap bs base:Nat) (ok:Nat→Prop) (xs:List E) (hR:k64.R 64 w base ok (.slice (some ⟨g,0,none⟩) xs.length cap) xs) (hB:w.heap[bs]? =some (.cells #[.slice (some ⟨g,0,none⟩) xs.length cap] 28 (0,0)))
    (hne:bs≠g) (h2:2≤xs.length) (h50:xs.length<50) (hf:∀x∈xs,vw x):
    Calls Tryz.prog 152 #[.iface 28 (.slice (some ⟨g,0,none⟩) xs.length cap),.func (.func 153) #[] #[.pointer (some ⟨bs,0,none⟩)]] w fun e w'=>e= .returned (.tuple #[])∧
      ∃D:Array E,PermIn 0 xs.length xs.toArray D∧SortedIn aQ 0 xs.length D∧k64.R 64 w' base ok (.slice (some ⟨g,0,none⟩) xs.length cap) D.toList∧w.grownBy w' (some g):=by
  refine Any.sort_Slice_of_pdq Ja 28 64 Wl svE (by kernel_rfl) (by kernel_rfl) (by kernel_rfl) (by kernel_rfl) 25 (fun _=>by kernel_rfl) _ xs.length cap (by omega) 189 (by rw[svK _ h2];kernel_rfl) _ _ _ w _ ?_
  have hbd:sliceBound Tryz.prog 64 svE 25 (some ⟨g,0,none⟩) xs.length cap= #[.slice (some ⟨g,0,none⟩) xs.length cap,typeHandle Tryz.prog 64]:=by
    unfold sliceBound;rw[if_neg (swapperK_gt _ _ _ h2)]
  rw[hbd]
  let C:fU:=⟨g,bs,xs.length,cap,#[.pointer (some ⟨bs,0,none⟩)],#[.slice (some ⟨g,0,none⟩) xs.length cap,typeHandle Tryz.prog 64]⟩
  haveI:gQ C:=⟨swapSwapsK_of_literal false 189 (fun args W=>run_callFunc_extern Tryz.func189 (by kernel_rfl) (by kernel_rfl) (by kernel_rfl) (e:=Extern.ReflectliteSwapper.swap false) (by kernel_rfl) args W) 64 svE (by kernel_rfl) enc4 4 (fun _=>rfl) (by kernel_rfl) (fun _=>by kernel_rfl) (fun x v hv=>by simp[enc4]at hv;rcases hv with rfl|rfl|rfl|rfl<;>rfl) g 0 xs.length cap,h50,rfl,hne⟩
  have h0:eo C w xs.toArray:=by
    have hR0:=hR;obtain⟨_,inner,ho,_⟩:=hR0;rcases ho.2 with ⟨hn',_⟩|⟨g',cap',R_,hv,hg,hh,hle,hmx,hcs,htk⟩
    · simp at hn'
    obtain⟨e1,e2⟩:g=g'∧cap=cap':=(by simpa using hv);subst e1 e2;exact⟨aeP Vy hR,by simp[C],hB,iD hh,⟨R_,hh,hcs⟩,fun x hx=>hf x (by simpa using hx)⟩
  have hbl:RowKit.Below w.heap.size w (sliceWorld Tryz.prog Jb 28 (some ⟨g,0,none⟩) xs.length cap w):=dB (dB (RowKit.Below.refl _ _) _) _;have h1:=h0.below hbl;have amT:Lib.bitLen xs.length≤62:=Lib.bitLen_le xs.length 62 (by omega) (by omega);have:=Vr C (xs.length+1) _ _ h1 0 xs.length (Lib.bitLen xs.length) (by omega) (by omega) (Nat.le_refl _) (by omega) (.inl rfl) _ _ _ rfl rfl rfl;refine this.mono ?_;rintro e w' ⟨he,D,hs,hp,hso,hg⟩;exact⟨he,D,hp,hso,aaP (C:=C) hR hs rfl,pC (qx hbl) hg⟩
theorem aiq (w:World) (A:Option Addr) (n cap bs:Nat) (h1:n≤1):
    Calls Tryz.prog 152 #[.iface 28 (.slice A n cap),.func (.func 153) #[] #[.pointer (some ⟨bs,0,none⟩)]] w fun e w'=>e= .returned (.tuple #[])∧RowKit.Below w.heap.size w w':=by
  have hK:n=0∨n=1:=by omega
  have a:svE.hasPointers=false:=by kernel_rfl
  have b:svE.bytes=32:=by kernel_rfl
  have key:∀f,Tryz.prog.funcs.findIdx? (·.name== "internal/reflectlite" ++ ".Swapper$" ++toString (swapperK n svE 25))=some f→Calls Tryz.prog 152 #[.iface 28 (.slice A n cap),.func (.func 153) #[] #[.pointer (some ⟨bs,0,none⟩)]] w fun e w'=>e= .returned (.tuple #[])∧RowKit.Below w.heap.size w w':=by
    intro f hf;refine(Any.sort_Slice_tiny Ja 28 64 Wl svE (by kernel_rfl) (by kernel_rfl) (by kernel_rfl) (by kernel_rfl) 25 (fun _=>by kernel_rfl) A n cap h1 f hf _ _ _ w).mono ?_;rintro e w' ⟨he,os,rfl⟩;exact⟨he,rfl,rfl,rfl,by simp,fun k hk=>heap_grow_old _ _ hk⟩
  rcases hK with rfl|rfl
  · exact key 181 (by rw[show swapperK 0 svE 25=1 from rfl];kernel_rfl)
  · exact key 182 (by rw[show swapperK 1 svE 25=2 from rfl];kernel_rfl)
end Go.Proofs.YtnjfiaekdcekgaaGreatDoor.S
namespace Go.Proofs.YtnjfiaekdcekgaaGreatDoor.P
open Go.RowKit Go.Proofs.YtnjfiaekdcekgaaGreatDoorW.bS Go.Proofs.YtnjfiaekdcekgaaGreatDoorW.dU Go.Proofs.YtnjfiaekdcekgaaGreatDoorW.dX Go.Proofs.YtnjfiaekdcekgaaGreatDoor.V
open Go.Maps (Keyed)
attribute [local go_sem] fV fW
set_option maxHeartbeats 8000000 in
set_option maxRecDepth 100000 in
set_option synthInstance.maxHeartbeats 400000 in
set_option synthInstance.maxSize 100000 in
theorem pF.ab4 (k:Nat) (A0:Option Addr) (c0:Nat) (l0:List (S64)) (w:World) (cd:Kd.C k64 w A0 l0.length l0) (hc0:l0.length≤c0) (A:ly.f k l0=some true) (aqb:l0.length≤30) (hw:∀x∈l0,eO x.f0.f0∧eO x.f0.f1) (hfl:∀x∈l0,0≤x.f1∧x.f1≤2):
    Calls Tryz.prog 132 #[.slice A0 l0.length c0] w fun e w'=>∃v0_:Value,e= .returned (v0_)∧Kd.R k64 64 w' w.heap.size (fun _=>True) v0_ (Q.oh l0 l0.length)∧Below w.heap.size w w':=by
  have hl:l0.length≤1000:=by omega
  have YU:=aj.mk hfl;clear hfl;have i0:=cg.mk cd;have i1:=az.mk hc0;have A:=aj.mk A;have HW:=aj.mk hw;clear cd hc0 hw;have aeV:=Tryz.underlying64;have aeU:=Tryz.underlying62;go_enter Tryz.func132,Tryz.ntmps132
  go_wp2_with (first
    |(go_at_call 56;refine(ly.calls k _ _ _ true _ Rd.out az.out A.out).mono ?_;rintro e w2 ⟨rfl,hb⟩;have jb:=aK.mk hb;clear hb)
    |(go_at_call 133;refine(MD.calls _ _ _ _ Rd.out az.out hl HW.out).mono ?_;rintro e w3 ⟨b,rfl,hb1,hm,hb⟩;obtain⟨D,hD,rS⟩:=hm;have jb:=aK.mk hb;have HD:=aj.mk hD;have HD2:=aj.mk rS;have xe:=aj.mk hb1;clear hb hb1 hD rS)
    |(at_range;refine wpList_range_own _ rfl _ 141 rfl 62 64 yY Tryz.underlying141 pipeR b l0.length D rfl HD.out ?_;intro w4 hrg hg hs;have xl:=aj.mk hrg;have HG:=aj.mk hg;have HS:=aj.mk hs;clear hrg hg hs))
  go_frame
  have HNE:=aj.mk (xl.out.ne);have QA:=aj.mk (HD.out.size_le);have YZ:=aj.mk (HD.out.lt);have HGB:aj (w2.heap.size+2≤w3.heap.size):=⟨by have hs:=(aK.out (W:=w3)).size;simpa using hs⟩;have Qc:aj (w2.heap.size+2≤b):=⟨by have:=xe.out;simpa using this⟩;have JY:aj (w.heap.size≤w2.heap.size):=⟨Sz.out⟩;have P5:aj (Below w.heap.size w w4):=⟨(From.out:Below w.heap.size w w3).grown HG.out (Sz.out:w.heap.size≤w3.heap.size) (fun k hk=>by cases hk)⟩
  have sM:aj (w4.heap[w2.heap.size+1]? =some (.cells #[.slice (some ⟨w2.heap.size,0,none⟩) 0 0] 28 (0,0))):=⟨by
    have h3:a7 w3 (w2.heap.size+1) #[.slice (some ⟨w2.heap.size,0,none⟩) 0 0] 28:=⟨oG (by have:=mC (w2.alloc (.cells #[] 64 (0,0))) (.cells #[.slice (some ⟨w2.heap.size,0,none⟩) 0 0] 28 (0,0));simpa using this) (aK.out (W:=w3))⟩;exact(HG.out.block _ (iD h3.out) (by simp)).trans h3.out⟩
  have Qz:aj (Kd.R k64 64 w4 w.heap.size (fun j=>j≠w2.heap.size+1∧j≠b∧j≠w3.heap.size) (.slice (some ⟨w2.heap.size,0,none⟩) 0 0) []):=⟨by
    have h3:a7 w3 w2.heap.size #[] 64:=⟨oG (bC (mC w2 (.cells #[] 64 (0,0))) (.cells #[.slice (some ⟨w2.heap.size,0,none⟩) 0 0] 28 (0,0))) (aK.out (W:=w3))⟩;have h4:w4.heap[w2.heap.size]? =some (.cells #[] 64 (0,0)):=(HG.out.block _ (iD h3.out) (by simp)).trans h3.out;refine⟨fun k hk=> ?_,[],⟨rfl,.inr ⟨w2.heap.size,0,#[],rfl,JY.out,h4,Nat.le_refl _,Nat.zero_le _,rfl,rfl⟩⟩,bf.none _ _⟩;obtain rfl:w2.heap.size=k:=(by simpa[Value.ownBlock]using hk);exact⟨by omega,by have:=Qc.out;omega,by have:=HGB.out;omega⟩⟩
  have P8:aj (Found (pG l0) (Maps.has D) []):=⟨⟨fun x hx=>by simp at hx,List.Pairwise.nil,fun p x h0 h1 hm hx hf=>by
    have e1:=Maps.atKey_of_not_has hf (.map []);have e2:=HD2.out.at_ p h0 h1 (.map []);rw[hm]at e2;exact absurd (e1.symm.trans e2) (by simp[qG])⟩⟩
  go_loopg [] (Maps.size D+1) (fun kq wr=>∃(left:Lit→Bool) (cnt:Nat) (v:Value) (xs:List S64),aj (kq=cnt+1)∧aj (xs.length+cnt≤Maps.size D)∧aj (wr.ranges Tryz.prog 62 pipeR b w3.heap.size l0.length D left cnt)∧aj (Found (pG l0) left xs)∧aj (Kd.R k64 64 wr w.heap.size (fun j=>j≠w2.heap.size+1∧j≠b∧j≠w3.heap.size) v xs)∧aj (wr.heap[w2.heap.size+1]? =some (.cells #[v] 28 (0,0)))∧aj (Below w.heap.size w wr))
  case atStart=>exact⟨_,_,_,[],⟨rfl⟩,⟨by simp⟩,xl,P8,Qz,sM,P5⟩
  case round=>
    clear xl P8 Qz sM P5 HG;obtain⟨left,cnt,v,xs,HK,HN,xl,HF,HR,sM,HB⟩:=hrel
    go_wp2_with (first
      |(at_next;refine wpList_next_ranges _ rfl _ rfl 62 yY pipeR (fun p:fp=>uW p.f0 p.f1) Bh (fun key kl h=>by obtain⟨a,b,rfl,_⟩:=UN h;exact⟨⟨a,b⟩,rfl⟩) (fun v y h=>by obtain⟨x,rfl,_⟩:=Vv h;exact⟨x,rfl⟩) b w3.heap.size l0.length D left cnt rfl xl.out ?_ ?_))
    rotate_left
    · intro p c kl y1 y2 w5 cnt1 hk hlk hv hat hrg1 hlt hg1 hs1 hen
      obtain⟨p0,p1⟩:eO p.f0∧eO p.f1:=by
        obtain⟨a,b',e,ha,hb⟩:=UN hk;simp[uW]at e;rw[e.1,e.2];exact⟨ha,hb⟩
      obtain rfl:kl=lD p.f0 p.f1:=Option.some.inj (hk.symm.trans (yz p0 p1))
      obtain⟨rfl,rfl⟩:y1=qG c∧y2=[]:=by
        have:=(pipeR_mk c).symm.trans hv;simp at this;exact⟨this.1.symm,this.2⟩
      have hm:=agb HD2.out p0 p1 hat
      obtain rfl:c.f0=p:=by
        have:=(Q.MN l0 p c l0.length (Nat.le_refl _)).mp (by rw[List.take_length];exact hm);obtain⟨_,_,_,e,_⟩:=this;exact e
      have HST:=aj.mk (HF.out.step c p0 p1 hm hlk);have J8:=aj.mk hrg1;have B_:=aj.mk hlt;have JX:=aj.mk hg1;have HS1:=aj.mk hs1;clear hk hlk hv hat hrg1 hlt hg1 hs1 hm HF xl;simp only[uW,Bh]at hen ⊢;have kg:=aj.mk (Kd.aaN HR.out JX.out (fun j hj e=>hj.2.2 (Option.some.inj e)));have GH:aj (w5.heap[w2.heap.size+1]? =some (.cells #[v] 28 (0,0))):=⟨(JX.out.block _ (iD sM.out) (fun e=>by have:=HGB.out;have:=Option.some.inj e;omega)).trans sM.out⟩;have xe:aj (Below w.heap.size w w5):=⟨HB.out.grown JX.out HB.out.size (fun k hk=>by cases hk;have:=HGB.out;have:=JY.out;omega)⟩;have jx:=a7.mk GH.out;have HE:=aj.mk (show(if c.f1≠0 then xs++[c]else xs)=(if c.f1≠0 then xs++[c]else xs)from rfl);clear HR sM HB;by_cases hc:c.f1=0
      · rw[if_neg (by simpa using hc)]at HST;obtain⟨ck,c1,c2⟩:=c;simp only at hc;subst hc;simp only at hen ⊢;go_wp2
        go_roundg (cnt1+1)
        case measure=>have:=HK.out;have:=B_.out;omega
        case rel=>
          refine⟨_,cnt1,v,xs,⟨rfl⟩,⟨by have:=HN.out;have:=B_.out;omega⟩,⟨J8.out.alloc _⟩,HST,⟨Kd.bY kg.out _⟩,⟨bC GH.out _⟩,⟨dB xe.out _⟩⟩
      · rw[if_pos hc]at HST;have hd:=beq_eq_false_iff_ne.mpr hc;have he:=bne_iff_ne.mpr hc
        go_upto_region 8 with (fail)
        generalize hW:w5.alloc _=W;have GP:aj (Kd.R k64 64 W w.heap.size (fun j=>j≠w2.heap.size+1∧j≠b∧j≠w3.heap.size) v xs):=⟨by rw[←hW];exact Kd.bY kg.out _⟩;have JS:aj (W.heap[w2.heap.size+1]? =some (.cells #[v] 28 (0,0))):=⟨by rw[←hW];exact bC GH.out _⟩;have P6:aj (Below w.heap.size w W):=⟨by rw[←hW];exact dB xe.out _⟩;have Qy:aj (W.ranges Tryz.prog 62 pipeR b w3.heap.size l0.length D _ cnt1):=⟨by rw[←hW];exact J8.out.alloc _⟩;have Zz:aj (w3.heap.size+1≤W.heap.size):=⟨Qy.out.lt⟩;have jE:a7 W w5.heap.size #[.int .i64 c.f0.f0,.int .i64 c.f0.f1,.int .i64 c.f1,.int .i64 c.f2] 64:=⟨by rw[←hW];exact mC w5 _⟩;have jX:=a7.mk JS.out;clear hW jx kg GH xe J8
        go_wp2_with (first
          |(refine Kd.R_append k64 (w0:=w) w.heap.size rfl (.tmp 20) (.tmp 22) 28 64 (.agg #[(.int .i64 0),(.int .i64 0),(.int .i64 0),(.int .i64 0)]) 32 rfl Tryz.underlying28 EU rfl (by decide) (by omega) v xs c [.int .i64 c.f0.f0,.int .i64 c.f0.f1,.int .i64 c.f1,.int .i64 c.f2] (fun j=>j≠w2.heap.size+1∧j≠b∧j≠w3.heap.size) (fun _=>False) rfl rfl ?aP (fun _ hk=>hk.elim) ?aF ?aO ?aB ?aS ?aL ?_;(case aP=>exact k64_mkM _ _ _ c);(case aB=>exact P6.out);(case aF=>intro j hj;have:=Zz.out;have:=HGB.out;have:=YZ.out;exact⟨by omega,by omega,by omega⟩);(case aO=>exact GP.out);(case aS=>exact P6.out.size);(case aL=>have:=HN.out;have:=QA.out;omega);intro v1 w6 ho hb hg hat;obtain⟨B1,b1,rfl⟩:=Kd.dp ho;have HO:=aj.mk ho;have YT:=aj.mk hb;have Qb:=aj.mk hg;have j6:a7 w6 (w2.heap.size+1) #[v] 28:=⟨(Qb.out.block _ (iD JS.out) (fun e=>(GP.out.1 _ e.symm).1 rfl)).trans JS.out⟩;clear ho hb hg))
        go_roundg (cnt1+1)
        case measure=>have:=HK.out;have:=B_.out;omega
        case rel=>
          refine⟨_,cnt1,.slice B1 (xs.length+1) b1,xs++[c],⟨rfl⟩,⟨by have:=HN.out;have:=B_.out;simp only[List.length_append,List.length_singleton];omega⟩,⟨?_⟩,HST,⟨?_⟩,⟨?_⟩,⟨?_⟩⟩
          · refine World.ranges.kept (Qy.out.kept Qb.out (fun e=>(GP.out.1 _ e.symm).2.1 rfl) (fun e=>(GP.out.1 _ e.symm).2.2 rfl)) (grownBy_setCell' w6 _ _) (fun e=> ?_) (fun e=> ?_)
            · have:=Qc.out;have:=Option.some.inj e;omega
            · have:=HGB.out;have:=Option.some.inj e;omega
          · refine Kd.aM (by simpa using HO.out) (fun j hj=>hj.1) _
          · exact di j6.out 0 _ rfl
          · exact nZ YT.out (by have:=JY.out;omega)
    · intro hc0 hl0;have hall:=HF.out.all
      have hnd:xs.Nodup:=by
        refine HF.out.nodup.imp ?_;intro p q h e;exact h (by rw[e])
      have hmem:∀x,x∈xs↔pG l0 x.f0=some x∧x.f1≠0:=fun x=>⟨fun hx=>⟨(hall x hx).1,(hall x hx).2.1⟩,fun hx=>by
        have hin:x∈l0:=by
          have h9:=(Q.MU l0 x).mpr hx;obtain⟨i,_,_,h3⟩:=(Q.E3 l0 x l0.length (Nat.le_refl _)).mp h9;exact List.mem_of_getElem? h3
        exact HF.out.got x.f0 x (HW.out x hin).1 (HW.out x hin).2 hx.1 hx.2 (hl0 _)⟩
      have hin:∀x∈xs,x∈l0:=fun x hx=>by
        have h9:=(Q.MU l0 x).mpr ((hmem x).mp hx);obtain⟨i,_,_,h3⟩:=(Q.E3 l0 x l0.length (Nat.le_refl _)).mp h9;exact List.mem_of_getElem? h3
      have hft:∀x∈xs,S.vw x:=fun x hx=>by
        have h8:=YU.out x (hin x hx);have h9:=((hmem x).mp hx).2;unfold S.vw;omega
      have TF:∀D':Array S64,Sort.PermIn 0 xs.length xs.toArray D'→Sort.SortedIn Q.aQ 0 xs.length D'→D'.toList=Q.oh l0 l0.length:=fun D' hp hs=>by
        obtain⟨h8,h9⟩:=air (lt:=Q.aQ) (D:=xs.toArray) (D':=D') (by simpa using hp) (by simpa using hs) (fun a _ c _ hne=>Q.before_total hne) (by simpa using hnd);refine Q.agR l0 _ h9 fun x=> ?_;rw[h8.mem_iff];simpa using hmem x
      have hsmall:xs.length<50:=(by have:=HN.out;have:=QA.out;omega);have YV:=aj.mk hft;have P9:=aj.mk TF;clear hall hnd hmem hin hft TF HF xl;have jx:=a7.mk sM.out;by_cases h2:2≤xs.length
      · obtain⟨g,cap,rfl,hg1,hg2,_⟩:=Kd.xr HR.out (by omega);have hne:w2.heap.size+1≠g:=fun e=>(HR.out.1 g (by simp[Value.ownBlock])).1 e.symm
        go_wp2_with (first
          |(go_at_call 152;refine(S.aip wr g cap (w2.heap.size+1) w.heap.size _ xs HR.out sM.out hne h2 hsmall YV.out).mono ?_;rintro e w9 ⟨rfl,D9,hp,hso,SY,Mm⟩;have jx9:a7 w9 (w2.heap.size+1) #[.slice (some ⟨g,0,none⟩) xs.length cap] 28:=⟨(Mm.block _ (iD sM.out) (fun e=>hne (Option.some.inj e))).trans sM.out⟩;have H9:=aj.mk (P9.out D9 hp hso);have R9:=aj.mk SY;have B9:aj (Below w.heap.size w w9):=⟨HB.out.grown Mm HB.out.size (fun k hk=>by cases hk;exact hg1)⟩;clear hp hso SY Mm))
        go_ret;refine⟨_,rfl,?_,B9.out⟩;rw[←H9.out];exact Kd.bN R9.out (fun _ _=>trivial)
      · obtain⟨A9,cap,rfl⟩:=Kd.dp HR.out
        go_wp2_with (first
          |(go_at_call 152;refine(S.aiq wr A9 xs.length cap (w2.heap.size+1) (by omega)).mono ?_;rintro e w9 ⟨rfl,HV⟩;have IA:=aK.mk HV;have R9:=aj.mk (Kd.bh HR.out HV);have B9:aj (Below w.heap.size w w9):=⟨bz HB.out HV⟩;clear HV))
        go_ret;refine⟨_,rfl,?_,B9.out⟩;have hp:Sort.PermIn 0 xs.length xs.toArray xs.toArray:=Sort.permIn_refl _ _ _;have hso:Sort.SortedIn Q.aQ 0 xs.length xs.toArray:=fun i j _ h1 h2=>by omega
        rw[←P9.out xs.toArray hp hso];exact Kd.bN R9.out (fun _ _=>trivial)
set_option maxHeartbeats 8000000 in
set_option maxRecDepth 100000 in
set_option synthInstance.maxHeartbeats 400000 in
set_option synthInstance.maxSize 100000 in
theorem pF.ab3 (k:Nat) (A0:Option Addr) (c0:Nat) (l0:List (S64)) (w:World) (cd:Kd.C k64 w A0 l0.length l0) (hc0:l0.length≤c0) (A:ly.f k l0=some false):
    Calls Tryz.prog 132 #[.slice A0 l0.length c0] w fun e w'=>∃v0_:Value,e= .returned (v0_)∧Kd.R k64 64 w' w.heap.size (fun _=>True) v0_ ([]:List S64)∧Below w.heap.size w w':=by
  have i0:=cg.mk cd;have i1:=az.mk hc0;have A:=aj.mk A;clear cd hc0;go_enter Tryz.func132,Tryz.ntmps132
  go_wp2_with (first
    |(go_at_call 56;refine(ly.calls k _ _ _ false _ Rd.out az.out A.out).mono ?_;rintro e w2 ⟨rfl,hb⟩;have jb:=aK.mk hb;clear hb))
  go_ret;exact⟨_,rfl,Kd.bM _ _ _ _ _,From.out⟩
end Go.Proofs.YtnjfiaekdcekgaaGreatDoor.P
namespace Go.Proofs.YtnjfiaekdcekgaaGreatDoor.P
open Go.RowKit Go.Proofs.YtnjfiaekdcekgaaGreatDoorW.bS Go.Proofs.YtnjfiaekdcekgaaGreatDoorW.dU Go.Proofs.YtnjfiaekdcekgaaGreatDoorW.dX Go.Proofs.YtnjfiaekdcekgaaGreatDoor.V
attribute [local go_sem] fV fW
attribute [local go_sem] fE fI fH fL fG fK fF fJ
def pF.f (l0:List (S64)):Option (List (S64)):=if l0.length≤1048577 then some (if Q.gA l0=true then Q.oh l0 l0.length else[])else none
theorem pF.calls (A0:Option Addr) (c0:Nat) (l0:List (S64)) (r:List (S64)) (w:World) (cd:Kd.C k64 w A0 l0.length l0) (hc0:l0.length≤c0) (h:pF.f l0=some r):
  Calls Tryz.prog 132 #[.slice A0 l0.length c0] w fun e w'=>∃v0_:Value,e= .returned (v0_)∧Kd.R k64 64 w' w.heap.size (fun _=>True) v0_ r∧Below w.heap.size w w':=by
 unfold pF.f at h;by_cases h0:l0.length≤1048577;rotate_left
 ·rw[if_neg h0]at h;cases h
 rw[if_pos h0]at h;obtain⟨k,hk⟩:=Q.IK l0 h0;have A:=hk k (Nat.le_refl _);by_cases hb:Q.gA l0=true
 ·rw[if_pos hb]at h;rw[hb]at A;obtain⟨h1,h2,h3⟩:=af7 hb;obtain rfl:=Option.some.inj h;exact pF.ab4 k A0 c0 l0 w cd hc0 A h1 h2 h3
 ·rw[if_neg hb]at h;rw[Bool.eq_false_iff.mpr hb]at A;obtain rfl:=Option.some.inj h;exact pF.ab3 k A0 c0 l0 w cd hc0 A
end Go.Proofs.YtnjfiaekdcekgaaGreatDoor.P
namespace Go.Proofs.YtnjfiaekdcekgaaGreatDoor.P
set_option maxHeartbeats 8000000
set_option maxRecDepth 100000
open Go.RowKit Go.Proofs.YtnjfiaekdcekgaaGreatDoorW.bS Go.Proofs.YtnjfiaekdcekgaaGreatDoorW.dU Go.Proofs.YtnjfiaekdcekgaaGreatDoorW.dX
attribute [local go_sem] fE fI fH fL fG fK fF fJ
def AW.f (l0:List (S64)):Option (Int×Int×Bool):=(pF.f l0).bind fun jG=>(if(jG.length:Int)=0 then(some (0,0,false))else(if 0<(jG.length:Int)then(some ((dn jG 0).f0.f0,(dn jG 0).f0.f1,true))else(none)))
theorem AW.calls (A0:Option Addr) (c0:Nat) (l0:List (S64)) (r1:Int) (r2:Int) (r3:Bool) (w:World) (cd:Kd.C k64 w A0 l0.length l0) (hc0:l0.length≤c0) (h:AW.f l0=some (r1,r2,r3)):
  Calls Tryz.prog 104 #[.slice A0 l0.length c0] w fun e w'=>e= .returned (.tuple #[.agg #[.int .i64 r1,.int .i64 r2],.bool r3])∧Below w.heap.size w w':=by
 have yc:=Tryz.underlying62;have dI:=A_ cd;have nh:=A_ hc0;clear cd hc0;have HB:=A_ (Below.refl w.heap.size w);have H:((pF.f l0).bind fun jG=>(if(jG.length:Int)=0 then(some (0,0,false))else(if 0<(jG.length:Int)then(some ((dn jG 0).f0.f0,(dn jG 0).f0.f1,true))else(none))))=some (r1,r2,r3):=h;clear h;replace H:=Option.bind_eq_some_iff.mp H;obtain⟨jG,fh,H⟩:=H
 (try dsimp only at H)
 have A2:=A_ fh;clear fh;by_cases c3:(jG.length:Int)=0
 ·rw[if_pos c3]at H;have c3b0:((jG.length:Int)==0)=true:=beq_iff_eq.mpr c3;have Hp:((jG.length:Int) != 0)=false:=bne_eq_false_iff_eq.mpr c3;clear c3;simp only[Option.some.injEq,Prod.mk.injEq]at H;obtain⟨rfl,rfl,rfl⟩:=H;go_enter Tryz.func104,Tryz.ntmps104
  go_wp2_with (first|((with_reducible refine gate_dst (N:=2) rfl ?_);refine bX (N:=2) (cs:= #[.int .i64 0,.int .i64 0]) (t:=62) ?_;intro xX hg w4 cj hb;have ah:=A_ (bz (oB HB) hb);have ai:=A_ (cj);have ay:=A_ ((by rw[hg];exact(bn (oB HB)):w.heap.size≤xX));have aG:=A_ ((by rw[hg];exact(bn (oB HB)):w.heap.size≤xX));clear HB;have HB:=ah;have mr:=ai;have YO:=ay;have YF:=aG;clear ah ai ay aG;clear hb cj hg)|((with_reducible refine bT (f:=132) rfl ?_);refine gL (some 6) Tryz.func132 #[.slice A0 l0.length c0] ?_;(with_reducible refine(pF.calls _ _ l0 jG _ ?bG ?bH A2.out).mono ?_);(case bG=>exact eM dI.out);(case bH=>exact nh.out);rintro e w5 ⟨akc,rfl,ho0,hb⟩;refine⟨_,rfl,?_⟩;have ah:=A_ (Kd.dr ho0 (bn (oB HB)));have ai:=A_ (bb mr hb);have ay:=A_ (bz (oB HB) hb);clear mr;clear HB;have GN:=ah;have mr:=ai;have HB:=ay;clear ah ai ay;(try clear hb);(try clear hb2);(try clear hk);(try clear hi);(try clear ho0);obtain⟨Ao6,co6,eo6⟩:=Kd.dp GN.out;subst eo6;have TA:=cz mr 0;have TB:=cz mr 1;have hfz7_0:=aJ mr.out 0;have hfz7_1:=aJ mr.out 1))
  refine bodyPost_ret (results_ct rfl _ _ xX 62 #[.int .i64 0,.int .i64 0] (0,0) _ rfl (by(with_reducible repeat(first|refine bP ?_ _|refine bF ?_|refine bC ?_ _));refine di (cs:= #[.int .i64 0,.int .i64 0]) ?_ 1 _ rfl;(with_reducible repeat(first|refine bP ?_ _|refine bF ?_|refine bC ?_ _));refine di (cs:= #[.int .i64 0,.int .i64 0]) ?_ 0 _ rfl;(with_reducible repeat(first|refine bP ?_ _|refine bF ?_|refine bC ?_ _));exact mr.out) Tryz.underlying62 rfl (by kernel_rfl)) rfl ?_;exact⟨eR,oB HB⟩
 ·rw[if_neg c3]at H;have c3b0:((jG.length:Int)==0)=false:=beq_eq_false_iff_ne.mpr c3;have Hp:((jG.length:Int) != 0)=true:=bne_iff_ne.mpr c3;have K9:¬(jG=[]):=fun h_=>c3 (by rw[h_];rfl);by_cases c8:0<(jG.length:Int)
  ·rw[if_pos c8]at H;have vW:decide (0<(jG.length:Int))=true:=decide_eq_true c8;have amj:decide (0<jG.length)=true:=decide_eq_true (by omega);clear c8;simp only[Option.some.injEq,Prod.mk.injEq]at H;obtain⟨rfl,rfl,rfl⟩:=H;go_enter Tryz.func104,Tryz.ntmps104
   go_wp2_with (first|((with_reducible refine gate_dst (N:=2) rfl ?_);refine bX (N:=2) (cs:= #[.int .i64 0,.int .i64 0]) (t:=62) ?_;intro xX hg w9 cj hb;have ah:=A_ (bz (oB HB) hb);have ai:=A_ (cj);have ay:=A_ ((by rw[hg];exact(bn (oB HB)):w.heap.size≤xX));have aG:=A_ ((by rw[hg];exact(bn (oB HB)):w.heap.size≤xX));clear HB;have HB:=ah;have mr:=ai;have YO:=ay;have YF:=aG;clear ah ai ay aG;clear hb cj hg)|((with_reducible refine bT (f:=132) rfl ?_);refine gL (some 6) Tryz.func132 #[.slice A0 l0.length c0] ?_;(with_reducible refine(pF.calls _ _ l0 jG _ ?bG ?bH A2.out).mono ?_);(case bG=>exact eM dI.out);(case bH=>exact nh.out);rintro e lJ ⟨akc,rfl,ho0,hb⟩;refine⟨_,rfl,?_⟩;have ah:=A_ (Kd.dr ho0 (bn (oB HB)));have ai:=A_ (bb mr hb);have ay:=A_ (bz (oB HB) hb);clear mr;clear HB;have GN:=ah;have mr:=ai;have HB:=ay;clear ah ai ay;(try clear hb);(try clear hb2);(try clear hk);(try clear hi);(try clear ho0);obtain⟨mq,co11,CS⟩:=Kd.dp GN.out;subst CS;have p994:0≤(0:Int):=(by omega);have NH:0<(jG.length:Int):=oD;obtain⟨alZ,acF,Mw,Mx,My,Mz⟩:=tV (Kd.ct GN.out).2.2 0 p994 NH;cases acF;have arH:(0<jG.length)=True:=eq_true (by omega);(try rw[show((0:Int)).toNat=0 from rfl]at Mw);(try rw[show 0*4=0 from rfl]at Mw);(try rw[Addr.add_zero']at Mw);(try rw[show((0:Int)).toNat=0 from rfl]at Mx);(try rw[show 0*4=0 from rfl]at Mx);(try rw[Addr.add_zero']at Mx);(try rw[show((0:Int)).toNat=0 from rfl]at My);(try rw[show 0*4=0 from rfl]at My);(try rw[Addr.add_zero']at My);(try rw[show((0:Int)).toNat=0 from rfl]at Mz);(try rw[show 0*4=0 from rfl]at Mz);(try rw[Addr.add_zero']at Mz);replace p994:=eq_true p994;replace NH:=eq_true NH;have C3:=cz mr 0;have C4:=cz mr 1;have C_:=aJ mr.out 0;have Da:=aJ mr.out 1))
   refine bodyPost_ret (results_ct rfl _ _ xX 62 #[.int .i64 ((dn jG 0).f0.f0),.int .i64 ((dn jG 0).f0.f1)] (0,0) _ rfl (by(with_reducible repeat(first|refine bP ?_ _|refine bF ?_|refine bC ?_ _));refine di (cs:= #[.int .i64 ((dn jG 0).f0.f0),.int .i64 0]) ?_ 1 _ rfl;(with_reducible repeat(first|refine bP ?_ _|refine bF ?_|refine bC ?_ _));refine di (cs:= #[.int .i64 0,.int .i64 0]) ?_ 0 _ rfl;(with_reducible repeat(first|refine bP ?_ _|refine bF ?_|refine bC ?_ _));exact mr.out) Tryz.underlying62 rfl (by kernel_rfl)) rfl ?_;exact⟨eR,oB HB⟩
  ·rw[if_neg c8]at H;exact absurd H (by simp)
end Go.Proofs.YtnjfiaekdcekgaaGreatDoor.P
namespace Go.Proofs.YtnjfiaekdcekgaaGreatDoor.P
set_option maxHeartbeats 8000000
set_option maxRecDepth 100000
set_option synthInstance.maxHeartbeats 400000
set_option synthInstance.maxSize 100000
open Go.RowKit Go.Proofs.YtnjfiaekdcekgaaGreatDoorW.bS Go.Proofs.YtnjfiaekdcekgaaGreatDoorW.dU Go.Proofs.YtnjfiaekdcekgaaGreatDoorW.dX Go.Proofs.YtnjfiaekdcekgaaGreatDoor.V
attribute [local go_sem] fV fW
attribute [local go_sem] fE fI fH fL fG fK fF fJ
def yg.f (k:Nat) (l0:List (S64)) (a1:Int):Option ((List (S64))×Bool):=(AW.f l0).bind fun K5=>(if K5.2.2=true then((mh.f k l0 K5.1 K5.2.1 0 a1).bind fun RO=>(some (RO.1,RO.2)))else((oP.f l0).bind fun aiQ=>(some (aiQ,false))))
theorem yg.calls (k:Nat) (A0:Option Addr) (c0:Nat) (l0:List (S64)) (a1:Int) (r1:List (S64)) (r2:Bool) (w:World) (cd:Kd.C k64 w A0 l0.length l0) (hc0:l0.length≤c0) (h:yg.f k l0 a1=some (r1,r2)):
  Calls Tryz.prog 65 #[.slice A0 l0.length c0,.int .i64 a1] w fun e w'=>∃v0_:Value,e= .returned (.tuple #[v0_,.bool r2])∧Kd.R k64 64 w' w.heap.size (fun _=>True) v0_ r1∧Below w.heap.size w w':=by
 replace cd:=cg.mk cd;replace hc0:=az.mk hc0;unfold yg.f at h;have yc:=Tryz.underlying62
 (repeat' first|((with_reducible replace h:=cG h);rcases h with ⟨hc,h⟩|⟨hc,h⟩<;>first|exact(none_some h).elim|exact absurd hc (by decide)|subst hc|(replace hc:=br hc;subst hc)|(have hd:=hI_ hc;have he:=cD hc;clear hc)|(have hd:=cE hc;have he:=hL_ hc)|(have hd:=decide_eq_false hc)|(have hd:=decide_eq_true hc)|skip))
 all_goals go_enter Tryz.func65,Tryz.ntmps65
 all_goals go_wp2_with ((first
  |((with_reducible refine gate_dst (N:=6) rfl ?_);refine bV #[.int .i64 0,.int .i64 0] 62 fun g w1 j1 j2 j3=> ?_)
  |(go_at_call 104;replace h:=bI h;obtain⟨⟨t1,t2,t3⟩,A,h⟩:=h;(try dsimp only at h);refine(AW.calls _ _ _ _ _ _ _ Rd.out az.out A).mono ?_;rintro e w2 ⟨rfl,hb⟩;have jb:=aK.mk hb;clear A hb)
  |(go_at_call 102;replace h:=bI h;obtain⟨⟨t1,t2⟩,A,h⟩:=h;(try dsimp only at h);refine(mh.calls _ _ _ _ _ _ _ _ _ _ _ Rd.out az.out A).mono ?_;rintro e w2 ⟨v0,rfl,ho0,hb⟩;obtain⟨B0,b0,rfl,j0,q0⟩:=aX ho0;have jb:=aK.mk hb;clear A ho0 hb)
  |(go_at_call 54;replace h:=bI h;obtain⟨t,A,h⟩:=h;(try dsimp only at h);refine(oP.calls _ _ _ _ _ Rd.out az.out A).mono ?_;rintro e w2 ⟨v0,rfl,ho0,hb⟩;obtain⟨B0,b0,rfl,j0,q0⟩:=aX ho0;have jb:=aK.mk hb;clear A ho0 hb));(repeat' first|((with_reducible replace h:=cG h);rcases h with ⟨hc,h⟩|⟨hc,h⟩<;>first|exact(none_some h).elim|exact absurd hc (by decide)|subst hc|(replace hc:=br hc;subst hc)|(have hd:=hI_ hc;have he:=cD hc;clear hc)|(have hd:=cE hc;have he:=hL_ hc)|(have hd:=decide_eq_false hc)|(have hd:=decide_eq_true hc)|skip));all_goals(try have hn:decide (0<t.length)=true:=decide_eq_true (by omega));all_goals(try have hn:decide (0<t.length)=false:=decide_eq_false (by omega)))
 all_goals simp only[Option.some.injEq,Prod.mk.injEq]at h
 all_goals obtain⟨rfl,rfl⟩:=h
 all_goals go_ret2
 all_goals exact⟨_,rfl,(by first|exact cn|exact Kd.bM _ _ _ _ _),From.out⟩
end Go.Proofs.YtnjfiaekdcekgaaGreatDoor.P
namespace Go.Proofs.YtnjfiaekdcekgaaGreatDoor.P
set_option maxHeartbeats 8000000
set_option maxRecDepth 100000
set_option synthInstance.maxHeartbeats 400000
set_option synthInstance.maxSize 100000
open Go.RowKit Go.Proofs.YtnjfiaekdcekgaaGreatDoorW.bS Go.Proofs.YtnjfiaekdcekgaaGreatDoorW.dU Go.Proofs.YtnjfiaekdcekgaaGreatDoorW.dX Go.Proofs.YtnjfiaekdcekgaaGreatDoor.V
attribute [local go_sem] fV fW cellR_c sT sU uh uq
attribute [local go_sem] fE fI fH fL fG fK fF fJ
def cM.j0:Nat→Bool→List (ar)→Int→List Int→Int→Int→List (S64)→Int→Int→Int→Int→Option ((List (ar))×Int×List Int×Int×Int×(List (S64))×Int)
 |0,_,_,_,_,_,_,_,_,_,_,_=>none
 |k+1,tJ,tF,tG,tH,tI,sw,sx,BP,Js,x1022002,akE=>if tJ=true then((jO.f tF tG tH tI sw sx).bind fun Ab=>(some (Ab.1,Ab.2.1,Ab.2.2.1,Ab.2.2.2.1,Ab.2.2.2.2.1,Ab.2.2.2.2.2,(-1))))else(if BP=1 then((yj.f k tF tG tH tI sw sx).bind fun xD=>((oT.f xD.2.2.2.2.2.2).bind fun aiX=>(some (xD.1,xD.2.1,xD.2.2.1,xD.2.2.2.1,xD.2.2.2.2.1,xD.2.2.2.2.2.1,aiX))))else(if BP=2 then((yl.f k tF tG tH tI sw sx Js).bind fun xE=>((oT.f xE.2.2.2.2.2.2).bind fun aiY=>(some (xE.1,xE.2.1,xE.2.2.1,xE.2.2.2.1,xE.2.2.2.2.1,xE.2.2.2.2.2.1,aiY))))else(if BP=3 then((yh.f k tF tG tH tI sw sx Js x1022002 akE).bind fun xF=>((oT.f xF.2.2.2.2.2.2).bind fun aiZ=>(some (xF.1,xF.2.1,xF.2.2.1,xF.2.2.2.1,xF.2.2.2.2.1,xF.2.2.2.2.2.1,aiZ))))else(if BP=4 then((yi.f k tF tG tH tI sw sx Js x1022002).bind fun xG=>((oT.f xG.2.2.2.2.2.2).bind fun ai0=>(some (xG.1,xG.2.1,xG.2.2.1,xG.2.2.2.1,xG.2.2.2.2.1,xG.2.2.2.2.2.1,ai0))))else(if BP=5 then((jO.f tF tG tH tI sw sx).bind fun CA=>((yg.f k sx sw).bind fun RJ=>((oT.f RJ.2).bind fun ai1=>(some (CA.1,CA.2.1,CA.2.2.1,CA.2.2.2.1,CA.2.2.2.2.1,RJ.1,ai1)))))else(if BP=6 then((jO.f tF tG tH tI sw sx).bind fun Ac=>((oa.f k tF tG tH tI sw sx).bind fun ai2=>(some (Ac.1,Ac.2.1,Ac.2.2.1,Ac.2.2.2.1,Ac.2.2.2.2.1,Ac.2.2.2.2.2,ai2))))else((jO.f tF tG tH tI sw sx).bind fun Ad=>((nv.f k tF tG tH tI sw sx Js).bind fun ai3=>(some (Ad.1,Ad.2.1,Ad.2.2.1,Ad.2.2.2.1,Ad.2.2.2.2.1,Ad.2.2.2.2.2,ai3))))))))))
def cM.f (k:Nat) (ak:List (ar)) (ax:Int) (aq:List Int) (aN:Int) (a0_4:Int) (aD:List (S64)) (cZ:Int) (dc:Int) (e6:Int) (e7:Int):Option ((List (ar))×Int×List Int×Int×Int×(List (S64))×Int):=(impl_ShopOk.f k ak ax aq aN a0_4 aD).bind fun aiV=>(if aiV=true then((impl_ActOk.f k cZ dc e6 e7).bind fun aiW=>(cM.j0 k (!aiW) ak ax aq aN a0_4 aD cZ dc e6 e7))else(cM.j0 k true ak ax aq aN a0_4 aD cZ dc e6 e7))
def cM.Rk:Bool×List (List Nat×List Nat):=(true,[([],[]),([0],[0]),([],[]),([],[]),([3],[3]),([2,4,1],[2,4]),([1,5,0,1],[1]),([5,6,0,1,2,3,4,5,6],[5])])
def cM.Yf:List Nat:=[0,1,0,0,8,31,63,127]
theorem cM.ajP:rtab .any (opsOf Tryz.f29 23)=cM.Rk:=by kernel_rfl
theorem cM.abv:eN cM.Rk.2 cM.Yf=true:=by kernel_rfl
noncomputable def cM.T6:Bool×List (List Nat×List Nat):=rtab .any (opsOf Tryz.f29 6)
def cM.B6:List Nat:=[0,0,2,7,15]
theorem cM.Om:rtab .any (opsOf Tryz.f29 6)=cM.T6:=rfl
theorem cM.KF:eN cM.T6.2 cM.B6=true:=by kernel_rfl
noncomputable def cM.T9:Bool×List (List Nat×List Nat):=rtab .any (opsOf Tryz.f29 9)
def cM.B9:List Nat:=[0,0,2,7,15]
theorem cM.Jf:rtab .any (opsOf Tryz.f29 9)=cM.T9:=rfl
theorem cM.bits9:eN cM.T9.2 cM.B9=true:=by kernel_rfl
noncomputable def cM.Cn:Bool×List (List Nat×List Nat):=rtab .any (opsOf Tryz.f29 12)
def cM.JL:List Nat:=[0,0,2,7,15]
theorem cM.Jc:rtab .any (opsOf Tryz.f29 12)=cM.Cn:=rfl
theorem cM.bits12:eN cM.Cn.2 cM.JL=true:=by kernel_rfl
noncomputable def cM.Co:Bool×List (List Nat×List Nat):=rtab .any (opsOf Tryz.f29 15)
def cM.JM:List Nat:=[0,0,2,7,15]
theorem cM.Jd:rtab .any (opsOf Tryz.f29 15)=cM.Co:=rfl
theorem cM.bits15:eN cM.Co.2 cM.JM=true:=by kernel_rfl
noncomputable def cM.Ri:Bool×List (List Nat×List Nat):=rtab .any (opsOf Tryz.f29 20)
def cM.Yd:List Nat:=[0,0,2,7,15]
theorem cM.ajN:rtab .any (opsOf Tryz.f29 20)=cM.Ri:=rfl
theorem cM.abt:eN cM.Ri.2 cM.Yd=true:=by kernel_rfl
noncomputable def cM.Rj:Bool×List (List Nat×List Nat):=rtab .any (opsOf Tryz.f29 22)
def cM.Ye:List Nat:=[0,1,0,7,15,31]
theorem cM.ajO:rtab .any (opsOf Tryz.f29 22)=cM.Rj:=rfl
theorem cM.abu:eN cM.Rj.2 cM.Ye=true:=by kernel_rfl
theorem cM.calls (k:Nat) (aU:Option Addr) (c0_0:Nat) (ak:List (ar)) (ax:Int) (a6:Option Addr) (aW:Nat) (aq:List Int) (aN:Int) (a0_4:Int) (cy:Option Addr) (cu:Nat) (aD:List (S64)) (cZ:Int) (dc:Int) (e6:Int) (e7:Int) (r1:List (ar)) (r2:Int) (r3:List Int) (r4:Int) (r5:Int) (r6:List (S64)) (r7:Int) (w:World) (cp:Kd.C bl w aU ak.length ak) (cx:ak.length≤c0_0) (cv:Kd.C (Kd.int .i64) w a6 aq.length aq) (cA:aq.length≤aW) (dW:Kd.C k64 w cy aD.length aD) (eC:aD.length≤cu) (h:cM.f k ak ax aq aN a0_4 aD cZ dc e6 e7=some (r1,r2,r3,r4,r5,r6,r7)):
  Calls Tryz.prog 29 #[.agg #[.slice aU ak.length c0_0,.int .i64 ax,.slice a6 aq.length aW,.int .i64 aN,.int .i64 a0_4,.slice cy aD.length cu],.agg #[.int .i64 cZ,.int .i64 dc,.int .i64 e6,.int .i64 e7]] w fun e w'=>∃v0_ cB dL:Value,e= .returned (.tuple #[.agg #[v0_,.int .i64 r2,cB,.int .i64 r4,.int .i64 r5,dL],.int .i64 r7])∧Kd.R bl 110 w' w.heap.size (fun _=>True) v0_ r1∧Kd.R (Kd.int .i64) 3 w' w.heap.size (fun _=>True) cB r3∧Kd.R k64 64 w' w.heap.size (fun _=>True) dL r6∧Below w.heap.size w w':=by
 replace cp:=cg.mk cp;replace cx:=az.mk cx;replace cv:=cg.mk cv;replace cA:=az.mk cA;replace dW:=cg.mk dW;replace eC:=az.mk eC;have s8:=en.mk (d:=bl) (e:=110) (t:=3) (by decide);have IM:=en.mk (d:=bl) (e:=110) (t:=30) (by decide);have agB:=en.mk (d:=bl) (e:=110) (t:=57) (by decide);have Vi:=en.mk (d:=k64) (e:=64) (t:=3) (by decide);have IP:=en.mk (d:=k64) (e:=64) (t:=30) (by decide);have agD:=en.mk (d:=k64) (e:=64) (t:=57) (by decide);unfold cM.f at h;have kp:=Tryz.underlying30;have AU:=Tryz.underlying57;have yc:=Tryz.underlying62
 (repeat' first|((with_reducible replace h:=cG h);rcases h with ⟨hc,h⟩|⟨hc,h⟩<;>first|exact(none_some h).elim|exact absurd hc (by decide)|subst hc|(replace hc:=br hc;subst hc)|(replace hc:=ey hc;subst hc)|(replace hc:=hH_ hc;subst hc)|(have hd:(_==_)=true:=hc)|(have hd:(_==_)=false:=br hc)|(have hd:=hI_ hc;have he:=cD hc;clear hc)|(have hd:=cE hc;have he:=hL_ hc)|(have hd:=decide_eq_false hc)|(have hd:=decide_eq_true hc;(try(have hn:=Int.natCast_pos.mp hc;have hm:=decide_eq_true hn;replace hn:=eq_true hn));first|(obtain⟨g_,e_,i_⟩:=ew (by assumption) (by first|assumption|decide) hc;cases e_)|(obtain⟨a_,e_,c_⟩:=er (by assumption) (by first|assumption|decide) hc;cases e_))|(have hd:=decide_eq_true hc)|skip)|((with_reducible have hj:cM.j0 k _ _ _ _ _ _ _ _ _ _ _=_:=h);clear hj;rcases k with _|k<;>rw[cM.j0]at h<;>first|exact(none_some h).elim|skip)|((with_reducible replace h:=eu h);obtain⟨hl_,h⟩:=h;replace hl_:=A_ hl_;(try dsimp only at h)))
 all_goals go_enter Tryz.func29,Tryz.ntmps29
 all_goals go_wp2_with ((first
  |((with_reducible refine gate_dst (N:=2) rfl ?_);refine bV #[.slice aU ak.length c0_0,.int .i64 ax,.slice a6 aq.length aW,.int .i64 aN,.int .i64 a0_4,.slice cy aD.length cu] 30 fun g w1 j1 j2 j3=> ?_)
  |((with_reducible refine gate_dst (N:=3) rfl ?_);refine bV #[.int .i64 cZ,.int .i64 dc,.int .i64 e6,.int .i64 e7] 57 fun g w1 j1 j2 j3=> ?_)
  |((with_reducible refine gate_dst (N:=4) rfl ?_);refine bV #[.slice none 0 0,.int .i64 0,.slice none 0 0,.int .i64 0,.int .i64 0,.slice none 0 0] 30 fun g w1 j1 j2 j3=> ?_)
  |((with_reducible refine gate_dst (N:=6) rfl ?_);refine bV #[.slice none 0 0,.int .i64 0,.slice none 0 0,.int .i64 0,.int .i64 0,.slice none 0 0] 30 fun g w1 j1 j2 j3=> ?_)
  |((with_reducible refine gate_dst (N:=8) rfl ?_);refine bV #[.slice none 0 0,.int .i64 0,.slice none 0 0,.int .i64 0,.int .i64 0,.slice none 0 0] 30 fun g w1 j1 j2 j3=> ?_)
  |((with_reducible refine gate_dst (N:=10) rfl ?_);refine bV #[.slice none 0 0,.int .i64 0,.slice none 0 0,.int .i64 0,.int .i64 0,.slice none 0 0] 30 fun g w1 j1 j2 j3=> ?_)
  |((with_reducible refine gate_dst (N:=12) rfl ?_);refine bV #[.slice none 0 0,.int .i64 0,.slice none 0 0,.int .i64 0,.int .i64 0,.slice none 0 0] 30 fun g w1 j1 j2 j3=> ?_)
  |((with_reducible refine gate_dst (N:=14) rfl ?_);refine bV #[.slice none 0 0,.int .i64 0,.slice none 0 0,.int .i64 0,.int .i64 0,.slice none 0 0] 30 fun g w1 j1 j2 j3=> ?_)
  |(go_at_call 28;(try rw[hl_.out]);replace h:=bI h;obtain⟨t,A,h⟩:=h;(try dsimp only at h);refine(impl_ShopOk.calls _ _ _ _ _ _ _ _ _ _ _ _ _ _ _ Rd.out az.out Rd.out az.out Rd.out az.out A).mono ?_;rintro e w2 ⟨rfl,hb⟩;have jb:=aK.mk hb;clear A hb)
  |(go_at_call 59;(try rw[hl_.out]);replace h:=bI h;obtain⟨t,A,h⟩:=h;(try dsimp only at h);refine(impl_ActOk.calls _ _ _ _ _ _ _ A).mono ?_;rintro e w2 ⟨rfl,hb⟩;have jb:=aK.mk hb;clear A hb)
  |(go_at_call 27;(try rw[hl_.out]);replace h:=bI h;obtain⟨⟨t1,t2,t3,t4,t5,t6⟩,A,h⟩:=h;(try dsimp only at h);refine(jO.calls _ _ _ _ _ _ _ _ _ _ _ _ _ _ _ _ _ _ _ Rd.out az.out Rd.out az.out Rd.out az.out A).mono ?_;rintro e w2 ⟨v0,v1,v2,rfl,ho0,aY,bB,hb⟩;obtain⟨B0,b0,rfl,j0,q0⟩:=aX ho0;obtain⟨B1,b1,rfl,j1,q1⟩:=aX aY;obtain⟨B2,b2,rfl,j2,q2⟩:=aX bB;have jb:=aK.mk hb;clear A ho0 aY bB hb)
  |(go_at_call 60;(try rw[hl_.out]);replace h:=bI h;obtain⟨⟨t1,t2,t3,t4,t5,t6,t7⟩,A,h⟩:=h;(try dsimp only at h);refine(yj.calls _ _ _ _ _ _ _ _ _ _ _ _ _ _ _ _ _ _ _ _ _ Rd.out az.out Rd.out az.out Rd.out az.out A).mono ?_;rintro e w2 ⟨v0,v1,v2,rfl,ho0,aY,bB,hb⟩;obtain⟨B0,b0,rfl,j0,q0⟩:=aX ho0;obtain⟨B1,b1,rfl,j1,q1⟩:=aX aY;obtain⟨B2,b2,rfl,j2,q2⟩:=aX bB;have jb:=aK.mk hb;clear A ho0 aY bB hb)
  |(go_at_call 62;(try rw[hl_.out]);replace h:=bI h;obtain⟨⟨t1,t2,t3,t4,t5,t6,t7⟩,A,h⟩:=h;(try dsimp only at h);refine(yl.calls _ _ _ _ _ _ _ _ _ _ _ _ _ _ _ _ _ _ _ _ _ _ Rd.out az.out Rd.out az.out Rd.out az.out A).mono ?_;rintro e w2 ⟨v0,v1,v2,rfl,ho0,aY,bB,hb⟩;obtain⟨B0,b0,rfl,j0,q0⟩:=aX ho0;obtain⟨B1,b1,rfl,j1,q1⟩:=aX aY;obtain⟨B2,b2,rfl,j2,q2⟩:=aX bB;have jb:=aK.mk hb;clear A ho0 aY bB hb)
  |(go_at_call 63;(try rw[hl_.out]);replace h:=bI h;obtain⟨⟨t1,t2,t3,t4,t5,t6,t7⟩,A,h⟩:=h;(try dsimp only at h);refine(yh.calls _ _ _ _ _ _ _ _ _ _ _ _ _ _ _ _ _ _ _ _ _ _ _ _ Rd.out az.out Rd.out az.out Rd.out az.out A).mono ?_;rintro e w2 ⟨v0,v1,v2,rfl,ho0,aY,bB,hb⟩;obtain⟨B0,b0,rfl,j0,q0⟩:=aX ho0;obtain⟨B1,b1,rfl,j1,q1⟩:=aX aY;obtain⟨B2,b2,rfl,j2,q2⟩:=aX bB;have jb:=aK.mk hb;clear A ho0 aY bB hb)
  |(go_at_call 64;(try rw[hl_.out]);replace h:=bI h;obtain⟨⟨t1,t2,t3,t4,t5,t6,t7⟩,A,h⟩:=h;(try dsimp only at h);refine(yi.calls _ _ _ _ _ _ _ _ _ _ _ _ _ _ _ _ _ _ _ _ _ _ _ Rd.out az.out Rd.out az.out Rd.out az.out A).mono ?_;rintro e w2 ⟨v0,v1,v2,rfl,ho0,aY,bB,hb⟩;obtain⟨B0,b0,rfl,j0,q0⟩:=aX ho0;obtain⟨B1,b1,rfl,j1,q1⟩:=aX aY;obtain⟨B2,b2,rfl,j2,q2⟩:=aX bB;have jb:=aK.mk hb;clear A ho0 aY bB hb)
  |(go_at_call 65;(try rw[hl_.out]);replace h:=bI h;obtain⟨⟨t1,t2⟩,A,h⟩:=h;(try dsimp only at h);refine(yg.calls _ _ _ _ _ _ _ _ Rd.out az.out A).mono ?_;rintro e w2 ⟨v0,rfl,ho0,hb⟩;obtain⟨B0,b0,rfl,j0,q0⟩:=aX ho0;have jb:=aK.mk hb;clear A ho0 hb)
  |(refine qR (id:=6) (ds:=[3]) (l:= #[false,false,false,false,false]) cM.Om cM.KF ?_;intro ag HW_ w3 jw u0 iu hHeld;refine qA 1 (some 37) ag ?_;refine qT 0 (some 36) ag HW_ hHeld ?_;replace h:=bI h;obtain⟨t,A,h⟩:=h;(try dsimp only at h);refine qC 2 38 Tryz.func61 ag fun K hK=> ?_;refine(oT.calls _ _ _ A).mono ?_;rintro e w2 ⟨rfl,n,rfl⟩;clear A;refine⟨_,rfl,hK _ _ From.out fun hHeld=> ?_⟩;clear hK K;refine qN ?_;refine qL 3 ag ?_;refine qA 4 (some 5) ag ?_;refine qD ag ?_)
  |(refine qR (id:=9) (ds:=[3]) (l:= #[false,false,false,false,false]) cM.Jf cM.bits9 ?_;intro ag HW_ w3 jw u0 iu hHeld;refine qA 1 (some 49) ag ?_;refine qT 0 (some 48) ag HW_ hHeld ?_;replace h:=bI h;obtain⟨t,A,h⟩:=h;(try dsimp only at h);refine qC 2 50 Tryz.func61 ag fun K hK=> ?_;refine(oT.calls _ _ _ A).mono ?_;rintro e w2 ⟨rfl,n,rfl⟩;clear A;refine⟨_,rfl,hK _ _ From.out fun hHeld=> ?_⟩;clear hK K;refine qN ?_;refine qL 3 ag ?_;refine qA 4 (some 5) ag ?_;refine qD ag ?_)
  |(refine qR (id:=12) (ds:=[3]) (l:= #[false,false,false,false,false]) cM.Jc cM.bits12 ?_;intro ag HW_ w3 jw u0 iu hHeld;refine qA 1 (some 66) ag ?_;refine qT 0 (some 65) ag HW_ hHeld ?_;replace h:=bI h;obtain⟨t,A,h⟩:=h;(try dsimp only at h);refine qC 2 67 Tryz.func61 ag fun K hK=> ?_;refine(oT.calls _ _ _ A).mono ?_;rintro e w2 ⟨rfl,n,rfl⟩;clear A;refine⟨_,rfl,hK _ _ From.out fun hHeld=> ?_⟩;clear hK K;refine qN ?_;refine qL 3 ag ?_;refine qA 4 (some 5) ag ?_;refine qD ag ?_)
  |(refine qR (id:=15) (ds:=[3]) (l:= #[false,false,false,false,false]) cM.Jd cM.bits15 ?_;intro ag HW_ w3 jw u0 iu hHeld;refine qA 1 (some 80) ag ?_;refine qT 0 (some 79) ag HW_ hHeld ?_;replace h:=bI h;obtain⟨t,A,h⟩:=h;(try dsimp only at h);refine qC 2 81 Tryz.func61 ag fun K hK=> ?_;refine(oT.calls _ _ _ A).mono ?_;rintro e w2 ⟨rfl,n,rfl⟩;clear A;refine⟨_,rfl,hK _ _ From.out fun hHeld=> ?_⟩;clear hK K;refine qN ?_;refine qL 3 ag ?_;refine qA 4 (some 5) ag ?_;refine qD ag ?_)
  |(refine qR (id:=20) (ds:=[3]) (l:= #[false,false,false,false,false]) cM.ajN cM.abt ?_;intro ag HW_ w3 jw u0 iu hHeld;refine qA 1 (some 97) ag ?_;refine qT 0 (some 96) ag HW_ hHeld ?_;replace h:=bI h;obtain⟨t,A,h⟩:=h;(try dsimp only at h);refine qC 2 98 Tryz.func61 ag fun K hK=> ?_;refine(oT.calls _ _ _ A).mono ?_;rintro e w2 ⟨rfl,n,rfl⟩;clear A;refine⟨_,rfl,hK _ _ From.out fun hHeld=> ?_⟩;clear hK K;refine qN ?_;refine qL 3 ag ?_;refine qA 4 (some 5) ag ?_;refine qD ag ?_)
  |(refine qR (id:=22) (ds:=[4]) (l:= #[false,false,false,false,false,false]) cM.ajO cM.abu ?_;intro ag HW_ w3 jw u0 iu hHeld;refine qT 0 (some 101) ag HW_ hHeld ?_;refine qT 2 (some 103) ag HW_ hHeld ?_;replace h:=bI h;obtain⟨⟨t1,t2,t3,t4,t5,t6⟩,A,h⟩:=h;(try dsimp only at h);refine qC 1 102 Tryz.func27 ag fun K hK=> ?_;refine(jO.calls _ _ _ _ _ _ _ _ _ _ _ _ _ _ _ _ _ _ _ Rd.out az.out Rd.out az.out Rd.out az.out A).mono ?_;rintro e w2 ⟨v0,v1,v2,rfl,ho0,aY,bB,hb⟩;obtain⟨B0,b0,rfl,j0,q0⟩:=aX ho0;obtain⟨B1,b1,rfl,j1,q1⟩:=aX aY;obtain⟨B2,b2,rfl,j2,q2⟩:=aX bB;have jb:=aK.mk hb;clear A ho0 aY bB hb;refine⟨_,rfl,hK _ _ From.out fun hHeld=> ?_⟩;clear hK K;refine qN ?_;replace h:=bI h;obtain⟨t,A,h⟩:=h;(try dsimp only at h);refine qC 3 104 Tryz.func66 ag fun K hK=> ?_;refine(oa.calls _ _ _ _ _ _ _ _ _ _ _ _ _ _ _ Rd.out az.out Rd.out az.out Rd.out az.out A).mono ?_;rintro e w2 ⟨rfl,hb⟩;have jb:=aK.mk hb;clear A hb;refine⟨_,rfl,hK _ _ From.out fun hHeld=> ?_⟩;clear hK K;refine qN ?_;refine qL 4 ag ?_;refine qA 5 (some 5) ag ?_;refine qD ag ?_)
  |(refine qR (id:=23) (ds:=[6]) (l:= #[false,false,false,false,false,false,false,false]) cM.ajP cM.abv ?_;intro ag HW_ w3 jw u0 iu hHeld;refine qA 3 (some 108) ag ?_;refine qT 0 (some 105) ag HW_ hHeld ?_;refine qT 2 (some 107) ag HW_ hHeld ?_;refine qT 4 (some 109) ag HW_ hHeld ?_;replace h:=bI h;obtain⟨⟨t1,t2,t3,t4,t5,t6⟩,A,h⟩:=h;(try dsimp only at h);refine qC 1 106 Tryz.func27 ag fun K hK=> ?_;refine(jO.calls _ _ _ _ _ _ _ _ _ _ _ _ _ _ _ _ _ _ _ Rd.out az.out Rd.out az.out Rd.out az.out A).mono ?_;rintro e w2 ⟨v0,v1,v2,rfl,ho0,aY,bB,hb⟩;obtain⟨B0,b0,rfl,j0,q0⟩:=aX ho0;obtain⟨B1,b1,rfl,j1,q1⟩:=aX aY;obtain⟨B2,b2,rfl,j2,q2⟩:=aX bB;have jb:=aK.mk hb;clear A ho0 aY bB hb;refine⟨_,rfl,hK _ _ From.out fun hHeld=> ?_⟩;clear hK K;refine qN ?_;replace h:=bI h;obtain⟨t,A,h⟩:=h;(try dsimp only at h);refine qC 5 110 Tryz.func67 ag fun K hK=> ?_;refine(nv.calls _ _ _ _ _ _ _ _ _ _ _ _ _ _ _ _ Rd.out az.out Rd.out az.out Rd.out az.out A).mono ?_;rintro e w2 ⟨rfl,hb⟩;have jb:=aK.mk hb;clear A hb;refine⟨_,rfl,hK _ _ From.out fun hHeld=> ?_⟩;clear hK K;refine qN ?_;refine qL 6 ag ?_;refine qA 7 (some 5) ag ?_;refine qD ag ?_));(repeat' first|((with_reducible replace h:=cG h);rcases h with ⟨hc,h⟩|⟨hc,h⟩<;>first|exact(none_some h).elim|exact absurd hc (by decide)|subst hc|(replace hc:=br hc;subst hc)|(replace hc:=ey hc;subst hc)|(replace hc:=hH_ hc;subst hc)|(have hd:(_==_)=true:=hc)|(have hd:(_==_)=false:=br hc)|(have hd:=hI_ hc;have he:=cD hc;clear hc)|(have hd:=cE hc;have he:=hL_ hc)|(have hd:=decide_eq_false hc)|(have hd:=decide_eq_true hc;(try(have hn:=Int.natCast_pos.mp hc;have hm:=decide_eq_true hn;replace hn:=eq_true hn));first|(obtain⟨g_,e_,i_⟩:=ew (by assumption) (by first|assumption|decide) hc;cases e_)|(obtain⟨a_,e_,c_⟩:=er (by assumption) (by first|assumption|decide) hc;cases e_))|(have hd:=decide_eq_true hc)|skip)|((with_reducible have hj:cM.j0 k _ _ _ _ _ _ _ _ _ _ _=_:=h);clear hj;rcases k with _|k<;>rw[cM.j0]at h<;>first|exact(none_some h).elim|skip)|((with_reducible replace h:=eu h);obtain⟨hl_,h⟩:=h;replace hl_:=A_ hl_;(try dsimp only at h))))
 all_goals simp only[Option.some.injEq,Prod.mk.injEq]at h
 all_goals obtain⟨rfl,rfl,rfl,rfl,rfl,rfl,rfl⟩:=h
 all_goals refine bodyPost_ret (results_ct rfl _ _ _ _ _ (0,0) _ rfl a7.out Tryz.underlying30 rfl (by kernel_rfl)) rfl ?_
 all_goals exact⟨_,_,_,rfl,(by first|exact cn|exact Kd.bM _ _ _ _ _|exact eB|exact irowFin' (by simp)),(by first|exact cn|exact Kd.bM _ _ _ _ _|exact eB|exact irowFin' (by simp)),(by first|exact cn|exact Kd.bM _ _ _ _ _|exact eB|exact irowFin' (by simp)),From.out⟩
mutual
def impl_RunActs.j0:Nat→List (cN)→Bool→List (ar)→Int→List Int→Int→Int→List (S64)→Option ((List (ar))×Int×List Int×Int×Int×(List (S64))×List Int)
 |0,_,_,_,_,_,_,_,_=>none
 |k+1,x1,x21,F9,F_,Ga,x1156003,Gc,Gd=>if x21=true then(some (F9,F_,Ga,x1156003,Gc,Gd,([]:List Int)))else(impl_RunActs.l0 k (([]:List Int)) x1 (x1.length:Int) 0 F9 F_ Ga x1156003 Gc Gd)
def impl_RunActs.l0:Nat→List Int→List (cN)→Int→Int→List (ar)→Int→List Int→Int→Int→List (S64)→Option ((List (ar))×Int×List Int×Int×Int×(List (S64))×List Int)
 |0,_,_,_,_,_,_,_,_,_,_=>none
 |k+1,x7,tJ,Xg,x26,F9,F_,Ga,x1156003,Gc,Gd=>if x26<Xg then(if 0≤x26 then(if x26<(tJ.length:Int)then((cM.f k F9 F_ Ga x1156003 Gc Gd ((qH tJ x26).f0) ((qH tJ x26).f1) ((qH tJ x26).f2) ((qH tJ x26).f3)).bind fun xH=>(if x7.length<17592186044416 then(impl_RunActs.l0 k (x7++[xH.2.2.2.2.2.2]) tJ Xg (wrap64 (x26+1)) xH.1 xH.2.1 xH.2.2.1 xH.2.2.2.1 xH.2.2.2.2.1 xH.2.2.2.2.2.1)else(none)))else(none))else(none))else(some (F9,F_,Ga,x1156003,Gc,Gd,x7))
end
def impl_RunActs.f (k:Nat) (ak:List (ar)) (ax:Int) (aq:List Int) (aN:Int) (a0_4:Int) (aD:List (S64)) (l1:List (cN)):Option ((List (ar))×Int×List Int×Int×Int×(List (S64))×List Int):=(jO.f ak ax aq aN a0_4 aD).bind fun qh=>((impl_ShopOk.f k ak ax aq aN a0_4 aD).bind fun ai4=>(if ai4=true then(impl_RunActs.j0 k l1 (decide ((l1.length:Int)>40)) qh.1 qh.2.1 qh.2.2.1 qh.2.2.2.1 qh.2.2.2.2.1 qh.2.2.2.2.2)else(impl_RunActs.j0 k l1 true qh.1 qh.2.1 qh.2.2.1 qh.2.2.2.1 qh.2.2.2.2.1 qh.2.2.2.2.2)))
theorem impl_RunActs.calls (k:Nat) (aU:Option Addr) (c0_0:Nat) (ak:List (ar)) (ax:Int) (a6:Option Addr) (aW:Nat) (aq:List Int) (aN:Int) (a0_4:Int) (cy:Option Addr) (cu:Nat) (aD:List (S64)) (A1:Option Addr) (c1:Nat) (l1:List (cN)) (r1:List (ar)) (r2:Int) (r3:List Int) (r4:Int) (r5:Int) (r6:List (S64)) (r7:List Int) (w:World) (cp:Kd.C bl w aU ak.length ak) (cx:ak.length≤c0_0) (cv:Kd.C (Kd.int .i64) w a6 aq.length aq) (cA:aq.length≤aW) (dW:Kd.C k64 w cy aD.length aD) (eC:aD.length≤cu) (hr1:Kd.C nx w A1 l1.length l1) (hc1:l1.length≤c1) (h:impl_RunActs.f k ak ax aq aN a0_4 aD l1=some (r1,r2,r3,r4,r5,r6,r7)):
  Calls Tryz.prog 9 #[.agg #[.slice aU ak.length c0_0,.int .i64 ax,.slice a6 aq.length aW,.int .i64 aN,.int .i64 a0_4,.slice cy aD.length cu],.slice A1 l1.length c1] w fun e w'=>∃v0_ cB dL BH:Value,e= .returned (.tuple #[.agg #[v0_,.int .i64 r2,cB,.int .i64 r4,.int .i64 r5,dL],BH])∧Kd.R bl 110 w' w.heap.size (fun _=>True) v0_ r1∧Kd.R (Kd.int .i64) 3 w' w.heap.size (fun k_=>some k_≠(BH:Value).ownBlock) cB r3∧Kd.R k64 64 w' w.heap.size (fun _=>True) dL r6∧Kd.R (Kd.int .i64) 3 w' w.heap.size (fun k_=>some k_≠(cB:Value).ownBlock) BH r7∧Below w.heap.size w w':=by
 have afe:=cg.mk cp;have afb:=az.mk cx;have aff:=cg.mk cv;have afc:=az.mk cA;have aqX:=cg.mk dW;have aqV:=az.mk eC;have aqY:=cg.mk hr1;have aqW:=az.mk hc1;clear cp cx cv cA dW eC hr1 hc1;have agC:=en.mk (d:=(Kd.int .i64)) (e:=3) (t:=30) (by decide);have arn:=en.mk (d:=(Kd.int .i64)) (e:=3) (t:=57) (by decide);have IM:=en.mk (d:=bl) (e:=110) (t:=30) (by decide);have agB:=en.mk (d:=bl) (e:=110) (t:=57) (by decide);have IP:=en.mk (d:=k64) (e:=64) (t:=30) (by decide);have agD:=en.mk (d:=k64) (e:=64) (t:=57) (by decide);have arh:=pq.mk (e:=3) (t:=30) (by decide);have ari:=pq.mk (e:=3) (t:=57) (by decide);unfold impl_RunActs.f at h
 (try simp only[Option.bind_some]at h)
 have kp:=Tryz.underlying30;have AU:=Tryz.underlying57
 (repeat' first|((with_reducible replace h:=cG h);rcases h with ⟨hc,h⟩|⟨hc,h⟩<;>first|exact(none_some h).elim|exact absurd hc (by decide)|subst hc|(replace hc:=br hc;subst hc)|(replace hc:=ey hc;subst hc)|(replace hc:=hH_ hc;subst hc)|(have hd:(_==_)=true:=hc)|(have hd:(_==_)=false:=br hc)|(have hd:=hI_ hc;have he:=cD hc;clear hc)|(have hd:=cE hc;have he:=hL_ hc)|(have hd:=decide_eq_false hc)|(have hd:=decide_eq_true hc;(try(have hn:=Int.natCast_pos.mp hc;have hm:=decide_eq_true hn;replace hn:=eq_true hn));first|(have hz:=ew (by assumption) (by first|assumption|decide) hc;obtain⟨g_,e_,i_⟩:=hz;cases e_)|(have hz:=er (by assumption) (by first|assumption|decide) hc;obtain⟨a_,e_,c_⟩:=hz;cases e_)|(have hz:=tU (cg.out (self:=by assumption)) _ (by first|assumption|decide) hc;obtain⟨a_,e_,dC,dD,dE,dF⟩:=hz;cases e_;replace dC:=cK.mk dC;replace dD:=cK.mk dD;replace dE:=cK.mk dE;replace dF:=cK.mk dF)|(have hz:=tU (cg.out (self:=by assumption)) _ hc (by assumption);obtain⟨a_,e_,dC,dD,dE,dF⟩:=hz;cases e_;replace dC:=cK.mk dC;replace dD:=cK.mk dD;replace dE:=cK.mk dE;replace dF:=cK.mk dF))|(have hd:=decide_eq_true hc)|skip)|((with_reducible have hj:impl_RunActs.j0 k _ _ _ _ _ _ _ _=_:=h);clear hj;rcases k with _|k<;>rw[impl_RunActs.j0]at h<;>first|exact(none_some h).elim|skip)|((with_reducible replace h:=eu h);obtain⟨hl_,h⟩:=h;replace hl_:=A_ hl_;(try dsimp only at h)))
 all_goals go_enter Tryz.func9,Tryz.ntmps9
 all_goals go_wp2_with ((first
  |((with_reducible refine gate_dst (N:=2) rfl ?_);refine bV #[.slice aU ak.length c0_0,.int .i64 ax,.slice a6 aq.length aW,.int .i64 aN,.int .i64 a0_4,.slice cy aD.length cu] 30 fun g2 w1 uO uP uQ=> ?_)
  |((with_reducible refine gate_dst (N:=4) rfl ?_);refine bV #[.slice none 0 0,.int .i64 0,.slice none 0 0,.int .i64 0,.int .i64 0,.slice none 0 0] 30 fun g4 w1 uO uP uQ=> ?_)
  |((with_reducible refine gate_dst (N:=6) rfl ?_);refine bV #[.slice none 0 0,.int .i64 0,.slice none 0 0,.int .i64 0,.int .i64 0,.slice none 0 0] 30 fun g6 w1 uO uP uQ=> ?_)
  |((with_reducible refine gate_dst (N:=9) rfl ?_);refine bV #[.int .i64 0,.int .i64 0,.int .i64 0,.int .i64 0] 57 fun g9 w1 uO uP uQ=> ?_)
  |((with_reducible refine gate_dst (N:=10) rfl ?_);refine bV #[.slice none 0 0,.int .i64 0,.slice none 0 0,.int .i64 0,.int .i64 0,.slice none 0 0] 30 fun g10 w1 uO uP uQ=> ?_)
  |((with_reducible refine gate_dst (N:=23) rfl ?_);refine Kd.iB (Kd.int .i64) _ 3 ?hg (N:=23) ?hd (xs:=([]:List Int)) (inner:=[]) (ok:=fun _=>True) (cU:=fun _=>True) ?hr ?hp (fun _ hk=>hk) trivial (Below.refl _ _) (Nat.le_refl _) (by simp) ?_;(case hd=>rfl);(case hg=>rfl);(case hr=>first|(go_simp;done)|(go_simp;rfl));(case hp=>exact(bf.none _ _));intro v5 w5 ho hb cT uz;obtain⟨A5,c5,rfl⟩:=Kd.dp ho;have j5:=gF.mk ho;have q5:=az.mk (pI j5);have j6:=aK.mk hb;clear cT uz ho hb)
  |(go_at_call 27;(try rw[hl_.out]);replace h:=bI h;obtain⟨⟨t1,t2,t3,t4,t5,t6⟩,A,h⟩:=h;(try dsimp only at h);refine(jO.calls _ _ _ _ _ _ _ _ _ _ _ _ _ _ _ _ _ _ _ Rd.out az.out Rd.out az.out Rd.out az.out A).mono ?_;rintro e w2 ⟨v0,v1,v2,rfl,ho0,aY,bB,hb⟩;obtain⟨B0,b0,rfl,j0,q0⟩:=aX ho0;obtain⟨B1,b1,rfl,j1,q1⟩:=aX aY;obtain⟨B2,b2,rfl,j2,q2⟩:=aX bB;have jb:=aK.mk hb;clear A ho0 aY bB hb)
  |(go_at_call 28;(try rw[hl_.out]);replace h:=bI h;obtain⟨t,A,h⟩:=h;(try dsimp only at h);refine(impl_ShopOk.calls _ _ _ _ _ _ _ _ _ _ _ _ _ _ _ Rd.out az.out Rd.out az.out Rd.out az.out A).mono ?_;rintro e w2 ⟨rfl,hb⟩;have jb:=aK.mk hb;clear A hb)
  |(go_at_call 29;(try rw[hl_.out]);replace h:=bI h;obtain⟨⟨t1,t2,t3,t4,t5,t6,t7⟩,A,h⟩:=h;(try dsimp only at h);refine(cM.calls _ _ _ _ _ _ _ _ _ _ _ _ _ _ _ _ _ _ _ _ _ _ _ _ _ Rd.out az.out Rd.out az.out Rd.out az.out A).mono ?_;rintro e w2 ⟨v0,v1,v2,rfl,ho0,aY,bB,hb⟩;obtain⟨B0,b0,rfl,j0,q0⟩:=aX ho0;obtain⟨B1,b1,rfl,j1,q1⟩:=aX aY;obtain⟨B2,b2,rfl,j2,q2⟩:=aX bB;have jb:=aK.mk hb;clear A ho0 aY bB hb)
  |((with_reducible refine jz (b:= .append) (xs:= #[.tmp 37,.tmp 39]) rfl ?_);(try(refine mg (by rfl) ?_;dsimp only));at_builtin;refine Kd.R_append (Kd.int .i64) (w0:=w) w.heap.size rfl (.tmp 37) (.tmp 39) 25 3 (.int .i64 0) 8 rfl Tryz.underlying25 info3 rfl (by decide) (by omega) (.slice pY bo.length AG) bo t7 [.int .i64 t7] (fun _=>True) (fun _=>False) rfl (by first|(go_simp;done)|(go_simp;rfl)) ?aP (fun _ hk=>hk.elim) ?aF ?aO ?aB ?aS ?aL ?_;(case aP=>exact rfl);(case aO=>exact eB);(case aB=>exact From.out);(case aF=>exact(fun _ _=>trivial));(case aS=>exact(From.out (w0:=w)).size);(case aL=>omega);intro v7 w7 ho hb hg hat;have jg:=SJ hg;obtain⟨A7,c7,rfl⟩:=Kd.dp ho;have jk:=UM j0 hg;have jd:=Sg j1 hat;have je:=Sh jd;have j7:=At.mk ho;have jf:From w w7:=⟨hb⟩;have js:Sz w w7:=⟨hb.size⟩;clear ho hb hg hat));(repeat' first|((with_reducible replace h:=cG h);rcases h with ⟨hc,h⟩|⟨hc,h⟩<;>first|exact(none_some h).elim|exact absurd hc (by decide)|subst hc|(replace hc:=br hc;subst hc)|(replace hc:=ey hc;subst hc)|(replace hc:=hH_ hc;subst hc)|(have hd:(_==_)=true:=hc)|(have hd:(_==_)=false:=br hc)|(have hd:=hI_ hc;have he:=cD hc;clear hc)|(have hd:=cE hc;have he:=hL_ hc)|(have hd:=decide_eq_false hc)|(have hd:=decide_eq_true hc;(try(have hn:=Int.natCast_pos.mp hc;have hm:=decide_eq_true hn;replace hn:=eq_true hn));first|(have hz:=ew (by assumption) (by first|assumption|decide) hc;obtain⟨g_,e_,i_⟩:=hz;cases e_)|(have hz:=er (by assumption) (by first|assumption|decide) hc;obtain⟨a_,e_,c_⟩:=hz;cases e_)|(have hz:=tU (cg.out (self:=by assumption)) _ (by first|assumption|decide) hc;obtain⟨a_,e_,dC,dD,dE,dF⟩:=hz;cases e_;replace dC:=cK.mk dC;replace dD:=cK.mk dD;replace dE:=cK.mk dE;replace dF:=cK.mk dF)|(have hz:=tU (cg.out (self:=by assumption)) _ hc (by assumption);obtain⟨a_,e_,dC,dD,dE,dF⟩:=hz;cases e_;replace dC:=cK.mk dC;replace dD:=cK.mk dD;replace dE:=cK.mk dE;replace dF:=cK.mk dF))|(have hd:=decide_eq_true hc)|skip)|((with_reducible have hj:impl_RunActs.j0 k _ _ _ _ _ _ _ _=_:=h);clear hj;rcases k with _|k<;>rw[impl_RunActs.j0]at h<;>first|exact(none_some h).elim|skip)|((with_reducible replace h:=eu h);obtain⟨hl_,h⟩:=h;replace hl_:=A_ hl_;(try dsimp only at h))))
 all_goals first
  |((try simp only[Option.some.injEq,Prod.mk.injEq]at h);(try obtain⟨rfl,rfl,rfl,rfl,rfl,rfl,rfl⟩:=h);refine bodyPost_ret (results_ct rfl _ _ _ _ _ (0,0) _ rfl a7.out Tryz.underlying30 rfl (by kernel_rfl)) rfl ?_;exact⟨_,_,_,_,rfl,(by first|exact cn|exact gV rfl|exact gV (by simp)|exact Kd.bM _ _ _ _ _|exact eB|exact irowFin' (by simp)),(by first|exact Kd.bM _ _ _ _ _|exact vY (ok:=fun _=>True) (by first|exact cn|exact eB|exact vN (by simp)|exact gV (by simp))),(by first|exact cn|exact gV rfl|exact gV (by simp)|exact Kd.bM _ _ _ _ _|exact eB|exact irowFin' (by simp)),(by first|exact Kd.bM _ _ _ _ _|exact vY (ok:=fun _=>True) (by first|exact cn|exact eB|exact vN (by simp)|exact gV (by simp))),From.out⟩)
  |(exfalso;simp at hd;omega)
  |skip
 go_loopg [7,26] k (fun kq v7 v26 w'=>∃(bo:List Int) (OW:Int) (OO:List (ar)) (OP:Int) (OQ:List Int) (OS:Int) (OT:Int) (OU:List (S64)) (Ox:Value) (Ji:Value) (Oy:Value),v26= .int .i64 OW∧aj (impl_RunActs.l0 kq bo l1 (l1.length:Int) OW OO OP OQ OS OT OU=some (r1,r2,r3,r4,r5,r6,r7))∧aj (kq≤k)∧aj (Kd.R (Kd.int .i64) 3 w' w.heap.size (fun k_=>some k_≠(Ji:Value).ownBlock) v7 bo)∧aj (Kd.R bl 110 w' w.heap.size (fun _=>True) Ox OO)∧aj (Kd.R (Kd.int .i64) 3 w' w.heap.size (fun k_=>some k_≠(v7:Value).ownBlock) Ji OQ)∧aj (Kd.R k64 64 w' w.heap.size (fun _=>True) Oy OU)∧aj (w'.heap[g2]? =some (.cells #[(.slice aU ak.length c0_0),.int .i64 ax,(.slice a6 aq.length aW),.int .i64 aN,.int .i64 a0_4,(.slice cy aD.length cu)] 30 (0,0)))∧aj (w'.heap[g4]? =some (.cells #[(.slice none 0 0),.int .i64 0,(.slice none 0 0),.int .i64 0,.int .i64 0,(.slice none 0 0)] 30 (0,0)))∧aj (w'.heap[g6]? =some (.cells #[Ox,.int .i64 OP,Ji,.int .i64 OS,.int .i64 OT,Oy] 30 (0,0)))∧aj (Below w.heap.size w w'))
 case atStart=>exact⟨_,_,_,_,_,_,_,_,(.slice B0 t1.length b0),(.slice B1 t3.length b1),(.slice B2 t6.length b2),(by first|rfl|(simp;done)),⟨h⟩,⟨Nat.le_refl _⟩,⟨vY (ok:=fun _=>True) (by first|exact cn|exact eB|exact vN (by simp)|exact gV (by simp))⟩,⟨by first|exact cn|exact gV rfl|exact gV (by simp)|exact Kd.bM _ _ _ _ _⟩,⟨vY (ok:=fun _=>True) (by first|exact cn|exact eB|exact vN (by simp)|exact gV (by simp))⟩,⟨by first|exact cn|exact gV rfl|exact gV (by simp)|exact Kd.bM _ _ _ _ _⟩,⟨a7.out⟩,⟨a7.out⟩,⟨a7.out⟩,⟨From.out⟩⟩
 case round=>
  clear h;obtain⟨bo,OW,OO,OP,OQ,OS,OT,OU,Ox,Ji,Oy,rfl,HA,jJ,kE,Qo,Qp,Qq,PU,PV,PW,HB⟩:=hrel;rcases gk with _|k1
  ·exact absurd HA.out (by simp[impl_RunActs.l0])
  have h:=HA.out;clear HA;simp only[impl_RunActs.l0]at h;obtain⟨pY,AG,rfl,MG,VL,MX⟩:=xB kE.out;clear kE;obtain⟨X4,c91,rfl,j91,q91,MZ⟩:=xB Qo.out;clear Qo;obtain⟨X5,c92,rfl,j92,q92,o92⟩:=xB Qp.out;clear Qp;obtain⟨A93,c93,rfl,j93,q93,Vk⟩:=xB Qq.out;clear Qq;have ak':=a7.mk PU.out;clear PU;have ala:=a7.mk PV.out;clear PV;have alb:=a7.mk PW.out;clear PW;have P7:From w wr:=⟨HB.out⟩;have QB:Sz w wr:=⟨HB.out.size⟩;clear HB
  (try have d90:=Hz MX);(try have d91:=Hz MZ);(try have d92:=Hz o92);(try have d93:=Hz Vk);clear MX MZ o92 Vk
  (repeat' first|((with_reducible replace h:=cG h);rcases h with ⟨hc,h⟩|⟨hc,h⟩<;>first|exact(none_some h).elim|exact absurd hc (by decide)|subst hc|(replace hc:=br hc;subst hc)|(replace hc:=ey hc;subst hc)|(replace hc:=hH_ hc;subst hc)|(have hd:(_==_)=true:=hc)|(have hd:(_==_)=false:=br hc)|(have hd:=hI_ hc;have he:=cD hc;clear hc)|(have hd:=cE hc;have he:=hL_ hc)|(have hd:=decide_eq_false hc)|(have hd:=decide_eq_true hc;(try(have hn:=Int.natCast_pos.mp hc;have hm:=decide_eq_true hn;replace hn:=eq_true hn));first|(have hz:=ew (by assumption) (by first|assumption|decide) hc;obtain⟨g_,e_,i_⟩:=hz;cases e_)|(have hz:=er (by assumption) (by first|assumption|decide) hc;obtain⟨a_,e_,c_⟩:=hz;cases e_)|(have hz:=tU (cg.out (self:=by assumption)) _ (by first|assumption|decide) hc;obtain⟨a_,e_,dC,dD,dE,dF⟩:=hz;cases e_;replace dC:=cK.mk dC;replace dD:=cK.mk dD;replace dE:=cK.mk dE;replace dF:=cK.mk dF)|(have hz:=tU (cg.out (self:=by assumption)) _ hc (by assumption);obtain⟨a_,e_,dC,dD,dE,dF⟩:=hz;cases e_;replace dC:=cK.mk dC;replace dD:=cK.mk dD;replace dE:=cK.mk dE;replace dF:=cK.mk dF))|(have hd:=decide_eq_true hc)|skip)|((with_reducible have hj:impl_RunActs.j0 k _ _ _ _ _ _ _ _=_:=h);clear hj;rcases k with _|k<;>rw[impl_RunActs.j0]at h<;>first|exact(none_some h).elim|skip)|((with_reducible replace h:=eu h);obtain⟨hl_,h⟩:=h;replace hl_:=A_ hl_;(try dsimp only at h)))
  all_goals go_wp2_with ((first
   |((with_reducible refine gate_dst (N:=2) rfl ?_);refine bV #[.slice aU ak.length c0_0,.int .i64 ax,.slice a6 aq.length aW,.int .i64 aN,.int .i64 a0_4,.slice cy aD.length cu] 30 fun g2 w1 uO uP uQ=> ?_)
   |((with_reducible refine gate_dst (N:=4) rfl ?_);refine bV #[.slice none 0 0,.int .i64 0,.slice none 0 0,.int .i64 0,.int .i64 0,.slice none 0 0] 30 fun g4 w1 uO uP uQ=> ?_)
   |((with_reducible refine gate_dst (N:=6) rfl ?_);refine bV #[.slice none 0 0,.int .i64 0,.slice none 0 0,.int .i64 0,.int .i64 0,.slice none 0 0] 30 fun g6 w1 uO uP uQ=> ?_)
   |((with_reducible refine gate_dst (N:=9) rfl ?_);refine bV #[.int .i64 0,.int .i64 0,.int .i64 0,.int .i64 0] 57 fun g9 w1 uO uP uQ=> ?_)
   |((with_reducible refine gate_dst (N:=10) rfl ?_);refine bV #[.slice none 0 0,.int .i64 0,.slice none 0 0,.int .i64 0,.int .i64 0,.slice none 0 0] 30 fun g10 w1 uO uP uQ=> ?_)
   |((with_reducible refine gate_dst (N:=23) rfl ?_);refine Kd.iB (Kd.int .i64) _ 3 ?hg (N:=23) ?hd (xs:=([]:List Int)) (inner:=[]) (ok:=fun _=>True) (cU:=fun _=>True) ?hr ?hp (fun _ hk=>hk) trivial (Below.refl _ _) (Nat.le_refl _) (by simp) ?_;(case hd=>rfl);(case hg=>rfl);(case hr=>first|(go_simp;done)|(go_simp;rfl));(case hp=>exact(bf.none _ _));intro v5 w5 ho hb cT uz;obtain⟨A5,c5,rfl⟩:=Kd.dp ho;have j5:=gF.mk ho;have q5:=az.mk (pI j5);have j6:=aK.mk hb;clear cT uz ho hb)
   |(go_at_call 27;(try rw[hl_.out]);replace h:=bI h;obtain⟨⟨t1,t2,t3,t4,t5,t6⟩,A,h⟩:=h;(try dsimp only at h);refine(jO.calls _ _ _ _ _ _ _ _ _ _ _ _ _ _ _ _ _ _ _ Rd.out az.out Rd.out az.out Rd.out az.out A).mono ?_;rintro e w2 ⟨v0,v1,v2,rfl,ho0,aY,bB,hb⟩;obtain⟨B0,b0,rfl,j0,q0⟩:=aX ho0;obtain⟨B1,b1,rfl,j1,q1⟩:=aX aY;obtain⟨B2,b2,rfl,j2,q2⟩:=aX bB;have jb:=aK.mk hb;clear A ho0 aY bB hb)
   |(go_at_call 28;(try rw[hl_.out]);replace h:=bI h;obtain⟨t,A,h⟩:=h;(try dsimp only at h);refine(impl_ShopOk.calls _ _ _ _ _ _ _ _ _ _ _ _ _ _ _ Rd.out az.out Rd.out az.out Rd.out az.out A).mono ?_;rintro e w2 ⟨rfl,hb⟩;have jb:=aK.mk hb;clear A hb)
   |(go_at_call 29;(try rw[hl_.out]);replace h:=bI h;obtain⟨⟨t1,t2,t3,t4,t5,t6,t7⟩,A,h⟩:=h;(try dsimp only at h);refine(cM.calls _ _ _ _ _ _ _ _ _ _ _ _ _ _ _ _ _ _ _ _ _ _ _ _ _ Rd.out az.out Rd.out az.out Rd.out az.out A).mono ?_;rintro e w2 ⟨v0,v1,v2,rfl,ho0,aY,bB,hb⟩;obtain⟨B0,b0,rfl,j0,q0⟩:=aX ho0;obtain⟨B1,b1,rfl,j1,q1⟩:=aX aY;obtain⟨B2,b2,rfl,j2,q2⟩:=aX bB;have jb:=aK.mk hb;clear A ho0 aY bB hb)
   |((with_reducible refine jz (b:= .append) (xs:= #[.tmp 37,.tmp 39]) rfl ?_);(try(refine mg (by rfl) ?_;dsimp only));at_builtin;refine Kd.R_append (Kd.int .i64) (w0:=w) w.heap.size rfl (.tmp 37) (.tmp 39) 25 3 (.int .i64 0) 8 rfl Tryz.underlying25 info3 rfl (by decide) (by omega) (.slice pY bo.length AG) bo t7 [.int .i64 t7] (fun _=>True) (fun _=>False) rfl (by first|(go_simp;done)|(go_simp;rfl)) ?aP (fun _ hk=>hk.elim) ?aF ?aO ?aB ?aS ?aL ?_;(case aP=>exact rfl);(case aO=>exact eB);(case aB=>exact From.out);(case aF=>exact(fun _ _=>trivial));(case aS=>exact(From.out (w0:=w)).size);(case aL=>omega);intro v7 w7 ho hb hg hat;have jg:=SJ hg;obtain⟨A7,c7,rfl⟩:=Kd.dp ho;have jk:=UM j0 hg;have jd:=Sg j1 hat;have je:=Sh jd;have j7:=At.mk ho;have jf:From w w7:=⟨hb⟩;have js:Sz w w7:=⟨hb.size⟩;clear ho hb hg hat));(repeat' first|((with_reducible replace h:=cG h);rcases h with ⟨hc,h⟩|⟨hc,h⟩<;>first|exact(none_some h).elim|exact absurd hc (by decide)|subst hc|(replace hc:=br hc;subst hc)|(replace hc:=ey hc;subst hc)|(replace hc:=hH_ hc;subst hc)|(have hd:(_==_)=true:=hc)|(have hd:(_==_)=false:=br hc)|(have hd:=hI_ hc;have he:=cD hc;clear hc)|(have hd:=cE hc;have he:=hL_ hc)|(have hd:=decide_eq_false hc)|(have hd:=decide_eq_true hc;(try(have hn:=Int.natCast_pos.mp hc;have hm:=decide_eq_true hn;replace hn:=eq_true hn));first|(have hz:=ew (by assumption) (by first|assumption|decide) hc;obtain⟨g_,e_,i_⟩:=hz;cases e_)|(have hz:=er (by assumption) (by first|assumption|decide) hc;obtain⟨a_,e_,c_⟩:=hz;cases e_)|(have hz:=tU (cg.out (self:=by assumption)) _ (by first|assumption|decide) hc;obtain⟨a_,e_,dC,dD,dE,dF⟩:=hz;cases e_;replace dC:=cK.mk dC;replace dD:=cK.mk dD;replace dE:=cK.mk dE;replace dF:=cK.mk dF)|(have hz:=tU (cg.out (self:=by assumption)) _ hc (by assumption);obtain⟨a_,e_,dC,dD,dE,dF⟩:=hz;cases e_;replace dC:=cK.mk dC;replace dD:=cK.mk dD;replace dE:=cK.mk dE;replace dF:=cK.mk dF))|(have hd:=decide_eq_true hc)|skip)|((with_reducible have hj:impl_RunActs.j0 k _ _ _ _ _ _ _ _=_:=h);clear hj;rcases k with _|k<;>rw[impl_RunActs.j0]at h<;>first|exact(none_some h).elim|skip)|((with_reducible replace h:=eu h);obtain⟨hl_,h⟩:=h;replace hl_:=A_ hl_;(try dsimp only at h))))
  all_goals first
   |(go_roundg k1;(case measure=>have:=jJ.out;omega);(case rel=>exact⟨_,_,_,_,_,_,_,_,(.slice B0 t1.length b0),(.slice B1 t3.length b1),(.slice B2 t6.length b2),(by first|rfl|(simp;done)),⟨h⟩,⟨by have:=jJ.out;omega⟩,⟨vY (ok:=fun _=>True) (by first|exact cn|exact eB|exact vN (by simp)|exact gV (by simp))⟩,⟨by first|exact cn|exact gV rfl|exact gV (by simp)|exact Kd.bM _ _ _ _ _⟩,⟨vY (ok:=fun _=>True) (by first|exact cn|exact eB|exact vN (by simp)|exact gV (by simp))⟩,⟨by first|exact cn|exact gV rfl|exact gV (by simp)|exact Kd.bM _ _ _ _ _⟩,⟨a7.out⟩,⟨a7.out⟩,⟨a7.out⟩,⟨From.out⟩⟩))
   |((try simp only[Option.some.injEq,Prod.mk.injEq]at h);(try obtain⟨rfl,rfl,rfl,rfl,rfl,rfl,rfl⟩:=h);refine bodyPost_ret (results_ct rfl _ _ _ _ _ (0,0) _ rfl a7.out Tryz.underlying30 rfl (by kernel_rfl)) rfl ?_;exact⟨_,_,_,_,rfl,(by first|exact cn|exact gV rfl|exact gV (by simp)|exact Kd.bM _ _ _ _ _|exact eB|exact irowFin' (by simp)),(by first|exact Kd.bM _ _ _ _ _|exact vY (ok:=fun _=>True) (by first|exact cn|exact eB|exact vN (by simp)|exact gV (by simp))),(by first|exact cn|exact gV rfl|exact gV (by simp)|exact Kd.bM _ _ _ _ _|exact eB|exact irowFin' (by simp)),(by first|exact Kd.bM _ _ _ _ _|exact vY (ok:=fun _=>True) (by first|exact cn|exact eB|exact vN (by simp)|exact gV (by simp))),From.out⟩)
end Go.Proofs.YtnjfiaekdcekgaaGreatDoor.P
namespace Go.Proofs.YtnjfiaekdcekgaaGreatDoor.Q
open Go.RowKit Go.Proofs.YtnjfiaekdcekgaaGreatDoor.P Go.Proofs.YtnjfiaekdcekgaaGreatDoorW.bS Go.Proofs.YtnjfiaekdcekgaaGreatDoorW.dX
def openF (l:List S64):List S64:=if gA l=true then oh l l.length else[]
theorem agQ (l:List S64) (hl:l.length≤1048577):pF.f l=some (openF l):=by
  unfold pF.f;rw[if_pos hl];rfl
def Bb (l:List S64):Int×Int×Bool:=match openF l with
  |[]=>(0,0,false)
  |x::_=>(x.f0.f0,x.f0.f1,true)
theorem agy (l:List S64) (hl:l.length≤1048577):AW.f l=some (Bb l):=by
  unfold AW.f Bb;rw[agQ l hl];simp only[Option.bind_some];cases h:openF l with
  |nil=>simp
  |cons x r=>
   rw[if_neg (by first|(simp;done)|(simp;omega)),if_pos (by first|(simp;done)|(simp;omega))];simp[dn]
def zl (l:List S64) (m:Int):List S64×Bool:=if(Bb l).2.2=true then addEntry l (Bb l).1 (Bb l).2.1 0 m else(l,false)
theorem ahG (l:List S64) (m:Int) (hl:l.length≤1048576):Ev (fun k=>yg.f k l m) (zl l m):=by
  unfold yg.f zl;refine bR (agy l (by omega)) ?_;by_cases h:(Bb l).2.2=true
  · exact df h<|evp h (Ev.bind (Rx l _ _ _ _ hl) (Ev.now _))
  · exact cq h<|aT h (bR (CP l (by omega)) (Ev.now _))
theorem ahH (l:List S64) (m:Int):(zl l m).1.length≤l.length+1:=by
  unfold zl
  split
  · exact Rw _ _ _ _ _
  · simp
def u6 (b:Bool):Int:=if b=true then 1 else 0
theorem FV (b:Bool):oT.f b=some (u6 b):=by unfold oT.f u6;cases b<;>rfl
def doAct (p:List ar) (d:Int) (q:List Int) (a m:Int) (l:List S64) (n x y z:Int):List ar×Int×List Int×Int×Int×List S64×Int:=
  if iT p d q a m l=true∧gZ n x y z=true then
    (if n=1 then((kv p d q a m l).1,(kv p d q a m l).2.1,(kv p d q a m l).2.2.1,(kv p d q a m l).2.2.2.1,(kv p d q a m l).2.2.2.2.1,(kv p d q a m l).2.2.2.2.2.1,u6 (kv p d q a m l).2.2.2.2.2.2)
    else if n=2 then((ky p d q a m l x).1,(ky p d q a m l x).2.1,(ky p d q a m l x).2.2.1,(ky p d q a m l x).2.2.2.1,(ky p d q a m l x).2.2.2.2.1,(ky p d q a m l x).2.2.2.2.2.1,u6 (ky p d q a m l x).2.2.2.2.2.2)
    else if n=3 then((kr p d q a m l x y z).1,(kr p d q a m l x y z).2.1,(kr p d q a m l x y z).2.2.1,(kr p d q a m l x y z).2.2.2.1,(kr p d q a m l x y z).2.2.2.2.1,(kr p d q a m l x y z).2.2.2.2.2.1,u6 (kr p d q a m l x y z).2.2.2.2.2.2)
    else if n=4 then((ku p d q a m l x y).1,(ku p d q a m l x y).2.1,(ku p d q a m l x y).2.2.1,(ku p d q a m l x y).2.2.2.1,(ku p d q a m l x y).2.2.2.2.1,(ku p d q a m l x y).2.2.2.2.2.1,u6 (ku p d q a m l x y).2.2.2.2.2.2)
    else if n=5 then(p,d,q,a,m,(zl l m).1,u6 (zl l m).2)
    else if n=6 then(p,d,q,a,m,l,I' p d q a m l)
    else(p,d,q,a,m,l,vZ p d q a m l x))
  else(p,d,q,a,m,l,-1)
section
variable (p:List ar) (d:Int) (q:List Int) (a m:Int) (l:List S64) (n x y z:Int) (hp:p.length≤4000000) (hq:q.length≤4000000) (hl:l.length≤1048576)
include hp hq hl
theorem acn:Ev (fun k=>cM.f k p d q a m l n x y z) (doAct p d q a m l n x y z):=by
  have E:=vX p d q a m l hp hq (by omega);have O:=tu p d q a m l (by omega);have AO:=Rl n x y z;have T:=aiK p d q a m l hp hq hl;have W:=aiN p d q a m l x hp hq hl;have F:=aib p d q a m l x y z hp hq hl;have K:=ail p d q a m l x y hp hq hl;have R:=ahG l m hl;have L:=afZ p d q a m l (by omega);have H:=ad5 p d q a m l x (by omega);have jt:Ev (fun k=>cM.j0 k true p d q a m l n x y z) (p,d,q,a,m,l,-1):=Ev.step (fun k=>by rw[cM.j0]) (evp rfl (bR E (Ev.now _)));unfold cM.f doAct;refine Ev.bind O ?_;by_cases h0:iT p d q a m l=true;rotate_left
  · exact cq (fun hh=>h0 hh.1) (aT h0 jt)
  refine evp h0 (Ev.bind AO ?_);by_cases h1:gZ n x y z=true;rotate_left
  · exact cq (fun hh=>h1 hh.2) (by rw[show(!gZ n x y z)=true by simp[h1]];exact jt)
  refine df ⟨h0,h1⟩ ?_;rw[show(!gZ n x y z)=false by simp[h1]];refine Ev.step (fun k=>by rw[cM.j0]) (aT (by decide) ?_);by_cases c1:n=1
  · exact df c1 (evp c1 (Ev.bind T (bR (FV _) (Ev.now _))))
  refine cq c1 (aT c1 ?_);by_cases c2:n=2
  · exact df c2 (evp c2 (Ev.bind W (bR (FV _) (Ev.now _))))
  refine cq c2 (aT c2 ?_);by_cases c3:n=3
  · exact df c3 (evp c3 (Ev.bind F (bR (FV _) (Ev.now _))))
  refine cq c3 (aT c3 ?_);by_cases c4:n=4
  · exact df c4 (evp c4 (Ev.bind K (bR (FV _) (Ev.now _))))
  refine cq c4 (aT c4 ?_);by_cases c5:n=5
  · exact df c5 (evp c5 (bR E (Ev.bind R (bR (FV _) (Ev.now _)))))
  refine cq c5 (aT c5 ?_);by_cases c6:n=6
  · exact df c6 (evp c6 (bR E (Ev.bind L (Ev.now _))))
  exact cq c6 (aT c6 (bR E (Ev.bind H (Ev.now _))))
end
theorem Si (p:List ar) (d:Int) (q:List Int) (a m:Int) (l:List S64) (n x y z:Int):(doAct p d q a m l n x y z).1=p∧(doAct p d q a m l n x y z).2.2.1.length=q.length∧(doAct p d q a m l n x y z).2.2.2.2.2.1.length≤l.length+1:=by
  have t:=aif p d q a m l;have w:=aih p d q a m l x;have f:=aid p d q a m l x y z;have k:=aie p d q a m l x y;have r:=ahH l m;unfold doAct
  split
  · split
    · exact⟨t.1,t.2.1,by dsimp only;rw[t.2.2];omega⟩
    split
    · exact⟨w.1,by dsimp only;rw[w.2.1],by dsimp only;rw[w.2.2];omega⟩
    split
    · exact⟨f.1,by dsimp only;rw[f.2.1],f.2.2⟩
    split
    · exact⟨k.1,k.2.1,by dsimp only;rw[k.2.2];omega⟩
    split
    · exact⟨rfl,rfl,r⟩
    split
    · exact⟨rfl,rfl,by dsimp only;omega⟩
    · exact⟨rfl,rfl,by dsimp only;omega⟩
  · exact⟨rfl,rfl,by dsimp only;omega⟩
def nE:List cN→List ar→Int→List Int→Int→Int→List S64→List Int→List ar×Int×List Int×Int×Int×List S64×List Int
  |[],p,d,q,a,m,l,r=>(p,d,q,a,m,l,r)
  |x::xs,p,d,q,a,m,l,r=>nE xs (doAct p d q a m l x.f0 x.f1 x.f2 x.f3).1 (doAct p d q a m l x.f0 x.f1 x.f2 x.f3).2.1 (doAct p d q a m l x.f0 x.f1 x.f2 x.f3).2.2.1 (doAct p d q a m l x.f0 x.f1 x.f2 x.f3).2.2.2.1 (doAct p d q a m l x.f0 x.f1 x.f2 x.f3).2.2.2.2.1 (doAct p d q a m l x.f0 x.f1 x.f2 x.f3).2.2.2.2.2.1 (r++[(doAct p d q a m l x.f0 x.f1 x.f2 x.f3).2.2.2.2.2.2])
def om (p:List ar) (d:Int) (q:List Int) (a m:Int) (l:List S64) (xs:List cN):List ar×Int×List Int×Int×Int×List S64×List Int:=
  if iT p d q a m l=true∧xs.length≤40 then nE xs p d q a m l []else(p,d,q,a,m,l,[])
theorem V0:∀(xs:List cN) (p:List ar) (d:Int) (q:List Int) (a m:Int) (l:List S64) (r:List Int),
    (nE xs p d q a m l r).1=p∧(nE xs p d q a m l r).2.2.1.length=q.length∧(nE xs p d q a m l r).2.2.2.2.2.1.length≤l.length+xs.length∧(nE xs p d q a m l r).2.2.2.2.2.2.length=r.length+xs.length
  |[],p,d,q,a,m,l,r=>⟨rfl,rfl,Nat.le_refl _,rfl⟩
  |x::xs,p,d,q,a,m,l,r=>by
   obtain⟨h1,h2,h3⟩:=Si p d q a m l x.f0 x.f1 x.f2 x.f3;unfold nE;generalize doAct p d q a m l x.f0 x.f1 x.f2 x.f3=R at*;obtain⟨g1,g2,g3,g4⟩:=V0 xs R.1 R.2.1 R.2.2.1 R.2.2.2.1 R.2.2.2.2.1 R.2.2.2.2.2.1 (r++[R.2.2.2.2.2.2]);refine⟨g1.trans h1,g2.trans h2,?_,?_⟩
   · simp only[List.length_cons];omega
   · rw[g4];simp;omega
theorem ahV (p:List ar) (d:Int) (q:List Int) (a m:Int) (l:List S64) (xs:List cN):
    (om p d q a m l xs).1=p∧(om p d q a m l xs).2.2.1.length=q.length∧(om p d q a m l xs).2.2.2.2.2.1.length≤l.length+40∧(om p d q a m l xs).2.2.2.2.2.2.length≤40:=by
  unfold om
  split
  · rename_i h
    obtain⟨g1,g2,g3,g4⟩:=V0 xs p d q a m l [];exact⟨g1,g2,by omega,by rw[g4];simp;exact h.2⟩
  · exact⟨rfl,rfl,by dsimp only;omega,by simp⟩
theorem af6 {l:List S64} (h:gA l=true):l.length≤30:=by
  unfold gA at h;simp only[Bool.and_eq_true,decide_eq_true_eq]at h;exact h.2
section
variable (xs:List cN) (hx:xs.length≤40)
include hx
theorem ah0:∀i,i≤xs.length→∀(p:List ar) (d:Int) (q:List Int) (a m:Int) (l:List S64) (r:List Int),p.length≤4000000→q.length≤4000000→l.length≤30+i→r.length=i→
    Ev (fun k=>impl_RunActs.l0 k r xs (xs.length:Int) (i:Int) p d q a m l) (nE (xs.drop i) p d q a m l r):=by
  refine down (n:=xs.length) ?_ ?_
  · intro p d q a m l r hp hq hl hr;refine Ev.step (fun k=>by rw[impl_RunActs.l0]) (aT (by omega) (evs ?_));rw[xR];rfl
  · intro i hi ih p d q a m l r hp hq hl hr;refine Ev.step (fun k=>by rw[impl_RunActs.l0]) (evp (by omega) (evp (by omega) (evp (by omega) ?_)));rw[rdA xs i hi,drop_cons xs i hi];obtain⟨h1,h2,h3⟩:=Si p d q a m l xs[i].f0 xs[i].f1 xs[i].f2 xs[i].f3;refine Ev.bind (acn p d q a m l xs[i].f0 xs[i].f1 xs[i].f2 xs[i].f3 hp hq (by omega)) (evp (by omega) ?_);rw[eH (n:=(i:Int)+1) (by omega) (by omega)];unfold nE;exact ih _ _ _ _ _ _ _ (by rw[h1];exact hp) (by rw[h2];exact hq) (by omega) (by simp;omega)
end
section
variable (p:List ar) (d:Int) (q:List Int) (a m:Int) (l:List S64) (xs:List cN) (hp:p.length≤4000000) (hq:q.length≤4000000) (hl:l.length≤1048576)
include hp hq hl
theorem V1:Ev (fun k=>impl_RunActs.f k p d q a m l xs) (om p d q a m l xs):=by
  have jt:Ev (fun k=>impl_RunActs.j0 k xs true p d q a m l) (p,d,q,a,m,l,[]):=Ev.step (fun k=>by rw[impl_RunActs.j0]) (evp rfl (Ev.now _));unfold impl_RunActs.f om;refine bR (vX p d q a m l hp hq (by omega)) (Ev.bind (tu p d q a m l (by omega)) ?_);by_cases h0:iT p d q a m l=true;rotate_left
  · exact cq (fun hh=>h0 hh.1) (aT h0 jt)
  refine evp h0 ?_;by_cases h1:xs.length≤40;rotate_left
  · exact cq (fun hh=>h1 hh.2) (by rw[show decide ((xs.length:Int)>40)=true from decide_eq_true (by omega)];exact jt)
  refine df ⟨h0,h1⟩ ?_;rw[show decide ((xs.length:Int)>40)=false from decide_eq_false (by omega)];have key:=ah0 xs h1 0 (Nat.zero_le _) p d q a m l [] hp hq (af6 (tr.1 h0).2.1) rfl;refine Ev.step (fun k=>by rw[impl_RunActs.j0]) (aT (by decide) ?_);exact key
end
structure p9 (d:Int) (q:List Int) (a m:Int) (l:List S64):Prop where
  d:eQ d
  q:∀n∈q,eQ n
  a:eQ a
  m:eQ m
  l:∀e∈l,wh e
theorem Jr (x:Int):eQ (wrap64 x):=by unfold eQ wrap64;omega
theorem JH:eQ 0:=by unfold eQ;omega
theorem agS {x:Int} (h:eQ x):eQ (nA x):=by
  unfold nA
  split
  · exact h
  · exact JH
theorem WH (a k b:Int):eQ (kS a k b):=by
  unfold kS
  repeat' split
  all_goals first|exact JH|exact agS (Jr _)
theorem NU {q:List Int} (h:∀n∈q,eQ n) (i:Nat) {v:Int} (hv:eQ v):∀n∈q.set i v,eQ n:=fun n hn=>by
  rcases List.mem_or_eq_of_mem_set hn with h1|rfl
  · exact h n h1
  · exact hv
theorem logGo_entI:∀(l:List S64) (p:Int),kK p l=true→∀e∈l,wh e
  |[],_,_,e,he=>by simp at he
  |x::r,p,h,e,he=>by
   unfold kK at h;simp only[Bool.and_eq_true]at h;rcases List.mem_cons.1 he with rfl|he
   · have h1:=h.1;unfold xU at h1;simp only[Bool.and_eq_true,decide_eq_true_eq]at h1;unfold wh eQ;omega
   · exact logGo_entI r _ h.2.2 e he
theorem af8 {l:List S64} (h:gA l=true):∀e∈l,wh e:=by
  unfold gA at h;simp only[Bool.and_eq_true]at h;exact logGo_entI l 0 h.1
theorem Rv {l:List S64} (h:∀e∈l,wh e) (r n f m:Int):∀e∈(addEntry l r n f m).1,wh e:=by
  unfold addEntry
  split
  · rename_i h2;exact af8 h2.2
  · exact h
theorem wT (b:Bool):eQ (u6 b):=by unfold u6 eQ;split<;>omega
section
variable {p:List ar} {d:Int} {q:List Int} {a m:Int} {l:List S64}
theorem akv (h:p9 d q a m l):eQ (l6 p d q).2.1∧∀n∈(l6 p d q).2.2.1,eQ n:=by
  unfold l6
  split
  · rename_i hw
    have hd:=BN hw;have hl:=planOk_len (zA hw)
    split
    · exact⟨h.d,h.q⟩
    split
    · exact⟨h.d,h.q⟩
    · exact⟨by unfold eQ;dsimp only;omega,NU h.q _ (WH _ _ _)⟩
  · exact⟨h.d,h.q⟩
theorem agj (h:p9 d q a m l):eQ (mj p d q).2.1∧∀n∈(mj p d q).2.2.1,eQ n:=by
  unfold mj
  split
  · exact⟨h.d,h.q⟩
  split
  · exact⟨h.d,h.q⟩
  · exact⟨h.d,NU h.q _ (WH _ _ _)⟩
theorem afS (h:p9 d q a m l) (c x:Int):eQ (lC p d q c x).2.1∧∀n∈(lC p d q c x).2.2.1,eQ n:=by
  unfold lC
  split
  · split
    · exact⟨h.d,NU h.q _ (Jr _)⟩
    · exact⟨h.d,h.q⟩
  · exact⟨h.d,h.q⟩
theorem aco (h:p9 d q a m l) (n x y z:Int):
    p9 (doAct p d q a m l n x y z).2.1 (doAct p d q a m l n x y z).2.2.1 (doAct p d q a m l n x y z).2.2.2.1 (doAct p d q a m l n x y z).2.2.2.2.1 (doAct p d q a m l n x y z).2.2.2.2.2.1∧eQ (doAct p d q a m l n x y z).2.2.2.2.2.2:=by
  have ws:=akv (p:=p) h;have ms:=agj (p:=p) h;have kk:=afS (p:=p) h x y;unfold doAct
  split
  · rename_i h0
    obtain⟨hs,ha⟩:=h0;obtain⟨_,_,hw,hm,_⟩:=tr.1 hs
    split
    · unfold kv;rw[if_pos hs];unfold pS
      split
      · exact⟨⟨ms.1,ms.2,h.a,h.m,h.l⟩,wT _⟩
      · exact⟨⟨ws.1,ws.2,h.a,h.m,h.l⟩,wT _⟩
    split
    · unfold ky
      split
      · rename_i h2
        dsimp only;exact⟨⟨h.d,h.q,by unfold eQ;omega,by unfold eQ;omega,h.l⟩,wT _⟩
      · dsimp only;exact⟨h,wT _⟩
    split
    · unfold kr
      split
      · dsimp only;exact⟨⟨h.d,h.q,h.a,h.m,Rv h.l _ _ _ _⟩,wT _⟩
      · dsimp only;exact⟨h,wT _⟩
    split
    · unfold ku;rw[if_pos hs];exact⟨⟨kk.1,kk.2,h.a,h.m,h.l⟩,wT _⟩
    split
    · refine⟨⟨h.d,h.q,h.a,h.m,?_⟩,wT _⟩;dsimp only;unfold zl
      split
      · exact Rv h.l _ _ _ _
      · exact h.l
    split
    · refine⟨h,?_⟩;dsimp only;unfold I';rw[if_pos hs];exact Jr _
    · refine⟨h,?_⟩;dsimp only;unfold vZ BL
      repeat' split
      all_goals first|exact JH|exact Jr _
  · exact⟨h,by unfold eQ;dsimp only;omega⟩
end
theorem VZ:∀(xs:List cN) (p:List ar) (d:Int) (q:List Int) (a m:Int) (l:List S64) (r:List Int),p9 d q a m l→(∀n∈r,eQ n)→
    p9 (nE xs p d q a m l r).2.1 (nE xs p d q a m l r).2.2.1 (nE xs p d q a m l r).2.2.2.1 (nE xs p d q a m l r).2.2.2.2.1 (nE xs p d q a m l r).2.2.2.2.2.1∧∀n∈(nE xs p d q a m l r).2.2.2.2.2.2,eQ n
  |[],p,d,q,a,m,l,r,h,hr=>⟨h,hr⟩
  |x::xs,p,d,q,a,m,l,r,h,hr=>by
   obtain⟨h1,h2⟩:=aco (p:=p) h x.f0 x.f1 x.f2 x.f3;unfold nE;refine VZ xs _ _ _ _ _ _ _ h1 ?_;intro n hn;rcases List.mem_append.mp hn with hn|hn
   · exact hr n hn
   · rw[List.mem_singleton.mp hn];exact h2
theorem ahU {p:List ar} {d:Int} {q:List Int} {a m:Int} {l:List S64} (h:p9 d q a m l) (xs:List cN):
    p9 (om p d q a m l xs).2.1 (om p d q a m l xs).2.2.1 (om p d q a m l xs).2.2.2.1 (om p d q a m l xs).2.2.2.2.1 (om p d q a m l xs).2.2.2.2.2.1∧∀n∈(om p d q a m l xs).2.2.2.2.2.2,eQ n:=by
  unfold om
  split
  · exact VZ xs _ _ _ _ _ _ _ h (by simp)
  · exact⟨h,by simp⟩
end Go.Proofs.YtnjfiaekdcekgaaGreatDoor.Q
namespace Go.Proofs.YtnjfiaekdcekgaaGreatDoor.P
set_option maxHeartbeats 8000000
set_option maxRecDepth 100000
set_option synthInstance.maxHeartbeats 400000
set_option synthInstance.maxSize 100000
open Go.RowKit Go.Proofs.YtnjfiaekdcekgaaGreatDoorW.bS Go.Proofs.YtnjfiaekdcekgaaGreatDoorW.dU Go.Proofs.YtnjfiaekdcekgaaGreatDoorW.dX Go.Proofs.YtnjfiaekdcekgaaGreatDoor.V
attribute [local go_sem] fV fW
attribute [local go_sem] fE fI fH fL fG fK fF fJ
def impl_ScriptText.l0 (k:Nat):List (cN)→List UInt8→Option (ByteArray×Bool)
 |[],bs=>some (⟨bs.toArray⟩,true)
 |a::r,bs=>(pE.f k a.f0 a.f1 a.f2 a.f3).bind fun t=>if t.2=true then(if bs.length+t.1.size+1≤140737488355328 then impl_ScriptText.l0 k r (bs++(t.1.data.toList++[10]))else none)else some (⟨#[]⟩,false)
def impl_ScriptText.f (k:Nat) (l0:List (cN)):Option (ByteArray×Bool):=if(l0.length:Int)>40 then some (⟨#[]⟩,false)else impl_ScriptText.l0 k l0 []
theorem afo {T e:TypeId} {B b:Nat} {bs:List Value} {w W:World} (h:Go.Lib.IsBuilderF T e B b bs w) (hb:Below w.heap.size w W):Go.Lib.IsBuilderF T e B b bs W:=by
 have key:∀p,Go.Lib.BuilderAtF T e B b p bs w→Go.Lib.BuilderAtF T e B b p bs W:=by
  rintro p ⟨h1,v,h2,h3,h4⟩;refine⟨h1,v,(hb.block _ (iD h2)).trans h2,⟨h3.1,?_⟩,h4⟩;rcases h3.2 with h|⟨g,cap,cur,fz,a1,a2,a3,a4⟩
  ·exact .inl h
  ·exact .inr ⟨g,cap,cur,fz,a1,a2,(hb.block _ (iD a3)).trans a3,a4⟩
 exact h.imp (key _) (key _)
theorem aiz:Lays.n166 Tryz.prog NY:={NX with}
theorem akC (b:Nat) (bs:List Value) (s:ByteArray) (w:World) (h:Go.Lib.IsBuilderF 68 5 b b bs w) (hlen:bs.length+s.size≤140737488355328) (hb:b≤w.heap.size):
  Calls Tryz.prog 37 #[.pointer (some ⟨b,0,none⟩),.string s] w fun e w'=>e= .returned (.tuple #[.int .i64 s.size,.nilIface])∧(Go.Lib.IsBuilderF 68 5 b b (bs++Go.Lib.strCells s) w'∧Below b w w'):=
 (Any.Builder_WriteString_k aiz N2 b b bs s w h hlen hb).mono fun e w' ⟨h1,h2,h3,_⟩=>⟨h1,.inr h2,h3⟩
attribute [local go_sem] cellR_c
theorem impl_ScriptText.calls (k:Nat) (A0:Option Addr) (c0:Nat) (l0:List (cN)) (r1:ByteArray) (r2:Bool) (w:World) (cd:Kd.C nx w A0 l0.length l0) (hc0:l0.length≤c0) (h:impl_ScriptText.f k l0=some (r1,r2)) (ht_:aj (rr w)):
  Calls Tryz.prog 15 #[.slice A0 l0.length c0] w fun e w'=>e= .returned (.tuple #[.string r1,.bool r2])∧Below w.heap.size w w':=by
 have hm:l0.length≤9223372036854775807:=Kd.xa cd;unfold impl_ScriptText.f at h;by_cases hl:(l0.length:Int)>40
 ·rw[if_pos hl]at h;simp only[Option.some.injEq,Prod.mk.injEq]at h;obtain⟨rfl,rfl⟩:=h;have h1:decide ((l0.length:Int)>40)=true:=decide_eq_true hl;have h2:decide (40<(l0.length:Int))=true:=decide_eq_true hl;have h3:decide (40<l0.length)=true:=decide_eq_true (by omega);clear cd hl;go_enter Tryz.func15,Tryz.ntmps15;go_wp2;go_ret2;exact⟨rfl,Below.refl _ _⟩
 ·rw[if_neg hl]at h;have h1:decide ((l0.length:Int)>40)=false:=decide_eq_false hl;have h2:decide (40<(l0.length:Int))=false:=decide_eq_false hl;have h3:decide (40<l0.length)=false:=decide_eq_false (by omega);have HQ:=A_ h;have dI:=A_ cd;clear cd hl h;have hu:=Tryz.underlying57;have hub:=Tryz.underlying68;go_enter Tryz.func15,Tryz.ntmps15;go_wp2
  go_loopg [16] (l0.length+1) (fun kq v16 w'=>∃(i:Nat) (bs:List UInt8),v16= .int .i64 (i:Int)∧aj (i+kq=l0.length+1)∧aj (i≤l0.length)∧aj (impl_ScriptText.l0 k (l0.drop i) bs=some (r1,r2))∧aj (Go.Lib.IsBuilderF 68 5 w.heap.size w.heap.size (Go.Lib.byteCells bs) w')∧aj (Below w.heap.size w w'))
  case atStart=>exact⟨0,[],rfl,⟨by omega⟩,⟨by omega⟩,HQ,⟨Go.Lib.IsBuilderF.of (Go.Lib.fresh_isBuilder _ _ w)⟩,⟨dB (Below.refl _ _) _⟩⟩
  case round=>
   clear HQ;obtain⟨i,bs,rfl,kU,HI2,HQ,HX,HB⟩:=hrel;have jf:From w wr:=⟨HB.out⟩;have js:Sz w wr:=⟨HB.out.size⟩;by_cases hlt:i<l0.length;rotate_left
   ·have hb3:decide ((i:Int)<(l0.length:Int))=false:=decide_eq_false (by omega);have hb4:decide (i<l0.length)=false:=decide_eq_false (by omega);obtain rfl:i=l0.length:=(by have:=HI2.out;omega);have hq:=HQ.out;rw[List.drop_eq_nil_of_le (Nat.le_refl _)]at hq;simp only[impl_ScriptText.l0,Option.some.injEq,Prod.mk.injEq]at hq;obtain⟨rfl,rfl⟩:=hq;clear HQ dI
    go_wp2_with (first
     |(go_at_call 38;refine(Any.Builder_String_any_k aiA aiP w.heap.size w.heap.size bs _ HX.out HB.out.size).mono ?_;rintro e w2 ⟨rfl,_,hb,_⟩;have vx:=A_ (HB.out.trans hb);clear hb))
    go_ret2;exact⟨rfl,vx.out⟩
   ·have hb3:decide ((i:Int)<(l0.length:Int))=true:=decide_eq_true (by omega);have hb4:decide (i<l0.length)=true:=decide_eq_true hlt;obtain⟨ad,e,hx0,hx1,hx2,hx3⟩:=tU dI.out (i:Int) (by omega) (by omega);cases e;obtain⟨x,hx⟩:∃x,qH l0 (i:Int)=x:=⟨_,rfl⟩;rw[hx]at hx0 hx1 hx2 hx3;simp only[Int.toNat_natCast]at hx0 hx1 hx2 hx3;have j0:fx wr _ _:=⟨hW HB hx0⟩;have j1:fx wr _ _:=⟨hW HB hx1⟩;have j2:fx wr _ _:=⟨hW HB hx2⟩;have j3:fx wr _ _:=⟨hW HB hx3⟩;have e0:l0[i]=x:=(by rw[←hx];simp[qH,List.getD_eq_getElem?_getD,hlt]);have hq:=HQ.out;rw[List.drop_eq_getElem_cons hlt,e0]at hq;replace hq:=Option.bind_eq_some_iff.mp hq;obtain⟨⟨t1,t2⟩,hA,hq⟩:=hq;dsimp only at hq;have A:=A_ hA;clear hx hx0 hx1 hx2 hx3 e0 hA HQ;cases t2 with
    |false=>
     rw[if_neg (by decide)]at hq;simp only[Option.some.injEq,Prod.mk.injEq]at hq;obtain⟨rfl,rfl⟩:=hq;clear dI
     go_wp2_with (first
      |((with_reducible refine gate_dst (N:=6) rfl ?_);refine bV #[.int .i64 0,.int .i64 0,.int .i64 0,.int .i64 0] 57 fun g w1 j1 j2 j3=> ?_)
      |(go_at_call 36;refine(pE.calls k _ _ _ _ _ _ _ A.out ⟨FQ ht_⟩).mono ?_;rintro e w2 ⟨rfl,hb⟩;have jb:=aK.mk hb;clear hb))
     go_ret2;exact⟨rfl,From.out⟩
    |true=>
     rw[if_pos rfl]at hq;by_cases hz:bs.length+t1.size+1≤140737488355328;rotate_left
     ·rw[if_neg hz]at hq;cases hq
     rw[if_pos hz]at hq;have HN:=A_ hq;have c1:(t1.size+1≤9223372036854775807)=True:=eq_true (by omega);have c2:decide (t1.size+1≤9223372036854775807)=true:=decide_eq_true (by omega);have c3:(9223372036854775807<t1.size+1)=False:=eq_false (by omega);have HZ:=A_ hz;clear hq hz
     go_wp2_with (first
      |((with_reducible refine gate_dst (N:=6) rfl ?_);refine bV #[.int .i64 0,.int .i64 0,.int .i64 0,.int .i64 0] 57 fun g w1 j1 j2 j3=> ?_)
      |(go_at_call 36;refine(pE.calls k _ _ _ _ _ _ _ A.out ⟨FQ ht_⟩).mono ?_;rintro e w2 ⟨rfl,hb⟩;have jb:=aK.mk hb;clear hb)
      |(go_at_call 37;refine(akC w.heap.size _ (t1++(⟨#[10]⟩:ByteArray)) _ (afo HX.out From.out) ?hlen Sz.out).mono ?_;(case hlen=>rw[Go.Lib.byteCells_length,ByteArray.size_append];have:=HZ.out;show bs.length+(t1.size+1)≤_;omega);rintro e w5 ⟨rfl,hi,hb⟩;have ZB:=A_ hi;have YS:aj (Below w.heap.size w w5):=⟨(From.out (w0:=w)).trans hb⟩;clear hi hb))
     go_roundg (l0.length-i)
     case measure=>have:=kU.out;omega
     case rel=>exact⟨i+1,bs++(t1.data.toList++[10]),by go_num,⟨by have:=kU.out;omega⟩,⟨by omega⟩,HN,⟨by rw[Go.Lib.byteCells_append,show t1.data.toList++[10]=(t1++(⟨#[10]⟩:ByteArray)).data.toList by simp];exact ZB.out⟩,YS⟩
end Go.Proofs.YtnjfiaekdcekgaaGreatDoor.P
namespace Go.Proofs.YtnjfiaekdcekgaaGreatDoor.Q
open Go.RowKit Go.Proofs.YtnjfiaekdcekgaaGreatDoor.P Go.Proofs.YtnjfiaekdcekgaaGreatDoorW.bS
def og (x:cN):List UInt8:=lN x.f0 x.f1 x.f2 x.f3
def uV (x:cN):Bool:=gZ x.f0 x.f1 x.f2 x.f3
def Iw (x:cN):Prop:=in64 x.f1∧in64 x.f2∧in64 x.f3
def zm:List cN→List UInt8→ByteArray×Bool
  |[],bs=>(txt bs,true)
  |a::r,bs=>if uV a=true then zm r (bs++(og a++[10]))else(txt [],false)
def I9 (l:List cN):ByteArray×Bool:=if l.length>40 then(txt [],false)else zm l []
theorem agI (x:cN) (h:Iw x):(og x).length≤100:=by
  unfold og lN;by_cases hk:gZ x.f0 x.f1 x.f2 x.f3=true
  · rw[if_pos hk];have h1:(nY x.f0).length≤6:=by unfold nY;(repeat' split)<;>simp
    have h2:∀n∈mB x.f0 x.f1 x.f2 x.f3,in64 n:=by
      unfold mB;intro n hn;obtain⟨h3,h4,h5⟩:=h
      repeat' split at hn
      all_goals simp at hn
      · subst hn;exact h3
      · rcases hn with rfl|rfl|rfl<;>assumption
      · rcases hn with rfl|rfl<;>assumption
    have h3:(mB x.f0 x.f1 x.f2 x.f3).length≤3:=by unfold mB;(repeat' split)<;>simp
    have h4:=Wz _ h2;simp only[List.length_append];omega
  · rw[if_neg hk];simp
theorem ah8 (l:List cN):(∀x∈l,Iw x)→∀bs:List UInt8,bs.length+101*l.length≤100000→Ev (fun k=>impl_ScriptText.l0 k l bs) (zm l bs):=by
  induction l with
  |nil=>exact fun _ bs _=>evs rfl
  |cons a r ih=>
   intro h bs hb;have hx:=h a (by simp);have hlen:=agI a hx;simp only[List.length_cons]at hb;show Ev (fun k=>(pE.f k a.f0 a.f1 a.f2 a.f3).bind fun t=>if t.2=true then(if bs.length+t.1.size+1≤140737488355328 then impl_ScriptText.l0 k r (bs++(t.1.data.toList++[10]))else none)else some (⟨#[]⟩,false)) (if uV a=true then zm r (bs++(og a++[10]))else(txt [],false));refine Ev.bind (Sx _ _ _ _ hx.1 hx.2.1 hx.2.2) ?_;by_cases hk:uV a=true
   · rw[if_pos hk];refine evp hk (evp ?_ ?_)
     · rw[u7];have:(lN a.f0 a.f1 a.f2 a.f3).length≤100:=hlen;omega
     · rw[wU];have:(lN a.f0 a.f1 a.f2 a.f3).length≤100:=hlen;exact ih (fun x hx=>h x (by simp[hx])) _ (by simp only[List.length_append,List.length_singleton];omega)
   · rw[if_neg hk];exact aT hk (Ev.now _)
theorem ah9 (l:List cN) (h:∀x∈l,Iw x):Ev (fun k=>impl_ScriptText.f k l) (I9 l):=by
  unfold impl_ScriptText.f I9;by_cases hl:l.length>40
  · rw[if_pos hl];exact evp (by omega) (Ev.now _)
  · rw[if_neg hl];exact aT (by omega) (ah8 l h [] (by simp;omega))
end Go.Proofs.YtnjfiaekdcekgaaGreatDoor.Q
namespace Go.Proofs.YtnjfiaekdcekgaaGreatDoor.P
set_option maxHeartbeats 8000000
set_option maxRecDepth 100000
set_option synthInstance.maxHeartbeats 400000
set_option synthInstance.maxSize 100000
open Go.RowKit Go.Proofs.YtnjfiaekdcekgaaGreatDoorW.bS Go.Proofs.YtnjfiaekdcekgaaGreatDoorW.dU Go.Proofs.YtnjfiaekdcekgaaGreatDoorW.dX Go.Proofs.YtnjfiaekdcekgaaGreatDoor.V
attribute [local go_sem] fV fW
attribute [local go_sem] fE fI fH fL fG fK fF fJ
def fO.nz:Nat→List ByteArray→Int→Int→Int→Option (Int×Int×Int)
 |_,[],A,B,C=>some (A,B,C)
 |i,s::r,A,B,C=>(ry s).bind fun n=>fO.nz (i+1) r (if i=0 then n else A) (if i=1 then n else B) (if i=2 then n else C)
def fO.last (k:Nat) (L:List ByteArray) (K:Int):Option (Int×Int×Int)→Option (Int×Int×Int×Int×Bool)
 |none=>some (0,0,0,0,false)
 |some (A,B,C)=>(pE.f k K A B C).bind fun u=>if u.2=true then(strings_Join.f L ⟨#[32]⟩).bind fun j=>some (if u.1=j then(K,A,B,C,true)else(0,0,0,0,false))else some (0,0,0,0,false)
def fO.rest (k:Nat):List ByteArray→Option (Int×Int×Int×Int×Bool)
 |[]=>some (0,0,0,0,false)
 |s::r=>if∀x∈s::r,x.size≤1000 then fO.last k (s::r) (lT s.data.toList) (fO.nz 0 r 0 0 0)else none
def fO.f (k:Nat) (a0:ByteArray):Option (Int×Int×Int×Int×Bool):=(gR.f k a0).bind fun t=>if t.2=true then fO.rest k t.1 else some (0,0,0,0,false)
theorem ajR {ops:Array Oper} {rest:List Oper} {o:Oper} {a:Act} {Q:Exit→Act→World→Prop} {w:World} {x:Operand} {ad:Addr} {n c:Nat} (m:Nat) (hm:n=m+1) (hg:o.guard=none) (hop:o.op=Op.slice 38 x (some (.const (.int .i64 1))) none none) (hx:a.eval x= .slice (some ad) n c)
  (h:∀Kz,(c≠1→Kz=⟨ad.block,ad.off+1,none⟩)→wpList Tryz.prog ops Q rest (a.put o.dst (.slice (some Kz) m (c-1))) w):wpList Tryz.prog ops Q (o::rest) a w:=by
 have e1:a.eval (.const (.int .i64 1))= .int .i64 1:=rfl;have hu:=Tryz.underlying38;have h2:(1:Int)≤n:=by omega
 have h1:1≤n:=by omega
 have h3:n-1=m:=by omega
 refine Kd.HJ hg (v:= .slice (some (if c=1 then ad else⟨ad.block,ad.off+1,none⟩)) (n-1) (c-1)) ?_ (h3▸h _ (fun hc=>if_neg hc));clear hm h3;simp only[execOp,hop,Option.map,hx,e1]
 go_simp
 split<;>rfl
attribute [local go_sem] cellR_c
theorem fO.calls (k:Nat) (a0:ByteArray) (r1:Int) (r2:Int) (r3:Int) (r4:Int) (r5:Bool) (w:World) (h:fO.f k a0=some (r1,r2,r3,r4,r5)) (ht_:aj (TabE w)):
  Calls Tryz.prog 41 #[.string a0] w fun e w'=>e= .returned (.tuple #[.agg #[.int .i64 r1,.int .i64 r2,.int .i64 r3,.int .i64 r4],.bool r5])∧Below w.heap.size w w':=by
 unfold fO.f at h;replace h:=bI h;obtain⟨⟨L,ok⟩,hA,h⟩:=h;dsimp only at h;have A:=A_ hA;clear hA;have hu:=Tryz.underlying57;cases ok with
 |false=>
  rw[if_neg (by decide)]at h;simp only[Option.some.injEq,Prod.mk.injEq]at h;obtain⟨rfl,rfl,rfl,rfl,rfl⟩:=h;go_enter Tryz.func41,Tryz.ntmps41
  go_wp2_with (first
   |((with_reducible refine gate_dst (N:=2) rfl ?_);refine bV #[.int .i64 0,.int .i64 0,.int .i64 0,.int .i64 0] 57 fun g2 w1 j1 j2 j3=> ?_)
   |(go_at_call 40;refine(gR.calls k _ _ _ _ A.out).mono ?_;rintro e w2 ⟨v0,rfl,hr,hb⟩;obtain⟨B0,b0,rfl⟩:=Kd.dp hr;have jr:=gF.mk hr;have jl:=az.mk (pI jr);have jb:=aK.mk hb;clear hr hb))
  refine bodyPost_ret (results_ct rfl _ _ g2 57 #[.int .i64 0,.int .i64 0,.int .i64 0,.int .i64 0] (0,0) _ rfl (by exact a7.out) hu rfl (by kernel_rfl)) rfl ?_;exact⟨rfl,From.out⟩
 |true=>
  rw[if_pos rfl]at h;cases L with
  |nil=>
   simp only[fO.rest,Option.some.injEq,Prod.mk.injEq]at h;obtain⟨rfl,rfl,rfl,rfl,rfl⟩:=h;go_enter Tryz.func41,Tryz.ntmps41
   go_wp2_with (first
    |((with_reducible refine gate_dst (N:=2) rfl ?_);refine bV #[.int .i64 0,.int .i64 0,.int .i64 0,.int .i64 0] 57 fun g2 w1 j1 j2 j3=> ?_)
    |(go_at_call 40;refine(gR.calls k _ _ _ _ A.out).mono ?_;rintro e w2 ⟨v0,rfl,hr,hb⟩;obtain⟨B0,b0,rfl⟩:=Kd.dp hr;have jr:=gF.mk hr;have jl:=az.mk (pI jr);have jb:=aK.mk hb;clear hr hb))
   refine bodyPost_ret (results_ct rfl _ _ g2 57 #[.int .i64 0,.int .i64 0,.int .i64 0,.int .i64 0] (0,0) _ rfl (by exact a7.out) hu rfl (by kernel_rfl)) rfl ?_;exact⟨rfl,From.out⟩
  |cons s r=>
   rw[fO.rest]at h;by_cases hz:∀x∈s::r,x.size≤1000;rotate_left
   ·rw[if_neg hz]at h;cases h
   rw[if_pos hz]at h;have HZ:=A_ hz;have H:=A_ h;obtain⟨L,hL⟩:∃L,s::r=L:=⟨_,rfl⟩;have hn:L.length=r.length+1:=(by rw[←hL];rfl);have h0:(eG ByteArray.empty L 0)=s:=(by rw[←hL];rfl);rw[hL]at A H HZ;have HS:aj (s.size≤maxLen):=⟨Nat.le_trans (hz s (by simp)) (by decide)⟩;have HL:=A_ hL;have HN:=A_ hn;have H0:=A_ h0;have b1:decide ((L.length:Int)=0)=false:=decide_eq_false (by omega);have b2:decide (L.length=0)=false:=decide_eq_false (by omega);have b3:(L.length==0)=false:=(by simpa using b2);have b4:((L.length:Int)==0)=false:=beq_eq_false_iff_ne.mpr (by omega);have b5:(L=[])=False:=(by rw[←hL];simp);have b6:decide ((0:Int)<(L.length:Int))=true:=decide_eq_true (by omega);have b7:decide (0<L.length)=true:=decide_eq_true (by omega);have b8:decide (1≤L.length)=true:=decide_eq_true (by omega);have b9:(0<L.length)=True:=eq_true (by omega);clear h hz hL hn h0;go_enter Tryz.func41,Tryz.ntmps41
   go_wp2_with (first
    |((with_reducible refine gate_dst (N:=2) rfl ?_);refine bV #[.int .i64 0,.int .i64 0,.int .i64 0,.int .i64 0] 57 fun g2 w1 j1 j2 j3=> ?_)
    |(go_at_call 40;refine(gR.calls k _ _ _ _ A.out).mono ?_;rintro e w2 ⟨v0,rfl,hr,hb⟩;obtain⟨B0,b0,rfl⟩:=Kd.dp hr;obtain⟨ad,hq1,oO⟩:=Kd.tW (Kd.ct hr).2.2 0 (by omega) (by have:=HN.out;omega);have jr:=gF.mk hr;have jl:=az.mk (pI jr);have jb:=aK.mk hb;cases hq1;rw[H0.out]at oO;have jc:fx w2 ad (.string s):=⟨by simpa[Addr.add]using oO⟩;clear hr hb oO)
    |((with_reducible refine gate_dst (N:=27) rfl ?_);refine afQ ?_ (fun _=>rfl) rfl rfl rfl rfl rfl rfl rfl rfl rfl rfl rfl rfl rfl rfl rfl rfl rfl rfl rfl rfl rfl rfl rfl;intro mb w3 hb HM;have HK:=afO HM.out s HS.out;have j4:=aK.mk hb;clear hb)
    |((with_reducible refine gate_dst (N:=36) rfl ?_);refine ajR (ad:=ad) (n:=L.length) (c:=b0) r.length HN.out rfl rfl rfl ?_;intro ad1 hq;have HD:=A_ hq;clear hq)
    |((with_reducible refine gate_dst (N:=7) rfl ?_);refine vO rfl (N:=7) rfl (cs:= #[.int .i64 0,.int .i64 0,.int .i64 0,.int .i64 0]) (t:=57) (by first|(go_simp;done)|(go_simp;rfl)) ?_;intro g7 hg w4 hk hb;have j5:=ma.mk hg;have j6:=aK.mk hb;have j7:=a7.mk hk;clear hg hb hk))
   have ht1:aj (rr w):=⟨ht_.out.1⟩;clear A
   go_loopg [38] (r.length+1) (fun kq v38 w'=>∃(i:Nat) (X Y Z:Int),v38= .int .i64 (i:Int)∧aj (i+kq=r.length+1)∧aj (i≤r.length)∧aj (fO.last k L (lT s.data.toList) (fO.nz i (r.drop i) X Y Z)=some (r1,r2,r3,r4,r5))∧aj (Below w.heap.size w w')∧aj (w'.heap[g2]? =some (.cells #[.int .i64 0,.int .i64 0,.int .i64 0,.int .i64 0] 57 (0,0)))∧aj (w'.heap[g7]? =some (.cells #[.int .i64 (lT s.data.toList),.int .i64 X,.int .i64 Y,.int .i64 Z] 57 (0,0)))∧aj (∀j,w1.heap.size≤j→j<w2.heap.size→w'.heap[j]? =w2.heap[j]?))
   case atStart=>exact⟨0,0,0,0,rfl,⟨by omega⟩,⟨by omega⟩,H,⟨From.out⟩,⟨a7.out⟩,⟨a7.out⟩,⟨gu.out⟩⟩
   case round=>
    obtain⟨i,X,Y,Z,rfl,kU,HI2,HQ,HB,GI,vy,Qf⟩:=hrel;clear H jc;have jf:From w wr:=⟨HB.out⟩;have js:Sz w wr:=⟨HB.out.size⟩;have jk2:a7 wr g2 _ _:=⟨GI.out⟩;have jk7:a7 wr g7 _ _:=⟨vy.out⟩;have jkp:gu w1 w2 wr:=⟨Qf.out⟩;clear GI vy Qf;have hmx:L.length≤9223372036854775807:=Kd.xa (I4 (w1:=w1) (w2:=w2) (W:=wr) (A:=some ad) (c:=b0) (xs:=L) (d:=Kd.string) (e:=9));have hmr:r.length+1≤9223372036854775807:=(by have:=HN.out;omega);by_cases hlt:i<r.length
    ·obtain⟨ad0,hq1,oO⟩:=Kd.tW (I4 (w1:=w1) (w2:=w2) (W:=wr) (A:=some ad) (c:=b0) (xs:=L) (d:=Kd.string) (e:=9)) ((i:Int)+1) (by omega) (by have:=HN.out;omega);cases hq1;have hb0:b0≠1:=(by have:=HN.out;have:=jl.out;omega);obtain rfl:=HD.out hb0
     have e1:eG ByteArray.empty L ((i:Int)+1)=r[i]:=by
      rw[←HL.out];have:((i:Int)+1).toNat=i+1:=(by omega);simp[eG,this,List.getD_eq_getElem?_getD,hlt]
     obtain⟨x,hx⟩:∃x,r[i]=x:=⟨_,rfl⟩;have hxs:x.size≤1000:=HZ.out x (by rw[←HL.out,←hx];exact List.mem_cons_of_mem _ (List.getElem_mem hlt));rw[e1,hx]at oO
     have jcg:wr.cell? ⟨ad.block,ad.off+1+i,none⟩=some (.string x):=by
      have e2:((i:Int)+1).toNat=1+i:=(by omega);rw[e2]at oO;rw[←oO];simp[Addr.add,Nat.add_assoc]
     have hq:=HQ.out;rw[List.drop_eq_getElem_cons hlt,hx,fO.nz]at hq;have hb3:decide ((i:Int)<(r.length:Int))=true:=decide_eq_true (by omega);have hb4:decide (i<r.length)=true:=decide_eq_true (by omega);have pD:(i<r.length)=True:=eq_true hlt;clear oO e1 HQ;cases hat:ry x with
     |none=>
      rw[hat]at hq;simp only[Option.bind_none,fO.last,Option.some.injEq,Prod.mk.injEq]at hq;obtain⟨rfl,rfl,rfl,rfl,rfl⟩:=hq;have xd:=A_ hat;clear hat;by_cases hi0:i=0
      ·subst hi0;have EX:fx wr ⟨ad.block,ad.off+1,none⟩ (.string x):=⟨jcg⟩;clear jcg
       go_wp2_with (first
        |(go_at_call 86;refine(Ry x _ (by omega) xd.out (LJ ht_.out.2 From.out)).mono ?_;rintro e w5 ⟨n5,t5,p5,rfl,hb⟩;have wm:=aK.mk hb;clear hb))
       refine bodyPost_ret (results_ct rfl _ _ g2 57 #[.int .i64 0,.int .i64 0,.int .i64 0,.int .i64 0] (0,0) _ rfl (by exact a7.out) hu rfl (by kernel_rfl)) rfl ?_;exact⟨rfl,From.out⟩
      ·have hi1:(i=0)=False:=eq_false hi0;have EX:fx wr ⟨ad.block,ad.off+1+i,none⟩ (.string x):=⟨jcg⟩;clear jcg
       go_wp2_with (first
        |(go_at_call 86;refine(Ry x _ (by omega) xd.out (LJ ht_.out.2 From.out)).mono ?_;rintro e w5 ⟨n5,t5,p5,rfl,hb⟩;have wm:=aK.mk hb;clear hb))
       refine bodyPost_ret (results_ct rfl _ _ g2 57 #[.int .i64 0,.int .i64 0,.int .i64 0,.int .i64 0] (0,0) _ rfl (by exact a7.out) hu rfl (by kernel_rfl)) rfl ?_;exact⟨rfl,From.out⟩
     |some n=>
      rw[hat]at hq;simp only[Option.bind_some]at hq;have xd:=A_ hat;clear hat;by_cases hi0:i=0
      ·subst hi0;have HQ:aj (fO.last k L (lT s.data.toList) (fO.nz (0+1) (r.drop (0+1)) n Y Z)=some (r1,r2,r3,r4,r5)):=⟨hq⟩;clear hq;have EX:fx wr ⟨ad.block,ad.off+1,none⟩ (.string x):=⟨jcg⟩;clear jcg
       go_wp2_with (first
        |(go_at_call 86;refine(atoi_ok x n _ (by omega) xd.out).mono ?_;rintro e w5 ⟨rfl,hb⟩;have wm:=aK.mk hb;clear hb))
       go_roundg (r.length-0)
       case measure=>have:=kU.out;omega
       case rel=>exact⟨0+1,n,Y,Z,by go_num,⟨by have:=kU.out;omega⟩,⟨by omega⟩,HQ,⟨From.out⟩,⟨a7.out⟩,⟨a7.out⟩,⟨gu.out⟩⟩
      by_cases hi1:i=1
      ·subst hi1;have HQ:aj (fO.last k L (lT s.data.toList) (fO.nz (1+1) (r.drop (1+1)) X n Z)=some (r1,r2,r3,r4,r5)):=⟨hq⟩;clear hq;have EX:fx wr ⟨ad.block,ad.off+1+1,none⟩ (.string x):=⟨jcg⟩;clear jcg
       go_wp2_with (first
        |(go_at_call 86;refine(atoi_ok x n _ (by omega) xd.out).mono ?_;rintro e w5 ⟨rfl,hb⟩;have wm:=aK.mk hb;clear hb))
       go_roundg (r.length-1)
       case measure=>have:=kU.out;omega
       case rel=>exact⟨1+1,X,n,Z,by go_num,⟨by have:=kU.out;omega⟩,⟨by omega⟩,HQ,⟨From.out⟩,⟨a7.out⟩,⟨a7.out⟩,⟨gu.out⟩⟩
      by_cases hi2:i=2
      ·subst hi2;have HQ:aj (fO.last k L (lT s.data.toList) (fO.nz (2+1) (r.drop (2+1)) X Y n)=some (r1,r2,r3,r4,r5)):=⟨hq⟩;clear hq;have EX:fx wr ⟨ad.block,ad.off+1+2,none⟩ (.string x):=⟨jcg⟩;clear jcg
       go_wp2_with (first
        |(go_at_call 86;refine(atoi_ok x n _ (by omega) xd.out).mono ?_;rintro e w5 ⟨rfl,hb⟩;have wm:=aK.mk hb;clear hb))
       go_roundg (r.length-2)
       case measure=>have:=kU.out;omega
       case rel=>exact⟨2+1,X,Y,n,by go_num,⟨by have:=kU.out;omega⟩,⟨by omega⟩,HQ,⟨From.out⟩,⟨a7.out⟩,⟨a7.out⟩,⟨gu.out⟩⟩
      ·rw[if_neg hi0,if_neg hi1,if_neg hi2]at hq;have HQ:=A_ hq;clear hq;have z0:(i=0)=False:=eq_false hi0;have z1:(i=1)=False:=eq_false hi1;have z2:(i=2)=False:=eq_false hi2;have z3:decide ((i:Int)=0)=false:=decide_eq_false (by omega);have z4:decide ((i:Int)=1)=false:=decide_eq_false (by omega);have z5:decide ((i:Int)=2)=false:=decide_eq_false (by omega);have EX:fx wr ⟨ad.block,ad.off+1+i,none⟩ (.string x):=⟨jcg⟩;clear jcg
       go_wp2_with (first
        |(go_at_call 86;refine(atoi_ok x n _ (by omega) xd.out).mono ?_;rintro e w5 ⟨rfl,hb⟩;have wm:=aK.mk hb;clear hb))
       have aqE:wrap64 ((i:Int)+1)=(i:Int)+1:=by unfold wrap64;omega
       go_roundg (r.length-i)
       case measure=>have:=kU.out;omega
       case rel=>exact⟨i+1,X,Y,Z,by go_num,⟨by have:=kU.out;omega⟩,⟨by omega⟩,HQ,⟨From.out⟩,⟨a7.out⟩,⟨a7.out⟩,⟨gu.out⟩⟩
    ·have hb3:decide ((i:Int)<(r.length:Int))=false:=decide_eq_false (by omega);have hb4:decide (i<r.length)=false:=decide_eq_false (by omega);have pD:(i<r.length)=False:=eq_false hlt;obtain rfl:i=r.length:=(by have:=HI2.out;omega);have hq:=HQ.out;rw[List.drop_eq_nil_of_le (Nat.le_refl _),fO.nz,fO.last]at hq;replace hq:=Option.bind_eq_some_iff.mp hq;obtain⟨⟨t1,t2⟩,hA,hq⟩:=hq;dsimp only at hq;have A5:=A_ hA;clear hA HQ;cases t2 with
     |false=>
      rw[if_neg (by decide)]at hq;simp only[Option.some.injEq,Prod.mk.injEq]at hq;obtain⟨rfl,rfl,rfl,rfl,rfl⟩:=hq
      go_wp2_with (first
       |(go_at_call 36;refine(pE.calls k _ _ _ _ _ _ _ A5.out ⟨FQ ht1⟩).mono ?_;rintro e w5 ⟨rfl,hb⟩;have wm:=aK.mk hb;clear hb))
      refine bodyPost_ret (results_ct rfl _ _ g2 57 #[.int .i64 0,.int .i64 0,.int .i64 0,.int .i64 0] (0,0) _ rfl (by exact a7.out) hu rfl (by kernel_rfl)) rfl ?_;exact⟨rfl,From.out⟩
     |true=>
      rw[if_pos rfl]at hq;replace hq:=Option.bind_eq_some_iff.mp hq;obtain⟨j,hJ,hq⟩:=hq;have A6:=A_ hJ;clear hJ;by_cases he:t1=j
      ·rw[if_pos he]at hq;simp only[Option.some.injEq,Prod.mk.injEq]at hq;obtain⟨rfl,rfl,rfl,rfl,rfl⟩:=hq;subst he
       go_wp2_with (first
        |(go_at_call 36;refine(pE.calls k _ _ _ _ _ _ _ A5.out ⟨FQ ht1⟩).mono ?_;rintro e w5 ⟨rfl,hb⟩;have wm:=aK.mk hb;clear hb)
        |(go_at_call 82;refine(strings_Join.calls (some ad) b0 L _ _ _ (Rd.out (d:=Kd.string)) az.out A6.out).mono ?_;rintro e w6 ⟨rfl,hb⟩;have jb6:=aK.mk hb;clear hb))
       refine bodyPost_ret (results_ct rfl _ _ g2 57 #[.int .i64 (lT s.data.toList),.int .i64 X,.int .i64 Y,.int .i64 Z] (0,0) _ rfl (by exact a7.out) hu rfl (by kernel_rfl)) rfl ?_;exact⟨rfl,From.out⟩
      ·rw[if_neg he]at hq;simp only[Option.some.injEq,Prod.mk.injEq]at hq;obtain⟨rfl,rfl,rfl,rfl,rfl⟩:=hq
       have he1:(t1.toList==j.toList)=false:=by
        rw[Go.Lib.toList_data,Go.Lib.toList_data,beq_eq_false_iff_ne];exact fun e=>he (ByteArray.ext (Array.toList_inj.mp e))
       go_wp2_with (first
        |(go_at_call 36;refine(pE.calls k _ _ _ _ _ _ _ A5.out ⟨FQ ht1⟩).mono ?_;rintro e w5 ⟨rfl,hb⟩;have wm:=aK.mk hb;clear hb)
        |(go_at_call 82;refine(strings_Join.calls (some ad) b0 L _ _ _ (Rd.out (d:=Kd.string)) az.out A6.out).mono ?_;rintro e w6 ⟨rfl,hb⟩;have jb6:=aK.mk hb;clear hb))
       refine bodyPost_ret (results_ct rfl _ _ g2 57 #[.int .i64 0,.int .i64 0,.int .i64 0,.int .i64 0] (0,0) _ rfl (by exact a7.out) hu rfl (by kernel_rfl)) rfl ?_;exact⟨rfl,From.out⟩
end Go.Proofs.YtnjfiaekdcekgaaGreatDoor.P
namespace Go.Proofs.YtnjfiaekdcekgaaGreatDoor.P
set_option maxHeartbeats 8000000
set_option maxRecDepth 100000
open Go.RowKit Go.Proofs.YtnjfiaekdcekgaaGreatDoorW.bS Go.Proofs.YtnjfiaekdcekgaaGreatDoorW.dU Go.Proofs.YtnjfiaekdcekgaaGreatDoorW.dX Go.Proofs.YtnjfiaekdcekgaaGreatDoor.V
attribute [local go_sem] fV fW
attribute [local go_sem] fE fI fH fL fG fK fF fJ
mutual
def fq.l0:Nat→List (cN)→List ByteArray→Int→Int→Option (List ByteArray×Bool)
 |0,_,_,_,_=>none
 |k+1,x4,x21,x22,x23=>if x23<x22 then(if 0≤x23 then(if x23<(x21.length:Int)then((gR.f k (eG ByteArray.empty x21 x23)).bind fun RL=>(if RL.2=true then(fq.j1 k x4 (eG ByteArray.empty x21 x23) x21 x22 x23 ((RL.1.length:Int)==0))else(fq.j1 k x4 (eG ByteArray.empty x21 x23) x21 x22 x23 false)))else(none))else(none))else(if(x4.length:Int)>40 then(some (([]:List ByteArray),false))else((sX.f k).bind fun Af=>((impl_RunActs.f k Af.1 Af.2.1 Af.2.2.1 Af.2.2.2.1 Af.2.2.2.2.1 Af.2.2.2.2.2 x4).bind fun vP=>(fq.l1 k (([]:List ByteArray)) vP.2.2.2.2.2.2 (vP.2.2.2.2.2.2.length:Int) 0 vP.1 vP.2.1 vP.2.2.1 vP.2.2.2.1 vP.2.2.2.2.1 vP.2.2.2.2.2.1))))
def fq.j1:Nat→List (cN)→ByteArray→List ByteArray→Int→Int→Bool→Option (List ByteArray×Bool)
 |0,_,_,_,_,_,_=>none
 |k+1,x4,x6,x21,x22,x23,x37=>if x37=true then(fq.l0 k x4 x21 x22 (wrap64 (x23+1)))else((fO.f k x6).bind fun CB=>(if CB.2.2.2.2=true then(if x4.length<4398046511104 then(fq.l0 k (x4++[(⟨CB.1,CB.2.1,CB.2.2.1,CB.2.2.2.1⟩:cN)]) x21 x22 (wrap64 (x23+1)))else(none))else(some (([]:List ByteArray),false))))
def fq.l1:Nat→List ByteArray→List Int→Int→Int→List (ar)→Int→List Int→Int→Int→List (S64)→Option (List ByteArray×Bool)
 |0,_,_,_,_,_,_,_,_,_,_=>none
 |k+1,Jv,O7,Xk,Gm,x1739000,x1739001,x1739002,W8,W9,W_=>if Gm<Xk then(if 0≤Gm then(if Gm<(O7.length:Int)then((impl_FormatInt.f (rd O7 Gm)).bind fun Bv=>(if Jv.length<8796093022208 then(fq.l1 k (Jv++[Bv]) O7 Xk (wrap64 (Gm+1)) x1739000 x1739001 x1739002 W8 W9 W_)else(none)))else(none))else(none))else((gK.f k x1739000 x1739001 x1739002 W8 W9 W_).bind fun wP=>(if Jv.length+wP.length<8796093022208 then(some ((Jv++wP),true))else(none)))
end
def fq.f (k:Nat) (a0:ByteArray):Option (List ByteArray×Bool):=if(a0.size:Int)>20000 then(some (([]:List ByteArray),false))else((strings_Split.f a0 (⟨#[10]⟩:ByteArray)).bind fun t1694=>(fq.l0 k (([]:List (cN))) t1694 (t1694.length:Int) 0))
theorem fq.calls (k:Nat) (a0:ByteArray) (r1:List ByteArray) (r2:Bool) (w:World) (h:fq.f k a0=some (r1,r2)) (ht_:aj (TabE w)):
  Calls Tryz.prog 16 #[.string a0] w fun e w'=>∃v0_:Value,e= .returned (.tuple #[v0_,.bool r2])∧Kd.R Kd.string 9 w' w.heap.size (fun _=>True) v0_ r1∧Below w.heap.size w w':=by
 have AU:=Tryz.underlying57;have kp:=Tryz.underlying30;have HB:=A_ (Below.refl w.heap.size w);have H:(if(a0.size:Int)>20000 then(some (([]:List ByteArray),false))else((strings_Split.f a0 (⟨#[10]⟩:ByteArray)).bind fun t1694=>(fq.l0 k (([]:List (cN))) t1694 (t1694.length:Int) 0)))=some (r1,r2):=h;clear h;by_cases c2:(a0.size:Int)>20000
 ·rw[if_pos c2]at H;have qm:decide (20000<(a0.size:Int))=true:=decide_eq_true c2;have vV:decide (20000<a0.size)=true:=decide_eq_true (by omega);clear c2;simp only[Option.some.injEq,Prod.mk.injEq]at H;obtain⟨rfl,rfl⟩:=H;go_enter Tryz.func16,Tryz.ntmps16;go_wp2;go_ret2;exact⟨_,eR,by first|exact Kd.bM _ _ _ _ _|exact Kd.p_ _ _ _ _ _|exact Kd.qf _ _ _ _ _|exact Kd.Q_nil _ _ _ _ _|exact Kd.S_nil _ _ _ _ _,oB HB⟩
 ·rw[if_neg c2]at H;have qm:decide (20000<(a0.size:Int))=false:=decide_eq_false c2;have vV:decide (20000<a0.size)=false:=decide_eq_false (by omega);clear c2;obtain⟨XC,Es⟩:∃y_:List (cN),y_=(([]:List (cN))):=⟨_,rfl⟩;replace H:((strings_Split.f a0 (⟨#[10]⟩:ByteArray)).bind fun t1694=>(fq.l0 k XC t1694 (t1694.length:Int) 0))=some (r1,r2):=by first|(rw[Es];with_reducible exact H)|(have aI:=(Option.bind_some _ _).symm.trans H;rw[Es];with_reducible exact aI)|(have aI:=(Option.bind_some _ _).symm.trans H;with_reducible exact aI)|with_reducible exact H|(rw[Es];exact H)|exact H
  have Ny1691:=A_ Es;clear Es;replace H:=Option.bind_eq_some_iff.mp H;obtain⟨t1694,ng,H⟩:=H
  (try dsimp only at H)
  have A3:=A_ ng;clear ng;have H':=A_ H;clear H;go_enter Tryz.func16,Tryz.ntmps16
  go_wp2_with (first|((with_reducible refine gate_dst (N:=19) rfl ?_);(try(refine mg (by rfl) ?_;dsimp only));refine Kd.iB nx _ 57 ?hg (N:=19) ?hd (xs:=([]:List (cN))) (inner:=[]) (ok:=fun _=>True) (cU:=fun _=>True) ?hr ?hp (fun _ hk=>hk) trivial (Below.refl _ _) (Nat.le_refl _) (by simp) ?_;(case hd=>rfl);(case hg=>rfl);(case hr=>first|(go_simp;done)|(go_simp;rfl));(case hp=>exact(bf.none _ _));intro ar_ w4 rX hb cT dx;clear cT dx;(first|rw[←Ny1691.out]at rX|(simp only[Int.reduceToNat]at rX;rw[←Ny1691.out]at rX));have ah:=A_ (Kd.dr rX (bn (oB HB)));have ai:=A_ (bz (oB HB) hb);clear HB;have GL:=ah;have HB:=ai;clear ah ai;clear hb rX)|((with_reducible refine bT (f:=39) rfl ?_);refine gL (some 21) Tryz.func39 #[.string a0,.string (⟨#[10]⟩:ByteArray)] ?_;(with_reducible refine(strings_Split.calls a0 (⟨#[10]⟩:ByteArray) t1694 _ A3.out).mono ?_);rintro e w6 ⟨ar',rfl,ho0,hb⟩;refine⟨_,rfl,?_⟩;have ah:=A_ (Kd.bh (oR GL) hb);have ai:=A_ (Kd.dr ho0 (bn (oB HB)));have ay:=A_ (bz (oB HB) hb);clear GL;clear HB;have GL:=ah;have Qi:=ai;have HB:=ay;clear ah ai ay;(try clear hb);(try clear hb2);(try clear hk);(try clear hi);(try clear ho0);obtain⟨Yc,Hv,xV⟩:=Kd.dp Qi.out;subst xV))
  go_loopg [4,23] k (fun kq v4 v23 w'=>∃(aC:List (cN)) (x23_1:Int),v23= .int .i64 x23_1∧aj (fq.l0 kq aC t1694 (t1694.length:Int) x23_1=some (r1,r2))∧aj (kq≤k)∧aj (Kd.R nx 57 w' w.heap.size (fun _=>True) v4 aC)∧aj (Kd.R Kd.string 9 w' w.heap.size (fun _=>True) (.slice Yc t1694.length Hv) t1694)∧aj (Below w.heap.size w w'))
  case atStart=>exact⟨(XC),(0),eS,H',⟨Nat.le_refl _⟩,⟨oR GL⟩,⟨oR Qi⟩,⟨oB HB⟩⟩
  case round=>
   clear H'
   try clear c1
   try clear c2
   try clear qm
   try clear vV
   try clear p2
   try clear c3
   obtain⟨aC,x23_1,rfl,HA,dh,fy,fM,HB⟩:=hrel;cases gk with
   |zero=>exact absurd HA.out (by simp[fq.l0])
   |succ k1=>
    have H:=HA.out;clear HA;simp only[fq.l0]at H;by_cases c8:x23_1<(t1694.length:Int)
    ·rw[if_pos c8]at H;have vW:decide (x23_1<(t1694.length:Int))=true:=decide_eq_true c8;clear c8;by_cases c9:0≤x23_1
     ·rw[if_pos c9]at H;have mF:decide (0≤x23_1)=true:=decide_eq_true c9;clear c9;by_cases c10:x23_1<(t1694.length:Int)
      ·rw[if_pos c10]at H;have t_:decide (x23_1<(t1694.length:Int))=true:=decide_eq_true c10;clear c10;replace H:=Option.bind_eq_some_iff.mp H;obtain⟨⟨Wm,Wn⟩,qW,H⟩:=H
       (try dsimp only at H)
       have vr:=A_ qW;clear qW;have JT:=A_ H;clear H;have E9:0≤(x23_1:Int):=oD;have Fc:x23_1<(t1694.length:Int):=oD;obtain⟨abb,acx,Ur⟩:=Kd.tW (Kd.ct fM.out).2.2 x23_1 E9 Fc;cases acx;replace E9:=eq_true E9;replace Fc:=eq_true Fc
       go_upto_region 8 with (first|((with_reducible refine bT (f:=40) rfl ?_);refine gL (some 29) Tryz.func40 #[.string (eG ByteArray.empty t1694 x23_1)] ?_;(with_reducible refine(gR.calls k1 (eG ByteArray.empty t1694 x23_1) Wm Wn _ vr.out).mono ?_);rintro e tE ⟨asa,rfl,ho0,hb⟩;refine⟨_,rfl,?_⟩;have ah:=A_ (Kd.bh (oR fy) hb);have ai:=A_ (Kd.iA (oR fM) (Kd.fT ho0) hb);have ay:=A_ (Kd.dr (Kd.ki ho0 (Kd.gY (oR fM))) (bn (oB HB)));have aG:=A_ (bz (oB HB) hb);clear fy;clear fM;clear HB;have fy:=ah;have fM:=ai;have Zg:=ay;have HB:=aG;clear ah ai ay aG;(try clear hb);(try clear hb2);(try clear hk);(try clear hi);(try clear ho0)))
       (try simp only[Act.put,List.setIfInBounds_toArray,List.set_cons_zero,List.set_cons_succ])
       go_cut [37] (fun v37 wc=>∃(kq:Nat) (JB:Bool),v37= .bool JB∧aj (fq.j1 kq aC (eG ByteArray.empty t1694 x23_1) t1694 (t1694.length:Int) x23_1 JB=some (r1,r2))∧aj (kq≤k1)∧aj (Kd.R nx 57 wc w.heap.size (fun _=>True) u4 aC)∧aj (Kd.R Kd.string 9 wc w.heap.size (fun _=>True) (.slice (some abb) t1694.length Hv) t1694)∧aj (Below w.heap.size w wc))
       case first=>
        have H:=JT.out;clear JT;by_cases c14:Wn=true
        ·subst c14;rw[if_pos rfl]at H;have H':=A_ H;clear H;obtain⟨JJ,Hs,Lz⟩:=Kd.dp Zg.out;subst Lz;go_wp2
         go_meet
         case rel=>exact⟨_,(((Wm.length:Int)==0)),eS,H',⟨by have:=dh.out;first|omega|exact Nat.le_refl _⟩,⟨oR fy⟩,⟨by(with_reducible repeat(first|apply Kd.bY|apply Kd.R_drewN|apply Kd.R_drew));exact Kd.bN fM.out (fun _ hk=>trivial)⟩,⟨oB HB⟩⟩
        ·replace c14:=Bool.eq_false_iff.mpr c14;subst c14;rw[if_neg (show¬(false=true)by decide)]at H;have H':=A_ H;clear H;go_wp2
         go_meet
         case rel=>exact⟨_,(false),eS,H',⟨by have:=dh.out;first|omega|exact Nat.le_refl _⟩,⟨oR fy⟩,⟨by(with_reducible repeat(first|apply Kd.bY|apply Kd.R_drewN|apply Kd.R_drew));exact Kd.bN fM.out (fun _ hk=>trivial)⟩,⟨oB HB⟩⟩
       case rest=>
        clear JT
        try clear c1
        try clear p1
        try clear q1
        try clear hx1
        try clear c2
        try clear qm
        try clear vV
        try clear p2
        try clear c3
        try clear c4
        try clear c8
        try clear vW
        try clear c9
        try clear mF
        try clear c10
        try clear t_
        try clear c14
        try clear Ur
        try clear E9
        try clear p2
        try clear Fc
        obtain⟨kq,JB,rfl,HA,GJ,fy,fM,HB⟩:=hcut;cases kq with
        |zero=>exact absurd HA.out (by simp[fq.j1])
        |succ E0=>
         have H:=HA.out;clear HA;simp only[fq.j1]at H;by_cases c16:JB=true
         ·subst c16;rw[if_pos rfl]at H;have H':=A_ H;clear H;go_wp2
          go_roundg E0
          case measure=>have:=dh.out;have:=GJ.out;omega
          case rel=>exact⟨(aC),(wrap64 (x23_1+1)),eS,H',⟨by have:=dh.out;have:=GJ.out;omega⟩,⟨oR fy⟩,⟨oR fM⟩,⟨oB HB⟩⟩
         ·replace c16:=Bool.eq_false_iff.mpr c16;subst c16;rw[if_neg (show¬(false=true)by decide)]at H;replace H:=Option.bind_eq_some_iff.mp H;obtain⟨⟨mW,ot,pP,si,ai7⟩,Py,H⟩:=H
          (try dsimp only at H)
          have Px:=A_ Py;clear Py;by_cases c18:ai7=true
          ·subst c18;rw[if_pos rfl]at H;by_cases c19:aC.length<4398046511104
           ·rw[if_pos c19]at H;have ZI:=A_ c19;clear c19;obtain⟨XD,Et⟩:∃y_:List (cN),y_=(aC++[(⟨mW,ot,pP,si⟩:cN)]):=⟨_,rfl⟩;replace H:(fq.l0 E0 XD t1694 (t1694.length:Int) (wrap64 (x23_1+1)))=some (r1,r2):=by first|(rw[Et];with_reducible exact H)|(have aI:=(Option.bind_some _ _).symm.trans H;rw[Et];with_reducible exact aI)|(have aI:=(Option.bind_some _ _).symm.trans H;with_reducible exact aI)|with_reducible exact H|(rw[Et];exact H)|exact H
            have aam:=A_ Et;clear Et;have H':=A_ H;clear H
            go_wp2_with (first|((with_reducible refine bT (f:=41) rfl ?_);refine gL (some 40) Tryz.func41 #[.string (eG ByteArray.empty t1694 x23_1)] ?_;(with_reducible refine(fO.calls E0 (eG ByteArray.empty t1694 x23_1) mW ot pP si true _ Px.out ?sideT).mono ?_);(case sideT=>exact⟨Oo ht_.out (oB HB)⟩);rintro e BJ ⟨rfl,hb⟩;refine⟨_,rfl,?_⟩;have ah:=A_ (Kd.bh (oR fy) hb);have ai:=A_ (Kd.bh (oR fM) hb);have ay:=A_ (bz (oB HB) hb);clear fy;clear fM;clear HB;have fy:=ah;have fM:=ai;have HB:=ay;clear ah ai ay;(try clear hb);(try clear hb2);(try clear hk);(try clear hi))|((with_reducible refine gate_dst (N:=9) rfl ?_);(try(refine mg (by rfl) ?_;dsimp only));refine bX (N:=9) (cs:= #[.int .i64 0,.int .i64 0,.int .i64 0,.int .i64 0]) (t:=57) ?_;intro gb1707 hg wX cj hb;have ah:=A_ (Kd.bh (Kd.Kl (oR fy) gb1707 (Nat.le_of_eq hg.symm)) hb);have ai:=A_ (Kd.bh (oR fM) hb);have ay:=A_ (bz (oB HB) hb);have aG:=A_ (cj);have bD:=A_ ((by rw[hg];exact(bn (oB HB)):w.heap.size≤gb1707));have n5_:=A_ ((by rw[hg];exact(bn (oB HB)):w.heap.size≤gb1707));clear fy;clear fM;clear HB;have fy:=ah;have fM:=ai;have HB:=ay;have BK1707:=aG;have YK:=bD;have YC:=n5_;clear ah ai ay aG bD n5_;clear hb cj hg;have Tt:=cz BK1707 0;have Tu:=cz BK1707 1;have Tv:=cz BK1707 2;have Tw:=cz BK1707 3;have TT:=aJ BK1707.out 0;have TU:=aJ BK1707.out 1;have TV:=aJ BK1707.out 2;have TW:=aJ BK1707.out 3)|((with_reducible refine jz (b:= .append) (xs:= #[.tmp 45,.tmp 47]) rfl ?_);(try(refine mg (by rfl) ?_;dsimp only));at_builtin;refine Kd.R_append nx (w0:=w) w.heap.size rfl (.tmp 45) (.tmp 47) 31 57 (.agg #[(.int .i64 0),(.int .i64 0),(.int .i64 0),(.int .i64 0)]) 32 rfl Tryz.underlying31 UE rfl (by decide) (by omega) u4 aC (⟨mW,ot,pP,si⟩:cN) [.int .i64 mW,.int .i64 ot,.int .i64 pP,.int .i64 si] (fun k_=>k_≠gb1707) (fun _=>False) rfl (by first|(go_simp;done)|(go_simp;rfl)) ?aP (fun _ hk=>hk.elim) ?aF ?aO ?aB ?aS ?aL ?_;(case aP=>exact UK _ _ _ (⟨mW,ot,pP,si⟩:cN));(case aB=>exact(oB HB));(case aF=>exact(fun k_ hk=>Kd.SA (g:=gb1707) (o:= .cells #[.int .i64 mW,.int .i64 ot,.int .i64 pP,.int .i64 si] 57 (0,0)) (by(with_reducible repeat(first|refine bP ?_ _|refine bF ?_|refine bC ?_ _));refine di (cs:= #[.int .i64 mW,.int .i64 ot,.int .i64 pP,.int .i64 0]) ?_ 3 _ rfl;(with_reducible repeat(first|refine bP ?_ _|refine bF ?_|refine bC ?_ _));refine di (cs:= #[.int .i64 mW,.int .i64 ot,.int .i64 0,.int .i64 0]) ?_ 2 _ rfl;(with_reducible repeat(first|refine bP ?_ _|refine bF ?_|refine bC ?_ _));refine di (cs:= #[.int .i64 mW,.int .i64 0,.int .i64 0,.int .i64 0]) ?_ 1 _ rfl;(with_reducible repeat(first|refine bP ?_ _|refine bF ?_|refine bC ?_ _));refine di (cs:= #[.int .i64 0,.int .i64 0,.int .i64 0,.int .i64 0]) ?_ 0 _ rfl;(with_reducible repeat(first|refine bP ?_ _|refine bF ?_|refine bC ?_ _));exact BK1707.out) k_ hk));(case aO=>exact(by(with_reducible repeat(first|apply Kd.bY|apply Kd.R_drewN|apply Kd.R_drew));exact Kd.bN (Kd.aM (p:=⟨gb1707,3,none⟩) (Kd.aM (p:=⟨gb1707,2,none⟩) (Kd.aM (p:=⟨gb1707,1,none⟩) (Kd.aM (p:=⟨gb1707,0,none⟩) (Kd.bN fy.out (fun k_ hk=>(⟨hk,hk.2⟩:_∧k_≠gb1707))) (fun _ hk=>hk.2) (.int .i64 mW)) (fun _ hk=>hk.2) (.int .i64 ot)) (fun _ hk=>hk.2) (.int .i64 pP)) (fun _ hk=>hk.2) (.int .i64 si)) (fun _ hk=>hk.1.2)));(case aS=>exact(bn (oB HB)));(case aL=>have:=ZI.out;omega);intro asb F0 ho hb hg hat;rw[←aam.out]at ho;have ah:=A_ (Kd.iM (by(with_reducible repeat(first|apply Kd.bY|apply Kd.R_drewN|apply Kd.R_drew));exact(Kd.bN (Kd.aM (p:=⟨gb1707,3,none⟩) (Kd.aM (p:=⟨gb1707,2,none⟩) (Kd.aM (p:=⟨gb1707,1,none⟩) (Kd.aM (p:=⟨gb1707,0,none⟩) (Kd.fN fM.out BK1707.out (by decide)) (fun _ hk=>hk.2) (.int .i64 mW)) (fun _ hk=>hk.2) (.int .i64 ot)) (fun _ hk=>hk.2) (.int .i64 pP)) (fun _ hk=>hk.2) (.int .i64 si)) (fun _ h_=>h_.1))) (Kd.iN (by(with_reducible repeat(first|apply Kd.bY|apply Kd.R_drewN|apply Kd.R_drew));exact(Kd.bN (Kd.aM (p:=⟨gb1707,3,none⟩) (Kd.aM (p:=⟨gb1707,2,none⟩) (Kd.aM (p:=⟨gb1707,1,none⟩) (Kd.aM (p:=⟨gb1707,0,none⟩) (Kd.bN fy.out (fun k_ hk=>(⟨hk,hk.2⟩:_∧k_≠gb1707))) (fun _ hk=>hk.2) (.int .i64 mW)) (fun _ hk=>hk.2) (.int .i64 ot)) (fun _ hk=>hk.2) (.int .i64 pP)) (fun _ hk=>hk.2) (.int .i64 si)) (fun _ h_=>h_.1)))) (by decide) hg);have ai:=A_ (Cx (g:=gb1707) (o:= .cells #[.int .i64 mW,.int .i64 ot,.int .i64 pP,.int .i64 si] 57 (0,0)) (by(with_reducible repeat(first|refine bP ?_ _|refine bF ?_|refine bC ?_ _));refine di (cs:= #[.int .i64 mW,.int .i64 ot,.int .i64 pP,.int .i64 0]) ?_ 3 _ rfl;(with_reducible repeat(first|refine bP ?_ _|refine bF ?_|refine bC ?_ _));refine di (cs:= #[.int .i64 mW,.int .i64 ot,.int .i64 0,.int .i64 0]) ?_ 2 _ rfl;(with_reducible repeat(first|refine bP ?_ _|refine bF ?_|refine bC ?_ _));refine di (cs:= #[.int .i64 mW,.int .i64 0,.int .i64 0,.int .i64 0]) ?_ 1 _ rfl;(with_reducible repeat(first|refine bP ?_ _|refine bF ?_|refine bC ?_ _));refine di (cs:= #[.int .i64 0,.int .i64 0,.int .i64 0,.int .i64 0]) ?_ 0 _ rfl;(with_reducible repeat(first|refine bP ?_ _|refine bF ?_|refine bC ?_ _));exact BK1707.out) hg (Kd.Rg fy.out (fun _ hk=>hk.2)));have ay:=A_ (hb);have aG:=A_ (ho);clear fM;clear BK1707;clear HB;clear fy;have fM:=ah;have BK1707:=ai;have HB:=ay;have Zh:=aG;clear ah ai ay aG;clear ho hb hg hat))
            go_roundg E0
            case measure=>have:=dh.out;have:=GJ.out;omega
            case rel=>exact⟨(XD),(wrap64 (x23_1+1)),eS,H',⟨by have:=dh.out;have:=GJ.out;omega⟩,⟨by(with_reducible repeat(first|apply Kd.bY|apply Kd.R_drewN|apply Kd.R_drew));exact Kd.bN Zh.out (fun _ hk=>trivial)⟩,⟨oR fM⟩,⟨oB HB⟩⟩
           ·rw[if_neg c19]at H;exact absurd H (by simp)
          ·replace c18:=Bool.eq_false_iff.mpr c18;subst c18;rw[if_neg (show¬(false=true)by decide)]at H;simp only[Option.some.injEq,Prod.mk.injEq]at H;obtain⟨rfl,rfl⟩:=H
           go_wp2_with (first|((with_reducible refine bT (f:=41) rfl ?_);refine gL (some 40) Tryz.func41 #[.string (eG ByteArray.empty t1694 x23_1)] ?_;(with_reducible refine(fO.calls E0 (eG ByteArray.empty t1694 x23_1) mW ot pP si false _ Px.out ?sideT).mono ?_);(case sideT=>exact⟨Oo ht_.out (oB HB)⟩);rintro e w24 ⟨rfl,hb⟩;refine⟨_,rfl,?_⟩;have ah:=A_ (Kd.bh (oR fy) hb);have ai:=A_ (Kd.bh (oR fM) hb);have ay:=A_ (bz (oB HB) hb);clear fy;clear fM;clear HB;have fy:=ah;have fM:=ai;have HB:=ay;clear ah ai ay;(try clear hb);(try clear hb2);(try clear hk);(try clear hi))|((with_reducible refine gate_dst (N:=9) rfl ?_);(try(refine mg (by rfl) ?_;dsimp only));refine bX (N:=9) (cs:= #[.int .i64 0,.int .i64 0,.int .i64 0,.int .i64 0]) (t:=57) ?_;intro gb1707 hg F2 cj hb;have ah:=A_ (Kd.bh (Kd.Kl (oR fy) gb1707 (Nat.le_of_eq hg.symm)) hb);have ai:=A_ (Kd.bh (oR fM) hb);have ay:=A_ (bz (oB HB) hb);have aG:=A_ (cj);have bD:=A_ ((by rw[hg];exact(bn (oB HB)):w.heap.size≤gb1707));have n5_:=A_ ((by rw[hg];exact(bn (oB HB)):w.heap.size≤gb1707));clear fy;clear fM;clear HB;have fy:=ah;have fM:=ai;have HB:=ay;have BK1707:=aG;have YK:=bD;have YC:=n5_;clear ah ai ay aG bD n5_;clear hb cj hg;have H7:=cz BK1707 0;have H8:=cz BK1707 1;have hcz26_2:=cz BK1707 2;have H_:=cz BK1707 3;have Ih:=aJ BK1707.out 0;have Ii:=aJ BK1707.out 1;have Ij:=aJ BK1707.out 2;have Ik:=aJ BK1707.out 3))
           go_ret2;exact⟨_,eR,by first|exact Kd.bM _ _ _ _ _|exact Kd.p_ _ _ _ _ _|exact Kd.qf _ _ _ _ _|exact Kd.Q_nil _ _ _ _ _|exact Kd.S_nil _ _ _ _ _,oB HB⟩
      ·rw[if_neg c10]at H;exact absurd H (by simp)
     ·rw[if_neg c9]at H;exact absurd H (by simp)
    ·rw[if_neg c8]at H;have vW:decide (x23_1<(t1694.length:Int))=false:=decide_eq_false c8;clear c8;by_cases c27:(aC.length:Int)>40
     ·rw[if_pos c27]at H;have AB:decide (40<(aC.length:Int))=true:=decide_eq_true c27;have Hm:decide (40<aC.length)=true:=decide_eq_true (by omega);clear c27;simp only[Option.some.injEq,Prod.mk.injEq]at H;obtain⟨rfl,rfl⟩:=H;obtain⟨Ao28,kG,AJ⟩:=Kd.dp fy.out;subst AJ;go_wp2;go_ret2;exact⟨_,eR,by first|exact Kd.bM _ _ _ _ _|exact Kd.p_ _ _ _ _ _|exact Kd.qf _ _ _ _ _|exact Kd.Q_nil _ _ _ _ _|exact Kd.S_nil _ _ _ _ _,oB HB⟩
     ·rw[if_neg c27]at H;have AB:decide (40<(aC.length:Int))=false:=decide_eq_false c27;have Hm:decide (40<aC.length)=false:=decide_eq_false (by omega);clear c27;replace H:=Option.bind_eq_some_iff.mp H;obtain⟨⟨N4,N5,N6,N7,N8,N9⟩,PG,H⟩:=H
      (try dsimp only at H)
      have XX:=A_ PG;clear PG;replace H:=Option.bind_eq_some_iff.mp H;obtain⟨⟨t1723,kQ,t1727,lG,lY,lH,mm⟩,A300,H⟩:=H
      (try dsimp only at H)
      have ng:=A_ A300;clear A300;obtain⟨XE,Eu⟩:∃y_:List ByteArray,y_=(([]:List ByteArray)):=⟨_,rfl⟩;replace H:(fq.l1 k1 XE mm (mm.length:Int) 0 t1723 kQ t1727 lG lY lH)=some (r1,r2):=by first|(rw[Eu];with_reducible exact H)|(have aI:=(Option.bind_some _ _).symm.trans H;rw[Eu];with_reducible exact aI)|(have aI:=(Option.bind_some _ _).symm.trans H;with_reducible exact aI)|with_reducible exact H|(rw[Eu];exact H)|exact H
      have Q2:=A_ Eu;clear Eu;have H':=A_ H;clear H;obtain⟨JK,Ld,LD⟩:=Kd.dp fy.out;subst LD
      go_wp2_with (first|((with_reducible refine bT (f:=17) rfl ?_);refine gL (some 54) Tryz.func17 #[] ?_;(with_reducible refine(sX.calls k1  N4 N5 N6 N7 N8 N9 _ XX.out).mono ?_);rintro e F5 ⟨asc,ase,asf,rfl,ho0,aY,bB,hb⟩;refine⟨_,rfl,?_⟩;have ah:=A_ (Kd.bh (oR fy) hb);have ai:=A_ (Kd.bh (oR fM) hb);have ay:=A_ (Kd.dr ho0 (bn (oB HB)));have aG:=A_ (Kd.dr aY (bn (oB HB)));have bD:=A_ (Kd.dr bB (bn (oB HB)));have n5_:=A_ (bz (oB HB) hb);clear fy;clear fM;clear HB;have fy:=ah;have fM:=ai;have o8:=ay;have HO1717:=aG;have o9:=bD;have HB:=n5_;clear ah ai ay aG bD n5_;(try clear hb);(try clear hb2);(try clear hk);(try clear hi);(try clear ho0);(try clear aY);(try clear bB);obtain⟨X9,acf,acN⟩:=Kd.dp o8.out;subst acN;obtain⟨X_,acg,acO⟩:=Kd.dp HO1717.out;subst acO;obtain⟨PQ,co35,LF⟩:=Kd.dp o9.out;subst LF)|((with_reducible refine bT (f:=9) rfl ?_);refine gL (some 56) Tryz.func9 #[.agg #[.slice X9 N4.length acf,.int .i64 N5,.slice X_ N6.length acg,.int .i64 N7,.int .i64 N8,.slice PQ N9.length co35],.slice JK aC.length Ld] ?_;(with_reducible refine(impl_RunActs.calls k1 _ _ N4 N5 _ _ N6 N7 N8 _ _ N9 _ _ aC t1723 kQ t1727 lG lY lH mm _ ?bG ?bH ?iF ?iG ?mS ?oo ?NV ?NW ng.out).mono ?_);(case bG=>repeat(first|exact(Kd.ct o8.out).2.2|(with_reducible refine Kd.gP ?_ _)|(with_reducible refine Kd.gX ?_ _)|(with_reducible refine Kd.gW ?_)));(case bH=>exact(Kd.ct o8.out).2.1);(case iF=>repeat(first|exact(Kd.ct HO1717.out).2.2|(with_reducible refine Kd.gP ?_ _)|(with_reducible refine Kd.gX ?_ _)|(with_reducible refine Kd.gW ?_)));(case iG=>exact(Kd.ct HO1717.out).2.1);(case mS=>repeat(first|exact(Kd.ct o9.out).2.2|(with_reducible refine Kd.gP ?_ _)|(with_reducible refine Kd.gX ?_ _)|(with_reducible refine Kd.gW ?_)));(case oo=>exact(Kd.ct o9.out).2.1);(case NV=>repeat(first|exact(Kd.ct fy.out).2.2|(with_reducible refine Kd.gP ?_ _)|(with_reducible refine Kd.gX ?_ _)|(with_reducible refine Kd.gW ?_)));(case NW=>exact(Kd.ct fy.out).2.1);rintro e OG ⟨asg,ash,asi,asj,rfl,ho0,aY,bB,ko,hb⟩;refine⟨_,rfl,?_⟩;have ah:=A_ (Kd.bh (oR fy) hb);have ai:=A_ (Kd.bh (oR fM) hb);have ay:=A_ (Kd.iA (oR o8) (Kd.fT ho0) hb);have aG:=A_ (Kd.bN (Kd.R_told (Kd.R_told (Kd.Ko (oR HO1717) hb) (Kd.fT aY)) (Kd.fT ko)) (fun _ h_=>h_.1));have bD:=A_ (Kd.iA (oR o9) (Kd.fT bB) hb);have n5_:=A_ (Kd.dr (Kd.ki ho0 (Kd.gY (oR o8))) (bn (oB HB)));have dm:=A_ (Kd.dr (Kd.ki aY (Kd.gY (oR HO1717))) (bn (oB HB)));have eh:=A_ (Kd.dr (Kd.ki bB (Kd.gY (oR o9))) (bn (oB HB)));have gl:=A_ (Kd.dr (Kd.ki ko (Kd.gY (oR HO1717))) (bn (oB HB)));have gT:=A_ (bz (oB HB) hb);clear fy;clear fM;clear o8;clear HO1717;clear o9;clear HB;have fy:=ah;have fM:=ai;have o8:=ay;have HO1717:=aG;have o9:=bD;have vz:=n5_;have vA:=dm;have vB:=eh;have vC:=gl;have HB:=gT;clear ah ai ay aG bD n5_ dm eh gl gT;(try clear hb);(try clear hb2);(try clear hk);(try clear hi);(try clear ho0);(try clear aY);(try clear bB);(try clear ko))|((with_reducible refine gate_dst (N:=11) rfl ?_);(try(refine mg (by rfl) ?_;dsimp only));refine bX (N:=11) (cs:= #[.slice none 0 0,.int .i64 0,.slice none 0 0,.int .i64 0,.int .i64 0,.slice none 0 0]) (t:=30) ?_;intro dt hg OH cj hb;have ah:=A_ (Kd.bh (oR fy) hb);have ai:=A_ (Kd.bh (oR fM) hb);have ay:=A_ (Kd.bh (oR o8) hb);have aG:=A_ (Kd.bh (oR HO1717) hb);have bD:=A_ (Kd.bh (oR o9) hb);have n5_:=A_ (Kd.bh (oR vz) hb);have dm:=A_ (Kd.bh (oR vA) hb);have eh:=A_ (Kd.bh (oR vB) hb);have gl:=A_ (Kd.bh (oR vC) hb);have gT:=A_ (bz (oB HB) hb);have n10_:=A_ (cj);have jC:=A_ ((by rw[hg];exact(bn (oB HB)):w.heap.size≤dt));have mN:=A_ ((by rw[hg];exact(bn (oB HB)):w.heap.size≤dt));clear fy;clear fM;clear o8;clear HO1717;clear o9;clear vz;clear vA;clear vB;clear vC;clear HB;have fy:=ah;have fM:=ai;have o8:=ay;have HO1717:=aG;have o9:=bD;have vz:=n5_;have vA:=dm;have vB:=eh;have vC:=gl;have HB:=gT;have dS:=n10_;have alv:=jC;have alh:=mN;clear ah ai ay aG bD n5_ dm eh gl gT n10_ jC mN;clear hb cj hg;obtain⟨lL,lO,acP⟩:=Kd.dp vz.out;subst acP;have adR:=cz dS 0;have adS:=cz dS 1;have adT:=cz dS 2;have adU:=cz dS 3;have adV:=cz dS 4;have adW:=cz dS 5;have aew:=aJ dS.out 0;have aex:=aJ dS.out 1;have aey:=aJ dS.out 2;have aez:=aJ dS.out 3;have aeA:=aJ dS.out 4;have aeB:=aJ dS.out 5;obtain⟨lf,lx,LG⟩:=Kd.dp vA.out;subst LG;obtain⟨oz,oJ,acR⟩:=Kd.dp vB.out;subst acR)|((with_reducible refine gate_dst (N:=59) rfl ?_);(try(refine mg (by rfl) ?_;dsimp only));refine Kd.iB Kd.string _ 9 ?hg (N:=59) ?hd (xs:=([]:List ByteArray)) (inner:=[]) (ok:=fun _=>True) (cU:=fun _=>True) ?hr ?hp (fun _ hk=>hk) trivial (Below.refl _ _) (Nat.le_refl _) (by simp) ?_;(case hd=>rfl);(case hg=>rfl);(case hr=>first|(go_simp;done)|(go_simp;rfl));(case hp=>exact(bf.none _ _));intro asl w42 AR hb cT dx;clear cT dx;(first|rw[←Q2.out]at AR|(simp only[Int.reduceToNat]at AR;rw[←Q2.out]at AR));have ah:=A_ (Kd.bh (by(with_reducible repeat(first|apply Kd.bY|apply Kd.R_drewN|apply Kd.R_drew));exact(Kd.bN (Kd.aM (p:=⟨dt,5,none⟩) (Kd.aM (p:=⟨dt,4,none⟩) (Kd.aM (p:=⟨dt,3,none⟩) (Kd.aM (p:=⟨dt,2,none⟩) (Kd.aM (p:=⟨dt,1,none⟩) (Kd.aM (p:=⟨dt,0,none⟩) (Kd.fN fy.out dS.out (by decide)) (fun _ hk=>hk.2) (.slice lL t1723.length lO)) (fun _ hk=>hk.2) (.int .i64 kQ)) (fun _ hk=>hk.2) (.slice lf t1727.length lx)) (fun _ hk=>hk.2) (.int .i64 lG)) (fun _ hk=>hk.2) (.int .i64 lY)) (fun _ hk=>hk.2) (.slice oz lH.length oJ)) (fun _ h_=>h_.1))) hb);have ai:=A_ (Kd.iA (by(with_reducible repeat(first|apply Kd.bY|apply Kd.R_drewN|apply Kd.R_drew));exact(Kd.bN (Kd.aM (p:=⟨dt,5,none⟩) (Kd.aM (p:=⟨dt,4,none⟩) (Kd.aM (p:=⟨dt,3,none⟩) (Kd.aM (p:=⟨dt,2,none⟩) (Kd.aM (p:=⟨dt,1,none⟩) (Kd.aM (p:=⟨dt,0,none⟩) (Kd.fN fM.out dS.out (by decide)) (fun _ hk=>hk.2) (.slice lL t1723.length lO)) (fun _ hk=>hk.2) (.int .i64 kQ)) (fun _ hk=>hk.2) (.slice lf t1727.length lx)) (fun _ hk=>hk.2) (.int .i64 lG)) (fun _ hk=>hk.2) (.int .i64 lY)) (fun _ hk=>hk.2) (.slice oz lH.length oJ)) (fun _ h_=>h_.1))) (Kd.fT AR) hb);have ay:=A_ (Kd.bh (by(with_reducible repeat(first|apply Kd.bY|apply Kd.R_drewN|apply Kd.R_drew));exact(Kd.bN (Kd.aM (p:=⟨dt,5,none⟩) (Kd.aM (p:=⟨dt,4,none⟩) (Kd.aM (p:=⟨dt,3,none⟩) (Kd.aM (p:=⟨dt,2,none⟩) (Kd.aM (p:=⟨dt,1,none⟩) (Kd.aM (p:=⟨dt,0,none⟩) (Kd.fN o8.out dS.out (by decide)) (fun _ hk=>hk.2) (.slice lL t1723.length lO)) (fun _ hk=>hk.2) (.int .i64 kQ)) (fun _ hk=>hk.2) (.slice lf t1727.length lx)) (fun _ hk=>hk.2) (.int .i64 lG)) (fun _ hk=>hk.2) (.int .i64 lY)) (fun _ hk=>hk.2) (.slice oz lH.length oJ)) (fun _ h_=>h_.1))) hb);have aG:=A_ (Kd.bh (by(with_reducible repeat(first|apply Kd.bY|apply Kd.R_drewN|apply Kd.R_drew));exact(Kd.bN (Kd.aM (p:=⟨dt,5,none⟩) (Kd.aM (p:=⟨dt,4,none⟩) (Kd.aM (p:=⟨dt,3,none⟩) (Kd.aM (p:=⟨dt,2,none⟩) (Kd.aM (p:=⟨dt,1,none⟩) (Kd.aM (p:=⟨dt,0,none⟩) (Kd.fN HO1717.out dS.out (by decide)) (fun _ hk=>hk.2) (.slice lL t1723.length lO)) (fun _ hk=>hk.2) (.int .i64 kQ)) (fun _ hk=>hk.2) (.slice lf t1727.length lx)) (fun _ hk=>hk.2) (.int .i64 lG)) (fun _ hk=>hk.2) (.int .i64 lY)) (fun _ hk=>hk.2) (.slice oz lH.length oJ)) (fun _ h_=>h_.1))) hb);have bD:=A_ (Kd.bh (by(with_reducible repeat(first|apply Kd.bY|apply Kd.R_drewN|apply Kd.R_drew));exact(Kd.bN (Kd.aM (p:=⟨dt,5,none⟩) (Kd.aM (p:=⟨dt,4,none⟩) (Kd.aM (p:=⟨dt,3,none⟩) (Kd.aM (p:=⟨dt,2,none⟩) (Kd.aM (p:=⟨dt,1,none⟩) (Kd.aM (p:=⟨dt,0,none⟩) (Kd.fN o9.out dS.out (by decide)) (fun _ hk=>hk.2) (.slice lL t1723.length lO)) (fun _ hk=>hk.2) (.int .i64 kQ)) (fun _ hk=>hk.2) (.slice lf t1727.length lx)) (fun _ hk=>hk.2) (.int .i64 lG)) (fun _ hk=>hk.2) (.int .i64 lY)) (fun _ hk=>hk.2) (.slice oz lH.length oJ)) (fun _ h_=>h_.1))) hb);have n5_:=A_ (Kd.bh (by(with_reducible repeat(first|apply Kd.bY|apply Kd.R_drewN|apply Kd.R_drew));exact(Kd.bN (Kd.aM (p:=⟨dt,5,none⟩) (Kd.aM (p:=⟨dt,4,none⟩) (Kd.aM (p:=⟨dt,3,none⟩) (Kd.aM (p:=⟨dt,2,none⟩) (Kd.aM (p:=⟨dt,1,none⟩) (Kd.aM (p:=⟨dt,0,none⟩) (Kd.fN vz.out dS.out (by decide)) (fun _ hk=>hk.2) (.slice lL t1723.length lO)) (fun _ hk=>hk.2) (.int .i64 kQ)) (fun _ hk=>hk.2) (.slice lf t1727.length lx)) (fun _ hk=>hk.2) (.int .i64 lG)) (fun _ hk=>hk.2) (.int .i64 lY)) (fun _ hk=>hk.2) (.slice oz lH.length oJ)) (fun _ h_=>h_.1))) hb);have dm:=A_ (Kd.bh (by(with_reducible repeat(first|apply Kd.bY|apply Kd.R_drewN|apply Kd.R_drew));exact(Kd.bN (Kd.aM (p:=⟨dt,5,none⟩) (Kd.aM (p:=⟨dt,4,none⟩) (Kd.aM (p:=⟨dt,3,none⟩) (Kd.aM (p:=⟨dt,2,none⟩) (Kd.aM (p:=⟨dt,1,none⟩) (Kd.aM (p:=⟨dt,0,none⟩) (Kd.fN vA.out dS.out (by decide)) (fun _ hk=>hk.2) (.slice lL t1723.length lO)) (fun _ hk=>hk.2) (.int .i64 kQ)) (fun _ hk=>hk.2) (.slice lf t1727.length lx)) (fun _ hk=>hk.2) (.int .i64 lG)) (fun _ hk=>hk.2) (.int .i64 lY)) (fun _ hk=>hk.2) (.slice oz lH.length oJ)) (fun _ h_=>h_.1))) hb);have eh:=A_ (Kd.bh (by(with_reducible repeat(first|apply Kd.bY|apply Kd.R_drewN|apply Kd.R_drew));exact(Kd.bN (Kd.aM (p:=⟨dt,5,none⟩) (Kd.aM (p:=⟨dt,4,none⟩) (Kd.aM (p:=⟨dt,3,none⟩) (Kd.aM (p:=⟨dt,2,none⟩) (Kd.aM (p:=⟨dt,1,none⟩) (Kd.aM (p:=⟨dt,0,none⟩) (Kd.fN vB.out dS.out (by decide)) (fun _ hk=>hk.2) (.slice lL t1723.length lO)) (fun _ hk=>hk.2) (.int .i64 kQ)) (fun _ hk=>hk.2) (.slice lf t1727.length lx)) (fun _ hk=>hk.2) (.int .i64 lG)) (fun _ hk=>hk.2) (.int .i64 lY)) (fun _ hk=>hk.2) (.slice oz lH.length oJ)) (fun _ h_=>h_.1))) hb);have gl:=A_ (Kd.bh (by(with_reducible repeat(first|apply Kd.bY|apply Kd.R_drewN|apply Kd.R_drew));exact(Kd.bN (Kd.aM (p:=⟨dt,5,none⟩) (Kd.aM (p:=⟨dt,4,none⟩) (Kd.aM (p:=⟨dt,3,none⟩) (Kd.aM (p:=⟨dt,2,none⟩) (Kd.aM (p:=⟨dt,1,none⟩) (Kd.aM (p:=⟨dt,0,none⟩) (Kd.fN vC.out dS.out (by decide)) (fun _ hk=>hk.2) (.slice lL t1723.length lO)) (fun _ hk=>hk.2) (.int .i64 kQ)) (fun _ hk=>hk.2) (.slice lf t1727.length lx)) (fun _ hk=>hk.2) (.int .i64 lG)) (fun _ hk=>hk.2) (.int .i64 lY)) (fun _ hk=>hk.2) (.slice oz lH.length oJ)) (fun _ h_=>h_.1))) hb);have gT:=A_ (Kd.dr (Kd.ki AR (Kd.gY (by(with_reducible repeat(first|apply Kd.bY|apply Kd.R_drewN|apply Kd.R_drew));exact(Kd.bN (Kd.aM (p:=⟨dt,5,none⟩) (Kd.aM (p:=⟨dt,4,none⟩) (Kd.aM (p:=⟨dt,3,none⟩) (Kd.aM (p:=⟨dt,2,none⟩) (Kd.aM (p:=⟨dt,1,none⟩) (Kd.aM (p:=⟨dt,0,none⟩) (Kd.fN fM.out dS.out (by decide)) (fun _ hk=>hk.2) (.slice lL t1723.length lO)) (fun _ hk=>hk.2) (.int .i64 kQ)) (fun _ hk=>hk.2) (.slice lf t1727.length lx)) (fun _ hk=>hk.2) (.int .i64 lG)) (fun _ hk=>hk.2) (.int .i64 lY)) (fun _ hk=>hk.2) (.slice oz lH.length oJ)) (fun _ h_=>h_.1))))) (bn (oB HB)));have n10_:=A_ (oG (g:=dt) (o:= .cells #[.slice lL t1723.length lO,.int .i64 kQ,.slice lf t1727.length lx,.int .i64 lG,.int .i64 lY,.slice oz lH.length oJ] 30 (0,0)) (by(with_reducible repeat(first|refine bP ?_ _|refine bF ?_|refine bC ?_ _));refine di (cs:= #[.slice lL t1723.length lO,.int .i64 kQ,.slice lf t1727.length lx,.int .i64 lG,.int .i64 lY,.slice none 0 0]) ?_ 5 _ rfl;(with_reducible repeat(first|refine bP ?_ _|refine bF ?_|refine bC ?_ _));refine di (cs:= #[.slice lL t1723.length lO,.int .i64 kQ,.slice lf t1727.length lx,.int .i64 lG,.int .i64 0,.slice none 0 0]) ?_ 4 _ rfl;(with_reducible repeat(first|refine bP ?_ _|refine bF ?_|refine bC ?_ _));refine di (cs:= #[.slice lL t1723.length lO,.int .i64 kQ,.slice lf t1727.length lx,.int .i64 0,.int .i64 0,.slice none 0 0]) ?_ 3 _ rfl;(with_reducible repeat(first|refine bP ?_ _|refine bF ?_|refine bC ?_ _));refine di (cs:= #[.slice lL t1723.length lO,.int .i64 kQ,.slice none 0 0,.int .i64 0,.int .i64 0,.slice none 0 0]) ?_ 2 _ rfl;(with_reducible repeat(first|refine bP ?_ _|refine bF ?_|refine bC ?_ _));refine di (cs:= #[.slice lL t1723.length lO,.int .i64 0,.slice none 0 0,.int .i64 0,.int .i64 0,.slice none 0 0]) ?_ 1 _ rfl;(with_reducible repeat(first|refine bP ?_ _|refine bF ?_|refine bC ?_ _));refine di (cs:= #[.slice none 0 0,.int .i64 0,.slice none 0 0,.int .i64 0,.int .i64 0,.slice none 0 0]) ?_ 0 _ rfl;(with_reducible repeat(first|refine bP ?_ _|refine bF ?_|refine bC ?_ _));exact dS.out) hb);have jC:=A_ (bz (oB HB) hb);clear fy;clear fM;clear o8;clear HO1717;clear o9;clear vz;clear vA;clear vB;clear vC;clear dS;clear HB;have fy:=ah;have fM:=ai;have o8:=ay;have HO1717:=aG;have o9:=bD;have vz:=n5_;have vA:=dm;have vB:=eh;have vC:=gl;have Zi:=gT;have dS:=n10_;have HB:=jC;clear ah ai ay aG bD n5_ dm eh gl gT n10_ jC;clear hb AR;obtain⟨PS,co44,acS⟩:=Kd.dp vC.out;subst acS))
      go_loopg [13,62] k1 (fun kq v13 v62 w'=>∃(x13_2:List ByteArray) (nb:Int),v62= .int .i64 nb∧aj (fq.l1 kq x13_2 mm (mm.length:Int) nb t1723 kQ t1727 lG lY lH=some (r1,r2))∧aj (kq≤k1)∧aj (Kd.R Kd.string 9 w' w.heap.size (fun _=>True) v13 x13_2)∧aj (Kd.R (Kd.int .i64) 3 w' w.heap.size (fun k_=>some k_≠((.slice lf t1727.length lx):Value).ownBlock) (.slice PS mm.length co44) mm)∧aj (Kd.R bl 110 w' w.heap.size (fun _=>True) (.slice lL t1723.length lO) t1723)∧aj (Kd.R (Kd.int .i64) 3 w' w.heap.size (fun k_=>some k_≠((.slice PS mm.length co44):Value).ownBlock) (.slice lf t1727.length lx) t1727)∧aj (Kd.R k64 64 w' w.heap.size (fun _=>True) (.slice oz lH.length oJ) lH)∧aj (w'.heap[dt]? =some (.cells #[(.slice lL t1723.length lO),.int .i64 kQ,(.slice lf t1727.length lx),.int .i64 lG,.int .i64 lY,(.slice oz lH.length oJ)] 30 (0,0)))∧aj (Below w.heap.size w w'))
      case atStart=>exact⟨(XE),(0),eS,H',⟨Nat.le_refl _⟩,⟨by(with_reducible repeat(first|apply Kd.bY|apply Kd.R_drewN|apply Kd.R_drew));exact Kd.bN Zi.out (fun _ hk=>trivial)⟩,⟨by(with_reducible repeat(first|apply Kd.bY|apply Kd.R_drewN|apply Kd.R_drew));exact Kd.bN vC.out (fun _ hk=>hk.1)⟩,⟨by(with_reducible repeat(first|apply Kd.bY|apply Kd.R_drewN|apply Kd.R_drew));exact Kd.bN vz.out (fun _ hk=>trivial)⟩,⟨by(with_reducible repeat(first|apply Kd.bY|apply Kd.R_drewN|apply Kd.R_drew));exact Kd.bN vA.out (fun _ hk=>hk.1)⟩,⟨by(with_reducible repeat(first|apply Kd.bY|apply Kd.R_drewN|apply Kd.R_drew));exact Kd.bN vB.out (fun _ hk=>trivial)⟩,⟨oK dS⟩,⟨oB HB⟩⟩
      case round=>
       clear H'
       try clear c1
       try clear p1
       try clear q1
       try clear hx1
       try clear c2
       try clear qm
       try clear vV
       try clear p2
       try clear c3
       try clear c4
       try clear p6
       try clear c8
       try clear vW
       try clear c9
       try clear mF
       try clear c10
       try clear t_
       try clear c14
       try clear c16
       try clear p16
       try clear q16
       try clear aqL
       try clear c17
       try clear c18
       try clear c19
       try clear c27
       try clear AB
       try clear Hm
       try clear sR
       try clear c40
       try clear pz
       try clear Tt
       try clear Tu
       try clear Tv
       try clear Tw
       try clear H7
       try clear H8
       try clear hcz26_2
       try clear H_
       try clear adR
       try clear adS
       try clear adT
       try clear adU
       try clear adV
       try clear adW
       try clear TT
       try clear TU
       try clear TV
       try clear TW
       try clear Ih
       try clear Ii
       try clear Ij
       try clear Ik
       try clear aew
       try clear aex
       try clear aey
       try clear aez
       try clear aeA
       try clear aeB
       try clear Ur
       try clear p1
       try clear E9
       try clear p2
       try clear q1
       try clear Fc
       obtain⟨x13_2,nb,rfl,HA,jJ,kV,oF,nN,nO,nP,dS,HB⟩:=hrel;cases gk with
       |zero=>exact absurd HA.out (by simp[fq.l1])
       |succ k2=>
        have H:=HA.out;clear HA;simp only[fq.l1]at H;by_cases AD:nb<(mm.length:Int)
        ·rw[if_pos AD]at H;have abU:decide (nb<(mm.length:Int))=true:=decide_eq_true AD;clear AD;by_cases c46:0≤nb
         ·rw[if_pos c46]at H;have ame:decide (0≤nb)=true:=decide_eq_true c46;clear c46;by_cases qp:nb<(mm.length:Int)
          ·rw[if_pos qp]at H;have RV:decide (nb<(mm.length:Int))=true:=decide_eq_true qp;clear qp;replace H:=Option.bind_eq_some_iff.mp H;obtain⟨Bv,PM,H⟩:=H
           (try dsimp only at H)
           have X3:=A_ PM;clear PM;by_cases c49:x13_2.length<8796093022208
           ·rw[if_pos c49]at H;have ZQ:=A_ c49;clear c49;obtain⟨XF,hy1744⟩:∃y_:List ByteArray,y_=(x13_2++[Bv]):=⟨_,rfl⟩;replace H:(fq.l1 k2 XF mm (mm.length:Int) (wrap64 (nb+1)) t1723 kQ t1727 lG lY lH)=some (r1,r2):=by first|(rw[hy1744];with_reducible exact H)|(have aI:=(Option.bind_some _ _).symm.trans H;rw[hy1744];with_reducible exact aI)|(have aI:=(Option.bind_some _ _).symm.trans H;with_reducible exact aI)|with_reducible exact H|(rw[hy1744];exact H)|exact H
            have aan:=A_ hy1744;clear hy1744;have H':=A_ H;clear H;have Nb:0≤(nb:Int):=oD;have Nv:nb<(mm.length:Int):=oD;obtain⟨alX,acy,aqN⟩:=Kd.jZ (Kd.ct oF.out).2.2 nb Nb Nv;cases acy;replace Nb:=eq_true Nb;replace Nv:=eq_true Nv
            go_wp2_with (first|((with_reducible refine bT (f:=18) rfl ?_);refine gL (some 68) Tryz.func18 #[.int .i64 (rd mm nb)] ?_;(with_reducible refine(impl_FormatInt.calls (rd mm nb) Bv _ X3.out ?sideT).mono ?_);(case sideT=>exact⟨mY ht_.out.1 (oB HB)⟩);rintro e w50 ⟨rfl,hb⟩;refine⟨_,rfl,?_⟩;have ah:=A_ (Kd.bh (oR kV) hb);have ai:=A_ (Kd.bh (oR oF) hb);have ay:=A_ (Kd.bh (oR nN) hb);have aG:=A_ (Kd.bh (oR nO) hb);have bD:=A_ (Kd.bh (oR nP) hb);have n5_:=A_ (bb dS hb);have dm:=A_ (bz (oB HB) hb);clear kV;clear oF;clear nN;clear nO;clear nP;clear dS;clear HB;have kV:=ah;have oF:=ai;have nN:=ay;have nO:=aG;have nP:=bD;have dS:=n5_;have HB:=dm;clear ah ai ay aG bD n5_ dm;(try clear hb);(try clear hb2);(try clear hk);(try clear hi))|((with_reducible refine jz (b:= .append) (xs:= #[.tmp 66,.tmp 69]) rfl ?_);(try(refine mg (by rfl) ?_;dsimp only));at_builtin;refine Kd.R_append Kd.string (w0:=w) w.heap.size rfl (.tmp 66) (.tmp 69) 38 9 (.string ⟨#[]⟩) 16 rfl Tryz.underlying38 ym rfl (by decide) (by omega) u13 x13_2 Bv [.string Bv] (fun _=>True) (fun _=>False) rfl rfl ?aP (fun _ hk=>hk.elim) ?aF ?aO ?aB ?aS ?aL ?_;(case aP=>exact rfl);(case aB=>exact(oB HB));(case aF=>exact(fun _ _=>trivial));(case aO=>exact(oR kV));(case aS=>exact(bn (oB HB)));(case aL=>have:=ZQ.out;omega);intro asm w51 ho hb hg hat;rw[←aan.out]at ho;have ah:=A_ (Kd.iM (oR oF) (Kd.iN (oR kV)) (by decide) hg);have ai:=A_ (Kd.iM (oR nN) (Kd.iN (oR kV)) (by decide) hg);have ay:=A_ (Kd.iM (oR nO) (Kd.iN (oR kV)) (by decide) hg);have aG:=A_ (Kd.iM (oR nP) (Kd.iN (oR kV)) (by decide) hg);have bD:=A_ (bg dS hg (Kd.nr kV.out dS.out (by decide)));have n5_:=A_ (hb);have dm:=A_ (ho);clear oF;clear nN;clear nO;clear nP;clear dS;clear HB;clear kV;have oF:=ah;have nN:=ai;have nO:=ay;have nP:=aG;have dS:=bD;have HB:=n5_;have Zj:=dm;clear ah ai ay aG bD n5_ dm;clear ho hb hg hat))
            go_roundg k2
            case measure=>have:=dh.out;have:=jJ.out;omega
            case rel=>exact⟨(XF),(wrap64 (nb+1)),eS,H',⟨by have:=dh.out;have:=jJ.out;omega⟩,⟨oR Zj⟩,⟨oR oF⟩,⟨oR nN⟩,⟨oR nO⟩,⟨oR nP⟩,⟨oK dS⟩,⟨oB HB⟩⟩
           ·rw[if_neg c49]at H;exact absurd H (by simp)
          ·rw[if_neg qp]at H;exact absurd H (by simp)
         ·rw[if_neg c46]at H;exact absurd H (by simp)
        ·rw[if_neg AD]at H;have abU:decide (nb<(mm.length:Int))=false:=decide_eq_false AD;clear AD;replace H:=Option.bind_eq_some_iff.mp H;obtain⟨wP,A520,H⟩:=H
         (try dsimp only at H)
         have JI:=A_ A520;clear A520;by_cases c53:x13_2.length+wP.length<8796093022208
         ·rw[if_pos c53]at H;have ZR:=A_ c53;clear c53;obtain⟨akU,Ew⟩:∃y_:List ByteArray,y_=(x13_2++wP):=⟨_,rfl⟩;replace H:(some (akU,true))=some (r1,r2):=by first|(rw[Ew];with_reducible exact H)|(have aI:=(Option.bind_some _ _).symm.trans H;rw[Ew];with_reducible exact aI)|(have aI:=(Option.bind_some _ _).symm.trans H;with_reducible exact aI)|with_reducible exact H|(rw[Ew];exact H)|exact H
          have aao:=A_ Ew;clear Ew;simp only[Option.some.injEq,Prod.mk.injEq]at H;obtain⟨rfl,rfl⟩:=H;have an1:=cz dS 0;have an2:=cz dS 1;have an3:=cz dS 2;have an4:=cz dS 3;have an5:=cz dS 4;have an6:=cz dS 5;have apH:=aJ dS.out 0;have apI:=aJ dS.out 1;have apJ:=aJ dS.out 2;have apK:=aJ dS.out 3;have apL:=aJ dS.out 4;have apM:=aJ dS.out 5
          go_wp2_with (first|((with_reducible refine bT (f:=12) rfl ?_);refine gL (some 74) Tryz.func12 #[.agg #[.slice lL t1723.length lO,.int .i64 kQ,.slice lf t1727.length lx,.int .i64 lG,.int .i64 lY,.slice oz lH.length oJ]] ?_;(with_reducible refine(gK.calls k2 _ _ t1723 kQ _ _ t1727 lG lY _ _ lH wP _ ?bG ?bH ?iF ?iG ?mS ?oo JI.out ?sideT).mono ?_);(case sideT=>exact⟨mY ht_.out.1 (oB HB)⟩);(case bG=>repeat(first|exact(Kd.ct nN.out).2.2|(with_reducible refine Kd.gP ?_ _)|(with_reducible refine Kd.gX ?_ _)|(with_reducible refine Kd.gW ?_)));(case bH=>exact(Kd.ct nN.out).2.1);(case iF=>repeat(first|exact(Kd.ct nO.out).2.2|(with_reducible refine Kd.gP ?_ _)|(with_reducible refine Kd.gX ?_ _)|(with_reducible refine Kd.gW ?_)));(case iG=>exact(Kd.ct nO.out).2.1);(case mS=>repeat(first|exact(Kd.ct nP.out).2.2|(with_reducible refine Kd.gP ?_ _)|(with_reducible refine Kd.gX ?_ _)|(with_reducible refine Kd.gW ?_)));(case oo=>exact(Kd.ct nP.out).2.1);rintro e w55 ⟨asn,rfl,ho0,hb⟩;refine⟨_,rfl,?_⟩;have ah:=A_ (Kd.iA (oR kV) (Kd.fT ho0) hb);have ai:=A_ (Kd.bh (oR oF) hb);have ay:=A_ (Kd.bh (oR nN) hb);have aG:=A_ (Kd.bh (oR nO) hb);have bD:=A_ (Kd.bh (oR nP) hb);have n5_:=A_ (Kd.dr (Kd.ki ho0 (Kd.gY (oR kV))) (bn (oB HB)));have dm:=A_ (bb dS hb);have eh:=A_ (bz (oB HB) hb);clear kV;clear oF;clear nN;clear nO;clear nP;clear dS;clear HB;have kV:=ah;have oF:=ai;have nN:=ay;have nO:=aG;have nP:=bD;have zT:=n5_;have dS:=dm;have HB:=eh;clear ah ai ay aG bD n5_ dm eh;(try clear hb);(try clear hb2);(try clear hk);(try clear hi);(try clear ho0);obtain⟨Ya,aci,acW⟩:=Kd.dp zT.out;subst acW)|((with_reducible refine jz (b:= .append) (xs:= #[.tmp 72,.tmp 74]) rfl ?_);(try(refine mg (by rfl) ?_;dsimp only));at_builtin;refine Kd.xq Kd.string (w0:=w) w.heap.size rfl (.tmp 72) (.tmp 74) 38 9 (.string ⟨#[]⟩) 16 rfl Tryz.underlying38 ym rfl (by decide) (by omega) u13 x13_2 wP _ _ _ (fun k_=>some k_≠(.slice Ya wP.length aci:Value).ownBlock) (fun _=>False) rfl rfl ?aO ?aR (fun _ _ h=>h) (fun _ h=>h.elim) ?aF ?aB ?aS ?aL ?_;(case aR=>repeat(first|exact(Kd.ct zT.out).2.2|(with_reducible refine Kd.gP ?_ _)|(with_reducible refine Kd.gX ?_ _)|(with_reducible refine Kd.gW ?_)));(case aB=>exact(oB HB));(case aF=>exact(fun k_ hk=>Kd.fresh' (Kd.gY (oR zT)) k_ hk));(case aO=>exact(by(with_reducible repeat(first|apply Kd.bY|apply Kd.R_drewN|apply Kd.R_drew));exact Kd.bN kV.out (fun _ hk=>hk.2)));(case aS=>exact(bn (oB HB)));(case aL=>have:=ZR.out;omega);intro aso w56 ho hb hg hat;rw[←aao.out]at ho;have ah:=A_ (Kd.iM (oR oF) (Kd.iN (oR kV)) (by decide) hg);have ai:=A_ (Kd.iM (oR nN) (Kd.iN (oR kV)) (by decide) hg);have ay:=A_ (Kd.iM (oR nO) (Kd.iN (oR kV)) (by decide) hg);have aG:=A_ (Kd.iM (oR nP) (Kd.iN (oR kV)) (by decide) hg);have bD:=A_ (bg dS hg (Kd.nr kV.out dS.out (by decide)));have n5_:=A_ (Kd.Cl (ok:=(fun _=>True)) (oR zT) hg hat);have dm:=A_ (hb);have eh:=A_ (ho);clear oF;clear nN;clear nO;clear nP;clear dS;clear zT;clear HB;clear kV;have oF:=ah;have nN:=ai;have nO:=ay;have nP:=aG;have dS:=bD;have zT:=n5_;have HB:=dm;have Zk:=eh;clear ah ai ay aG bD n5_ dm eh;clear ho hb hg hat))
          go_ret2;exact⟨_,eR,by(with_reducible repeat(first|apply Kd.bY|apply Kd.R_drewN|apply Kd.R_drew));exact Kd.bN Zk.out (fun _ hk=>trivial),oB HB⟩
         ·rw[if_neg c53]at H;exact absurd H (by simp)
end Go.Proofs.YtnjfiaekdcekgaaGreatDoor.P
