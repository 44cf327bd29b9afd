/- What functions of the program come to (f), that their calls come to just this (calls), and the plain laws over lists and numbers, and the law FnExactRunActs: for every argument it answers true. No condition but those of the given row. -/
import Derived.Test.YtanhnhkcpbdfmaaGreatRows
import Derived.Test.YtanhnhkcpbdfmaaGreatD4
import Derived.Sort.WalkC
import Derived.Sort.LotC
import Derived.Shelf.SlSortFuncK.PdqK
import Derived.RangeFuncBox
import Derived.WalkKit
import Derived.ProofKit
import Derived.OpenShut
import Derived.ShutString
import Derived.ChangeOld
import Derived.Below
import Derived.SizedLaws
set_option linter.unusedVariables false
set_option linter.unusedSimpArgs false
namespace Go.Proofs.YtanhnhkcpbdfmaaGreat.S
open Go.RowKit Go.Sort Go.Proofs.YtanhnhkcpbdfmaaGreat.P Go.Proofs.YtanhnhkcpbdfmaaGreat.Q Go.Proofs.YtanhnhkcpbdfmaaGreat.V Go.Proofs.YtanhnhkcpbdfmaaGreatW.PrintWords
attribute [local go_sem] cell_b frozen_b swap_run
theorem partition_yes (D : Array E) (a b p i j : Nat) (hi : scanUp (fun x => beforeE x (swp D a p)[a]!) (swp D a p) (b - 1) (a + 1) = i) (hj : scanDown (fun x => !beforeE x (swp D a p)[a]!) (swp D a p) i (b - 1) = j) (h : i > j) :
    partition beforeE D a b p = (j, true, swp (swp D a p) j a) := by
  unfold partition
  simp only [hi, hj, if_pos h]
theorem partition_no (D : Array E) (a b p i j : Nat) (hi : scanUp (fun x => beforeE x (swp D a p)[a]!) (swp D a p) (b - 1) (a + 1) = i) (hj : scanDown (fun x => !beforeE x (swp D a p)[a]!) (swp D a p) i (b - 1) = j) (h : ¬ i > j) :
    partition beforeE D a b p = ((partLoop beforeE a (i + 1) (j - 1) (swp (swp D a p) i j)).1, false, swp (partLoop beforeE a (i + 1) (j - 1) (swp (swp D a p) i j)).2 (partLoop beforeE a (i + 1) (j - 1) (swp (swp D a p) i j)).1 a) := by
  unfold partition
  simp only [hi, hj, if_neg h]
set_option maxHeartbeats 16000000 in
set_option maxRecDepth 100000 in
set_option synthInstance.maxHeartbeats 400000 in
set_option synthInstance.maxSize 100000 in
theorem partition_calls (C : SoC) [SoG C] (w : World) (D : Array E) (h : SoAt C w D) (a b p : Nat) (hap : a ≤ p) (hpb : p < b) (hb : b ≤ C.n) :
    Calls Tryz.prog 169 #[datV C, .int .i64 a, .int .i64 b, .int .i64 p] w fun e w' => e = .returned (.tuple #[.int .i64 (partition beforeE D a b p).1, .bool (partition beforeE D a b p).2.1]) ∧ SoAt C w' (partition beforeE D a b p).2.2 ∧ w.grownBy w' (some C.g) := by
  have j0 := So.mk h
  have hsm := SoG.small (C := C)
  have jx : NeB w.heap.size C.g := ⟨Nat.ne_of_gt h.lt⟩
  have jy0 := Blk.mk (blk_new w (.cells (datC C) 162))
  have x5 : Ix (a : Int) C.n := ⟨by omega, by omega⟩
  have x6 : Ix (p : Int) C.n := ⟨by omega, by omega⟩
  obtain ⟨R, hRR⟩ : ∃ R, partition beforeE D a b p = R := ⟨_, rfl⟩
  rw [hRR]
  have hRR := Aside0.mk hRR.symm
  clear h
  have hu := Tryz.underlying162
  go_enter Tryz.func169, Tryz.ntmps169
  go_wp2
  have jq : So C (swapW C D (w.alloc (.cells (datC C) 162)) (a : Int) (p : Int)) (swp D a p) := ⟨so_cast (D' := swp D a p) inferInstance rfl⟩
  have jf : Fr C w (swapW C D (w.alloc (.cells (datC C) 162)) (a : Int) (p : Int)) := inferInstance
  have jy : Blk (swapW C D (w.alloc (.cells (datC C) 162)) (a : Int) (p : Int)) w.heap.size (datC C) 162 := inferInstance
  clear j0 jy0
  go_loopw [10] (fun v wr => ∃ i1 : Nat, v = .int .i64 i1 ∧ Aside0 (a < i1) ∧ Aside0 (i1 ≤ b - 1 + 1) ∧ So C wr (swp D a p) ∧ Fr C w wr ∧ Blk wr w.heap.size (datC C) 162 ∧ Aside0 (scanUp (fun x => beforeE x (swp D a p)[a]!) (swp D a p) (b - 1) i1 = scanUp (fun x => beforeE x (swp D a p)[a]!) (swp D a p) (b - 1) (a + 1))) (fun v _ => b - 1 + 1 - (intOf v).toNat)
  case atStart => exact ⟨a + 1, by first | rfl | go_num, ⟨by omega⟩, ⟨by omega⟩, inferInstance, inferInstance, inferInstance, ⟨rfl⟩⟩
  case round =>
    clear jq jy jf
    obtain ⟨i1, rfl, HA1, HB1, m1, m2, m3, HU1⟩ := hrel
    have ha1 := HA1.out
    have hb1 := HB1.out
    have x2 : Ix (a : Int) C.n := ⟨by omega, by omega⟩
    by_cases c1 : i1 ≤ b - 1 ∧ beforeE (swp D a p)[i1]! (swp D a p)[a]! = true
    · obtain ⟨c1, l⟩ := c1
      have d1 : decide ((i1 : Int) ≤ (b : Int) - 1) = true := decide_eq_true (by omega)
      have x1 : Ix (i1 : Int) C.n := ⟨by omega, by omega⟩
      have y1 : Les (swp D a p) (i1 : Int) (a : Int) true := Les.of l rfl rfl
      have hs := Aside0.mk (scanUp_go (fun x => beforeE x (swp D a p)[a]!) (swp D a p) (b - 1) i1 c1 l)
      clear l
      go_wp2_with (first | (go_at_call 142; refine (less_is _ _).mono ?_; rintro e w2 ⟨rfl, hb⟩; have jb := Bel.mk hb; clear hb))
      first
        | exact ⟨⟨i1 + 1, by first | rfl | go_num, ⟨by omega⟩, ⟨by omega⟩, inferInstance, inferInstance, inferInstance, ⟨by rw [← HU1.out, hs.out]⟩⟩, by simp [intOf]; omega⟩
        | (go_roundw; (case rel => ((repeat apply Exists.intro); exact ⟨⟨i1 + 1, by first | rfl | go_num, ⟨by omega⟩, ⟨by omega⟩, inferInstance, inferInstance, inferInstance, ⟨by rw [← HU1.out, hs.out]⟩⟩, (by first | rfl | (simp only [Int.natCast_add, Int.natCast_one]; rfl) | (simp only [Int.natCast_add, Int.natCast_one, ez]; rfl))⟩)); (case measure => first | (simp [intOf]; omega) | (simp [intOf]; done)))
    · have Hi1 : Aside0 (scanUp (fun x => beforeE x (swp D a p)[a]!) (swp D a p) (b - 1) (a + 1) = i1) := ⟨by
        rw [← HU1.out]
        refine scanUp_end (fun x => beforeE x (swp D a p)[a]!) (swp D a p) (b - 1) i1 ?_
        by_cases c : i1 ≤ b - 1
        · refine .inr ?_
          have : beforeE (swp D a p)[i1]! (swp D a p)[a]! = false := by
            cases h : beforeE (swp D a p)[i1]! (swp D a p)[a]! with
            | true => exact absurd ⟨c, h⟩ c1
            | false => rfl
          simp [this]
        · exact .inl c⟩
      have step : (i1 ≤ b - 1 ∧ beforeE (swp D a p)[i1]! (swp D a p)[a]! = false) ∨ ¬ i1 ≤ b - 1 := by
        by_cases c : i1 ≤ b - 1
        · refine .inl ⟨c, ?_⟩
          cases h : beforeE (swp D a p)[i1]! (swp D a p)[a]! with
          | true => exact absurd ⟨c, h⟩ c1
          | false => rfl
        · exact .inr c
      clear c1 HU1
      rcases step with ⟨c1, l⟩ | c1
      · have d1 : decide ((i1 : Int) ≤ (b : Int) - 1) = true := decide_eq_true (by omega)
        have x1 : Ix (i1 : Int) C.n := ⟨by omega, by omega⟩
        have y1 : Les (swp D a p) (i1 : Int) (a : Int) false := Les.of l rfl rfl
        have EA := Aside0.mk l
        clear l
        go_wp2_with (first | (go_at_call 142; refine (less_is _ _).mono ?_; rintro e w2 ⟨rfl, hb⟩; have jb := Bel.mk hb; clear hb))
        clear d1
        go_loopw [11] (fun v wr => ∃ j1 : Nat, v = .int .i64 j1 ∧ Aside0 (i1 ≤ j1 + 1) ∧ Aside0 (j1 ≤ b - 1) ∧ So C wr (swp D a p) ∧ Fr C w wr ∧ Blk wr w.heap.size (datC C) 162 ∧ Aside0 (scanDown (fun x => !beforeE x (swp D a p)[a]!) (swp D a p) i1 j1 = scanDown (fun x => !beforeE x (swp D a p)[a]!) (swp D a p) i1 (b - 1))) (fun v _ => (intOf v).toNat)
        case atStart => exact ⟨b - 1, by first | rfl | (congr 1; omega), ⟨by omega⟩, ⟨by omega⟩, inferInstance, inferInstance, inferInstance, ⟨rfl⟩⟩
        case round =>
          clear m1 m2 m3
          obtain ⟨j1, rfl, HC1, HD1, n1, n2, n3, HU1⟩ := hrel
          have hc1 := HC1.out
          have hd1 := HD1.out
          by_cases c2 : i1 ≤ j1 ∧ beforeE (swp D a p)[j1]! (swp D a p)[a]! = false
          · obtain ⟨c2, l⟩ := c2
            have d2 : decide ((i1 : Int) ≤ (j1 : Int)) = true := decide_eq_true (by omega)
            have d2n : decide (i1 ≤ j1) = true := decide_eq_true (by omega)
            have x3 : Ix (j1 : Int) C.n := ⟨by omega, by omega⟩
            have y2 : Les (swp D a p) (j1 : Int) (a : Int) false := Les.of l rfl rfl
            have hs := Aside0.mk (scanDown_go (fun x => !beforeE x (swp D a p)[a]!) (swp D a p) i1 j1 c2 (by omega) (by simp [l]))
            clear l
            go_wp2_with (first | (go_at_call 142; refine (less_is _ _).mono ?_; rintro e w2 ⟨rfl, hb⟩; have jb := Bel.mk hb; clear hb))
            have ez : ((j1 - 1 : Nat) : Int) = (j1 : Int) - 1 := by omega
            first
              | exact ⟨⟨j1 - 1, by first | rfl | (congr 1; omega), ⟨by omega⟩, ⟨by omega⟩, inferInstance, inferInstance, inferInstance, ⟨by rw [← HU1.out, hs.out]⟩⟩, by simp [intOf]; omega⟩
              | (go_roundw; (case rel => ((repeat apply Exists.intro); exact ⟨⟨j1 - 1, by first | rfl | (congr 1; omega), ⟨by omega⟩, ⟨by omega⟩, inferInstance, inferInstance, inferInstance, ⟨by rw [← HU1.out, hs.out]⟩⟩, (by first | rfl | (simp only [Int.natCast_add, Int.natCast_one]; rfl) | (simp only [Int.natCast_add, Int.natCast_one, ez]; rfl))⟩)); (case measure => first | (simp [intOf]; omega) | (simp [intOf]; done)))
          · have Hj1 : Aside0 (scanDown (fun x => !beforeE x (swp D a p)[a]!) (swp D a p) i1 (b - 1) = j1) := ⟨by
              rw [← HU1.out]
              refine scanDown_end (fun x => !beforeE x (swp D a p)[a]!) (swp D a p) i1 j1 ?_
              by_cases c : i1 ≤ j1
              · refine .inr ?_
                have : beforeE (swp D a p)[j1]! (swp D a p)[a]! = true := by
                  cases h : beforeE (swp D a p)[j1]! (swp D a p)[a]! with
                  | false => exact absurd ⟨c, h⟩ c2
                  | true => rfl
                simp [this]
              · exact .inl c⟩
            have step : (i1 ≤ j1 ∧ beforeE (swp D a p)[j1]! (swp D a p)[a]! = true) ∨ ¬ i1 ≤ j1 := by
              by_cases c : i1 ≤ j1
              · refine .inl ⟨c, ?_⟩
                cases h : beforeE (swp D a p)[j1]! (swp D a p)[a]! with
                | false => exact absurd ⟨c, h⟩ c2
                | true => rfl
              · exact .inr c
            clear c2 HU1
            rcases step with ⟨c2, l⟩ | c2
            · have d2 : decide ((i1 : Int) ≤ (j1 : Int)) = true := decide_eq_true (by omega)
              have d2n : decide (i1 ≤ j1) = true := decide_eq_true (by omega)
              have d3 : decide ((j1 : Int) < (i1 : Int)) = false := decide_eq_false (by omega)
              have d3n : decide (j1 < i1) = false := decide_eq_false (by omega)
              have x3 : Ix (j1 : Int) C.n := ⟨by omega, by omega⟩
              have x1 : Ix (i1 : Int) C.n := ⟨by omega, by omega⟩
              have y2 : Les (swp D a p) (j1 : Int) (a : Int) true := Les.of l rfl rfl
              have hge : a + 1 ≤ i1 := by
                have := scanUp_ge (fun x => beforeE x (swp D a p)[a]!) (swp D a p) (b - 1) (a + 1)
                rw [Hi1.out] at this
                exact this
              have hne : i1 ≠ j1 := by
                rintro rfl
                have := EA.out
                rw [l] at this
                cases this
              clear l
              go_wp2_with (first | (go_at_call 142; refine (less_is _ _).mono ?_; rintro e w2 ⟨rfl, hb⟩; have jb := Bel.mk hb; clear hb))
              have HRR := Aside0.mk (partition_no D a b p i1 j1 Hi1.out Hj1.out (by omega))
              go_loopw [10, 11] (fun v u wr => ∃ (i j : Nat) (dk : Array E), v = .int .i64 i ∧ u = .int .i64 j ∧ Aside0 (a < i) ∧ Aside0 (i ≤ j + 1) ∧ Aside0 (j < b) ∧ So C wr dk ∧ Fr C w wr ∧ Blk wr w.heap.size (datC C) 162 ∧ Aside0 (partLoop beforeE a i j dk = partLoop beforeE a (i1 + 1) (j1 - 1) (swp (swp D a p) i1 j1))) (fun v u _ => (intOf u).toNat + 1 - (intOf v).toNat)
              case atStart => exact ⟨i1 + 1, j1 - 1, swp (swp D a p) i1 j1, by go_num, by congr 1; omega, ⟨by omega⟩, ⟨by omega⟩, ⟨by omega⟩, ⟨so_cast (D' := swp (swp D a p) i1 j1) inferInstance rfl⟩, inferInstance, inferInstance, ⟨rfl⟩⟩
              case round =>
                clear n1 n2 n3 d2 d3 d2n d3n y2 x1 x3
                obtain ⟨i, j, dk, rfl, rfl, HP, HQ, HR, j1_, j2_, j3_, HO⟩ := hrel
                have hp := HP.out
                have hq := HQ.out
                have hr := HR.out
                go_wp2
                go_loopw [10] (fun v wr => ∃ i2 : Nat, v = .int .i64 i2 ∧ Aside0 (a < i2) ∧ Aside0 (i2 ≤ j + 1) ∧ So C wr dk ∧ Fr C w wr ∧ Blk wr w.heap.size (datC C) 162 ∧ Aside0 (scanUp (fun x => beforeE x dk[a]!) dk (j) i2 = scanUp (fun x => beforeE x dk[a]!) dk (j) (i))) (fun v _ => j + 1 - (intOf v).toNat)
                case atStart => exact ⟨i, by first | rfl | go_num, ⟨by omega⟩, ⟨by omega⟩, inferInstance, inferInstance, inferInstance, ⟨rfl⟩⟩
                case round =>
                  clear j1_ j2_ j3_
                  obtain ⟨i2, rfl, HA2, HB2, m1, m2, m3, HU2⟩ := hrel
                  have ha2 := HA2.out
                  have hb2 := HB2.out
                  have x2 : Ix (a : Int) C.n := ⟨by omega, by omega⟩
                  by_cases c1 : i2 ≤ j ∧ beforeE dk[i2]! dk[a]! = true
                  · obtain ⟨c1, l⟩ := c1
                    have d1 : decide ((i2 : Int) ≤ (j : Int)) = true := decide_eq_true (by omega)
                    have x1 : Ix (i2 : Int) C.n := ⟨by omega, by omega⟩
                    have y1 : Les dk (i2 : Int) (a : Int) true := Les.of l rfl rfl
                    have hs := Aside0.mk (scanUp_go (fun x => beforeE x dk[a]!) dk (j) i2 c1 l)
                    clear l
                    go_wp2_with (first | (go_at_call 142; refine (less_is _ _).mono ?_; rintro e w2 ⟨rfl, hb⟩; have jb := Bel.mk hb; clear hb))
                    first
                      | exact ⟨⟨i2 + 1, by first | rfl | go_num, ⟨by omega⟩, ⟨by omega⟩, inferInstance, inferInstance, inferInstance, ⟨by rw [← HU2.out, hs.out]⟩⟩, by simp [intOf]; omega⟩
                      | (go_roundw; (case rel => ((repeat apply Exists.intro); exact ⟨⟨i2 + 1, by first | rfl | go_num, ⟨by omega⟩, ⟨by omega⟩, inferInstance, inferInstance, inferInstance, ⟨by rw [← HU2.out, hs.out]⟩⟩, (by first | rfl | (simp only [Int.natCast_add, Int.natCast_one]; rfl) | (simp only [Int.natCast_add, Int.natCast_one, ez]; rfl))⟩)); (case measure => first | (simp [intOf]; omega) | (simp [intOf]; done)))
                  · have Hi2 : Aside0 (scanUp (fun x => beforeE x dk[a]!) dk (j) (i) = i2) := ⟨by
                      rw [← HU2.out]
                      refine scanUp_end (fun x => beforeE x dk[a]!) dk (j) i2 ?_
                      by_cases c : i2 ≤ j
                      · refine .inr ?_
                        have : beforeE dk[i2]! dk[a]! = false := by
                          cases h : beforeE dk[i2]! dk[a]! with
                          | true => exact absurd ⟨c, h⟩ c1
                          | false => rfl
                        simp [this]
                      · exact .inl c⟩
                    have step : (i2 ≤ j ∧ beforeE dk[i2]! dk[a]! = false) ∨ ¬ i2 ≤ j := by
                      by_cases c : i2 ≤ j
                      · refine .inl ⟨c, ?_⟩
                        cases h : beforeE dk[i2]! dk[a]! with
                        | true => exact absurd ⟨c, h⟩ c1
                        | false => rfl
                      · exact .inr c
                    clear c1 HU2
                    rcases step with ⟨c1, l⟩ | c1
                    · have d1 : decide ((i2 : Int) ≤ (j : Int)) = true := decide_eq_true (by omega)
                      have x1 : Ix (i2 : Int) C.n := ⟨by omega, by omega⟩
                      have y1 : Les dk (i2 : Int) (a : Int) false := Les.of l rfl rfl
                      have EA := Aside0.mk l
                      clear l
                      go_wp2_with (first | (go_at_call 142; refine (less_is _ _).mono ?_; rintro e w2 ⟨rfl, hb⟩; have jb := Bel.mk hb; clear hb))
                      clear d1
                      go_loopw [11] (fun v wr => ∃ j2 : Nat, v = .int .i64 j2 ∧ Aside0 (i2 ≤ j2 + 1) ∧ Aside0 (j2 ≤ j) ∧ So C wr dk ∧ Fr C w wr ∧ Blk wr w.heap.size (datC C) 162 ∧ Aside0 (scanDown (fun x => !beforeE x dk[a]!) dk i2 j2 = scanDown (fun x => !beforeE x dk[a]!) dk i2 (j))) (fun v _ => (intOf v).toNat)
                      case atStart => exact ⟨j, by first | rfl | (congr 1; omega), ⟨by omega⟩, ⟨by omega⟩, inferInstance, inferInstance, inferInstance, ⟨rfl⟩⟩
                      case round =>
                        clear m1 m2 m3
                        obtain ⟨j2, rfl, HC2, HD2, n1, n2, n3, HU2⟩ := hrel
                        have hc2 := HC2.out
                        have hd2 := HD2.out
                        by_cases c2 : i2 ≤ j2 ∧ beforeE dk[j2]! dk[a]! = false
                        · obtain ⟨c2, l⟩ := c2
                          have d2 : decide ((i2 : Int) ≤ (j2 : Int)) = true := decide_eq_true (by omega)
                          have d2n : decide (i2 ≤ j2) = true := decide_eq_true (by omega)
                          have x3 : Ix (j2 : Int) C.n := ⟨by omega, by omega⟩
                          have y2 : Les dk (j2 : Int) (a : Int) false := Les.of l rfl rfl
                          have hs := Aside0.mk (scanDown_go (fun x => !beforeE x dk[a]!) dk i2 j2 c2 (by omega) (by simp [l]))
                          clear l
                          go_wp2_with (first | (go_at_call 142; refine (less_is _ _).mono ?_; rintro e w2 ⟨rfl, hb⟩; have jb := Bel.mk hb; clear hb))
                          have ez : ((j2 - 1 : Nat) : Int) = (j2 : Int) - 1 := by omega
                          first
                            | exact ⟨⟨j2 - 1, by first | rfl | (congr 1; omega), ⟨by omega⟩, ⟨by omega⟩, inferInstance, inferInstance, inferInstance, ⟨by rw [← HU2.out, hs.out]⟩⟩, by simp [intOf]; omega⟩
                            | (go_roundw; (case rel => ((repeat apply Exists.intro); exact ⟨⟨j2 - 1, by first | rfl | (congr 1; omega), ⟨by omega⟩, ⟨by omega⟩, inferInstance, inferInstance, inferInstance, ⟨by rw [← HU2.out, hs.out]⟩⟩, (by first | rfl | (simp only [Int.natCast_add, Int.natCast_one]; rfl) | (simp only [Int.natCast_add, Int.natCast_one, ez]; rfl))⟩)); (case measure => first | (simp [intOf]; omega) | (simp [intOf]; done)))
                        · have Hj2 : Aside0 (scanDown (fun x => !beforeE x dk[a]!) dk i2 (j) = j2) := ⟨by
                            rw [← HU2.out]
                            refine scanDown_end (fun x => !beforeE x dk[a]!) dk i2 j2 ?_
                            by_cases c : i2 ≤ j2
                            · refine .inr ?_
                              have : beforeE dk[j2]! dk[a]! = true := by
                                cases h : beforeE dk[j2]! dk[a]! with
                                | false => exact absurd ⟨c, h⟩ c2
                                | true => rfl
                              simp [this]
                            · exact .inl c⟩
                          have step : (i2 ≤ j2 ∧ beforeE dk[j2]! dk[a]! = true) ∨ ¬ i2 ≤ j2 := by
                            by_cases c : i2 ≤ j2
                            · refine .inl ⟨c, ?_⟩
                              cases h : beforeE dk[j2]! dk[a]! with
                              | false => exact absurd ⟨c, h⟩ c2
                              | true => rfl
                            · exact .inr c
                          clear c2 HU2
                          rcases step with ⟨c2, l⟩ | c2
                          · have d2 : decide ((i2 : Int) ≤ (j2 : Int)) = true := decide_eq_true (by omega)
                            have d2n : decide (i2 ≤ j2) = true := decide_eq_true (by omega)
                            have d3 : decide ((j2 : Int) < (i2 : Int)) = false := decide_eq_false (by omega)
                            have d3n : decide (j2 < i2) = false := decide_eq_false (by omega)
                            have x3 : Ix (j2 : Int) C.n := ⟨by omega, by omega⟩
                            have x1 : Ix (i2 : Int) C.n := ⟨by omega, by omega⟩
                            have y2 : Les dk (j2 : Int) (a : Int) true := Les.of l rfl rfl
                            have hge : i ≤ i2 := by
                              have := scanUp_ge (fun x => beforeE x dk[a]!) dk (j) (i)
                              rw [Hi2.out] at this
                              exact this
                            have hne : i2 ≠ j2 := by
                              rintro rfl
                              have := EA.out
                              rw [l] at this
                              cases this
                            clear l
                            go_wp2_with (first | (go_at_call 142; refine (less_is _ _).mono ?_; rintro e w2 ⟨rfl, hb⟩; have jb := Bel.mk hb; clear hb))
                            have ez : ((j2 - 1 : Nat) : Int) = (j2 : Int) - 1 := by omega
                            first
                              | exact ⟨⟨i2 + 1, j2 - 1, swp dk i2 j2, by first | rfl | go_num, by first | rfl | (congr 1; omega), ⟨by omega⟩, ⟨by omega⟩, ⟨by omega⟩, ⟨so_cast (D' := swp dk i2 j2) inferInstance rfl⟩, inferInstance, inferInstance, ⟨by
                              rw [← HO.out, partLoop_eq beforeE a i j dk, Hi2.out, Hj2.out, if_neg (by omega)]⟩⟩, by simp [intOf]; omega⟩
                              | (go_roundw; (case rel => ((repeat apply Exists.intro); exact ⟨⟨i2 + 1, j2 - 1, swp dk i2 j2, by first | rfl | go_num, by first | rfl | (congr 1; omega), ⟨by omega⟩, ⟨by omega⟩, ⟨by omega⟩, ⟨so_cast (D' := swp dk i2 j2) inferInstance rfl⟩, inferInstance, inferInstance, ⟨by
                              rw [← HO.out, partLoop_eq beforeE a i j dk, Hi2.out, Hj2.out, if_neg (by omega)]⟩⟩, (by first | rfl | (simp only [Int.natCast_add, Int.natCast_one]; rfl) | (simp only [Int.natCast_add, Int.natCast_one, ez]; rfl))⟩)); (case measure => first | (simp [intOf]; omega) | (simp [intOf]; done)))
                          · have d2 : decide ((i2 : Int) ≤ (j2 : Int)) = false := decide_eq_false (by omega)
                            have d2n : decide (i2 ≤ j2) = false := decide_eq_false (by omega)
                            have d3 : decide ((j2 : Int) < (i2 : Int)) = true := decide_eq_true (by omega)
                            have d3n : decide (j2 < i2) = true := decide_eq_true (by omega)
                            have x3 : Ix (j2 : Int) C.n := ⟨by omega, by omega⟩
                            go_wp2
                            go_ret2
                            have hz := HO.out
                            rw [partLoop_eq beforeE a i j dk, Hi2.out, Hj2.out, if_pos (by omega)] at hz
                            refine ⟨by rw [hRR.out, HRR.out, ← hz]; rfl, so_cast (D' := R.2.2) (D := swp dk j2 a) ⟨so_cast (D' := swp dk j2 a) inferInstance rfl⟩ (by rw [hRR.out, HRR.out, ← hz]), Fr.out⟩
                    · have d1 : decide ((i2 : Int) ≤ (j : Int)) = false := decide_eq_false (by omega)
                      go_wp2
                      go_loopw [11] (fun v wr => ∃ j2 : Nat, v = .int .i64 j2 ∧ Aside0 (i2 ≤ j2 + 1) ∧ Aside0 (j2 ≤ j) ∧ So C wr dk ∧ Fr C w wr ∧ Blk wr w.heap.size (datC C) 162 ∧ Aside0 (scanDown (fun x => !beforeE x dk[a]!) dk i2 j2 = scanDown (fun x => !beforeE x dk[a]!) dk i2 (j))) (fun v _ => (intOf v).toNat)
                      case atStart => exact ⟨j, by first | rfl | (congr 1; omega), ⟨by omega⟩, ⟨by omega⟩, inferInstance, inferInstance, inferInstance, ⟨rfl⟩⟩
                      case round =>
                        clear m1 m2 m3
                        obtain ⟨j2, rfl, HC2, HD2, n1, n2, n3, HU2⟩ := hrel
                        have hc2 := HC2.out
                        have hd2 := HD2.out
                        have c2 : ¬ i2 ≤ j2 := by omega
                        have Hj2 : Aside0 (scanDown (fun x => !beforeE x dk[a]!) dk i2 (j) = j2) := ⟨by
                          rw [← HU2.out]
                          exact scanDown_end (fun x => !beforeE x dk[a]!) dk i2 j2 (.inl c2)⟩
                        clear HU2
                        have d2 : decide ((i2 : Int) ≤ (j2 : Int)) = false := decide_eq_false (by omega)
                        have d2n : decide (i2 ≤ j2) = false := decide_eq_false (by omega)
                        have d3 : decide ((j2 : Int) < (i2 : Int)) = true := decide_eq_true (by omega)
                        have d3n : decide (j2 < i2) = true := decide_eq_true (by omega)
                        have x3 : Ix (j2 : Int) C.n := ⟨by omega, by omega⟩
                        go_wp2
                        go_ret2
                        have hz := HO.out
                        rw [partLoop_eq beforeE a i j dk, Hi2.out, Hj2.out, if_pos (by omega)] at hz
                        refine ⟨by rw [hRR.out, HRR.out, ← hz]; rfl, so_cast (D' := R.2.2) (D := swp dk j2 a) ⟨so_cast (D' := swp dk j2 a) inferInstance rfl⟩ (by rw [hRR.out, HRR.out, ← hz]), Fr.out⟩
            · have d2 : decide ((i1 : Int) ≤ (j1 : Int)) = false := decide_eq_false (by omega)
              have d2n : decide (i1 ≤ j1) = false := decide_eq_false (by omega)
              have d3 : decide ((j1 : Int) < (i1 : Int)) = true := decide_eq_true (by omega)
              have d3n : decide (j1 < i1) = true := decide_eq_true (by omega)
              have x3 : Ix (j1 : Int) C.n := ⟨by omega, by omega⟩
              go_wp2
              go_ret2
              have hz := partition_yes D a b p i1 j1 Hi1.out Hj1.out (by omega)
              refine ⟨by rw [hRR.out, hz]; rfl, so_cast (D' := R.2.2) (D := swp (swp D a p) j1 a) ⟨so_cast (D' := swp (swp D a p) j1 a) inferInstance rfl⟩ (by rw [hRR.out, hz]), Fr.out⟩
      · have d1 : decide ((i1 : Int) ≤ (b : Int) - 1) = false := decide_eq_false (by omega)
        go_wp2
        go_loopw [11] (fun v wr => ∃ j1 : Nat, v = .int .i64 j1 ∧ Aside0 (i1 ≤ j1 + 1) ∧ Aside0 (j1 ≤ b - 1) ∧ So C wr (swp D a p) ∧ Fr C w wr ∧ Blk wr w.heap.size (datC C) 162 ∧ Aside0 (scanDown (fun x => !beforeE x (swp D a p)[a]!) (swp D a p) i1 j1 = scanDown (fun x => !beforeE x (swp D a p)[a]!) (swp D a p) i1 (b - 1))) (fun v _ => (intOf v).toNat)
        case atStart => exact ⟨b - 1, by first | rfl | (congr 1; omega), ⟨by omega⟩, ⟨by omega⟩, inferInstance, inferInstance, inferInstance, ⟨rfl⟩⟩
        case round =>
          clear m1 m2 m3
          obtain ⟨j1, rfl, HC1, HD1, n1, n2, n3, HU1⟩ := hrel
          have hc1 := HC1.out
          have hd1 := HD1.out
          have c2 : ¬ i1 ≤ j1 := by omega
          have Hj1 : Aside0 (scanDown (fun x => !beforeE x (swp D a p)[a]!) (swp D a p) i1 (b - 1) = j1) := ⟨by
            rw [← HU1.out]
            exact scanDown_end (fun x => !beforeE x (swp D a p)[a]!) (swp D a p) i1 j1 (.inl c2)⟩
          clear HU1
          have d2 : decide ((i1 : Int) ≤ (j1 : Int)) = false := decide_eq_false (by omega)
          have d2n : decide (i1 ≤ j1) = false := decide_eq_false (by omega)
          have d3 : decide ((j1 : Int) < (i1 : Int)) = true := decide_eq_true (by omega)
          have d3n : decide (j1 < i1) = true := decide_eq_true (by omega)
          have x3 : Ix (j1 : Int) C.n := ⟨by omega, by omega⟩
          go_wp2
          go_ret2
          have hz := partition_yes D a b p i1 j1 Hi1.out Hj1.out (by omega)
          refine ⟨by rw [hRR.out, hz]; rfl, so_cast (D' := R.2.2) (D := swp (swp D a p) j1 a) ⟨so_cast (D' := swp (swp D a p) j1 a) inferInstance rfl⟩ (by rw [hRR.out, hz]), Fr.out⟩
set_option maxHeartbeats 16000000 in
set_option maxRecDepth 100000 in
set_option synthInstance.maxHeartbeats 400000 in
set_option synthInstance.maxSize 100000 in
theorem partitionEqual_calls (C : SoC) [SoG C] (w : World) (D : Array E) (h : SoAt C w D) (a b p : Nat) (hap : a ≤ p) (hpb : p < b) (hb : b ≤ C.n) :
    Calls Tryz.prog 168 #[datV C, .int .i64 a, .int .i64 b, .int .i64 p] w fun e w' => e = .returned (.int .i64 (partitionEqual beforeE D a b p).1) ∧ SoAt C w' (partitionEqual beforeE D a b p).2 ∧ w.grownBy w' (some C.g) := by
  have j0 := So.mk h
  have hsm := SoG.small (C := C)
  have jx : NeB w.heap.size C.g := ⟨Nat.ne_of_gt h.lt⟩
  have jy := Blk.mk (blk_new w (.cells (datC C) 162))
  have x5 : Ix (a : Int) C.n := ⟨by omega, by omega⟩
  have x6 : Ix (p : Int) C.n := ⟨by omega, by omega⟩
  have hR : partitionEqual beforeE D a b p = partEqLoop beforeE a (a + 1) (b - 1) (swp D a p) := rfl
  obtain ⟨R, hRR⟩ : ∃ R, partitionEqual beforeE D a b p = R := ⟨_, rfl⟩
  rw [hRR] at hR ⊢
  have hR := Aside0.mk hR
  clear h hRR
  have hu := Tryz.underlying162
  go_enter Tryz.func168, Tryz.ntmps168
  go_wp2
  go_loopw [9, 10] (fun v u wr => ∃ (i j : Nat) (dk : Array E), v = .int .i64 i ∧ u = .int .i64 j ∧ Aside0 (a < i) ∧ Aside0 (i ≤ j + 1) ∧ Aside0 (j < b) ∧ So C wr dk ∧ Fr C w wr ∧ Blk wr w.heap.size (datC C) 162 ∧ Aside0 (partEqLoop beforeE a i j dk = R)) (fun v u _ => (intOf u).toNat + 1 - (intOf v).toNat)
  case atStart => exact ⟨a + 1, b - 1, swp D a p, by go_num, by congr 1; omega, ⟨by omega⟩, ⟨by omega⟩, ⟨by omega⟩, ⟨so_cast (D' := swp D a p) inferInstance rfl⟩, inferInstance, inferInstance, ⟨hR.out.symm⟩⟩
  case round =>
    clear j0 jy
    obtain ⟨i, j, dk, rfl, rfl, HP, HQ, HR, j1, j2, j3, HO⟩ := hrel
    have hp := HP.out
    have hq := HQ.out
    have hr := HR.out
    go_wp2
    go_loopw [9] (fun v wr => ∃ i2 : Nat, v = .int .i64 i2 ∧ Aside0 (a < i2) ∧ Aside0 (i2 ≤ j + 1) ∧ So C wr dk ∧ Fr C w wr ∧ Blk wr w.heap.size (datC C) 162 ∧ Aside0 (scanUp (fun x => !beforeE dk[a]! x) dk (j) i2 = scanUp (fun x => !beforeE dk[a]! x) dk (j) (i))) (fun v _ => j + 1 - (intOf v).toNat)
    case atStart => exact ⟨i, by first | rfl | go_num, ⟨by omega⟩, ⟨by omega⟩, inferInstance, inferInstance, inferInstance, ⟨rfl⟩⟩
    case round =>
      clear j1 j2 j3
      obtain ⟨i2, rfl, HA2, HB2, m1, m2, m3, HU2⟩ := hrel
      have ha2 := HA2.out
      have hb2 := HB2.out
      have x2 : Ix (a : Int) C.n := ⟨by omega, by omega⟩
      by_cases c1 : i2 ≤ j ∧ beforeE dk[a]! dk[i2]! = false
      · obtain ⟨c1, l⟩ := c1
        have d1 : decide ((i2 : Int) ≤ (j : Int)) = true := decide_eq_true (by omega)
        have x1 : Ix (i2 : Int) C.n := ⟨by omega, by omega⟩
        have y1 : Les dk (a : Int) (i2 : Int) false := Les.of l rfl rfl
        have hs := Aside0.mk (scanUp_go (fun x => !beforeE dk[a]! x) dk (j) i2 c1 (by simp [l]))
        clear l
        go_wp2_with (first | (go_at_call 142; refine (less_is _ _).mono ?_; rintro e w2 ⟨rfl, hb⟩; have jb := Bel.mk hb; clear hb))
        first
          | exact ⟨⟨i2 + 1, by first | rfl | go_num, ⟨by omega⟩, ⟨by omega⟩, inferInstance, inferInstance, inferInstance, ⟨by rw [← HU2.out, hs.out]⟩⟩, by simp [intOf]; omega⟩
          | (go_roundw; (case rel => ((repeat apply Exists.intro); exact ⟨⟨i2 + 1, by first | rfl | go_num, ⟨by omega⟩, ⟨by omega⟩, inferInstance, inferInstance, inferInstance, ⟨by rw [← HU2.out, hs.out]⟩⟩, (by first | rfl | (simp only [Int.natCast_add, Int.natCast_one]; rfl) | (simp only [Int.natCast_add, Int.natCast_one, ez]; rfl))⟩)); (case measure => first | (simp [intOf]; omega) | (simp [intOf]; done)))
      · have Hi2 : Aside0 (scanUp (fun x => !beforeE dk[a]! x) dk (j) (i) = i2) := ⟨by
          rw [← HU2.out]
          refine scanUp_end (fun x => !beforeE dk[a]! x) dk (j) i2 ?_
          by_cases c : i2 ≤ j
          · refine .inr ?_
            have : beforeE dk[a]! dk[i2]! = true := by
              cases h : beforeE dk[a]! dk[i2]! with
              | false => exact absurd ⟨c, h⟩ c1
              | true => rfl
            simp [this]
          · exact .inl c⟩
        have step : (i2 ≤ j ∧ beforeE dk[a]! dk[i2]! = true) ∨ ¬ i2 ≤ j := by
          by_cases c : i2 ≤ j
          · refine .inl ⟨c, ?_⟩
            cases h : beforeE dk[a]! dk[i2]! with
            | false => exact absurd ⟨c, h⟩ c1
            | true => rfl
          · exact .inr c
        clear c1 HU2
        rcases step with ⟨c1, l⟩ | c1
        · have d1 : decide ((i2 : Int) ≤ (j : Int)) = true := decide_eq_true (by omega)
          have x1 : Ix (i2 : Int) C.n := ⟨by omega, by omega⟩
          have y1 : Les dk (a : Int) (i2 : Int) true := Les.of l rfl rfl
          have EA := Aside0.mk l
          clear l
          go_wp2_with (first | (go_at_call 142; refine (less_is _ _).mono ?_; rintro e w2 ⟨rfl, hb⟩; have jb := Bel.mk hb; clear hb))
          clear d1
          go_loopw [10] (fun v wr => ∃ j2 : Nat, v = .int .i64 j2 ∧ Aside0 (i2 ≤ j2 + 1) ∧ Aside0 (j2 ≤ j) ∧ So C wr dk ∧ Fr C w wr ∧ Blk wr w.heap.size (datC C) 162 ∧ Aside0 (scanDown (fun x => beforeE dk[a]! x) dk i2 j2 = scanDown (fun x => beforeE dk[a]! x) dk i2 (j))) (fun v _ => (intOf v).toNat)
          case atStart => exact ⟨j, by first | rfl | (congr 1; omega), ⟨by omega⟩, ⟨by omega⟩, inferInstance, inferInstance, inferInstance, ⟨rfl⟩⟩
          case round =>
            clear m1 m2 m3
            obtain ⟨j2, rfl, HC2, HD2, n1, n2, n3, HU2⟩ := hrel
            have hc2 := HC2.out
            have hd2 := HD2.out
            by_cases c2 : i2 ≤ j2 ∧ beforeE dk[a]! dk[j2]! = true
            · obtain ⟨c2, l⟩ := c2
              have d2 : decide ((i2 : Int) ≤ (j2 : Int)) = true := decide_eq_true (by omega)
              have d2n : decide (i2 ≤ j2) = true := decide_eq_true (by omega)
              have x3 : Ix (j2 : Int) C.n := ⟨by omega, by omega⟩
              have y2 : Les dk (a : Int) (j2 : Int) true := Les.of l rfl rfl
              have hs := Aside0.mk (scanDown_go (fun x => beforeE dk[a]! x) dk i2 j2 c2 (by omega) l)
              clear l
              go_wp2_with (first | (go_at_call 142; refine (less_is _ _).mono ?_; rintro e w2 ⟨rfl, hb⟩; have jb := Bel.mk hb; clear hb))
              have ez : ((j2 - 1 : Nat) : Int) = (j2 : Int) - 1 := by omega
              first
                | exact ⟨⟨j2 - 1, by first | rfl | (congr 1; omega), ⟨by omega⟩, ⟨by omega⟩, inferInstance, inferInstance, inferInstance, ⟨by rw [← HU2.out, hs.out]⟩⟩, by simp [intOf]; omega⟩
                | (go_roundw; (case rel => ((repeat apply Exists.intro); exact ⟨⟨j2 - 1, by first | rfl | (congr 1; omega), ⟨by omega⟩, ⟨by omega⟩, inferInstance, inferInstance, inferInstance, ⟨by rw [← HU2.out, hs.out]⟩⟩, (by first | rfl | (simp only [Int.natCast_add, Int.natCast_one]; rfl) | (simp only [Int.natCast_add, Int.natCast_one, ez]; rfl))⟩)); (case measure => first | (simp [intOf]; omega) | (simp [intOf]; done)))
            · have Hj2 : Aside0 (scanDown (fun x => beforeE dk[a]! x) dk i2 (j) = j2) := ⟨by
                rw [← HU2.out]
                refine scanDown_end (fun x => beforeE dk[a]! x) dk i2 j2 ?_
                by_cases c : i2 ≤ j2
                · refine .inr ?_
                  have : beforeE dk[a]! dk[j2]! = false := by
                    cases h : beforeE dk[a]! dk[j2]! with
                    | true => exact absurd ⟨c, h⟩ c2
                    | false => rfl
                  simp [this]
                · exact .inl c⟩
              have step : (i2 ≤ j2 ∧ beforeE dk[a]! dk[j2]! = false) ∨ ¬ i2 ≤ j2 := by
                by_cases c : i2 ≤ j2
                · refine .inl ⟨c, ?_⟩
                  cases h : beforeE dk[a]! dk[j2]! with
                  | true => exact absurd ⟨c, h⟩ c2
                  | false => rfl
                · exact .inr c
              clear c2 HU2
              rcases step with ⟨c2, l⟩ | c2
              · have d2 : decide ((i2 : Int) ≤ (j2 : Int)) = true := decide_eq_true (by omega)
                have d2n : decide (i2 ≤ j2) = true := decide_eq_true (by omega)
                have d3 : decide ((j2 : Int) < (i2 : Int)) = false := decide_eq_false (by omega)
                have d3n : decide (j2 < i2) = false := decide_eq_false (by omega)
                have x3 : Ix (j2 : Int) C.n := ⟨by omega, by omega⟩
                have x1 : Ix (i2 : Int) C.n := ⟨by omega, by omega⟩
                have y2 : Les dk (a : Int) (j2 : Int) false := Les.of l rfl rfl
                have hge : i ≤ i2 := by
                  have := scanUp_ge (fun x => !beforeE dk[a]! x) dk (j) (i)
                  rw [Hi2.out] at this
                  exact this
                have hne : i2 ≠ j2 := by
                  rintro rfl
                  have := EA.out
                  rw [l] at this
                  cases this
                clear l
                go_wp2_with (first | (go_at_call 142; refine (less_is _ _).mono ?_; rintro e w2 ⟨rfl, hb⟩; have jb := Bel.mk hb; clear hb))
                have ez : ((j2 - 1 : Nat) : Int) = (j2 : Int) - 1 := by omega
                first
                  | exact ⟨⟨i2 + 1, j2 - 1, swp dk i2 j2, by first | rfl | go_num, by first | rfl | (congr 1; omega), ⟨by omega⟩, ⟨by omega⟩, ⟨by omega⟩, ⟨so_cast (D' := swp dk i2 j2) inferInstance rfl⟩, inferInstance, inferInstance, ⟨by
                  rw [← HO.out, partEqLoop_eq beforeE a i j dk, Hi2.out, Hj2.out, if_neg (by omega)]⟩⟩, by simp [intOf]; omega⟩
                  | (go_roundw; (case rel => ((repeat apply Exists.intro); exact ⟨⟨i2 + 1, j2 - 1, swp dk i2 j2, by first | rfl | go_num, by first | rfl | (congr 1; omega), ⟨by omega⟩, ⟨by omega⟩, ⟨by omega⟩, ⟨so_cast (D' := swp dk i2 j2) inferInstance rfl⟩, inferInstance, inferInstance, ⟨by
                  rw [← HO.out, partEqLoop_eq beforeE a i j dk, Hi2.out, Hj2.out, if_neg (by omega)]⟩⟩, (by first | rfl | (simp only [Int.natCast_add, Int.natCast_one]; rfl) | (simp only [Int.natCast_add, Int.natCast_one, ez]; rfl))⟩)); (case measure => first | (simp [intOf]; omega) | (simp [intOf]; done)))
              · have d2 : decide ((i2 : Int) ≤ (j2 : Int)) = false := decide_eq_false (by omega)
                have d2n : decide (i2 ≤ j2) = false := decide_eq_false (by omega)
                have d3 : decide ((j2 : Int) < (i2 : Int)) = true := decide_eq_true (by omega)
                have d3n : decide (j2 < i2) = true := decide_eq_true (by omega)
                have x3 : Ix (j2 : Int) C.n := ⟨by omega, by omega⟩
                go_wp2
                go_ret
                have hz := HO.out
                rw [partEqLoop_eq beforeE a i j dk, Hi2.out, Hj2.out, if_pos (by omega)] at hz
                exact ⟨by rw [← hz]; rfl, so_cast (D := dk) inferInstance (by rw [← hz]), Fr.out⟩
        · have d1 : decide ((i2 : Int) ≤ (j : Int)) = false := decide_eq_false (by omega)
          go_wp2
          go_loopw [10] (fun v wr => ∃ j2 : Nat, v = .int .i64 j2 ∧ Aside0 (i2 ≤ j2 + 1) ∧ Aside0 (j2 ≤ j) ∧ So C wr dk ∧ Fr C w wr ∧ Blk wr w.heap.size (datC C) 162 ∧ Aside0 (scanDown (fun x => beforeE dk[a]! x) dk i2 j2 = scanDown (fun x => beforeE dk[a]! x) dk i2 (j))) (fun v _ => (intOf v).toNat)
          case atStart => exact ⟨j, by first | rfl | (congr 1; omega), ⟨by omega⟩, ⟨by omega⟩, inferInstance, inferInstance, inferInstance, ⟨rfl⟩⟩
          case round =>
            clear m1 m2 m3
            obtain ⟨j2, rfl, HC2, HD2, n1, n2, n3, HU2⟩ := hrel
            have hc2 := HC2.out
            have hd2 := HD2.out
            have c2 : ¬ i2 ≤ j2 := by omega
            have Hj2 : Aside0 (scanDown (fun x => beforeE dk[a]! x) dk i2 (j) = j2) := ⟨by
              rw [← HU2.out]
              exact scanDown_end (fun x => beforeE dk[a]! x) dk i2 j2 (.inl c2)⟩
            clear HU2
            have d2 : decide ((i2 : Int) ≤ (j2 : Int)) = false := decide_eq_false (by omega)
            have d2n : decide (i2 ≤ j2) = false := decide_eq_false (by omega)
            have d3 : decide ((j2 : Int) < (i2 : Int)) = true := decide_eq_true (by omega)
            have d3n : decide (j2 < i2) = true := decide_eq_true (by omega)
            have x3 : Ix (j2 : Int) C.n := ⟨by omega, by omega⟩
            go_wp2
            go_ret
            have hz := HO.out
            rw [partEqLoop_eq beforeE a i j dk, Hi2.out, Hj2.out, if_pos (by omega)] at hz
            exact ⟨by rw [← hz]; rfl, so_cast (D := dk) inferInstance (by rw [← hz]), Fr.out⟩
end Go.Proofs.YtanhnhkcpbdfmaaGreat.S
namespace Go.Proofs.YtanhnhkcpbdfmaaGreat.S
open Go.RowKit Go.Sort Go.Proofs.YtanhnhkcpbdfmaaGreat.P Go.Proofs.YtanhnhkcpbdfmaaGreat.Q Go.Proofs.YtanhnhkcpbdfmaaGreat.V Go.Proofs.YtanhnhkcpbdfmaaGreatW.PrintWords
theorem swo_beforeE : SWO beforeE where
  irrefl := before_irrefl
  trans := fun x y z h k => before_trans h k
  ntrans := fun x y z h k => by
    rw [Bool.eq_false_iff, ne_eq, before_iff] at h k ⊢
    omega
theorem mem_perm {a b : Nat} {D D' : Array E} (hb : b ≤ D.size) (h : PermIn a b D D') : ∀ x ∈ D', x ∈ D := by
  intro x hx
  obtain ⟨k, hk, rfl⟩ := Array.mem_iff_getElem.mp hx
  have hk' : k < D.size := by rw [← h.1]; exact hk
  by_cases hin : a ≤ k ∧ k < b
  · have hall := permIn_all D D' a b (fun y => y ∈ D) hb h (fun i hi hi' => by
      rw [getElem!_pos D i (by omega)]; exact Array.getElem_mem _) k hin.1 hin.2
    rw [getElem!_pos D' k hk] at hall
    exact hall
  · have := h.2.1 k (by omega)
    rw [getElem!_pos D' k hk, getElem!_pos D k hk'] at this
    rw [this]
    exact Array.getElem_mem _
theorem so_sorted {C : SoC} [g : SoG C] {w : World} {D D' : Array E} {a b : Nat} (h : SoAt C w D) (hb : b ≤ C.n) (hp : PermIn a b D D') (n : Nat) (os : Array Obj) :
    SoAt C (sortWorldK enc4 4 w C.g 0 n D' os) D' ∧ w.grownBy (sortWorldK enc4 4 w C.g 0 n D' os) (some C.g) := by
  have hs : D'.size = D.size := hp.1
  have hg : w.grownBy (sortWorldK enc4 4 w C.g 0 n D' os) (some C.g) := by
    unfold sortWorldK
    refine ⟨rfl, rfl, rfl, by rw [size_grow, size_putRowK]; show w.heap.size ≤ w.heap.size + os.size; omega, fun k hk1 hk2 => ?_⟩
    rw [heap_grow_old _ _ (by rw [size_putRowK]; exact hk1)]
    unfold putRowK putRow
    rw [onCells_block, if_neg (fun hh => hk2 (by rw [hh]))]
    rfl
  exact ⟨⟨holdsK_sortWorldK enc4 4 w C.g 0 n D D' os h.lt h.hold hs, by rw [hs]; exact h.size, (hg.block _ h.bs_lt (fun e => g.ne (Option.some.inj e))).trans h.box, Nat.lt_of_lt_of_le h.lt hg.size, by
    unfold sortWorldK
    rw [heap_grow_old _ _ (by rw [size_putRowK]; exact h.lt)]
    exact put_shape (W := Sort.ahead w n) h.shape, fun x hx => h.ftd x (mem_perm (by rw [h.size]; exact hb) hp x hx)⟩, hg⟩
theorem break_calls (C : SoC) [g : SoG C] (w : World) (D : Array E) (h : SoAt C w D) (a b : Nat) (hab : a ≤ b) (hb : b ≤ C.n) :
    Calls Tryz.prog 164 #[datV C, .int .i64 a, .int .i64 b] w fun e w' => e = .returned (.tuple #[]) ∧ ∃ D', SoAt C w' D' ∧ PermIn a b D D' ∧ w.grownBy w' (some C.g) := by
  have hsw : SwapSwapsK Tryz.prog 159 C.sb enc4 4 C.g 0 D.size := by rw [h.size]; exact g.swap
  have := Any.breakPatterns_func_cells_w (P := Tryz.prog) (ρ := sv6_ren) { sv6 with } enc4 4 enc4_len (.func 142) #[] C.lb 159 C.sb C.g 0 a b D w hsw h.hold h.lt hab (by rw [h.size]; exact hb) (by have := g.small; rw [h.size]; omega)
  refine this.mono ?_
  rintro e w' ⟨he, n, os, rfl⟩
  have hp := breakPatterns_holds D a b hab (by rw [h.size]; exact hb)
  obtain ⟨h1, h2⟩ := so_sorted h hb hp n os
  exact ⟨he, _, h1, hp, h2⟩
theorem reverse_calls (C : SoC) [g : SoG C] (w : World) (D : Array E) (h : SoAt C w D) (a b : Nat) (hab : a ≤ b) (hb : b ≤ C.n) :
    Calls Tryz.prog 166 #[datV C, .int .i64 a, .int .i64 b] w fun e w' => e = .returned (.tuple #[]) ∧ ∃ D', SoAt C w' D' ∧ PermIn a b D D' ∧ w.grownBy w' (some C.g) := by
  have hsw : SwapSwapsK Tryz.prog 159 C.sb enc4 4 C.g 0 D.size := by rw [h.size]; exact g.swap
  have := Any.reverseRange_func_cells_w (P := Tryz.prog) (ρ := sv6_ren) { sv6 with } enc4 4 enc4_len (.func 142) #[] C.lb 159 C.sb C.g 0 a b D w hsw h.hold h.lt hab (by rw [h.size]; exact hb) (by have := g.small; rw [h.size]; omega)
  refine this.mono ?_
  rintro e w' ⟨he, n, os, rfl⟩
  have hp := reverseRange_holds D a b hab (by rw [h.size]; exact hb)
  obtain ⟨h1, h2⟩ := so_sorted h hb hp n os
  exact ⟨he, _, h1, hp, h2⟩
theorem less_ex {C : SoC} {W : World} {D : Array E} [g : SoG C] (h : SoAt C W D) (i j : Int) (i' j' : Nat) (ei : i = i') (ej : j = j') (hi : i' < C.n) (hj : j' < C.n) :
    Calls Tryz.prog 142 (#[.int .i64 i, .int .i64 j] ++ C.lb) W fun e w' => ∃ lb, e = .returned (.bool lb) ∧ beforeE D[i']! D[j']! = lb ∧ RowKit.Below W.heap.size W w' := by
  subst ei ej
  exact (less_calls C W D h g.lb g.small i' j' hi hj).mono fun e w' hh => ⟨_, hh.1, rfl, hh.2⟩
theorem partitionEqual_at {C : SoC} {W : World} {D : Array E} [SoG C] (h : SoAt C W D) (a b p : Nat) (p' : Int) (e : p' = p) (hap : a ≤ p) (hpb : p < b) (hb : b ≤ C.n) :
    Calls Tryz.prog 168 #[datV C, .int .i64 a, .int .i64 b, .int .i64 p'] W fun e w' => ∃ mid D', partitionEqual beforeE D a b p = (mid, D') ∧ e = .returned (.int .i64 (mid : Nat)) ∧ SoAt C w' D' ∧ W.grownBy w' (some C.g) := by
  subst e
  exact (partitionEqual_calls C W D h a b p hap hpb hb).mono fun e w' hh => ⟨_, _, rfl, hh⟩
theorem partition_at {C : SoC} {W : World} {D : Array E} [SoG C] (h : SoAt C W D) (a b p : Nat) (p' : Int) (e : p' = p) (hap : a ≤ p) (hpb : p < b) (hb : b ≤ C.n) :
    Calls Tryz.prog 169 #[datV C, .int .i64 a, .int .i64 b, .int .i64 p'] W fun e w' => ∃ mid ap D', partition beforeE D a b p = (mid, ap, D') ∧ e = .returned (.tuple #[.int .i64 (mid : Nat), .bool ap]) ∧ SoAt C w' D' ∧ W.grownBy w' (some C.g) := by
  subst e
  exact (partition_calls C W D h a b p hap hpb hb).mono fun e w' hh => ⟨_, _, _, rfl, hh⟩
end Go.Proofs.YtanhnhkcpbdfmaaGreat.S
namespace Go.Proofs.YtanhnhkcpbdfmaaGreat.S
open Go.RowKit Go.Sort Go.Proofs.YtanhnhkcpbdfmaaGreat.P Go.Proofs.YtanhnhkcpbdfmaaGreat.Q Go.Proofs.YtanhnhkcpbdfmaaGreat.V Go.Proofs.YtanhnhkcpbdfmaaGreatW.PrintWords
attribute [local go_sem] cell_b frozen_b swap_run
def PdqOk (C : SoC) (N : Nat) : Prop := ∀ (w : World) (D : Array E), SoAt C w D → ∀ a b limit : Nat, b - a < N → a ≤ b → b ≤ C.n → limit ≤ 100 → Sort.Below beforeE a b D → ∀ a' b' l' : Int, a' = a → b' = b → l' = limit →
    Calls Tryz.prog 149 #[datV C, .int .i64 a', .int .i64 b', .int .i64 l'] w fun e w' => e = .returned (.tuple #[]) ∧ ∃ D', SoAt C w' D' ∧ PermIn a b D D' ∧ SortedIn beforeE a b D' ∧ w.grownBy w' (some C.g)
set_option maxHeartbeats 16000000 in
set_option maxRecDepth 100000 in
set_option synthInstance.maxHeartbeats 400000 in
set_option synthInstance.maxSize 100000 in
theorem pdq_step (C : SoC) [SoG C] (N : Nat) (ih : PdqOk C N) : PdqOk C (N + 1) := by
  intro w D h a b limit hN hab hb hlim hB a' b' l' ea eb el
  subst ea eb el
  have j0 := So.mk h
  have hsm := SoG.small (C := C)
  have hsz := h.size
  have jx : NeB w.heap.size C.g := ⟨Nat.ne_of_gt h.lt⟩
  have jy := Blk.mk (blk_new w (.cells (datC C) 162))
  have hBA := Aside0.mk hB
  have IH := Aside0.mk ih
  clear h hB ih
  have hu := Tryz.underlying162
  go_enter Tryz.func149, Tryz.ntmps149
  go_wp2
  go_loopg [1, 2, 3, 8, 9] (b - a) (fun kx v1 v2 v3 v8 v9 wr => ∃ (a1 b1 l1 : Nat) (wb wp : Bool) (dk : Array E), v1 = .int .i64 a1 ∧ v2 = .int .i64 b1 ∧ v3 = .int .i64 l1 ∧ v8 = .bool wb ∧ v9 = .bool wp ∧ Aside0 (a1 ≤ b1 ∧ b1 ≤ C.n ∧ b1 - a1 ≤ kx ∧ kx ≤ b - a ∧ l1 ≤ 100) ∧ Aside0 (Sort.Below beforeE a1 b1 dk) ∧ Aside0 (∀ R, PermIn a1 b1 dk R → SortedIn beforeE a1 b1 R → PermIn a b D R ∧ SortedIn beforeE a b R) ∧ So C wr dk ∧ Fr C w wr ∧ Blk wr w.heap.size (datC C) 162)
  case atStart => exact ⟨a, b, limit, true, true, D, rfl, rfl, rfl, rfl, rfl, ⟨⟨by omega, by omega, by omega, by omega, by omega⟩⟩, hBA, ⟨fun R h1 h2 => ⟨h1, h2⟩⟩, inferInstance, inferInstance, inferInstance⟩
  case round =>
    clear j0 jy
    obtain ⟨a1, b1, l1, wb, wp, dk, rfl, rfl, rfl, rfl, rfl, HN, HB, HR, j1, j2, j3⟩ := hrel
    obtain ⟨hab1, hb1, hn1, hn2, hl1⟩ := HN.out
    have hds : dk.size = C.n := j1.out.size
    by_cases c12 : b1 - a1 ≤ 12
    · have d1 : decide ((b1 : Int) - (a1 : Int) ≤ 12) = true := decide_eq_true (by omega)
      go_wp2_with (first | (go_at_call 162; refine (insertion_calls C _ _ So.out a1 b1 (by omega) (by omega)).mono ?_; rintro e w2 ⟨rfl, hs, hg⟩; have k1 := So.mk hs; have k2 := Gb.mk hg; clear hs hg))
      ((try simp only [Exit.inBlock, Exit.then]); refine bodyPost_ret (results_none rfl _ _ _) rfl ?_)
      obtain ⟨h1, h2⟩ := insertionSort_holds swo_beforeE dk a1 b1 hab1 (by omega)
      obtain ⟨h3, h4⟩ := HR.out _ h1 h2
      exact ⟨rfl, _, So.out, h3, h4, Fr.out⟩
    have d1 : decide ((b1 : Int) - (a1 : Int) ≤ 12) = false := decide_eq_false (by omega)
    by_cases c0 : l1 = 0
    · subst c0
      go_wp2_with (first | (go_at_call 163; refine (heapSort_calls C _ _ So.out a1 b1 (by omega) (by omega)).mono ?_; rintro e w2 ⟨rfl, hs, hg⟩; have k1 := So.mk hs; have k2 := Gb.mk hg; clear hs hg))
      ((try simp only [Exit.inBlock, Exit.then]); refine bodyPost_ret (results_none rfl _ _ _) rfl ?_)
      obtain ⟨h1, h2⟩ := heapSort_holds swo_beforeE dk a1 b1 hab1 (by omega)
      obtain ⟨h3, h4⟩ := HR.out _ h1 h2
      exact ⟨rfl, _, So.out, h3, h4, Fr.out⟩
    have d0 : ((l1 : Int) == 0) = false := beq_eq_false_iff_ne.mpr (by omega)
    go_upto_if 35 with fail
    go_cut [3] from 19 (fun s3 wc => ∃ (l2 : Nat) (dj : Array E), s3 = .int .i64 l2 ∧ Aside0 (l2 ≤ 100) ∧ Aside0 (PermIn a1 b1 dk dj) ∧ So C wc dj ∧ Fr C w wc ∧ Blk wc w.heap.size (datC C) 162)
    case first =>
      cases wb
      · go_wp2_with (first | (go_at_call 164; refine (break_calls C _ _ So.out a1 b1 (by omega) (by omega)).mono ?_; rintro e w2 ⟨rfl, D2, hs, hp, hg⟩; have k1 := So.mk hs; have k2 := Gb.mk hg; have HP := Aside0.mk hp; clear hs hg hp))
        go_meet
        case rel => exact ⟨l1 - 1, D2, by congr 1; omega, ⟨by omega⟩, HP, inferInstance, inferInstance, inferInstance⟩
      · go_wp2_with fail
        go_meet
        case rel => exact ⟨l1, dk, rfl, ⟨by omega⟩, ⟨permIn_refl dk a1 b1⟩, j1, j2, j3⟩
    case rest =>
      clear j1 j2 j3 d0 d1
      obtain ⟨l2, dj, rfl, HL2, HS, j1, j2, j3⟩ := hcut
      have hl2 := HL2.out
      go_upto_if 50 with (go_at_call 165; refine (choosePivot_calls C _ _ So.out a1 b1 (by omega) (by omega)).mono ?_; rintro e w2 ⟨p, k, rfl, hp1, hp2, hk, hb⟩; have jb := Bel.mk hb; clear hb)
      obtain ⟨p, rfl⟩ : ∃ p' : Nat, p = p' := ⟨p.toNat, by omega⟩
      go_cut [11, 12] from 19 (fun s11 s12 wc => ∃ (q : Nat) (k : Int) (dj2 : Array E), s11 = .int .i64 q ∧ s12 = .int .i64 k ∧ Aside0 (a1 ≤ q ∧ q < b1) ∧ Aside0 (PermIn a1 b1 dk dj2) ∧ So C wc dj2 ∧ Fr C w wc ∧ Blk wc w.heap.size (datC C) 162)
      case first =>
        by_cases h2 : k = 2
        · have h2b : (k == 2) = true := beq_iff_eq.mpr h2
          go_wp2_with (first | (go_at_call 166; refine (reverse_calls C _ _ So.out a1 b1 (by omega) (by omega)).mono ?_; rintro e w3 ⟨rfl, D2, hs, hp, hg⟩; have k1 := So.mk hs; have k2 := Gb.mk hg; have HP := Aside0.mk (permIn_trans _ _ _ _ _ HS.out hp); clear hs hg hp))
          go_meet
          case rel => exact ⟨b1 - 1 - (p - a1), 1, D2, by congr 1; omega, rfl, ⟨⟨by omega, by omega⟩⟩, HP, inferInstance, inferInstance, inferInstance⟩
        · have h2b : (k == 2) = false := beq_eq_false_iff_ne.mpr h2
          go_wp2_with fail
          go_meet
          case rel => exact ⟨p, k, dj, rfl, rfl, ⟨⟨by omega, by omega⟩⟩, HS, inferInstance, inferInstance, inferInstance⟩
      case rest =>
        clear j1 j2 j3 jb hk hp1 hp2 HS
        obtain ⟨q, k, dj2, rfl, rfl, HQ, HS, j1, j2, j3⟩ := hcut
        obtain ⟨hq1, hq2⟩ := HQ.out
        go_upto_region 16 with fail
        go_cut [68] from 19 (fun s68 wx => ∃ t : Bool, s68 = .bool t ∧ wx = wc)
        case first =>
          cases wb <;> cases wp <;> by_cases hk1 : k = 1 <;>
            (first | have hkb : (k == 1) = true := beq_iff_eq.mpr hk1 | have hkb : (k == 1) = false := beq_eq_false_iff_ne.mpr hk1) <;>
            (go_wp2_with fail
             go_meet
             exact ⟨_, rfl, rfl⟩)
        case rest =>
          obtain ⟨t, rfl, rfl⟩ := hcut
          go_upto_if 68 with fail
          go_cut [] from 19 (fun wx => So C wx dj2 ∧ Fr C w wx ∧ Blk wx w.heap.size (datC C) 162)
          case first =>
            cases t
            · go_wp2_with fail
              go_meet
              case rel => exact ⟨j1, j2, j3⟩
            · go_wp2_with (first | (go_at_call 167; refine (partial_calls C _ _ So.out a1 b1 (by omega) (by omega)).mono ?_; rintro e w3 ⟨r, rfl, hpi, hb⟩; have jb := Bel.mk hb; have HPI := Aside0.mk hpi; clear hb hpi; cases r))
              · go_meet
                exact ⟨inferInstance, inferInstance, inferInstance⟩
              · ((try simp only [Exit.inBlock, Exit.then]); refine bodyPost_ret (results_none rfl _ _ _) rfl ?_)
                obtain ⟨h1, h2⟩ := partialInsertionSort_holds swo_beforeE dj2 a1 b1 (by omega) (by rw [HS.out.1, hds]; omega) (Below.perm HB.out (by rw [hds]; omega) HS.out)
                rw [HPI.out] at h1 h2
                obtain ⟨h3, h4⟩ := HR.out _ (permIn_trans _ _ _ _ _ HS.out h1) (h2 rfl)
                exact ⟨rfl, _, So.out, h3, h4, Fr.out⟩
          case rest =>
            clear j1 j2 j3
            obtain ⟨j1, j2, j3⟩ := hcut
            go_upto_region 18 with fail
            go_cut [83] from 19 (fun s83 wx => ∃ t : Bool, s83 = .bool t ∧ Aside0 (t = true → 0 < a1 ∧ beforeE dj2[a1 - 1]! dj2[q]! = false) ∧ So C wx dj2 ∧ Fr C w wx ∧ Blk wx w.heap.size (datC C) 162)
            case first =>
              by_cases ha0 : a1 = 0
              · have ha1 : decide (0 < (a1 : Int)) = false := decide_eq_false (by omega)
                have ha2 : decide (0 < a1) = false := decide_eq_false (by omega)
                go_wp2_with fail
                go_meet
                case rel => exact ⟨false, rfl, ⟨fun h => by cases h⟩, j1, j2, j3⟩
              · have ha1 : decide (0 < (a1 : Int)) = true := decide_eq_true (by omega)
                have ha2 : decide (0 < a1) = true := decide_eq_true (by omega)
                go_wp2_with (first | (go_at_call 142; refine (less_ex So.out _ _ (a1 - 1) q (by omega) rfl (by omega) (by omega)).mono ?_; rintro e w3 ⟨lb, rfl, hlb, hb⟩; have jb := Bel.mk hb; have HL := Aside0.mk hlb; clear hb hlb; cases lb))
                · go_meet
                  exact ⟨true, rfl, ⟨fun _ => ⟨by omega, HL.out⟩⟩, inferInstance, inferInstance, inferInstance⟩
                · go_meet
                  exact ⟨false, rfl, ⟨fun h => by cases h⟩, inferInstance, inferInstance, inferInstance⟩
            case rest =>
              clear j1 j2 j3
              obtain ⟨t, rfl, HT, j1, j2, j3⟩ := hcut
              have hsz2 : b1 ≤ dj2.size := by rw [HS.out.1, hds]; omega
              have HB2 := Aside0.mk (Below.perm HB.out (by rw [hds]; omega) HS.out)
              cases t
              · go_upto_if 109 with (go_at_call 169; refine (partition_at So.out a1 b1 q _ rfl (by omega) (by omega) (by omega)).mono ?_; rintro e w3 ⟨mid, ap, D2, hx, rfl, hs, hg⟩; have k1 := So.mk hs; have k2 := Gb.mk hg; obtain ⟨r1, r2, r3, r4, r5, r6, r7⟩ := round_part swo_beforeE (partition_holds beforeE) hq1 hq2 hsz2 HB2.out hx; have R4 := Aside0.mk r4; have R5 := Aside0.mk r5; have R6 := Aside0.mk r6; have R7 := Aside0.mk r7; clear hs hg hx r3 r4 r5 r6 r7)
                by_cases h4 : mid - a1 < b1 - mid
                · have h4z : decide ((mid : Int) - (a1 : Int) < (b1 : Int) - (mid : Int)) = true := decide_eq_true (by omega)
                  go_wp2_with (first | (go_at_call 149; refine (IH.out _ _ So.out a1 mid l2 (by omega) (by omega) (by omega) (by omega) R4.out _ _ _ rfl rfl rfl).mono ?_; rintro e w4 ⟨rfl, L, hs, hp, hso, hg⟩; have k3 := So.mk hs; have k4 := Gb.mk hg; obtain ⟨u1, u2⟩ := R6.out L hp hso; have U1 := Aside0.mk u1; have U2 := Aside0.mk u2; clear hs hp hso hg u1 u2))
                  go_roundg (b1 - (mid + 1))
                  case measure => omega
                  case rel => exact ⟨mid + 1, b1, l2, _, ap, L, by first | rfl | go_num, rfl, rfl, rfl, rfl, ⟨⟨by omega, by omega, by omega, by omega, by omega⟩⟩, U1, ⟨fun R g1 g2 => by obtain ⟨g3, g4⟩ := U2.out R g1 g2; exact HR.out R (permIn_trans _ _ _ _ _ HS.out g3) g4⟩, inferInstance, inferInstance, inferInstance⟩
                · have h4z : decide ((mid : Int) - (a1 : Int) < (b1 : Int) - (mid : Int)) = false := decide_eq_false (by omega)
                  go_wp2_with (first | (go_at_call 149; refine (IH.out _ _ So.out (mid + 1) b1 l2 (by omega) (by omega) (by omega) (by omega) R5.out _ _ _ (by omega) rfl rfl).mono ?_; rintro e w4 ⟨rfl, L, hs, hp, hso, hg⟩; have k3 := So.mk hs; have k4 := Gb.mk hg; obtain ⟨u1, u2⟩ := R7.out L hp hso; have U1 := Aside0.mk u1; have U2 := Aside0.mk u2; clear hs hp hso hg u1 u2))
                  go_roundg (mid - a1)
                  case measure => omega
                  case rel => exact ⟨a1, mid, l2, _, ap, L, rfl, rfl, rfl, rfl, rfl, ⟨⟨by omega, by omega, by omega, by omega, by omega⟩⟩, U1, ⟨fun R g1 g2 => by obtain ⟨g3, g4⟩ := U2.out R g1 g2; exact HR.out R (permIn_trans _ _ _ _ _ HS.out g3) g4⟩, inferInstance, inferInstance, inferInstance⟩
              · obtain ⟨ha0, hnl⟩ := HT.out rfl
                have HNL := Aside0.mk hnl
                clear hnl
                go_wp2_with (first | (go_at_call 168; refine (partitionEqual_at So.out a1 b1 q _ rfl (by omega) (by omega) (by omega)).mono ?_; rintro e w3 ⟨mid, D2, hx, rfl, hs, hg⟩; have k1 := So.mk hs; have k2 := Gb.mk hg; obtain ⟨r1, r2, r3, r4, r5⟩ := round_eq swo_beforeE (partitionEqual_holds beforeE) ha0 hq1 hq2 hsz2 HB2.out HNL.out hx; have R4 := Aside0.mk r4; have R5 := Aside0.mk r5; clear hs hg hx r3 r4 r5))
                go_roundg (b1 - mid)
                case measure => omega
                case rel => exact ⟨mid, b1, l2, wb, wp, D2, rfl, rfl, rfl, rfl, rfl, ⟨⟨by omega, by omega, by omega, by omega, by omega⟩⟩, R4, ⟨fun R g1 g2 => by obtain ⟨g3, g4⟩ := R5.out R g1 g2; exact HR.out R (permIn_trans _ _ _ _ _ HS.out g3) g4⟩, inferInstance, inferInstance, inferInstance⟩
theorem pdq_all (C : SoC) [SoG C] : ∀ N, PdqOk C N
  | 0 => fun _ _ _ _ _ _ h => absurd h (Nat.not_lt_zero _)
  | N + 1 => pdq_step C N (pdq_all C N)
end Go.Proofs.YtanhnhkcpbdfmaaGreat.S
namespace Go.Proofs.YtanhnhkcpbdfmaaGreat.S
open Go.RowKit Go.Sort Go.Lib Go.Proofs.YtanhnhkcpbdfmaaGreat.P Go.Proofs.YtanhnhkcpbdfmaaGreat.Q Go.Proofs.YtanhnhkcpbdfmaaGreat.V Go.Proofs.YtanhnhkcpbdfmaaGreatW.PrintWords
theorem plain4 : Plain k104 enc4 where
  len := fun _ => rfl
  pos := by decide
  of := fun {w base ok x cs} h => by
    obtain ⟨c0, c1, rfl, ⟨d0, d1, rfl, h0, h1⟩, e0, e1, rfl, h2, h3⟩ := h
    rw [h0, h1, h2, h3]
    rfl
  make := fun w base ok x => k104_mkM w base ok x
theorem R_of_so {C : SoC} {w w' : World} {base : Nat} {ok : Nat → Prop} {xs : List E} {D : Array E} (h : k104.R 104 w base ok (.slice (some ⟨C.g, 0, none⟩) xs.length C.c) xs) (hs : SoAt C w' D) (hn : xs.length = C.n) :
    k104.R 104 w' base ok (.slice (some ⟨C.g, 0, none⟩) xs.length C.c) D.toList := by
  obtain ⟨hok, inner, ho, hr⟩ := h
  rcases ho.2 with ⟨hn', _⟩ | ⟨g', cap', cur0, hv, hg, hh, hle, hmx, hcs, htk⟩
  · simp at hn'
  obtain ⟨e1, e2⟩ : C.g = g' ∧ C.c = cap' := by simpa using hv
  subst e1 e2
  obtain ⟨cur, hc, hcz⟩ := hs.shape
  have hD : D.size = xs.length := by rw [hs.size, hn]
  have hat : ∀ i, i < D.size → (cur.toList.drop (i * 4)).take 4 = enc4 D[i]! := by
    intro i hi
    obtain ⟨a0, a1, a2, a3⟩ := hs.at_ i (by rw [← hs.size]; exact hi)
    have e0 := (blk_cell hc (i * 4)).symm.trans a0
    have e1 := (blk_cell hc (i * 4 + 1)).symm.trans a1
    have e2 := (blk_cell hc (i * 4 + 2)).symm.trans a2
    have e3 := (blk_cell hc (i * 4 + 3)).symm.trans a3
    refine List.ext_getElem? fun c => ?_
    by_cases hc4 : c < 4
    · rw [chunk_at hc4, Array.getElem?_toList]
      rcases c with _ | _ | _ | _ | c
      · exact e0
      · exact e1
      · exact e2
      · exact e3
      · omega
    · rw [List.getElem?_eq_none (by rw [List.length_take]; omega), List.getElem?_eq_none (by show (enc4 D[i]!).length ≤ c; rw [enc4_len]; omega)]
  have hlen : D.toList.length = xs.length := by simpa using hD
  have hln : (cur.toList.take (xs.length * 4)).length = xs.length * 4 := by
    have hcl : cur.toList.length = C.c * 4 := by simpa using hcz
    rw [List.length_take, hcl]
    exact Nat.min_eq_left (Nat.mul_le_mul_right 4 hle)
  refine ⟨hok, cur.toList.take (xs.length * 4), ⟨?_, .inr ⟨C.g, C.c, cur, by rw [hlen], hg, hc, by rw [hlen]; exact hle, hmx, hcz, by rw [hlen]; rfl⟩⟩, ?_, fun i x hx => ?_⟩
  · rw [hlen]; exact hln
  · rw [hlen]; exact hln
  · have hi : i < D.size := by have := (List.getElem?_eq_some_iff.1 hx).1; simpa using this
    have hxi : D[i]! = x := by
      have := (List.getElem?_eq_some_iff.1 hx).2
      rw [getElem!_pos D i hi]
      simpa using this
    have e : ((cur.toList.take (xs.length * 4)).drop (i * 4)).take 4 = enc4 x := by
      rw [List.drop_take, List.take_take, Nat.min_eq_left (by rw [← hD]; omega), hat i hi, hxi]
    show k104.M w' base _ x (((cur.toList.take (xs.length * 4)).drop (i * 4)).take 4)
    rw [e]
    exact plain4.make _ _ _ _
noncomputable def svT : TypeInfo := (Tryz.prog.info? 35).get (by kernel_rfl)
noncomputable def svE : TypeInfo := (Tryz.prog.info? 104).get (by kernel_rfl)
theorem svK (n : Nat) (h2 : 2 ≤ n) : Lib.swapperK n svE 25 = 9 := by
  have a : svE.hasPointers = false := by kernel_rfl
  have b : svE.bytes = 32 := by kernel_rfl
  have c : (n == 0) = false := by simp; omega
  have d : (n == 1) = false := by simp; omega
  simp [Lib.swapperK, a, b, c, d]
theorem sort_entries (w : World) (g cap bs base : Nat) (ok : Nat → Prop) (xs : List E) (hR : k104.R 104 w base ok (.slice (some ⟨g, 0, none⟩) xs.length cap) xs) (hB : w.heap[bs]? = some (.cells #[.slice (some ⟨g, 0, none⟩) xs.length cap] 35 (0, 0)))
    (hne : bs ≠ g) (h2 : 2 ≤ xs.length) (h50 : xs.length < 50) (hf : ∀ x ∈ xs, Ftd x) :
    Calls Tryz.prog 141 #[.iface 35 (.slice (some ⟨g, 0, none⟩) xs.length cap), .func (.func 142) #[] #[.pointer (some ⟨bs, 0, none⟩)]] w fun e w' => e = .returned (.tuple #[]) ∧
      ∃ D : Array E, PermIn 0 xs.length xs.toArray D ∧ SortedIn beforeE 0 xs.length D ∧ k104.R 104 w' base ok (.slice (some ⟨g, 0, none⟩) xs.length cap) D.toList ∧ w.grownBy w' (some g) := by
  refine Any.sort_Slice_of_pdq sv6 35 104 svT svE (by kernel_rfl) (by kernel_rfl) (by kernel_rfl) (by kernel_rfl) 25 (fun _ => by kernel_rfl) _ xs.length cap (by omega) 159 (by rw [svK _ h2]; kernel_rfl) _ _ _ w _ ?_
  have hbd : sliceBound Tryz.prog 104 svE 25 (some ⟨g, 0, none⟩) xs.length cap = #[.slice (some ⟨g, 0, none⟩) xs.length cap, typeHandle Tryz.prog 104] := by
    unfold sliceBound
    rw [if_neg (swapperK_gt _ _ _ h2)]
  rw [hbd]
  let C : SoC := ⟨g, bs, xs.length, cap, #[.pointer (some ⟨bs, 0, none⟩)], #[.slice (some ⟨g, 0, none⟩) xs.length cap, typeHandle Tryz.prog 104]⟩
  haveI : SoG C := ⟨swapSwapsK_of_literal false 159 (fun args W => run_callFunc_extern Tryz.func159 (by kernel_rfl) (by kernel_rfl) (by kernel_rfl) (e := Extern.ReflectliteSwapper.swap false) (by kernel_rfl) args W) 104 svE (by kernel_rfl) enc4 4 (fun _ => rfl) (by kernel_rfl) (fun _ => by kernel_rfl) (fun x v hv => by simp [enc4] at hv; rcases hv with rfl | rfl | rfl | rfl <;> rfl) g 0 xs.length cap, h50, rfl, hne⟩
  have h0 : SoAt C w xs.toArray := by
    have hR0 := hR
    obtain ⟨_, inner, ho, _⟩ := hR0
    rcases ho.2 with ⟨hn', _⟩ | ⟨g', cap', cur0, hv, hg, hh, hle, hmx, hcs, htk⟩
    · simp at hn'
    obtain ⟨e1, e2⟩ : g = g' ∧ cap = cap' := by simpa using hv
    subst e1 e2
    exact ⟨holds_of_R plain4 hR, by simp [C], hB, blk_lt hh, ⟨cur0, hh, hcs⟩, fun x hx => hf x (by simpa using hx)⟩
  have hbl : RowKit.Below w.heap.size w (sliceWorld Tryz.prog sv6_ren 35 (some ⟨g, 0, none⟩) xs.length cap w) := below_alloc (below_alloc (RowKit.Below.refl _ _) _) _
  have h1 := h0.below hbl
  have hbit : Lib.bitLen xs.length ≤ 62 := Lib.bitLen_le xs.length 62 (by omega) (by omega)
  have := pdq_all C (xs.length + 1) _ _ h1 0 xs.length (Lib.bitLen xs.length) (by omega) (by omega) (Nat.le_refl _) (by omega) (.inl rfl) _ _ _ rfl rfl rfl
  refine this.mono ?_
  rintro e w' ⟨he, D, hs, hp, hso, hg⟩
  exact ⟨he, D, hp, hso, R_of_so (C := C) hR hs rfl, grownBy_trans (grownBy_below hbl) hg⟩
theorem sort_tiny (w : World) (A : Option Addr) (n cap bs : Nat) (h1 : n ≤ 1) :
    Calls Tryz.prog 141 #[.iface 35 (.slice A n cap), .func (.func 142) #[] #[.pointer (some ⟨bs, 0, none⟩)]] w fun e w' => e = .returned (.tuple #[]) ∧ RowKit.Below w.heap.size w w' := by
  have hK : n = 0 ∨ n = 1 := by omega
  have a : svE.hasPointers = false := by kernel_rfl
  have b : svE.bytes = 32 := by kernel_rfl
  have key : ∀ f, Tryz.prog.funcs.findIdx? (·.name == "internal/reflectlite" ++ ".Swapper$" ++ toString (swapperK n svE 25)) = some f → Calls Tryz.prog 141 #[.iface 35 (.slice A n cap), .func (.func 142) #[] #[.pointer (some ⟨bs, 0, none⟩)]] w fun e w' => e = .returned (.tuple #[]) ∧ RowKit.Below w.heap.size w w' := by
    intro f hf
    refine (Any.sort_Slice_tiny sv6 35 104 svT svE (by kernel_rfl) (by kernel_rfl) (by kernel_rfl) (by kernel_rfl) 25 (fun _ => by kernel_rfl) A n cap h1 f hf _ _ _ w).mono ?_
    rintro e w' ⟨he, os, rfl⟩
    exact ⟨he, rfl, rfl, rfl, by simp, fun k hk => heap_grow_old _ _ hk⟩
  rcases hK with rfl | rfl
  · exact key 151 (by rw [show swapperK 0 svE 25 = 1 from rfl]; kernel_rfl)
  · exact key 152 (by rw [show swapperK 1 svE 25 = 2 from rfl]; kernel_rfl)
end Go.Proofs.YtanhnhkcpbdfmaaGreat.S
namespace Go.Proofs.YtanhnhkcpbdfmaaGreat.P
open Go.RowKit Go.Proofs.YtanhnhkcpbdfmaaGreatW.PrintWords Go.Proofs.YtanhnhkcpbdfmaaGreatW.PrintLast Go.Proofs.YtanhnhkcpbdfmaaGreatW.PrintMore Go.Proofs.YtanhnhkcpbdfmaaGreat.V
open Go.Maps (Keyed)
attribute [local go_sem] cell_b frozen_b
set_option maxHeartbeats 8000000 in
set_option maxRecDepth 100000 in
set_option synthInstance.maxHeartbeats 400000 in
set_option synthInstance.maxSize 100000 in
theorem impl_OpenFaults.calls_ok (k : Nat) (A0 : Option Addr) (c0 : Nat) (l0 : List (S104)) (w : World) (hr0 : Kd.C k104 w A0 l0.length l0) (hc0 : l0.length ≤ c0) (A : impl_LogOk.f k l0 = some true) (hl30 : l0.length ≤ 30) (hw : ∀ x ∈ l0, wf64 x.f0.f0 ∧ wf64 x.f0.f1) (hfl : ∀ x ∈ l0, 0 ≤ x.f1 ∧ x.f1 ≤ 2) :
    Calls Tryz.prog 132 #[.slice A0 l0.length c0] w fun e w' => ∃ v0_ : Value, e = .returned (v0_) ∧ Kd.R k104 104 w' w.heap.size (fun _ => True) v0_ (Q.openUp l0 l0.length) ∧ Below w.heap.size w w' := by
  have hl : l0.length ≤ 1000 := by omega
  have HFL := Aside0.mk hfl
  clear hfl
  have i0 := RdE.mk hr0
  have i1 := LeI.mk hc0
  have A := Aside0.mk A
  have HW := Aside0.mk hw
  clear hr0 hc0 hw
  have hu74 := Tryz.underlying104
  have hu56 := Tryz.underlying74
  go_enter Tryz.func132, Tryz.ntmps132
  go_wp2_with (first
    | (go_at_call 77; refine (impl_LogOk.calls k _ _ _ true _ Rd.out LeI.out A.out).mono ?_; rintro e w2 ⟨rfl, hb⟩; have jb := Bel.mk hb; clear hb)
    | (go_at_call 92; refine (impl_lastOf.calls _ _ _ _ Rd.out LeI.out hl HW.out).mono ?_; rintro e w3 ⟨b, rfl, hb1, hm, hb⟩; obtain ⟨D, hD, hD2⟩ := hm; have jb := Bel.mk hb; have HD := Aside0.mk hD; have HD2 := Aside0.mk hD2; have HB1 := Aside0.mk hb1; clear hb hb1 hD hD2)
    | (at_range; refine wpList_range_own _ rfl _ 114 rfl 74 104 pipeKeyed Tryz.underlying114 pipeR b l0.length D rfl HD.out ?_; intro w4 hrg hg hs; have HRG := Aside0.mk hrg; have HG := Aside0.mk hg; have HS := Aside0.mk hs; clear hrg hg hs))
  go_frame
  have HNE := Aside0.mk (HRG.out.ne)
  have HSZ := Aside0.mk (HD.out.size_le)
  have HLB := Aside0.mk (HD.out.lt)
  have HGB : Aside0 (w2.heap.size + 2 ≤ w3.heap.size) := ⟨by have hs := (Bel.out (W := w3)).size; simpa using hs⟩
  have HGM : Aside0 (w2.heap.size + 2 ≤ b) := ⟨by have := HB1.out; simpa using this⟩
  have HGW : Aside0 (w.heap.size ≤ w2.heap.size) := ⟨Sz.out⟩
  have HB0 : Aside0 (Below w.heap.size w w4) := ⟨(From.out : Below w.heap.size w w3).grown HG.out (Sz.out : w.heap.size ≤ w3.heap.size) (fun k hk => by cases hk)⟩
  have HBX : Aside0 (w4.heap[w2.heap.size + 1]? = some (.cells #[.slice (some ⟨w2.heap.size, 0, none⟩) 0 0] 35 (0, 0))) := ⟨by
    have h3 : Blk w3 (w2.heap.size + 1) #[.slice (some ⟨w2.heap.size, 0, none⟩) 0 0] 35 := ⟨blk_below (by have := blk_new (w2.alloc (.cells #[] 104 (0, 0))) (.cells #[.slice (some ⟨w2.heap.size, 0, none⟩) 0 0] 35 (0, 0)); simpa using this) (Bel.out (W := w3))⟩
    exact (HG.out.block _ (blk_lt h3.out) (by simp)).trans h3.out⟩
  have HRW : Aside0 (Kd.R k104 104 w4 w.heap.size (fun j => j ≠ w2.heap.size + 1 ∧ j ≠ b ∧ j ≠ w3.heap.size) (.slice (some ⟨w2.heap.size, 0, none⟩) 0 0) []) := ⟨by
    have h3 : Blk w3 w2.heap.size #[] 104 := ⟨blk_below (blk_alloc (blk_new w2 (.cells #[] 104 (0, 0))) (.cells #[.slice (some ⟨w2.heap.size, 0, none⟩) 0 0] 35 (0, 0))) (Bel.out (W := w3))⟩
    have h4 : w4.heap[w2.heap.size]? = some (.cells #[] 104 (0, 0)) := (HG.out.block _ (blk_lt h3.out) (by simp)).trans h3.out
    refine ⟨fun k hk => ?_, [], ⟨rfl, .inr ⟨w2.heap.size, 0, #[], rfl, HGW.out, h4, Nat.le_refl _, Nat.zero_le _, rfl, rfl⟩⟩, Reps.none _ _⟩
    obtain rfl : w2.heap.size = k := by simpa [Value.ownBlock] using hk
    exact ⟨by omega, by have := HGM.out; omega, by have := HGB.out; omega⟩⟩
  have HF0 : Aside0 (Found (lastMap l0) (Maps.has D) []) := ⟨⟨fun x hx => by simp at hx, List.Pairwise.nil, fun p x h0 h1 hm hx hf => by
    have e1 := Maps.atKey_of_not_has hf (.map [])
    have e2 := HD2.out.at_ p h0 h1 (.map [])
    rw [hm] at e2
    exact absurd (e1.symm.trans e2) (by simp [quadD])⟩⟩
  go_loopg [] (Maps.size D + 1) (fun kq wr => ∃ (left : Lit → Bool) (cnt : Nat) (v : Value) (xs : List S104), Aside0 (kq = cnt + 1) ∧ Aside0 (xs.length + cnt ≤ Maps.size D) ∧ Aside0 (wr.ranges Tryz.prog 74 pipeR b w3.heap.size l0.length D left cnt) ∧ Aside0 (Found (lastMap l0) left xs) ∧ Aside0 (Kd.R k104 104 wr w.heap.size (fun j => j ≠ w2.heap.size + 1 ∧ j ≠ b ∧ j ≠ w3.heap.size) v xs) ∧ Aside0 (wr.heap[w2.heap.size + 1]? = some (.cells #[v] 35 (0, 0))) ∧ Aside0 (Below w.heap.size w wr))
  case atStart => exact ⟨_, _, _, [], ⟨rfl⟩, ⟨by simp⟩, HRG, HF0, HRW, HBX, HB0⟩
  case round =>
    clear HRG HF0 HRW HBX HB0 HG
    obtain ⟨left, cnt, v, xs, HK, HN, HRG, HF, HR, HBX, HB⟩ := hrel
    go_wp2_with (first
      | (at_next; refine wpList_next_ranges _ rfl _ rfl 74 pipeKeyed pipeR (fun p : S74 => pairV p.f0 p.f1) quadV (fun key kl h => by obtain ⟨a, b, rfl, _⟩ := keyOf_pipe_inv h; exact ⟨⟨a, b⟩, rfl⟩) (fun v y h => by obtain ⟨x, rfl, _⟩ := pipeR_inv h; exact ⟨x, rfl⟩) b w3.heap.size l0.length D left cnt rfl HRG.out ?_ ?_))
    rotate_left
    · intro p c kl y1 y2 w5 cnt1 hk hlk hv hat hrg1 hlt hg1 hs1 hen
      obtain ⟨p0, p1⟩ : wf64 p.f0 ∧ wf64 p.f1 := by
        obtain ⟨a, b', e, ha, hb⟩ := keyOf_pipe_inv hk
        simp [pairV] at e
        rw [e.1, e.2]
        exact ⟨ha, hb⟩
      obtain rfl : kl = pipeL p.f0 p.f1 := Option.some.inj (hk.symm.trans (keyOf_pipe p0 p1))
      obtain ⟨rfl, rfl⟩ : y1 = quadD c ∧ y2 = [] := by
        have := (pipeR_mk c).symm.trans hv
        simp at this
        exact ⟨this.1.symm, this.2⟩
      have hm := mapIs_key HD2.out p0 p1 hat
      obtain rfl : c.f0 = p := by
        have := (Q.lastMap_iff l0 p c l0.length (Nat.le_refl _)).mp (by rw [List.take_length]; exact hm)
        obtain ⟨_, _, _, e, _⟩ := this
        exact e
      have HST := Aside0.mk (HF.out.step c p0 p1 hm hlk)
      have HRG1 := Aside0.mk hrg1
      have HLT := Aside0.mk hlt
      have HG1 := Aside0.mk hg1
      have HS1 := Aside0.mk hs1
      clear hk hlk hv hat hrg1 hlt hg1 hs1 hm HF HRG
      simp only [pairV, quadV] at hen ⊢
      have HR1 := Aside0.mk (Kd.R_grown HR.out HG1.out (fun j hj e => hj.2.2 (Option.some.inj e)))
      have HBX1 : Aside0 (w5.heap[w2.heap.size + 1]? = some (.cells #[v] 35 (0, 0))) := ⟨(HG1.out.block _ (blk_lt HBX.out) (fun e => by have := HGB.out; have := Option.some.inj e; omega)).trans HBX.out⟩
      have HB1 : Aside0 (Below w.heap.size w w5) := ⟨HB.out.grown HG1.out HB.out.size (fun k hk => by cases hk; have := HGB.out; have := HGW.out; omega)⟩
      have jx := Blk.mk HBX1.out
      have HE := Aside0.mk (show (if c.f1 ≠ 0 then xs ++ [c] else xs) = (if c.f1 ≠ 0 then xs ++ [c] else xs) from rfl)
      clear HR HBX HB
      by_cases hc : c.f1 = 0
      · rw [if_neg (by simpa using hc)] at HST
        obtain ⟨ck, c1, c2⟩ := c
        simp only at hc
        subst hc
        simp only at hen ⊢
        go_wp2
        go_roundg (cnt1 + 1)
        case measure => have := HK.out; have := HLT.out; omega
        case rel =>
          refine ⟨_, cnt1, v, xs, ⟨rfl⟩, ⟨by have := HN.out; have := HLT.out; omega⟩, ⟨HRG1.out.alloc _⟩, HST, ⟨Kd.R_alloc HR1.out _⟩, ⟨blk_alloc HBX1.out _⟩, ⟨below_alloc HB1.out _⟩⟩
      · rw [if_pos hc] at HST
        have hd := beq_eq_false_iff_ne.mpr hc
        have he := bne_iff_ne.mpr hc
        go_upto_region 8 with (fail)
        generalize hW : w5.alloc _ = W
        have HR7 : Aside0 (Kd.R k104 104 W w.heap.size (fun j => j ≠ w2.heap.size + 1 ∧ j ≠ b ∧ j ≠ w3.heap.size) v xs) := ⟨by rw [← hW]; exact Kd.R_alloc HR1.out _⟩
        have HBX7 : Aside0 (W.heap[w2.heap.size + 1]? = some (.cells #[v] 35 (0, 0))) := ⟨by rw [← hW]; exact blk_alloc HBX1.out _⟩
        have HB7 : Aside0 (Below w.heap.size w W) := ⟨by rw [← hW]; exact below_alloc HB1.out _⟩
        have HRG7 : Aside0 (W.ranges Tryz.prog 74 pipeR b w3.heap.size l0.length D _ cnt1) := ⟨by rw [← hW]; exact HRG1.out.alloc _⟩
        have HSZ7 : Aside0 (w3.heap.size + 1 ≤ W.heap.size) := ⟨HRG7.out.lt⟩
        have jE : Blk W w5.heap.size #[.int .i64 c.f0.f0, .int .i64 c.f0.f1, .int .i64 c.f1, .int .i64 c.f2] 104 := ⟨by rw [← hW]; exact blk_new w5 _⟩
        have jX := Blk.mk HBX7.out
        clear hW jx HR1 HBX1 HB1 HRG1
        go_wp2_with (first
          | (refine Kd.R_append k104 (w0 := w) w.heap.size rfl (.tmp 20) (.tmp 22) 35 104 (.agg #[(.int .i64 0), (.int .i64 0), (.int .i64 0), (.int .i64 0)]) 32 rfl Tryz.underlying35 info104 rfl (by decide) (by omega) v xs c [.int .i64 c.f0.f0, .int .i64 c.f0.f1, .int .i64 c.f1, .int .i64 c.f2] (fun j => j ≠ w2.heap.size + 1 ∧ j ≠ b ∧ j ≠ w3.heap.size) (fun _ => False) rfl rfl ?aP (fun _ hk => hk.elim) ?aF ?aO ?aB ?aS ?aL ?_; (case aP => exact k104_mkM _ _ _ c); (case aB => exact HB7.out); (case aF => intro j hj; have := HSZ7.out; have := HGB.out; have := HLB.out; exact ⟨by omega, by omega, by omega⟩); (case aO => exact HR7.out); (case aS => exact HB7.out.size); (case aL => have := HN.out; have := HSZ.out; omega); intro v1 w6 ho hb hg hat; obtain ⟨B1, b1, rfl⟩ := Kd.R_slice ho; have HO := Aside0.mk ho; have HB6 := Aside0.mk hb; have HG6 := Aside0.mk hg; have j6 : Blk w6 (w2.heap.size + 1) #[v] 35 := ⟨(HG6.out.block _ (blk_lt HBX7.out) (fun e => (HR7.out.1 _ e.symm).1 rfl)).trans HBX7.out⟩; clear ho hb hg))
        go_roundg (cnt1 + 1)
        case measure => have := HK.out; have := HLT.out; omega
        case rel =>
          refine ⟨_, cnt1, .slice B1 (xs.length + 1) b1, xs ++ [c], ⟨rfl⟩, ⟨by have := HN.out; have := HLT.out; simp only [List.length_append, List.length_singleton]; omega⟩, ⟨?_⟩, HST, ⟨?_⟩, ⟨?_⟩, ⟨?_⟩⟩
          · refine World.ranges.kept (HRG7.out.kept HG6.out (fun e => (HR7.out.1 _ e.symm).2.1 rfl) (fun e => (HR7.out.1 _ e.symm).2.2 rfl)) (grownBy_setCell' w6 _ _) (fun e => ?_) (fun e => ?_)
            · have := HGM.out; have := Option.some.inj e; omega
            · have := HGB.out; have := Option.some.inj e; omega
          · refine Kd.R_far (by simpa using HO.out) (fun j hj => hj.1) _
          · exact blk_put j6.out 0 _ rfl
          · exact below_set HB6.out (by have := HGW.out; omega)
    · intro hc0 hl0
      have hall := HF.out.all
      have hnd : xs.Nodup := by
        refine HF.out.nodup.imp ?_
        intro p q h e
        exact h (by rw [e])
      have hmem : ∀ x, x ∈ xs ↔ lastMap l0 x.f0 = some x ∧ x.f1 ≠ 0 := fun x => ⟨fun hx => ⟨(hall x hx).1, (hall x hx).2.1⟩, fun hx => by
        have hin : x ∈ l0 := by
          have h9 := (Q.mem_open l0 x).mpr hx
          obtain ⟨i, _, _, h3⟩ := (Q.mem_openUp l0 x l0.length (Nat.le_refl _)).mp h9
          exact List.mem_of_getElem? h3
        exact HF.out.got x.f0 x (HW.out x hin).1 (HW.out x hin).2 hx.1 hx.2 (hl0 _)⟩
      have hin : ∀ x ∈ xs, x ∈ l0 := fun x hx => by
        have h9 := (Q.mem_open l0 x).mpr ((hmem x).mp hx)
        obtain ⟨i, _, _, h3⟩ := (Q.mem_openUp l0 x l0.length (Nat.le_refl _)).mp h9
        exact List.mem_of_getElem? h3
      have hft : ∀ x ∈ xs, S.Ftd x := fun x hx => by
        have h8 := HFL.out x (hin x hx)
        have h9 := ((hmem x).mp hx).2
        unfold S.Ftd
        omega
      have hfin : ∀ D' : Array S104, Sort.PermIn 0 xs.length xs.toArray D' → Sort.SortedIn Q.beforeE 0 xs.length D' → D'.toList = Q.openUp l0 l0.length := fun D' hp hs => by
        obtain ⟨h8, h9⟩ := sorted_pairwise (lt := Q.beforeE) (D := xs.toArray) (D' := D') (by simpa using hp) (by simpa using hs) (fun a _ c _ hne => Q.before_total hne) (by simpa using hnd)
        refine Q.open_unique l0 _ h9 fun x => ?_
        rw [h8.mem_iff]
        simpa using hmem x
      have hsmall : xs.length < 50 := by have := HN.out; have := HSZ.out; omega
      have HFT := Aside0.mk hft
      have HFIN := Aside0.mk hfin
      clear hall hnd hmem hin hft hfin HF HRG
      have jx := Blk.mk HBX.out
      by_cases h2 : 2 ≤ xs.length
      · obtain ⟨g, cap, rfl, hg1, hg2, _⟩ := Kd.R_form HR.out (by omega)
        have hne : w2.heap.size + 1 ≠ g := fun e => (HR.out.1 g (by simp [Value.ownBlock])).1 e.symm
        go_wp2_with (first
          | (go_at_call 141; refine (S.sort_entries wr g cap (w2.heap.size + 1) w.heap.size _ xs HR.out HBX.out hne h2 hsmall HFT.out).mono ?_; rintro e w9 ⟨rfl, D9, hp, hso, hR9, hg9⟩; have jx9 : Blk w9 (w2.heap.size + 1) #[.slice (some ⟨g, 0, none⟩) xs.length cap] 35 := ⟨(hg9.block _ (blk_lt HBX.out) (fun e => hne (Option.some.inj e))).trans HBX.out⟩; have H9 := Aside0.mk (HFIN.out D9 hp hso); have R9 := Aside0.mk hR9; have B9 : Aside0 (Below w.heap.size w w9) := ⟨HB.out.grown hg9 HB.out.size (fun k hk => by cases hk; exact hg1)⟩; clear hp hso hR9 hg9))
        go_ret
        refine ⟨_, rfl, ?_, B9.out⟩
        rw [← H9.out]
        exact Kd.R_mono R9.out (fun _ _ => trivial)
      · obtain ⟨A9, cap, rfl⟩ := Kd.R_slice HR.out
        go_wp2_with (first
          | (go_at_call 141; refine (S.sort_tiny wr A9 xs.length cap (w2.heap.size + 1) (by omega)).mono ?_; rintro e w9 ⟨rfl, hb9⟩; have jb9 := Bel.mk hb9; have R9 := Aside0.mk (Kd.R_below HR.out hb9); have B9 : Aside0 (Below w.heap.size w w9) := ⟨below_step HB.out hb9⟩; clear hb9))
        go_ret
        refine ⟨_, rfl, ?_, B9.out⟩
        have hp : Sort.PermIn 0 xs.length xs.toArray xs.toArray := Sort.permIn_refl _ _ _
        have hso : Sort.SortedIn Q.beforeE 0 xs.length xs.toArray := fun i j _ h1 h2 => by omega
        rw [← HFIN.out xs.toArray hp hso]
        exact Kd.R_mono R9.out (fun _ _ => trivial)
set_option maxHeartbeats 8000000 in
set_option maxRecDepth 100000 in
set_option synthInstance.maxHeartbeats 400000 in
set_option synthInstance.maxSize 100000 in
theorem impl_OpenFaults.calls_no (k : Nat) (A0 : Option Addr) (c0 : Nat) (l0 : List (S104)) (w : World) (hr0 : Kd.C k104 w A0 l0.length l0) (hc0 : l0.length ≤ c0) (A : impl_LogOk.f k l0 = some false) :
    Calls Tryz.prog 132 #[.slice A0 l0.length c0] w fun e w' => ∃ v0_ : Value, e = .returned (v0_) ∧ Kd.R k104 104 w' w.heap.size (fun _ => True) v0_ ([] : List S104) ∧ Below w.heap.size w w' := by
  have i0 := RdE.mk hr0
  have i1 := LeI.mk hc0
  have A := Aside0.mk A
  clear hr0 hc0
  go_enter Tryz.func132, Tryz.ntmps132
  go_wp2_with (first
    | (go_at_call 77; refine (impl_LogOk.calls k _ _ _ false _ Rd.out LeI.out A.out).mono ?_; rintro e w2 ⟨rfl, hb⟩; have jb := Bel.mk hb; clear hb))
  go_ret
  exact ⟨_, rfl, Kd.R_nil _ _ _ _ _, From.out⟩
end Go.Proofs.YtanhnhkcpbdfmaaGreat.P
namespace Go.Proofs.YtanhnhkcpbdfmaaGreat.P
open Go.RowKit Go.Proofs.YtanhnhkcpbdfmaaGreatW.PrintWords Go.Proofs.YtanhnhkcpbdfmaaGreatW.PrintLast Go.Proofs.YtanhnhkcpbdfmaaGreatW.PrintMore Go.Proofs.YtanhnhkcpbdfmaaGreat.V
attribute [local go_sem] cell_b frozen_b
attribute [local go_sem] max2_int min2_int max_two min_two max_three min_three max_four min_four
def impl_OpenFaults.f (l0 : List (S104)) : Option (List (S104)) := if l0.length ≤ 1048577 then some (if Q.logOk l0 = true then Q.openUp l0 l0.length else []) else none
theorem impl_OpenFaults.calls (A0 : Option Addr) (c0 : Nat) (l0 : List (S104)) (r : List (S104)) (w : World) (hr0 : Kd.C k104 w A0 l0.length l0) (hc0 : l0.length ≤ c0) (h : impl_OpenFaults.f l0 = some r) :
  Calls Tryz.prog 132 #[.slice A0 l0.length c0] w fun e w' => ∃ v0_ : Value, e = .returned (v0_) ∧ Kd.R k104 104 w' w.heap.size (fun _ => True) v0_ r ∧ Below w.heap.size w w' := by
 unfold impl_OpenFaults.f at h
 by_cases h0 : l0.length ≤ 1048577
 rotate_left
 ·rw [if_neg h0] at h; cases h
 rw [if_pos h0] at h
 obtain ⟨k, hk⟩ := Q.logOk_impl l0 h0
 have A := hk k (Nat.le_refl _)
 by_cases hb : Q.logOk l0 = true
 ·rw [if_pos hb] at h
  rw [hb] at A
  obtain ⟨h1, h2, h3⟩ := logOk_all hb
  obtain rfl := Option.some.inj h
  exact impl_OpenFaults.calls_ok k A0 c0 l0 w hr0 hc0 A h1 h2 h3
 ·rw [if_neg hb] at h
  rw [Bool.eq_false_iff.mpr hb] at A
  obtain rfl := Option.some.inj h
  exact impl_OpenFaults.calls_no k A0 c0 l0 w hr0 hc0 A
end Go.Proofs.YtanhnhkcpbdfmaaGreat.P
namespace Go.Proofs.YtanhnhkcpbdfmaaGreat.P
set_option maxHeartbeats 8000000
set_option maxRecDepth 100000
open Go.RowKit Go.Proofs.YtanhnhkcpbdfmaaGreatW.PrintWords Go.Proofs.YtanhnhkcpbdfmaaGreatW.PrintLast Go.Proofs.YtanhnhkcpbdfmaaGreatW.PrintMore
attribute [local go_sem] max2_int min2_int max_two min_two max_three min_three max_four min_four
def impl_NextRepair.f (l0 : List (S104)) : Option (Int × Int × Bool) := (impl_OpenFaults.f l0).bind fun t879 => (if (t879.length : Int) = 0 then (some (0, 0, false)) else (if 0 < (t879.length : Int) then (some ((rd_T104 t879 0).f0.f0, (rd_T104 t879 0).f0.f1, true)) else (none)))
theorem impl_NextRepair.calls (A0 : Option Addr) (c0 : Nat) (l0 : List (S104)) (r1 : Int) (r2 : Int) (r3 : Bool) (w : World) (hr0 : Kd.C k104 w A0 l0.length l0) (hc0 : l0.length ≤ c0) (h : impl_NextRepair.f l0 = some (r1, r2, r3)) :
  Calls Tryz.prog 110 #[.slice A0 l0.length c0] w fun e w' => e = .returned (.tuple #[.agg #[.int .i64 r1, .int .i64 r2], .bool r3]) ∧ Below w.heap.size w w' := by
 have hu74 := Tryz.underlying74
 have HR0 := A_ hr0
 have HC0 := A_ hc0
 clear hr0 hc0
 have HB := A_ (Below.refl w.heap.size w)
 have H : ((impl_OpenFaults.f l0).bind fun t879 => (if (t879.length : Int) = 0 then (some (0, 0, false)) else (if 0 < (t879.length : Int) then (some ((rd_T104 t879 0).f0.f0, (rd_T104 t879 0).f0.f1, true)) else (none)))) = some (r1, r2, r3) := h
 clear h
 replace H := Option.bind_eq_some_iff.mp H
 obtain ⟨t879, A20, H⟩ := H
 (try dsimp only at H)
 have A2 := A_ A20
 clear A20
 by_cases c3 : (t879.length : Int) = 0
 ·rw [if_pos c3] at H
  have c3b0 : ((t879.length : Int) == 0) = true := beq_iff_eq.mpr c3
  have c3b1 : ((t879.length : Int) != 0) = false := bne_eq_false_iff_eq.mpr c3
  clear c3
  simp only [Option.some.injEq, Prod.mk.injEq] at H
  obtain ⟨rfl, rfl, rfl⟩ := H
  go_enter Tryz.func110, Tryz.ntmps110
  go_wp2_with (first | ((with_reducible refine gate_dst (N := 2) rfl ?_); refine bX (N := 2) (cs := #[.int .i64 0, .int .i64 0]) (t := 74) ?_; intro gb878 hg w4 hbox hb; have n0_ := A_ (below_step (oB HB) hb); have n1_ := A_ (hbox); have n2_ := A_ ((by rw [hg]; exact (below_size (oB HB)) : w.heap.size ≤ gb878)); have n3_ := A_ ((by rw [hg]; exact (below_size (oB HB)) : w.heap.size ≤ gb878)); clear HB; have HB := n0_; have BK878 := n1_; have GW878 := n2_; have GE878 := n3_; clear n0_ n1_ n2_ n3_; clear hb hbox hg) | ((with_reducible refine gate_callee (f := 132) rfl ?_); refine gL (some 6) Tryz.func132 #[.slice A0 l0.length c0] ?_; (with_reducible refine (impl_OpenFaults.calls _ _ l0 t879 _ ?side1 ?side2 A2.out).mono ?_); (case side1 => exact oc_ HR0.out); (case side2 => exact HC0.out); rintro e w5 ⟨v880, rfl, ho0, hb⟩; refine ⟨_, rfl, ?_⟩; have n0_ := A_ (Kd.R_lower ho0 (below_size (oB HB))); have n1_ := A_ (bb BK878 hb); have n2_ := A_ (below_step (oB HB) hb); clear BK878; clear HB; have HO881 := n0_; have BK878 := n1_; have HB := n2_; clear n0_ n1_ n2_; (try clear hb); (try clear hb2); (try clear hk); (try clear hi); (try clear ho0); obtain ⟨Ao6, co6, eo6⟩ := Kd.R_slice HO881.out; subst eo6; have hcz7_0 := cz BK878 0; have hcz7_1 := cz BK878 1; have hfz7_0 := blk_frozen BK878.out 0; have hfz7_1 := blk_frozen BK878.out 1))
  refine bodyPost_ret (results_ct rfl _ _ gb878 74 #[.int .i64 0, .int .i64 0] (0, 0) _ rfl (by (with_reducible repeat (first | refine blk_drewN ?_ _ | refine blk_drew ?_ | refine blk_alloc ?_ _)); refine blk_put (cs := #[.int .i64 0, .int .i64 0]) ?_ 1 _ rfl; (with_reducible repeat (first | refine blk_drewN ?_ _ | refine blk_drew ?_ | refine blk_alloc ?_ _)); refine blk_put (cs := #[.int .i64 0, .int .i64 0]) ?_ 0 _ rfl; (with_reducible repeat (first | refine blk_drewN ?_ _ | refine blk_drew ?_ | refine blk_alloc ?_ _)); exact BK878.out) Tryz.underlying74 rfl (by kernel_rfl)) rfl ?_
  exact ⟨eR, oB HB⟩
 ·rw [if_neg c3] at H
  have c3b0 : ((t879.length : Int) == 0) = false := beq_eq_false_iff_ne.mpr c3
  have c3b1 : ((t879.length : Int) != 0) = true := bne_iff_ne.mpr c3
  have c3b2 : ¬ (t879 = []) := fun h_ => c3 (by rw [h_]; rfl)
  by_cases c8 : 0 < (t879.length : Int)
  ·rw [if_pos c8] at H
   have c8b0 : decide (0 < (t879.length : Int)) = true := decide_eq_true c8
   have c8b1 : decide (0 < t879.length) = true := decide_eq_true (by omega)
   clear c8
   simp only [Option.some.injEq, Prod.mk.injEq] at H
   obtain ⟨rfl, rfl, rfl⟩ := H
   go_enter Tryz.func110, Tryz.ntmps110
   go_wp2_with (first | ((with_reducible refine gate_dst (N := 2) rfl ?_); refine bX (N := 2) (cs := #[.int .i64 0, .int .i64 0]) (t := 74) ?_; intro gb878 hg w9 hbox hb; have n0_ := A_ (below_step (oB HB) hb); have n1_ := A_ (hbox); have n2_ := A_ ((by rw [hg]; exact (below_size (oB HB)) : w.heap.size ≤ gb878)); have n3_ := A_ ((by rw [hg]; exact (below_size (oB HB)) : w.heap.size ≤ gb878)); clear HB; have HB := n0_; have BK878 := n1_; have GW878 := n2_; have GE878 := n3_; clear n0_ n1_ n2_ n3_; clear hb hbox hg) | ((with_reducible refine gate_callee (f := 132) rfl ?_); refine gL (some 6) Tryz.func132 #[.slice A0 l0.length c0] ?_; (with_reducible refine (impl_OpenFaults.calls _ _ l0 t879 _ ?side1 ?side2 A2.out).mono ?_); (case side1 => exact oc_ HR0.out); (case side2 => exact HC0.out); rintro e w10 ⟨v880, rfl, ho0, hb⟩; refine ⟨_, rfl, ?_⟩; have n0_ := A_ (Kd.R_lower ho0 (below_size (oB HB))); have n1_ := A_ (bb BK878 hb); have n2_ := A_ (below_step (oB HB) hb); clear BK878; clear HB; have HO881 := n0_; have BK878 := n1_; have HB := n2_; clear n0_ n1_ n2_; (try clear hb); (try clear hb2); (try clear hk); (try clear hi); (try clear ho0); obtain ⟨Ao11, co11, eo11⟩ := Kd.R_slice HO881.out; subst eo11; have p882 : 0 ≤ (0 : Int) := (by omega); have q882 : 0 < (t879.length : Int) := oD; obtain ⟨ad882, e882, hx882_0, hx882_1, hx882_2, hx882_3⟩ := at_T104 (Kd.R_reads' HO881.out).2.2 0 p882 q882; cases e882; have qi882 : (0 < t879.length) = True := eq_true (by omega); (try rw [show ((0 : Int)).toNat = 0 from rfl] at hx882_0); (try rw [show 0 * 4 = 0 from rfl] at hx882_0); (try rw [Addr.add_zero'] at hx882_0); (try rw [show ((0 : Int)).toNat = 0 from rfl] at hx882_1); (try rw [show 0 * 4 = 0 from rfl] at hx882_1); (try rw [Addr.add_zero'] at hx882_1); (try rw [show ((0 : Int)).toNat = 0 from rfl] at hx882_2); (try rw [show 0 * 4 = 0 from rfl] at hx882_2); (try rw [Addr.add_zero'] at hx882_2); (try rw [show ((0 : Int)).toNat = 0 from rfl] at hx882_3); (try rw [show 0 * 4 = 0 from rfl] at hx882_3); (try rw [Addr.add_zero'] at hx882_3); replace p882 := eq_true p882; replace q882 := eq_true q882; have hcz12_0 := cz BK878 0; have hcz12_1 := cz BK878 1; have hfz12_0 := blk_frozen BK878.out 0; have hfz12_1 := blk_frozen BK878.out 1))
   refine bodyPost_ret (results_ct rfl _ _ gb878 74 #[.int .i64 ((rd_T104 t879 0).f0.f0), .int .i64 ((rd_T104 t879 0).f0.f1)] (0, 0) _ rfl (by (with_reducible repeat (first | refine blk_drewN ?_ _ | refine blk_drew ?_ | refine blk_alloc ?_ _)); refine blk_put (cs := #[.int .i64 ((rd_T104 t879 0).f0.f0), .int .i64 0]) ?_ 1 _ rfl; (with_reducible repeat (first | refine blk_drewN ?_ _ | refine blk_drew ?_ | refine blk_alloc ?_ _)); refine blk_put (cs := #[.int .i64 0, .int .i64 0]) ?_ 0 _ rfl; (with_reducible repeat (first | refine blk_drewN ?_ _ | refine blk_drew ?_ | refine blk_alloc ?_ _)); exact BK878.out) Tryz.underlying74 rfl (by kernel_rfl)) rfl ?_
   exact ⟨eR, oB HB⟩
  ·rw [if_neg c8] at H
   exact absurd H (by simp)
end Go.Proofs.YtanhnhkcpbdfmaaGreat.P
namespace Go.Proofs.YtanhnhkcpbdfmaaGreat.P
set_option maxHeartbeats 8000000
set_option maxRecDepth 100000
set_option synthInstance.maxHeartbeats 400000
set_option synthInstance.maxSize 100000
open Go.RowKit Go.Proofs.YtanhnhkcpbdfmaaGreatW.PrintWords Go.Proofs.YtanhnhkcpbdfmaaGreatW.PrintLast Go.Proofs.YtanhnhkcpbdfmaaGreatW.PrintMore Go.Proofs.YtanhnhkcpbdfmaaGreat.V
attribute [local go_sem] cell_b frozen_b
attribute [local go_sem] max2_int min2_int max_two min_two max_three min_three max_four min_four
def impl_RepairNext.f (k : Nat) (l0 : List (S104)) (a1 : Int) : Option ((List (S104)) × Bool) := (impl_NextRepair.f l0).bind fun bt883 => (if bt883.2.2 = true then ((impl_AddEntry.f k l0 bt883.1 bt883.2.1 0 a1).bind fun bt887 => (some (bt887.1, bt887.2))) else ((impl_copyLog.f l0).bind fun t891 => (some (t891, false))))
theorem impl_RepairNext.calls (k : Nat) (A0 : Option Addr) (c0 : Nat) (l0 : List (S104)) (a1 : Int) (r1 : List (S104)) (r2 : Bool) (w : World) (hr0 : Kd.C k104 w A0 l0.length l0) (hc0 : l0.length ≤ c0) (h : impl_RepairNext.f k l0 a1 = some (r1, r2)) :
  Calls Tryz.prog 62 #[.slice A0 l0.length c0, .int .i64 a1] w fun e w' => ∃ v0_ : Value, e = .returned (.tuple #[v0_, .bool r2]) ∧ Kd.R k104 104 w' w.heap.size (fun _ => True) v0_ r1 ∧ Below w.heap.size w w' := by
 replace hr0 := RdE.mk hr0
 replace hc0 := LeI.mk hc0
 unfold impl_RepairNext.f at h
 have hu74 := Tryz.underlying74
 (repeat' first | ((with_reducible replace h := ite_some h); rcases h with ⟨hc, h⟩ | ⟨hc, h⟩ <;> first | exact (none_some h).elim | exact absurd hc (by decide) | subst hc | (replace hc := hF_ hc; subst hc) | (have hd := hI_ hc; have he := hJ_ hc; clear hc) | (have hd := hK_ hc; have he := hL_ hc) | (have hd := decide_eq_false hc) | (have hd := decide_eq_true hc) | skip))
 all_goals go_enter Tryz.func62, Tryz.ntmps62
 all_goals go_wp2_with ((first
  | ((with_reducible refine gate_dst (N := 6) rfl ?_); refine bV #[.int .i64 0, .int .i64 0] 74 fun g w1 j1 j2 j3 => ?_)
  | (go_at_call 110; replace h := bI h; obtain ⟨⟨t1, t2, t3⟩, A, h⟩ := h; (try dsimp only at h); refine (impl_NextRepair.calls _ _ _ _ _ _ _ Rd.out LeI.out A).mono ?_; rintro e w2 ⟨rfl, hb⟩; have jb := Bel.mk hb; clear A hb)
  | (go_at_call 108; replace h := bI h; obtain ⟨⟨t1, t2⟩, A, h⟩ := h; (try dsimp only at h); refine (impl_AddEntry.calls _ _ _ _ _ _ _ _ _ _ _ Rd.out LeI.out A).mono ?_; rintro e w2 ⟨v0, rfl, ho0, hb⟩; obtain ⟨B0, b0, rfl, j0, q0⟩ := rowS ho0; have jb := Bel.mk hb; clear A ho0 hb)
  | (go_at_call 107; replace h := bI h; obtain ⟨t, A, h⟩ := h; (try dsimp only at h); refine (impl_copyLog.calls _ _ _ _ _ Rd.out LeI.out A).mono ?_; rintro e w2 ⟨v0, rfl, ho0, hb⟩; obtain ⟨B0, b0, rfl, j0, q0⟩ := rowS ho0; have jb := Bel.mk hb; clear A ho0 hb)); (repeat' first | ((with_reducible replace h := ite_some h); rcases h with ⟨hc, h⟩ | ⟨hc, h⟩ <;> first | exact (none_some h).elim | exact absurd hc (by decide) | subst hc | (replace hc := hF_ hc; subst hc) | (have hd := hI_ hc; have he := hJ_ hc; clear hc) | (have hd := hK_ hc; have he := hL_ hc) | (have hd := decide_eq_false hc) | (have hd := decide_eq_true hc) | skip)); all_goals (try have hn : decide (0 < t.length) = true := decide_eq_true (by omega)); all_goals (try have hn : decide (0 < t.length) = false := decide_eq_false (by omega)))
 all_goals simp only [Option.some.injEq, Prod.mk.injEq] at h
 all_goals obtain ⟨rfl, rfl⟩ := h
 all_goals go_ret2
 all_goals exact ⟨_, rfl, (by first | exact rowFin | exact Kd.R_nil _ _ _ _ _), From.out⟩
end Go.Proofs.YtanhnhkcpbdfmaaGreat.P
namespace Go.Proofs.YtanhnhkcpbdfmaaGreat.P
set_option maxHeartbeats 8000000
set_option maxRecDepth 100000
set_option synthInstance.maxHeartbeats 400000
set_option synthInstance.maxSize 100000
open Go.RowKit Go.Proofs.YtanhnhkcpbdfmaaGreatW.PrintWords Go.Proofs.YtanhnhkcpbdfmaaGreatW.PrintLast Go.Proofs.YtanhnhkcpbdfmaaGreatW.PrintMore Go.Proofs.YtanhnhkcpbdfmaaGreat.V
attribute [local go_sem] cell_b frozen_b cellR_c cell_r frozen_r cell_r0 frozen_r0
attribute [local go_sem] max2_int min2_int max_two min_two max_three min_three max_four min_four
def impl_DoAct.j0 : Nat → Bool → List (S112) → Int → List Int → Int → Int → List (S104) → Int → Int → Int → Int → Option ((List (S112)) × Int × List Int × Int × Int × (List (S104)) × Int)
 | 0, _, _, _, _, _, _, _, _, _, _, _ => none
 | k + 1, x24, x895000, x895001, x895002, x895003, x895004, x895005, x896000, x896001, x896002, x896003 => if x24 = true then ((impl_copyShop.f x895000 x895001 x895002 x895003 x895004 x895005).bind fun bt899 => (some (bt899.1, bt899.2.1, bt899.2.2.1, bt899.2.2.2.1, bt899.2.2.2.2.1, bt899.2.2.2.2.2, (-1)))) else (if x896000 = 1 then ((impl_ShopTune.f k x895000 x895001 x895002 x895003 x895004 x895005).bind fun bt911 => ((impl_truth.f bt911.2.2.2.2.2.2).bind fun t925 => (some (bt911.1, bt911.2.1, bt911.2.2.1, bt911.2.2.2.1, bt911.2.2.2.2.1, bt911.2.2.2.2.2.1, t925)))) else (if x896000 = 2 then ((impl_ShopWarm.f k x895000 x895001 x895002 x895003 x895004 x895005 x896001).bind fun bt926 => ((impl_truth.f bt926.2.2.2.2.2.2).bind fun t940 => (some (bt926.1, bt926.2.1, bt926.2.2.1, bt926.2.2.2.1, bt926.2.2.2.2.1, bt926.2.2.2.2.2.1, t940)))) else (if x896000 = 3 then ((impl_ShopFault.f k x895000 x895001 x895002 x895003 x895004 x895005 x896001 x896002 x896003).bind fun bt941 => ((impl_truth.f bt941.2.2.2.2.2.2).bind fun t955 => (some (bt941.1, bt941.2.1, bt941.2.2.1, bt941.2.2.2.1, bt941.2.2.2.2.1, bt941.2.2.2.2.2.1, t955)))) else (if x896000 = 4 then ((impl_ShopKnock.f k x895000 x895001 x895002 x895003 x895004 x895005 x896001 x896002).bind fun bt956 => ((impl_truth.f bt956.2.2.2.2.2.2).bind fun t970 => (some (bt956.1, bt956.2.1, bt956.2.2.1, bt956.2.2.2.1, bt956.2.2.2.2.1, bt956.2.2.2.2.2.1, t970)))) else (if x896000 = 5 then ((impl_copyShop.f x895000 x895001 x895002 x895003 x895004 x895005).bind fun bt971 => ((impl_RepairNext.f k x895005 x895004).bind fun bt984 => ((impl_truth.f bt984.2).bind fun t988 => (some (bt971.1, bt971.2.1, bt971.2.2.1, bt971.2.2.2.1, bt971.2.2.2.2.1, bt984.1, t988))))) else (if x896000 = 6 then ((impl_copyShop.f x895000 x895001 x895002 x895003 x895004 x895005).bind fun bt989 => ((impl_StepsLeft.f k x895000 x895001 x895002 x895003 x895004 x895005).bind fun t1001 => (some (bt989.1, bt989.2.1, bt989.2.2.1, bt989.2.2.2.1, bt989.2.2.2.2.1, bt989.2.2.2.2.2, t1001)))) else ((impl_copyShop.f x895000 x895001 x895002 x895003 x895004 x895005).bind fun bt1002 => ((impl_HeardAt.f k x895000 x895001 x895002 x895003 x895004 x895005 x896001).bind fun t1014 => (some (bt1002.1, bt1002.2.1, bt1002.2.2.1, bt1002.2.2.2.1, bt1002.2.2.2.2.1, bt1002.2.2.2.2.2, t1014))))))))))
def impl_DoAct.f (k : Nat) (l0_0 : List (S112)) (a0_1 : Int) (l0_2 : List Int) (a0_3 : Int) (a0_4 : Int) (l0_5 : List (S104)) (a1_0 : Int) (a1_1 : Int) (a1_2 : Int) (a1_3 : Int) : Option ((List (S112)) × Int × List Int × Int × Int × (List (S104)) × Int) := (impl_ShopOk.f k l0_0 a0_1 l0_2 a0_3 a0_4 l0_5).bind fun t897 => (if t897 = true then ((impl_ActOk.f k a1_0 a1_1 a1_2 a1_3).bind fun t898 => (impl_DoAct.j0 k (!t898) l0_0 a0_1 l0_2 a0_3 a0_4 l0_5 a1_0 a1_1 a1_2 a1_3)) else (impl_DoAct.j0 k true l0_0 a0_1 l0_2 a0_3 a0_4 l0_5 a1_0 a1_1 a1_2 a1_3))
def impl_DoAct.T23 : Bool × List (List Nat × List Nat) := (true, [([], []), ([0], [0]), ([], []), ([], []), ([3], [3]), ([2, 4, 1], [2, 4]), ([1, 5, 0, 1], [1]), ([5, 6, 0, 1, 2, 3, 4, 5, 6], [5])])
def impl_DoAct.B23 : List Nat := [0, 1, 0, 0, 8, 31, 63, 127]
theorem impl_DoAct.tab23 : rtab .any (opsOf Tryz.f13 23) = impl_DoAct.T23 := by kernel_rfl
theorem impl_DoAct.bits23 : waitsOk impl_DoAct.T23.2 impl_DoAct.B23 = true := by kernel_rfl
noncomputable def impl_DoAct.T6 : Bool × List (List Nat × List Nat) := rtab .any (opsOf Tryz.f13 6)
def impl_DoAct.B6 : List Nat := [0, 0, 2, 7, 15]
theorem impl_DoAct.tab6 : rtab .any (opsOf Tryz.f13 6) = impl_DoAct.T6 := rfl
theorem impl_DoAct.bits6 : waitsOk impl_DoAct.T6.2 impl_DoAct.B6 = true := by kernel_rfl
noncomputable def impl_DoAct.T9 : Bool × List (List Nat × List Nat) := rtab .any (opsOf Tryz.f13 9)
def impl_DoAct.B9 : List Nat := [0, 0, 2, 7, 15]
theorem impl_DoAct.tab9 : rtab .any (opsOf Tryz.f13 9) = impl_DoAct.T9 := rfl
theorem impl_DoAct.bits9 : waitsOk impl_DoAct.T9.2 impl_DoAct.B9 = true := by kernel_rfl
noncomputable def impl_DoAct.T12 : Bool × List (List Nat × List Nat) := rtab .any (opsOf Tryz.f13 12)
def impl_DoAct.B12 : List Nat := [0, 0, 2, 7, 15]
theorem impl_DoAct.tab12 : rtab .any (opsOf Tryz.f13 12) = impl_DoAct.T12 := rfl
theorem impl_DoAct.bits12 : waitsOk impl_DoAct.T12.2 impl_DoAct.B12 = true := by kernel_rfl
noncomputable def impl_DoAct.T15 : Bool × List (List Nat × List Nat) := rtab .any (opsOf Tryz.f13 15)
def impl_DoAct.B15 : List Nat := [0, 0, 2, 7, 15]
theorem impl_DoAct.tab15 : rtab .any (opsOf Tryz.f13 15) = impl_DoAct.T15 := rfl
theorem impl_DoAct.bits15 : waitsOk impl_DoAct.T15.2 impl_DoAct.B15 = true := by kernel_rfl
noncomputable def impl_DoAct.T20 : Bool × List (List Nat × List Nat) := rtab .any (opsOf Tryz.f13 20)
def impl_DoAct.B20 : List Nat := [0, 0, 2, 7, 15]
theorem impl_DoAct.tab20 : rtab .any (opsOf Tryz.f13 20) = impl_DoAct.T20 := rfl
theorem impl_DoAct.bits20 : waitsOk impl_DoAct.T20.2 impl_DoAct.B20 = true := by kernel_rfl
noncomputable def impl_DoAct.T22 : Bool × List (List Nat × List Nat) := rtab .any (opsOf Tryz.f13 22)
def impl_DoAct.B22 : List Nat := [0, 1, 0, 7, 15, 31]
theorem impl_DoAct.tab22 : rtab .any (opsOf Tryz.f13 22) = impl_DoAct.T22 := rfl
theorem impl_DoAct.bits22 : waitsOk impl_DoAct.T22.2 impl_DoAct.B22 = true := by kernel_rfl
theorem impl_DoAct.calls (k : Nat) (A0_0 : Option Addr) (c0_0 : Nat) (l0_0 : List (S112)) (a0_1 : Int) (A0_2 : Option Addr) (c0_2 : Nat) (l0_2 : List Int) (a0_3 : Int) (a0_4 : Int) (A0_5 : Option Addr) (c0_5 : Nat) (l0_5 : List (S104)) (a1_0 : Int) (a1_1 : Int) (a1_2 : Int) (a1_3 : Int) (r1 : List (S112)) (r2 : Int) (r3 : List Int) (r4 : Int) (r5 : Int) (r6 : List (S104)) (r7 : Int) (w : World) (hr0_0 : Kd.C k112 w A0_0 l0_0.length l0_0) (hc0_0 : l0_0.length ≤ c0_0) (hr0_2 : Kd.C (Kd.int .i64) w A0_2 l0_2.length l0_2) (hc0_2 : l0_2.length ≤ c0_2) (hr0_5 : Kd.C k104 w A0_5 l0_5.length l0_5) (hc0_5 : l0_5.length ≤ c0_5) (h : impl_DoAct.f k l0_0 a0_1 l0_2 a0_3 a0_4 l0_5 a1_0 a1_1 a1_2 a1_3 = some (r1, r2, r3, r4, r5, r6, r7)) :
  Calls Tryz.prog 13 #[.agg #[.slice A0_0 l0_0.length c0_0, .int .i64 a0_1, .slice A0_2 l0_2.length c0_2, .int .i64 a0_3, .int .i64 a0_4, .slice A0_5 l0_5.length c0_5], .agg #[.int .i64 a1_0, .int .i64 a1_1, .int .i64 a1_2, .int .i64 a1_3]] w fun e w' => ∃ v0_ v2_ v5_ : Value, e = .returned (.tuple #[.agg #[v0_, .int .i64 r2, v2_, .int .i64 r4, .int .i64 r5, v5_], .int .i64 r7]) ∧ Kd.R k112 112 w' w.heap.size (fun _ => True) v0_ r1 ∧ Kd.R (Kd.int .i64) 3 w' w.heap.size (fun _ => True) v2_ r3 ∧ Kd.R k104 104 w' w.heap.size (fun _ => True) v5_ r6 ∧ Below w.heap.size w w' := by
 replace hr0_0 := RdE.mk hr0_0
 replace hc0_0 := LeI.mk hc0_0
 replace hr0_2 := RdE.mk hr0_2
 replace hc0_2 := LeI.mk hc0_2
 replace hr0_5 := RdE.mk hr0_5
 replace hc0_5 := LeI.mk hc0_5
 have nt112_3 := NeT.mk (d := k112) (e := 112) (t := 3) (by decide)
 have nt112_37 := NeT.mk (d := k112) (e := 112) (t := 37) (by decide)
 have nt112_41 := NeT.mk (d := k112) (e := 112) (t := 41) (by decide)
 have nt104_3 := NeT.mk (d := k104) (e := 104) (t := 3) (by decide)
 have nt104_37 := NeT.mk (d := k104) (e := 104) (t := 37) (by decide)
 have nt104_41 := NeT.mk (d := k104) (e := 104) (t := 41) (by decide)
 unfold impl_DoAct.f at h
 have hu37 := Tryz.underlying37
 have hu41 := Tryz.underlying41
 have hu74 := Tryz.underlying74
 (repeat' first | ((with_reducible replace h := ite_some h); rcases h with ⟨hc, h⟩ | ⟨hc, h⟩ <;> first | exact (none_some h).elim | exact absurd hc (by decide) | subst hc | (replace hc := hF_ hc; subst hc) | (replace hc := hG_ hc; subst hc) | (replace hc := hH_ hc; subst hc) | (have hd : (_ == _) = true := hc) | (have hd : (_ == _) = false := hF_ hc) | (have hd := hI_ hc; have he := hJ_ hc; clear hc) | (have hd := hK_ hc; have he := hL_ hc) | (have hd := decide_eq_false hc) | (have hd := decide_eq_true hc; (try (have hn := Int.natCast_pos.mp hc; have hm := decide_eq_true hn; replace hn := eq_true hn)); first | (obtain ⟨g_, e_, i_⟩ := form_ (by assumption) (by first | assumption | decide) hc; cases e_) | (obtain ⟨a_, e_, c_⟩ := atI_ (by assumption) (by first | assumption | decide) hc; cases e_)) | (have hd := decide_eq_true hc) | skip) | ((with_reducible have hj : impl_DoAct.j0 k _ _ _ _ _ _ _ _ _ _ _ = _ := h); clear hj; rcases k with _ | k <;> rw [impl_DoAct.j0] at h <;> first | exact (none_some h).elim | skip) | ((with_reducible replace h := bind_set_ h); obtain ⟨hl_, h⟩ := h; replace hl_ := A_ hl_; (try dsimp only at h)))
 all_goals go_enter Tryz.func13, Tryz.ntmps13
 all_goals go_wp2_with ((first
  | ((with_reducible refine gate_dst (N := 2) rfl ?_); refine bV #[.slice A0_0 l0_0.length c0_0, .int .i64 a0_1, .slice A0_2 l0_2.length c0_2, .int .i64 a0_3, .int .i64 a0_4, .slice A0_5 l0_5.length c0_5] 37 fun g w1 j1 j2 j3 => ?_)
  | ((with_reducible refine gate_dst (N := 3) rfl ?_); refine bV #[.int .i64 a1_0, .int .i64 a1_1, .int .i64 a1_2, .int .i64 a1_3] 41 fun g w1 j1 j2 j3 => ?_)
  | ((with_reducible refine gate_dst (N := 4) rfl ?_); refine bV #[.slice none 0 0, .int .i64 0, .slice none 0 0, .int .i64 0, .int .i64 0, .slice none 0 0] 37 fun g w1 j1 j2 j3 => ?_)
  | ((with_reducible refine gate_dst (N := 6) rfl ?_); refine bV #[.slice none 0 0, .int .i64 0, .slice none 0 0, .int .i64 0, .int .i64 0, .slice none 0 0] 37 fun g w1 j1 j2 j3 => ?_)
  | ((with_reducible refine gate_dst (N := 8) rfl ?_); refine bV #[.slice none 0 0, .int .i64 0, .slice none 0 0, .int .i64 0, .int .i64 0, .slice none 0 0] 37 fun g w1 j1 j2 j3 => ?_)
  | ((with_reducible refine gate_dst (N := 10) rfl ?_); refine bV #[.slice none 0 0, .int .i64 0, .slice none 0 0, .int .i64 0, .int .i64 0, .slice none 0 0] 37 fun g w1 j1 j2 j3 => ?_)
  | ((with_reducible refine gate_dst (N := 12) rfl ?_); refine bV #[.slice none 0 0, .int .i64 0, .slice none 0 0, .int .i64 0, .int .i64 0, .slice none 0 0] 37 fun g w1 j1 j2 j3 => ?_)
  | ((with_reducible refine gate_dst (N := 14) rfl ?_); refine bV #[.slice none 0 0, .int .i64 0, .slice none 0 0, .int .i64 0, .int .i64 0, .slice none 0 0] 37 fun g w1 j1 j2 j3 => ?_)
  | (go_at_call 32; (try rw [hl_.out]); replace h := bI h; obtain ⟨t, A, h⟩ := h; (try dsimp only at h); refine (impl_ShopOk.calls _ _ _ _ _ _ _ _ _ _ _ _ _ _ _ Rd.out LeI.out Rd.out LeI.out Rd.out LeI.out A).mono ?_; rintro e w2 ⟨rfl, hb⟩; have jb := Bel.mk hb; clear A hb)
  | (go_at_call 56; (try rw [hl_.out]); replace h := bI h; obtain ⟨t, A, h⟩ := h; (try dsimp only at h); refine (impl_ActOk.calls _ _ _ _ _ _ _ A).mono ?_; rintro e w2 ⟨rfl, hb⟩; have jb := Bel.mk hb; clear A hb)
  | (go_at_call 57; (try rw [hl_.out]); replace h := bI h; obtain ⟨⟨t1, t2, t3, t4, t5, t6⟩, A, h⟩ := h; (try dsimp only at h); refine (impl_copyShop.calls _ _ _ _ _ _ _ _ _ _ _ _ _ _ _ _ _ _ _ Rd.out LeI.out Rd.out LeI.out Rd.out LeI.out A).mono ?_; rintro e w2 ⟨v0, v1, v2, rfl, ho0, ho1, ho2, hb⟩; obtain ⟨B0, b0, rfl, j0, q0⟩ := rowS ho0; obtain ⟨B1, b1, rfl, j1, q1⟩ := rowS ho1; obtain ⟨B2, b2, rfl, j2, q2⟩ := rowS ho2; have jb := Bel.mk hb; clear A ho0 ho1 ho2 hb)
  | (go_at_call 36; (try rw [hl_.out]); replace h := bI h; obtain ⟨⟨t1, t2, t3, t4, t5, t6, t7⟩, A, h⟩ := h; (try dsimp only at h); refine (impl_ShopTune.calls _ _ _ _ _ _ _ _ _ _ _ _ _ _ _ _ _ _ _ _ _ Rd.out LeI.out Rd.out LeI.out Rd.out LeI.out A).mono ?_; rintro e w2 ⟨v0, v1, v2, rfl, ho0, ho1, ho2, hb⟩; obtain ⟨B0, b0, rfl, j0, q0⟩ := rowS ho0; obtain ⟨B1, b1, rfl, j1, q1⟩ := rowS ho1; obtain ⟨B2, b2, rfl, j2, q2⟩ := rowS ho2; have jb := Bel.mk hb; clear A ho0 ho1 ho2 hb)
  | (go_at_call 59; (try rw [hl_.out]); replace h := bI h; obtain ⟨⟨t1, t2, t3, t4, t5, t6, t7⟩, A, h⟩ := h; (try dsimp only at h); refine (impl_ShopWarm.calls _ _ _ _ _ _ _ _ _ _ _ _ _ _ _ _ _ _ _ _ _ _ Rd.out LeI.out Rd.out LeI.out Rd.out LeI.out A).mono ?_; rintro e w2 ⟨v0, v1, v2, rfl, ho0, ho1, ho2, hb⟩; obtain ⟨B0, b0, rfl, j0, q0⟩ := rowS ho0; obtain ⟨B1, b1, rfl, j1, q1⟩ := rowS ho1; obtain ⟨B2, b2, rfl, j2, q2⟩ := rowS ho2; have jb := Bel.mk hb; clear A ho0 ho1 ho2 hb)
  | (go_at_call 60; (try rw [hl_.out]); replace h := bI h; obtain ⟨⟨t1, t2, t3, t4, t5, t6, t7⟩, A, h⟩ := h; (try dsimp only at h); refine (impl_ShopFault.calls _ _ _ _ _ _ _ _ _ _ _ _ _ _ _ _ _ _ _ _ _ _ _ _ Rd.out LeI.out Rd.out LeI.out Rd.out LeI.out A).mono ?_; rintro e w2 ⟨v0, v1, v2, rfl, ho0, ho1, ho2, hb⟩; obtain ⟨B0, b0, rfl, j0, q0⟩ := rowS ho0; obtain ⟨B1, b1, rfl, j1, q1⟩ := rowS ho1; obtain ⟨B2, b2, rfl, j2, q2⟩ := rowS ho2; have jb := Bel.mk hb; clear A ho0 ho1 ho2 hb)
  | (go_at_call 61; (try rw [hl_.out]); replace h := bI h; obtain ⟨⟨t1, t2, t3, t4, t5, t6, t7⟩, A, h⟩ := h; (try dsimp only at h); refine (impl_ShopKnock.calls _ _ _ _ _ _ _ _ _ _ _ _ _ _ _ _ _ _ _ _ _ _ _ Rd.out LeI.out Rd.out LeI.out Rd.out LeI.out A).mono ?_; rintro e w2 ⟨v0, v1, v2, rfl, ho0, ho1, ho2, hb⟩; obtain ⟨B0, b0, rfl, j0, q0⟩ := rowS ho0; obtain ⟨B1, b1, rfl, j1, q1⟩ := rowS ho1; obtain ⟨B2, b2, rfl, j2, q2⟩ := rowS ho2; have jb := Bel.mk hb; clear A ho0 ho1 ho2 hb)
  | (go_at_call 62; (try rw [hl_.out]); replace h := bI h; obtain ⟨⟨t1, t2⟩, A, h⟩ := h; (try dsimp only at h); refine (impl_RepairNext.calls _ _ _ _ _ _ _ _ Rd.out LeI.out A).mono ?_; rintro e w2 ⟨v0, rfl, ho0, hb⟩; obtain ⟨B0, b0, rfl, j0, q0⟩ := rowS ho0; have jb := Bel.mk hb; clear A ho0 hb)
  | (refine qR (id := 6) (ds := [3]) (l := #[false, false, false, false, false]) impl_DoAct.tab6 impl_DoAct.bits6 ?_; intro HT_ HW_ w3 jw u0 iu hHeld; refine qA 1 (some 37) HT_ ?_; refine qT 0 (some 36) HT_ HW_ hHeld ?_; replace h := bI h; obtain ⟨t, A, h⟩ := h; (try dsimp only at h); refine qC 2 38 Tryz.func58 HT_ fun K hK => ?_; refine (impl_truth.calls _ _ _ A).mono ?_; rintro e w2 ⟨rfl, n, rfl⟩; clear A; refine ⟨_, rfl, hK _ _ From.out fun hHeld => ?_⟩; clear hK K; refine qN ?_; refine qL 3 HT_ ?_; refine qA 4 (some 5) HT_ ?_; refine qD HT_ ?_)
  | (refine qR (id := 9) (ds := [3]) (l := #[false, false, false, false, false]) impl_DoAct.tab9 impl_DoAct.bits9 ?_; intro HT_ HW_ w3 jw u0 iu hHeld; refine qA 1 (some 49) HT_ ?_; refine qT 0 (some 48) HT_ HW_ hHeld ?_; replace h := bI h; obtain ⟨t, A, h⟩ := h; (try dsimp only at h); refine qC 2 50 Tryz.func58 HT_ fun K hK => ?_; refine (impl_truth.calls _ _ _ A).mono ?_; rintro e w2 ⟨rfl, n, rfl⟩; clear A; refine ⟨_, rfl, hK _ _ From.out fun hHeld => ?_⟩; clear hK K; refine qN ?_; refine qL 3 HT_ ?_; refine qA 4 (some 5) HT_ ?_; refine qD HT_ ?_)
  | (refine qR (id := 12) (ds := [3]) (l := #[false, false, false, false, false]) impl_DoAct.tab12 impl_DoAct.bits12 ?_; intro HT_ HW_ w3 jw u0 iu hHeld; refine qA 1 (some 66) HT_ ?_; refine qT 0 (some 65) HT_ HW_ hHeld ?_; replace h := bI h; obtain ⟨t, A, h⟩ := h; (try dsimp only at h); refine qC 2 67 Tryz.func58 HT_ fun K hK => ?_; refine (impl_truth.calls _ _ _ A).mono ?_; rintro e w2 ⟨rfl, n, rfl⟩; clear A; refine ⟨_, rfl, hK _ _ From.out fun hHeld => ?_⟩; clear hK K; refine qN ?_; refine qL 3 HT_ ?_; refine qA 4 (some 5) HT_ ?_; refine qD HT_ ?_)
  | (refine qR (id := 15) (ds := [3]) (l := #[false, false, false, false, false]) impl_DoAct.tab15 impl_DoAct.bits15 ?_; intro HT_ HW_ w3 jw u0 iu hHeld; refine qA 1 (some 80) HT_ ?_; refine qT 0 (some 79) HT_ HW_ hHeld ?_; replace h := bI h; obtain ⟨t, A, h⟩ := h; (try dsimp only at h); refine qC 2 81 Tryz.func58 HT_ fun K hK => ?_; refine (impl_truth.calls _ _ _ A).mono ?_; rintro e w2 ⟨rfl, n, rfl⟩; clear A; refine ⟨_, rfl, hK _ _ From.out fun hHeld => ?_⟩; clear hK K; refine qN ?_; refine qL 3 HT_ ?_; refine qA 4 (some 5) HT_ ?_; refine qD HT_ ?_)
  | (refine qR (id := 20) (ds := [3]) (l := #[false, false, false, false, false]) impl_DoAct.tab20 impl_DoAct.bits20 ?_; intro HT_ HW_ w3 jw u0 iu hHeld; refine qA 1 (some 97) HT_ ?_; refine qT 0 (some 96) HT_ HW_ hHeld ?_; replace h := bI h; obtain ⟨t, A, h⟩ := h; (try dsimp only at h); refine qC 2 98 Tryz.func58 HT_ fun K hK => ?_; refine (impl_truth.calls _ _ _ A).mono ?_; rintro e w2 ⟨rfl, n, rfl⟩; clear A; refine ⟨_, rfl, hK _ _ From.out fun hHeld => ?_⟩; clear hK K; refine qN ?_; refine qL 3 HT_ ?_; refine qA 4 (some 5) HT_ ?_; refine qD HT_ ?_)
  | (refine qR (id := 22) (ds := [4]) (l := #[false, false, false, false, false, false]) impl_DoAct.tab22 impl_DoAct.bits22 ?_; intro HT_ HW_ w3 jw u0 iu hHeld; refine qT 0 (some 101) HT_ HW_ hHeld ?_; refine qT 2 (some 103) HT_ HW_ hHeld ?_; replace h := bI h; obtain ⟨⟨t1, t2, t3, t4, t5, t6⟩, A, h⟩ := h; (try dsimp only at h); refine qC 1 102 Tryz.func57 HT_ fun K hK => ?_; refine (impl_copyShop.calls _ _ _ _ _ _ _ _ _ _ _ _ _ _ _ _ _ _ _ Rd.out LeI.out Rd.out LeI.out Rd.out LeI.out A).mono ?_; rintro e w2 ⟨v0, v1, v2, rfl, ho0, ho1, ho2, hb⟩; obtain ⟨B0, b0, rfl, j0, q0⟩ := rowS ho0; obtain ⟨B1, b1, rfl, j1, q1⟩ := rowS ho1; obtain ⟨B2, b2, rfl, j2, q2⟩ := rowS ho2; have jb := Bel.mk hb; clear A ho0 ho1 ho2 hb; refine ⟨_, rfl, hK _ _ From.out fun hHeld => ?_⟩; clear hK K; refine qN ?_; replace h := bI h; obtain ⟨t, A, h⟩ := h; (try dsimp only at h); refine qC 3 104 Tryz.func34 HT_ fun K hK => ?_; refine (impl_StepsLeft.calls _ _ _ _ _ _ _ _ _ _ _ _ _ _ _ Rd.out LeI.out Rd.out LeI.out Rd.out LeI.out A).mono ?_; rintro e w2 ⟨rfl, hb⟩; have jb := Bel.mk hb; clear A hb; refine ⟨_, rfl, hK _ _ From.out fun hHeld => ?_⟩; clear hK K; refine qN ?_; refine qL 4 HT_ ?_; refine qA 5 (some 5) HT_ ?_; refine qD HT_ ?_)
  | (refine qR (id := 23) (ds := [6]) (l := #[false, false, false, false, false, false, false, false]) impl_DoAct.tab23 impl_DoAct.bits23 ?_; intro HT_ HW_ w3 jw u0 iu hHeld; refine qA 3 (some 108) HT_ ?_; refine qT 0 (some 105) HT_ HW_ hHeld ?_; refine qT 2 (some 107) HT_ HW_ hHeld ?_; refine qT 4 (some 109) HT_ HW_ hHeld ?_; replace h := bI h; obtain ⟨⟨t1, t2, t3, t4, t5, t6⟩, A, h⟩ := h; (try dsimp only at h); refine qC 1 106 Tryz.func57 HT_ fun K hK => ?_; refine (impl_copyShop.calls _ _ _ _ _ _ _ _ _ _ _ _ _ _ _ _ _ _ _ Rd.out LeI.out Rd.out LeI.out Rd.out LeI.out A).mono ?_; rintro e w2 ⟨v0, v1, v2, rfl, ho0, ho1, ho2, hb⟩; obtain ⟨B0, b0, rfl, j0, q0⟩ := rowS ho0; obtain ⟨B1, b1, rfl, j1, q1⟩ := rowS ho1; obtain ⟨B2, b2, rfl, j2, q2⟩ := rowS ho2; have jb := Bel.mk hb; clear A ho0 ho1 ho2 hb; refine ⟨_, rfl, hK _ _ From.out fun hHeld => ?_⟩; clear hK K; refine qN ?_; replace h := bI h; obtain ⟨t, A, h⟩ := h; (try dsimp only at h); refine qC 5 110 Tryz.func40 HT_ fun K hK => ?_; refine (impl_HeardAt.calls _ _ _ _ _ _ _ _ _ _ _ _ _ _ _ _ Rd.out LeI.out Rd.out LeI.out Rd.out LeI.out A).mono ?_; rintro e w2 ⟨rfl, hb⟩; have jb := Bel.mk hb; clear A hb; refine ⟨_, rfl, hK _ _ From.out fun hHeld => ?_⟩; clear hK K; refine qN ?_; refine qL 6 HT_ ?_; refine qA 7 (some 5) HT_ ?_; refine qD HT_ ?_)); (repeat' first | ((with_reducible replace h := ite_some h); rcases h with ⟨hc, h⟩ | ⟨hc, h⟩ <;> first | exact (none_some h).elim | exact absurd hc (by decide) | subst hc | (replace hc := hF_ hc; subst hc) | (replace hc := hG_ hc; subst hc) | (replace hc := hH_ hc; subst hc) | (have hd : (_ == _) = true := hc) | (have hd : (_ == _) = false := hF_ hc) | (have hd := hI_ hc; have he := hJ_ hc; clear hc) | (have hd := hK_ hc; have he := hL_ hc) | (have hd := decide_eq_false hc) | (have hd := decide_eq_true hc; (try (have hn := Int.natCast_pos.mp hc; have hm := decide_eq_true hn; replace hn := eq_true hn)); first | (obtain ⟨g_, e_, i_⟩ := form_ (by assumption) (by first | assumption | decide) hc; cases e_) | (obtain ⟨a_, e_, c_⟩ := atI_ (by assumption) (by first | assumption | decide) hc; cases e_)) | (have hd := decide_eq_true hc) | skip) | ((with_reducible have hj : impl_DoAct.j0 k _ _ _ _ _ _ _ _ _ _ _ = _ := h); clear hj; rcases k with _ | k <;> rw [impl_DoAct.j0] at h <;> first | exact (none_some h).elim | skip) | ((with_reducible replace h := bind_set_ h); obtain ⟨hl_, h⟩ := h; replace hl_ := A_ hl_; (try dsimp only at h))))
 all_goals simp only [Option.some.injEq, Prod.mk.injEq] at h
 all_goals obtain ⟨rfl, rfl, rfl, rfl, rfl, rfl, rfl⟩ := h
 all_goals refine bodyPost_ret (results_ct rfl _ _ _ _ _ (0, 0) _ rfl Blk.out Tryz.underlying37 rfl (by kernel_rfl)) rfl ?_
 all_goals exact ⟨_, _, _, rfl, (by first | exact rowFin | exact Kd.R_nil _ _ _ _ _ | exact atFin | exact irowFin' (by simp)), (by first | exact rowFin | exact Kd.R_nil _ _ _ _ _ | exact atFin | exact irowFin' (by simp)), (by first | exact rowFin | exact Kd.R_nil _ _ _ _ _ | exact atFin | exact irowFin' (by simp)), From.out⟩
mutual
def impl_RunActs.j0 : Nat → List (S41) → Bool → List (S112) → Int → List Int → Int → Int → List (S104) → Option ((List (S112)) × Int × List Int × Int × Int × (List (S104)) × List Int)
 | 0, _, _, _, _, _, _, _, _ => none
 | k + 1, x1, x21, x1254000, x1254001, x1254002, x1254003, x1254004, x1254005 => if x21 = true then (some (x1254000, x1254001, x1254002, x1254003, x1254004, x1254005, ([] : List Int))) else (impl_RunActs.l0 k (([] : List Int)) x1 (x1.length : Int) 0 x1254000 x1254001 x1254002 x1254003 x1254004 x1254005)
def impl_RunActs.l0 : Nat → List Int → List (S41) → Int → Int → List (S112) → Int → List Int → Int → Int → List (S104) → Option ((List (S112)) × Int × List Int × Int × Int × (List (S104)) × List Int)
 | 0, _, _, _, _, _, _, _, _, _, _ => none
 | k + 1, x7, x24, x25, x26, x1254000, x1254001, x1254002, x1254003, x1254004, x1254005 => if x26 < x25 then (if 0 ≤ x26 then (if x26 < (x24.length : Int) then ((impl_DoAct.f k x1254000 x1254001 x1254002 x1254003 x1254004 x1254005 ((rd_T41 x24 x26).f0) ((rd_T41 x24 x26).f1) ((rd_T41 x24 x26).f2) ((rd_T41 x24 x26).f3)).bind fun bt1260 => (if x7.length < 17592186044416 then (impl_RunActs.l0 k (x7 ++ [bt1260.2.2.2.2.2.2]) x24 x25 (wrap64 (x26 + 1)) bt1260.1 bt1260.2.1 bt1260.2.2.1 bt1260.2.2.2.1 bt1260.2.2.2.2.1 bt1260.2.2.2.2.2.1) else (none))) else (none)) else (none)) else (some (x1254000, x1254001, x1254002, x1254003, x1254004, x1254005, x7))
end
def impl_RunActs.f (k : Nat) (l0_0 : List (S112)) (a0_1 : Int) (l0_2 : List Int) (a0_3 : Int) (a0_4 : Int) (l0_5 : List (S104)) (l1 : List (S41)) : Option ((List (S112)) × Int × List Int × Int × Int × (List (S104)) × List Int) := (impl_copyShop.f l0_0 a0_1 l0_2 a0_3 a0_4 l0_5).bind fun bt1241 => ((impl_ShopOk.f k l0_0 a0_1 l0_2 a0_3 a0_4 l0_5).bind fun t1254 => (if t1254 = true then (impl_RunActs.j0 k l1 (decide ((l1.length : Int) > 40)) bt1241.1 bt1241.2.1 bt1241.2.2.1 bt1241.2.2.2.1 bt1241.2.2.2.2.1 bt1241.2.2.2.2.2) else (impl_RunActs.j0 k l1 true bt1241.1 bt1241.2.1 bt1241.2.2.1 bt1241.2.2.2.1 bt1241.2.2.2.2.1 bt1241.2.2.2.2.2)))
theorem impl_RunActs.calls (k : Nat) (A0_0 : Option Addr) (c0_0 : Nat) (l0_0 : List (S112)) (a0_1 : Int) (A0_2 : Option Addr) (c0_2 : Nat) (l0_2 : List Int) (a0_3 : Int) (a0_4 : Int) (A0_5 : Option Addr) (c0_5 : Nat) (l0_5 : List (S104)) (A1 : Option Addr) (c1 : Nat) (l1 : List (S41)) (r1 : List (S112)) (r2 : Int) (r3 : List Int) (r4 : Int) (r5 : Int) (r6 : List (S104)) (r7 : List Int) (w : World) (hr0_0 : Kd.C k112 w A0_0 l0_0.length l0_0) (hc0_0 : l0_0.length ≤ c0_0) (hr0_2 : Kd.C (Kd.int .i64) w A0_2 l0_2.length l0_2) (hc0_2 : l0_2.length ≤ c0_2) (hr0_5 : Kd.C k104 w A0_5 l0_5.length l0_5) (hc0_5 : l0_5.length ≤ c0_5) (hr1 : Kd.C k41 w A1 l1.length l1) (hc1 : l1.length ≤ c1) (h : impl_RunActs.f k l0_0 a0_1 l0_2 a0_3 a0_4 l0_5 l1 = some (r1, r2, r3, r4, r5, r6, r7)) :
  Calls Tryz.prog 20 #[.agg #[.slice A0_0 l0_0.length c0_0, .int .i64 a0_1, .slice A0_2 l0_2.length c0_2, .int .i64 a0_3, .int .i64 a0_4, .slice A0_5 l0_5.length c0_5], .slice A1 l1.length c1] w fun e w' => ∃ v0_ v2_ v5_ v6_ : Value, e = .returned (.tuple #[.agg #[v0_, .int .i64 r2, v2_, .int .i64 r4, .int .i64 r5, v5_], v6_]) ∧ Kd.R k112 112 w' w.heap.size (fun _ => True) v0_ r1 ∧ Kd.R (Kd.int .i64) 3 w' w.heap.size (fun k_ => some k_ ≠ (v6_ : Value).ownBlock) v2_ r3 ∧ Kd.R k104 104 w' w.heap.size (fun _ => True) v5_ r6 ∧ Kd.R (Kd.int .i64) 3 w' w.heap.size (fun k_ => some k_ ≠ (v2_ : Value).ownBlock) v6_ r7 ∧ Below w.heap.size w w' := by
 have ihr0_0 := RdE.mk hr0_0
 have ihc0_0 := LeI.mk hc0_0
 have ihr0_2 := RdE.mk hr0_2
 have ihc0_2 := LeI.mk hc0_2
 have ihr0_5 := RdE.mk hr0_5
 have ihc0_5 := LeI.mk hc0_5
 have ihr1 := RdE.mk hr1
 have ihc1 := LeI.mk hc1
 clear hr0_0 hc0_0 hr0_2 hc0_2 hr0_5 hc0_5 hr1 hc1
 have nt3_37 := NeT.mk (d := (Kd.int .i64)) (e := 3) (t := 37) (by decide)
 have nt3_41 := NeT.mk (d := (Kd.int .i64)) (e := 3) (t := 41) (by decide)
 have nt104_37 := NeT.mk (d := k104) (e := 104) (t := 37) (by decide)
 have nt104_41 := NeT.mk (d := k104) (e := 104) (t := 41) (by decide)
 have nt112_37 := NeT.mk (d := k112) (e := 112) (t := 37) (by decide)
 have nt112_41 := NeT.mk (d := k112) (e := 112) (t := 41) (by decide)
 have nn3_37 := NeN.mk (e := 3) (t := 37) (by decide)
 have nn3_41 := NeN.mk (e := 3) (t := 41) (by decide)
 unfold impl_RunActs.f at h
 (try simp only [Option.bind_some] at h)
 have hu37 := Tryz.underlying37
 have hu41 := Tryz.underlying41
 (repeat' first | ((with_reducible replace h := ite_some h); rcases h with ⟨hc, h⟩ | ⟨hc, h⟩ <;> first | exact (none_some h).elim | exact absurd hc (by decide) | subst hc | (replace hc := hF_ hc; subst hc) | (replace hc := hG_ hc; subst hc) | (replace hc := hH_ hc; subst hc) | (have hd : (_ == _) = true := hc) | (have hd : (_ == _) = false := hF_ hc) | (have hd := hI_ hc; have he := hJ_ hc; clear hc) | (have hd := hK_ hc; have he := hL_ hc) | (have hd := decide_eq_false hc) | (have hd := decide_eq_true hc; (try (have hn := Int.natCast_pos.mp hc; have hm := decide_eq_true hn; replace hn := eq_true hn)); first | (have hz := form_ (by assumption) (by first | assumption | decide) hc; obtain ⟨g_, e_, i_⟩ := hz; cases e_) | (have hz := atI_ (by assumption) (by first | assumption | decide) hc; obtain ⟨a_, e_, c_⟩ := hz; cases e_) | (have hz := at_T41 (RdE.out (self := by assumption)) _ (by first | assumption | decide) hc; obtain ⟨a_, e_, c0_, c1_, c2_, c3_⟩ := hz; cases e_; replace c0_ := CelE.mk c0_; replace c1_ := CelE.mk c1_; replace c2_ := CelE.mk c2_; replace c3_ := CelE.mk c3_) | (have hz := at_T41 (RdE.out (self := by assumption)) _ hc (by assumption); obtain ⟨a_, e_, c0_, c1_, c2_, c3_⟩ := hz; cases e_; replace c0_ := CelE.mk c0_; replace c1_ := CelE.mk c1_; replace c2_ := CelE.mk c2_; replace c3_ := CelE.mk c3_)) | (have hd := decide_eq_true hc) | skip) | ((with_reducible have hj : impl_RunActs.j0 k _ _ _ _ _ _ _ _ = _ := h); clear hj; rcases k with _ | k <;> rw [impl_RunActs.j0] at h <;> first | exact (none_some h).elim | skip) | ((with_reducible replace h := bind_set_ h); obtain ⟨hl_, h⟩ := h; replace hl_ := A_ hl_; (try dsimp only at h)))
 all_goals go_enter Tryz.func20, Tryz.ntmps20
 all_goals go_wp2_with ((first
  | ((with_reducible refine gate_dst (N := 2) rfl ?_); refine bV #[.slice A0_0 l0_0.length c0_0, .int .i64 a0_1, .slice A0_2 l0_2.length c0_2, .int .i64 a0_3, .int .i64 a0_4, .slice A0_5 l0_5.length c0_5] 37 fun g2 w1 ja1 ja2 ja3 => ?_)
  | ((with_reducible refine gate_dst (N := 4) rfl ?_); refine bV #[.slice none 0 0, .int .i64 0, .slice none 0 0, .int .i64 0, .int .i64 0, .slice none 0 0] 37 fun g4 w1 ja1 ja2 ja3 => ?_)
  | ((with_reducible refine gate_dst (N := 6) rfl ?_); refine bV #[.slice none 0 0, .int .i64 0, .slice none 0 0, .int .i64 0, .int .i64 0, .slice none 0 0] 37 fun g6 w1 ja1 ja2 ja3 => ?_)
  | ((with_reducible refine gate_dst (N := 9) rfl ?_); refine bV #[.int .i64 0, .int .i64 0, .int .i64 0, .int .i64 0] 41 fun g9 w1 ja1 ja2 ja3 => ?_)
  | ((with_reducible refine gate_dst (N := 10) rfl ?_); refine bV #[.slice none 0 0, .int .i64 0, .slice none 0 0, .int .i64 0, .int .i64 0, .slice none 0 0] 37 fun g10 w1 ja1 ja2 ja3 => ?_)
  | ((with_reducible refine gate_dst (N := 23) rfl ?_); refine Kd.R_lit (Kd.int .i64) _ 3 ?hg (N := 23) ?hd (xs := ([] : List Int)) (inner := []) (ok := fun _ => True) (okp := fun _ => True) ?hr ?hp (fun _ hk => hk) trivial (Below.refl _ _) (Nat.le_refl _) (by simp) ?_; (case hd => rfl); (case hg => rfl); (case hr => first | (go_simp; done) | (go_simp; rfl)); (case hp => exact (Reps.none _ _)); intro v5 w5 ho hb hg_ hn_; obtain ⟨A5, c5, rfl⟩ := Kd.R_slice ho; have j5 := RowE.mk ho; have q5 := LeI.mk (rowLe j5); have j6 := Bel.mk hb; clear hg_ hn_ ho hb)
  | (go_at_call 57; (try rw [hl_.out]); replace h := bI h; obtain ⟨⟨t1, t2, t3, t4, t5, t6⟩, A, h⟩ := h; (try dsimp only at h); refine (impl_copyShop.calls _ _ _ _ _ _ _ _ _ _ _ _ _ _ _ _ _ _ _ Rd.out LeI.out Rd.out LeI.out Rd.out LeI.out A).mono ?_; rintro e w2 ⟨v0, v1, v2, rfl, ho0, ho1, ho2, hb⟩; obtain ⟨B0, b0, rfl, j0, q0⟩ := rowS ho0; obtain ⟨B1, b1, rfl, j1, q1⟩ := rowS ho1; obtain ⟨B2, b2, rfl, j2, q2⟩ := rowS ho2; have jb := Bel.mk hb; clear A ho0 ho1 ho2 hb)
  | (go_at_call 32; (try rw [hl_.out]); replace h := bI h; obtain ⟨t, A, h⟩ := h; (try dsimp only at h); refine (impl_ShopOk.calls _ _ _ _ _ _ _ _ _ _ _ _ _ _ _ Rd.out LeI.out Rd.out LeI.out Rd.out LeI.out A).mono ?_; rintro e w2 ⟨rfl, hb⟩; have jb := Bel.mk hb; clear A hb)
  | (go_at_call 13; (try rw [hl_.out]); replace h := bI h; obtain ⟨⟨t1, t2, t3, t4, t5, t6, t7⟩, A, h⟩ := h; (try dsimp only at h); refine (impl_DoAct.calls _ _ _ _ _ _ _ _ _ _ _ _ _ _ _ _ _ _ _ _ _ _ _ _ _ Rd.out LeI.out Rd.out LeI.out Rd.out LeI.out A).mono ?_; rintro e w2 ⟨v0, v1, v2, rfl, ho0, ho1, ho2, hb⟩; obtain ⟨B0, b0, rfl, j0, q0⟩ := rowS ho0; obtain ⟨B1, b1, rfl, j1, q1⟩ := rowS ho1; obtain ⟨B2, b2, rfl, j2, q2⟩ := rowS ho2; have jb := Bel.mk hb; clear A ho0 ho1 ho2 hb)
  | ((with_reducible refine gate_builtin (b := .append) (xs := #[.tmp 37, .tmp 39]) rfl ?_); (try (refine gate_guard (by rfl) ?_; dsimp only)); at_builtin; refine Kd.R_append (Kd.int .i64) (w0 := w) w.heap.size rfl (.tmp 37) (.tmp 39) 23 3 (.int .i64 0) 8 rfl Tryz.underlying23 info3 rfl (by decide) (by omega) (.slice A90 x7_2.length c90) x7_2 t7 [.int .i64 t7] (fun _ => True) (fun _ => False) rfl (by first | (go_simp; done) | (go_simp; rfl)) ?aP (fun _ hk => hk.elim) ?aF ?aO ?aB ?aS ?aL ?_; (case aP => exact rfl); (case aO => exact atFin); (case aB => exact From.out); (case aF => exact (fun _ _ => trivial)); (case aS => exact (From.out (w0 := w)).size); (case aL => omega); intro v7 w7 ho hb hg hat; have jg := grAt hg; obtain ⟨A7, c7, rfl⟩ := Kd.R_slice ho; have jk := keepGr j0 hg; have jd := djGr j1 hat; have je := djSym jd; have j7 := At.mk ho; have jf : From w w7 := ⟨hb⟩; have js : Sz w w7 := ⟨hb.size⟩; clear ho hb hg hat)); (repeat' first | ((with_reducible replace h := ite_some h); rcases h with ⟨hc, h⟩ | ⟨hc, h⟩ <;> first | exact (none_some h).elim | exact absurd hc (by decide) | subst hc | (replace hc := hF_ hc; subst hc) | (replace hc := hG_ hc; subst hc) | (replace hc := hH_ hc; subst hc) | (have hd : (_ == _) = true := hc) | (have hd : (_ == _) = false := hF_ hc) | (have hd := hI_ hc; have he := hJ_ hc; clear hc) | (have hd := hK_ hc; have he := hL_ hc) | (have hd := decide_eq_false hc) | (have hd := decide_eq_true hc; (try (have hn := Int.natCast_pos.mp hc; have hm := decide_eq_true hn; replace hn := eq_true hn)); first | (have hz := form_ (by assumption) (by first | assumption | decide) hc; obtain ⟨g_, e_, i_⟩ := hz; cases e_) | (have hz := atI_ (by assumption) (by first | assumption | decide) hc; obtain ⟨a_, e_, c_⟩ := hz; cases e_) | (have hz := at_T41 (RdE.out (self := by assumption)) _ (by first | assumption | decide) hc; obtain ⟨a_, e_, c0_, c1_, c2_, c3_⟩ := hz; cases e_; replace c0_ := CelE.mk c0_; replace c1_ := CelE.mk c1_; replace c2_ := CelE.mk c2_; replace c3_ := CelE.mk c3_) | (have hz := at_T41 (RdE.out (self := by assumption)) _ hc (by assumption); obtain ⟨a_, e_, c0_, c1_, c2_, c3_⟩ := hz; cases e_; replace c0_ := CelE.mk c0_; replace c1_ := CelE.mk c1_; replace c2_ := CelE.mk c2_; replace c3_ := CelE.mk c3_)) | (have hd := decide_eq_true hc) | skip) | ((with_reducible have hj : impl_RunActs.j0 k _ _ _ _ _ _ _ _ = _ := h); clear hj; rcases k with _ | k <;> rw [impl_RunActs.j0] at h <;> first | exact (none_some h).elim | skip) | ((with_reducible replace h := bind_set_ h); obtain ⟨hl_, h⟩ := h; replace hl_ := A_ hl_; (try dsimp only at h))))
 all_goals first
  | ((try simp only [Option.some.injEq, Prod.mk.injEq] at h); (try obtain ⟨rfl, rfl, rfl, rfl, rfl, rfl, rfl⟩ := h); refine bodyPost_ret (results_ct rfl _ _ _ _ _ (0, 0) _ rfl Blk.out Tryz.underlying37 rfl (by kernel_rfl)) rfl ?_; exact ⟨_, _, _, _, rfl, (by first | exact rowFin | exact rowFin' rfl | exact rowFin' (by simp) | exact Kd.R_nil _ _ _ _ _ | exact atFin | exact irowFin' (by simp)), (by first | exact Kd.R_nil _ _ _ _ _ | exact djR (ok := fun _ => True) (by first | exact rowFin | exact atFin | exact atFin' (by simp) | exact rowFin' (by simp))), (by first | exact rowFin | exact rowFin' rfl | exact rowFin' (by simp) | exact Kd.R_nil _ _ _ _ _ | exact atFin | exact irowFin' (by simp)), (by first | exact Kd.R_nil _ _ _ _ _ | exact djR (ok := fun _ => True) (by first | exact rowFin | exact atFin | exact atFin' (by simp) | exact rowFin' (by simp))), From.out⟩)
  | (exfalso; simp at hd; omega)
  | skip
 go_loopg [7, 26] k (fun kq v7 v26 w' => ∃ (x7_2 : List Int) (x26_2 : Int) (x1254000_2 : List (S112)) (x1254001_2 : Int) (x1254002_2 : List Int) (x1254003_2 : Int) (x1254004_2 : Int) (x1254005_2 : List (S104)) (u1254000 : Value) (u1254002 : Value) (u1254005 : Value), v26 = .int .i64 x26_2 ∧ Aside0 (impl_RunActs.l0 kq x7_2 l1 (l1.length : Int) x26_2 x1254000_2 x1254001_2 x1254002_2 x1254003_2 x1254004_2 x1254005_2 = some (r1, r2, r3, r4, r5, r6, r7)) ∧ Aside0 (kq ≤ k) ∧ Aside0 (Kd.R (Kd.int .i64) 3 w' w.heap.size (fun k_ => some k_ ≠ (u1254002 : Value).ownBlock) v7 x7_2) ∧ Aside0 (Kd.R k112 112 w' w.heap.size (fun _ => True) u1254000 x1254000_2) ∧ Aside0 (Kd.R (Kd.int .i64) 3 w' w.heap.size (fun k_ => some k_ ≠ (v7 : Value).ownBlock) u1254002 x1254002_2) ∧ Aside0 (Kd.R k104 104 w' w.heap.size (fun _ => True) u1254005 x1254005_2) ∧ Aside0 (w'.heap[g2]? = some (.cells #[(.slice A0_0 l0_0.length c0_0), .int .i64 a0_1, (.slice A0_2 l0_2.length c0_2), .int .i64 a0_3, .int .i64 a0_4, (.slice A0_5 l0_5.length c0_5)] 37 (0, 0))) ∧ Aside0 (w'.heap[g4]? = some (.cells #[(.slice none 0 0), .int .i64 0, (.slice none 0 0), .int .i64 0, .int .i64 0, (.slice none 0 0)] 37 (0, 0))) ∧ Aside0 (w'.heap[g6]? = some (.cells #[u1254000, .int .i64 x1254001_2, u1254002, .int .i64 x1254003_2, .int .i64 x1254004_2, u1254005] 37 (0, 0))) ∧ Aside0 (Below w.heap.size w w'))
 case atStart => exact ⟨_, _, _, _, _, _, _, _, (.slice B0 t1.length b0), (.slice B1 t3.length b1), (.slice B2 t6.length b2), (by first | rfl | (simp; done)), ⟨h⟩, ⟨Nat.le_refl _⟩, ⟨djR (ok := fun _ => True) (by first | exact rowFin | exact atFin | exact atFin' (by simp) | exact rowFin' (by simp))⟩, ⟨by first | exact rowFin | exact rowFin' rfl | exact rowFin' (by simp) | exact Kd.R_nil _ _ _ _ _⟩, ⟨djR (ok := fun _ => True) (by first | exact rowFin | exact atFin | exact atFin' (by simp) | exact rowFin' (by simp))⟩, ⟨by first | exact rowFin | exact rowFin' rfl | exact rowFin' (by simp) | exact Kd.R_nil _ _ _ _ _⟩, ⟨Blk.out⟩, ⟨Blk.out⟩, ⟨Blk.out⟩, ⟨From.out⟩⟩
 case round =>
  clear h
  obtain ⟨x7_2, x26_2, x1254000_2, x1254001_2, x1254002_2, x1254003_2, x1254004_2, x1254005_2, u1254000, u1254002, u1254005, rfl, HA, HK2, HO_7, HO_1254000, HO_1254002, HO_1254005, BK1239, BK1240, BK1253, HB⟩ := hrel
  rcases gk with _ | k1
  ·exact absurd HA.out (by simp [impl_RunActs.l0])
  have h := HA.out
  clear HA
  simp only [impl_RunActs.l0] at h
  obtain ⟨A90, c90, rfl, j90, q90, o90⟩ := atOf_ HO_7.out; clear HO_7
  obtain ⟨A91, c91, rfl, j91, q91, o91⟩ := atOf_ HO_1254000.out; clear HO_1254000
  obtain ⟨A92, c92, rfl, j92, q92, o92⟩ := atOf_ HO_1254002.out; clear HO_1254002
  obtain ⟨A93, c93, rfl, j93, q93, o93⟩ := atOf_ HO_1254005.out; clear HO_1254005
  have BK1239_ := Blk.mk BK1239.out; clear BK1239
  have BK1240_ := Blk.mk BK1240.out; clear BK1240
  have BK1253_ := Blk.mk BK1253.out; clear BK1253
  have HB_ : From w wr := ⟨HB.out⟩; have HS_ : Sz w wr := ⟨HB.out.size⟩; clear HB
  (try have d90 := djOf_ o90); (try have d91 := djOf_ o91); (try have d92 := djOf_ o92); (try have d93 := djOf_ o93); clear o90 o91 o92 o93
  (repeat' first | ((with_reducible replace h := ite_some h); rcases h with ⟨hc, h⟩ | ⟨hc, h⟩ <;> first | exact (none_some h).elim | exact absurd hc (by decide) | subst hc | (replace hc := hF_ hc; subst hc) | (replace hc := hG_ hc; subst hc) | (replace hc := hH_ hc; subst hc) | (have hd : (_ == _) = true := hc) | (have hd : (_ == _) = false := hF_ hc) | (have hd := hI_ hc; have he := hJ_ hc; clear hc) | (have hd := hK_ hc; have he := hL_ hc) | (have hd := decide_eq_false hc) | (have hd := decide_eq_true hc; (try (have hn := Int.natCast_pos.mp hc; have hm := decide_eq_true hn; replace hn := eq_true hn)); first | (have hz := form_ (by assumption) (by first | assumption | decide) hc; obtain ⟨g_, e_, i_⟩ := hz; cases e_) | (have hz := atI_ (by assumption) (by first | assumption | decide) hc; obtain ⟨a_, e_, c_⟩ := hz; cases e_) | (have hz := at_T41 (RdE.out (self := by assumption)) _ (by first | assumption | decide) hc; obtain ⟨a_, e_, c0_, c1_, c2_, c3_⟩ := hz; cases e_; replace c0_ := CelE.mk c0_; replace c1_ := CelE.mk c1_; replace c2_ := CelE.mk c2_; replace c3_ := CelE.mk c3_) | (have hz := at_T41 (RdE.out (self := by assumption)) _ hc (by assumption); obtain ⟨a_, e_, c0_, c1_, c2_, c3_⟩ := hz; cases e_; replace c0_ := CelE.mk c0_; replace c1_ := CelE.mk c1_; replace c2_ := CelE.mk c2_; replace c3_ := CelE.mk c3_)) | (have hd := decide_eq_true hc) | skip) | ((with_reducible have hj : impl_RunActs.j0 k _ _ _ _ _ _ _ _ = _ := h); clear hj; rcases k with _ | k <;> rw [impl_RunActs.j0] at h <;> first | exact (none_some h).elim | skip) | ((with_reducible replace h := bind_set_ h); obtain ⟨hl_, h⟩ := h; replace hl_ := A_ hl_; (try dsimp only at h)))
  all_goals go_wp2_with ((first
   | ((with_reducible refine gate_dst (N := 2) rfl ?_); refine bV #[.slice A0_0 l0_0.length c0_0, .int .i64 a0_1, .slice A0_2 l0_2.length c0_2, .int .i64 a0_3, .int .i64 a0_4, .slice A0_5 l0_5.length c0_5] 37 fun g2 w1 ja1 ja2 ja3 => ?_)
   | ((with_reducible refine gate_dst (N := 4) rfl ?_); refine bV #[.slice none 0 0, .int .i64 0, .slice none 0 0, .int .i64 0, .int .i64 0, .slice none 0 0] 37 fun g4 w1 ja1 ja2 ja3 => ?_)
   | ((with_reducible refine gate_dst (N := 6) rfl ?_); refine bV #[.slice none 0 0, .int .i64 0, .slice none 0 0, .int .i64 0, .int .i64 0, .slice none 0 0] 37 fun g6 w1 ja1 ja2 ja3 => ?_)
   | ((with_reducible refine gate_dst (N := 9) rfl ?_); refine bV #[.int .i64 0, .int .i64 0, .int .i64 0, .int .i64 0] 41 fun g9 w1 ja1 ja2 ja3 => ?_)
   | ((with_reducible refine gate_dst (N := 10) rfl ?_); refine bV #[.slice none 0 0, .int .i64 0, .slice none 0 0, .int .i64 0, .int .i64 0, .slice none 0 0] 37 fun g10 w1 ja1 ja2 ja3 => ?_)
   | ((with_reducible refine gate_dst (N := 23) rfl ?_); refine Kd.R_lit (Kd.int .i64) _ 3 ?hg (N := 23) ?hd (xs := ([] : List Int)) (inner := []) (ok := fun _ => True) (okp := fun _ => True) ?hr ?hp (fun _ hk => hk) trivial (Below.refl _ _) (Nat.le_refl _) (by simp) ?_; (case hd => rfl); (case hg => rfl); (case hr => first | (go_simp; done) | (go_simp; rfl)); (case hp => exact (Reps.none _ _)); intro v5 w5 ho hb hg_ hn_; obtain ⟨A5, c5, rfl⟩ := Kd.R_slice ho; have j5 := RowE.mk ho; have q5 := LeI.mk (rowLe j5); have j6 := Bel.mk hb; clear hg_ hn_ ho hb)
   | (go_at_call 57; (try rw [hl_.out]); replace h := bI h; obtain ⟨⟨t1, t2, t3, t4, t5, t6⟩, A, h⟩ := h; (try dsimp only at h); refine (impl_copyShop.calls _ _ _ _ _ _ _ _ _ _ _ _ _ _ _ _ _ _ _ Rd.out LeI.out Rd.out LeI.out Rd.out LeI.out A).mono ?_; rintro e w2 ⟨v0, v1, v2, rfl, ho0, ho1, ho2, hb⟩; obtain ⟨B0, b0, rfl, j0, q0⟩ := rowS ho0; obtain ⟨B1, b1, rfl, j1, q1⟩ := rowS ho1; obtain ⟨B2, b2, rfl, j2, q2⟩ := rowS ho2; have jb := Bel.mk hb; clear A ho0 ho1 ho2 hb)
   | (go_at_call 32; (try rw [hl_.out]); replace h := bI h; obtain ⟨t, A, h⟩ := h; (try dsimp only at h); refine (impl_ShopOk.calls _ _ _ _ _ _ _ _ _ _ _ _ _ _ _ Rd.out LeI.out Rd.out LeI.out Rd.out LeI.out A).mono ?_; rintro e w2 ⟨rfl, hb⟩; have jb := Bel.mk hb; clear A hb)
   | (go_at_call 13; (try rw [hl_.out]); replace h := bI h; obtain ⟨⟨t1, t2, t3, t4, t5, t6, t7⟩, A, h⟩ := h; (try dsimp only at h); refine (impl_DoAct.calls _ _ _ _ _ _ _ _ _ _ _ _ _ _ _ _ _ _ _ _ _ _ _ _ _ Rd.out LeI.out Rd.out LeI.out Rd.out LeI.out A).mono ?_; rintro e w2 ⟨v0, v1, v2, rfl, ho0, ho1, ho2, hb⟩; obtain ⟨B0, b0, rfl, j0, q0⟩ := rowS ho0; obtain ⟨B1, b1, rfl, j1, q1⟩ := rowS ho1; obtain ⟨B2, b2, rfl, j2, q2⟩ := rowS ho2; have jb := Bel.mk hb; clear A ho0 ho1 ho2 hb)
   | ((with_reducible refine gate_builtin (b := .append) (xs := #[.tmp 37, .tmp 39]) rfl ?_); (try (refine gate_guard (by rfl) ?_; dsimp only)); at_builtin; refine Kd.R_append (Kd.int .i64) (w0 := w) w.heap.size rfl (.tmp 37) (.tmp 39) 23 3 (.int .i64 0) 8 rfl Tryz.underlying23 info3 rfl (by decide) (by omega) (.slice A90 x7_2.length c90) x7_2 t7 [.int .i64 t7] (fun _ => True) (fun _ => False) rfl (by first | (go_simp; done) | (go_simp; rfl)) ?aP (fun _ hk => hk.elim) ?aF ?aO ?aB ?aS ?aL ?_; (case aP => exact rfl); (case aO => exact atFin); (case aB => exact From.out); (case aF => exact (fun _ _ => trivial)); (case aS => exact (From.out (w0 := w)).size); (case aL => omega); intro v7 w7 ho hb hg hat; have jg := grAt hg; obtain ⟨A7, c7, rfl⟩ := Kd.R_slice ho; have jk := keepGr j0 hg; have jd := djGr j1 hat; have je := djSym jd; have j7 := At.mk ho; have jf : From w w7 := ⟨hb⟩; have js : Sz w w7 := ⟨hb.size⟩; clear ho hb hg hat)); (repeat' first | ((with_reducible replace h := ite_some h); rcases h with ⟨hc, h⟩ | ⟨hc, h⟩ <;> first | exact (none_some h).elim | exact absurd hc (by decide) | subst hc | (replace hc := hF_ hc; subst hc) | (replace hc := hG_ hc; subst hc) | (replace hc := hH_ hc; subst hc) | (have hd : (_ == _) = true := hc) | (have hd : (_ == _) = false := hF_ hc) | (have hd := hI_ hc; have he := hJ_ hc; clear hc) | (have hd := hK_ hc; have he := hL_ hc) | (have hd := decide_eq_false hc) | (have hd := decide_eq_true hc; (try (have hn := Int.natCast_pos.mp hc; have hm := decide_eq_true hn; replace hn := eq_true hn)); first | (have hz := form_ (by assumption) (by first | assumption | decide) hc; obtain ⟨g_, e_, i_⟩ := hz; cases e_) | (have hz := atI_ (by assumption) (by first | assumption | decide) hc; obtain ⟨a_, e_, c_⟩ := hz; cases e_) | (have hz := at_T41 (RdE.out (self := by assumption)) _ (by first | assumption | decide) hc; obtain ⟨a_, e_, c0_, c1_, c2_, c3_⟩ := hz; cases e_; replace c0_ := CelE.mk c0_; replace c1_ := CelE.mk c1_; replace c2_ := CelE.mk c2_; replace c3_ := CelE.mk c3_) | (have hz := at_T41 (RdE.out (self := by assumption)) _ hc (by assumption); obtain ⟨a_, e_, c0_, c1_, c2_, c3_⟩ := hz; cases e_; replace c0_ := CelE.mk c0_; replace c1_ := CelE.mk c1_; replace c2_ := CelE.mk c2_; replace c3_ := CelE.mk c3_)) | (have hd := decide_eq_true hc) | skip) | ((with_reducible have hj : impl_RunActs.j0 k _ _ _ _ _ _ _ _ = _ := h); clear hj; rcases k with _ | k <;> rw [impl_RunActs.j0] at h <;> first | exact (none_some h).elim | skip) | ((with_reducible replace h := bind_set_ h); obtain ⟨hl_, h⟩ := h; replace hl_ := A_ hl_; (try dsimp only at h))))
  all_goals first
   | (go_roundg k1; (case measure => have := HK2.out; omega); (case rel => exact ⟨_, _, _, _, _, _, _, _, (.slice B0 t1.length b0), (.slice B1 t3.length b1), (.slice B2 t6.length b2), (by first | rfl | (simp; done)), ⟨h⟩, ⟨by have := HK2.out; omega⟩, ⟨djR (ok := fun _ => True) (by first | exact rowFin | exact atFin | exact atFin' (by simp) | exact rowFin' (by simp))⟩, ⟨by first | exact rowFin | exact rowFin' rfl | exact rowFin' (by simp) | exact Kd.R_nil _ _ _ _ _⟩, ⟨djR (ok := fun _ => True) (by first | exact rowFin | exact atFin | exact atFin' (by simp) | exact rowFin' (by simp))⟩, ⟨by first | exact rowFin | exact rowFin' rfl | exact rowFin' (by simp) | exact Kd.R_nil _ _ _ _ _⟩, ⟨Blk.out⟩, ⟨Blk.out⟩, ⟨Blk.out⟩, ⟨From.out⟩⟩))
   | ((try simp only [Option.some.injEq, Prod.mk.injEq] at h); (try obtain ⟨rfl, rfl, rfl, rfl, rfl, rfl, rfl⟩ := h); refine bodyPost_ret (results_ct rfl _ _ _ _ _ (0, 0) _ rfl Blk.out Tryz.underlying37 rfl (by kernel_rfl)) rfl ?_; exact ⟨_, _, _, _, rfl, (by first | exact rowFin | exact rowFin' rfl | exact rowFin' (by simp) | exact Kd.R_nil _ _ _ _ _ | exact atFin | exact irowFin' (by simp)), (by first | exact Kd.R_nil _ _ _ _ _ | exact djR (ok := fun _ => True) (by first | exact rowFin | exact atFin | exact atFin' (by simp) | exact rowFin' (by simp))), (by first | exact rowFin | exact rowFin' rfl | exact rowFin' (by simp) | exact Kd.R_nil _ _ _ _ _ | exact atFin | exact irowFin' (by simp)), (by first | exact Kd.R_nil _ _ _ _ _ | exact djR (ok := fun _ => True) (by first | exact rowFin | exact atFin | exact atFin' (by simp) | exact rowFin' (by simp))), From.out⟩)
end Go.Proofs.YtanhnhkcpbdfmaaGreat.P
namespace Go.Proofs.YtanhnhkcpbdfmaaGreat.P
set_option maxHeartbeats 8000000
set_option maxRecDepth 100000
set_option synthInstance.maxHeartbeats 400000
set_option synthInstance.maxSize 100000
open Go.RowKit Go.Proofs.YtanhnhkcpbdfmaaGreatW.PrintWords Go.Proofs.YtanhnhkcpbdfmaaGreatW.PrintLast Go.Proofs.YtanhnhkcpbdfmaaGreatW.PrintMore Go.Proofs.YtanhnhkcpbdfmaaGreat.V
attribute [local go_sem] cell_b frozen_b
attribute [local go_sem] max2_int min2_int max_two min_two max_three min_three max_four min_four
mutual
def laws_FnExactRunActs.j0 : Nat → List (S30) → List Int → List (S41) → List Int → Bool → List (S140) → Int → List Int → Int → Int → List (S127) → List (S112) → Int → List Int → Int → Int → List (S104) → List (S112) → Int → List Int → Int → Int → List (S104) → List (S112) → Int → List Int → Int → Int → List (S104) → Option (Bool)
 | 0, _, _, _, _, _, _, _, _, _, _, _, _, _, _, _, _, _, _, _, _, _, _, _, _, _, _, _, _, _ => none
 | k + 1, x1, x7, x9, x11, x54, x1287000, x1287001, x1287002, x1287003, x1287004, x1287005, x1320000, x1320001, x1320002, x1320003, x1320004, x1320005, x1333000, x1333001, x1333002, x1333003, x1333004, x1333005, x1352000, x1352001, x1352002, x1352003, x1352004, x1352005 => if x54 = true then (some false) else ((laws_toShop.f k x1287000 x1287001 x1287002 x1287003 x1287004 x1287005).bind fun bt1354 => ((laws_eqShop.f k x1333000 x1333001 x1333002 x1333003 x1333004 x1333005 bt1354.1 bt1354.2.1 bt1354.2.2.1 bt1354.2.2.2.1 bt1354.2.2.2.2.1 bt1354.2.2.2.2.2).bind fun t1366 => (if t1366 = true then ((laws_toActS.f k x1).bind fun t1367 => ((laws_eqActS.f k x9 t1367).bind fun t1370 => (if t1370 = true then ((laws_markShop.f k x1333000 x1333001 x1333002 x1333003 x1333004 x1333005 1).bind fun bt1371 => ((laws_markActS.f k x9 bt1371.1).bind fun bt1375 => (if bt1375.1 < 0 then (laws_FnExactRunActs.j1 k x1 x7 x11 true x1287000 x1287001 x1287002 x1287003 x1287004 x1287005 x1320000 x1320001 x1320002 x1320003 x1320004 x1320005 x1352000 x1352001 x1352002 x1352003 x1352004 x1352005) else ((laws_eqShop.f k x1352000 x1352001 x1352002 x1352003 x1352004 x1352005 x1320000 x1320001 x1320002 x1320003 x1320004 x1320005).bind fun t1377 => (if t1377 = true then ((laws_eqIntS.f k x11 x7).bind fun t1378 => (laws_FnExactRunActs.j1 k x1 x7 x11 (!t1378) x1287000 x1287001 x1287002 x1287003 x1287004 x1287005 x1320000 x1320001 x1320002 x1320003 x1320004 x1320005 x1352000 x1352001 x1352002 x1352003 x1352004 x1352005)) else (laws_FnExactRunActs.j1 k x1 x7 x11 true x1287000 x1287001 x1287002 x1287003 x1287004 x1287005 x1320000 x1320001 x1320002 x1320003 x1320004 x1320005 x1352000 x1352001 x1352002 x1352003 x1352004 x1352005)))))) else (some false)))) else (some false))))
def laws_FnExactRunActs.j1 : Nat → List (S30) → List Int → List Int → Bool → List (S140) → Int → List Int → Int → Int → List (S127) → List (S112) → Int → List Int → Int → Int → List (S104) → List (S112) → Int → List Int → Int → Int → List (S104) → Option (Bool)
 | 0, _, _, _, _, _, _, _, _, _, _, _, _, _, _, _, _, _, _, _, _, _, _ => none
 | k + 1, x1, x7, x11, x84, x1287000, x1287001, x1287002, x1287003, x1287004, x1287005, x1320000, x1320001, x1320002, x1320003, x1320004, x1320005, x1352000, x1352001, x1352002, x1352003, x1352004, x1352005 => if x84 = true then (some false) else ((laws_markShop.f k x1352000 x1352001 x1352002 x1352003 x1352004 x1352005 1).bind fun bt1379 => ((laws_markIntS.f k x11 bt1379.1).bind fun bt1383 => ((laws_heldShop.f k bt1379.2.1 x1352001 bt1379.2.2.1 x1352003 x1352004 bt1379.2.2.2 1).bind fun t1385 => (if t1385 < 0 then (some false) else ((laws_heldIntS.f k bt1383.2 t1385).bind fun t1386 => (if t1386 < 0 then (some false) else (if t1386 = bt1383.1 then ((laws_toShop.f k x1287000 x1287001 x1287002 x1287003 x1287004 x1287005).bind fun bt1387 => ((laws_toActS.f k x1).bind fun t1399 => ((impl_RunActs.f k bt1387.1 bt1387.2.1 bt1387.2.2.1 bt1387.2.2.2.1 bt1387.2.2.2.2.1 bt1387.2.2.2.2.2 t1399).bind fun bt1402 => ((laws_eqShop.f k bt1402.1 bt1402.2.1 bt1402.2.2.1 bt1402.2.2.2.1 bt1402.2.2.2.2.1 bt1402.2.2.2.2.2.1 x1320000 x1320001 x1320002 x1320003 x1320004 x1320005).bind fun t1418 => (if t1418 = true then ((laws_eqIntS.f k bt1402.2.2.2.2.2.2 x7).bind fun t1419 => (laws_FnExactRunActs.j2 k bt1383.2 bt1383.1 (!t1419) bt1379.2.1 x1352001 bt1379.2.2.1 x1352003 x1352004 bt1379.2.2.2)) else (laws_FnExactRunActs.j2 k bt1383.2 bt1383.1 true bt1379.2.1 x1352001 bt1379.2.2.1 x1352003 x1352004 bt1379.2.2.2)))))) else (some false))))))))
def laws_FnExactRunActs.j2 : Nat → List Int → Int → Bool → List (S112) → Int → List Int → Int → Int → List (S104) → Option (Bool)
 | 0, _, _, _, _, _, _, _, _, _ => none
 | k + 1, x11, x13, x121, x1352000, x1352001, x1352002, x1352003, x1352004, x1352005 => if x121 = true then (some false) else ((laws_heldShop.f k x1352000 x1352001 x1352002 x1352003 x1352004 x1352005 1).bind fun t1420 => (if t1420 < 0 then (some false) else ((laws_heldIntS.f k x11 t1420).bind fun t1421 => (if t1421 < 0 then (some false) else (if t1421 = x13 then (some true) else (some false))))))
end
def laws_FnExactRunActs.f (k : Nat) (l0_0 : List (S140)) (a0_1 : Int) (l0_2 : List Int) (a0_3 : Int) (a0_4 : Int) (l0_5 : List (S127)) (l1 : List (S30)) : Option (Bool) := (laws_szShop.f l0_0 a0_1 l0_2 a0_3 a0_4 l0_5 1048576).bind fun t1287 => (if t1287 < 0 then (some true) else ((laws_szActS.f l1 t1287).bind fun t1288 => (if t1288 < 0 then (some true) else ((laws_toShop.f k l0_0 a0_1 l0_2 a0_3 a0_4 l0_5).bind fun bt1289 => ((laws_toActS.f k l1).bind fun t1301 => ((spec_RunActs.f k bt1289.1 bt1289.2.1 bt1289.2.2.1 bt1289.2.2.2.1 bt1289.2.2.2.2.1 bt1289.2.2.2.2.2 t1301).bind fun bt1304 => ((laws_toShop.f k l0_0 a0_1 l0_2 a0_3 a0_4 l0_5).bind fun bt1320 => ((laws_toActS.f k l1).bind fun t1333 => ((impl_RunActs.f k bt1320.1 bt1320.2.1 bt1320.2.2.1 bt1320.2.2.2.1 bt1320.2.2.2.2.1 bt1320.2.2.2.2.2 t1333).bind fun bt1336 => ((laws_eqShop.f k bt1336.1 bt1336.2.1 bt1336.2.2.1 bt1336.2.2.2.1 bt1336.2.2.2.2.1 bt1336.2.2.2.2.2.1 bt1304.1 bt1304.2.1 bt1304.2.2.1 bt1304.2.2.2.1 bt1304.2.2.2.2.1 bt1304.2.2.2.2.2.1).bind fun t1352 => (if t1352 = true then ((laws_eqIntS.f k bt1336.2.2.2.2.2.2 bt1304.2.2.2.2.2.2).bind fun t1353 => (laws_FnExactRunActs.j0 k l1 bt1304.2.2.2.2.2.2 t1333 bt1336.2.2.2.2.2.2 (!t1353) l0_0 a0_1 l0_2 a0_3 a0_4 l0_5 bt1304.1 bt1304.2.1 bt1304.2.2.1 bt1304.2.2.2.1 bt1304.2.2.2.2.1 bt1304.2.2.2.2.2.1 bt1320.1 bt1320.2.1 bt1320.2.2.1 bt1320.2.2.2.1 bt1320.2.2.2.2.1 bt1320.2.2.2.2.2 bt1336.1 bt1336.2.1 bt1336.2.2.1 bt1336.2.2.2.1 bt1336.2.2.2.2.1 bt1336.2.2.2.2.2.1)) else (laws_FnExactRunActs.j0 k l1 bt1304.2.2.2.2.2.2 t1333 bt1336.2.2.2.2.2.2 true l0_0 a0_1 l0_2 a0_3 a0_4 l0_5 bt1304.1 bt1304.2.1 bt1304.2.2.1 bt1304.2.2.2.1 bt1304.2.2.2.2.1 bt1304.2.2.2.2.2.1 bt1320.1 bt1320.2.1 bt1320.2.2.1 bt1320.2.2.2.1 bt1320.2.2.2.2.1 bt1320.2.2.2.2.2 bt1336.1 bt1336.2.1 bt1336.2.2.1 bt1336.2.2.2.1 bt1336.2.2.2.2.1 bt1336.2.2.2.2.2.1))))))))))))
theorem laws_FnExactRunActs.calls (k : Nat) (A0_0 : Option Addr) (c0_0 : Nat) (l0_0 : List (S140)) (a0_1 : Int) (A0_2 : Option Addr) (c0_2 : Nat) (l0_2 : List Int) (a0_3 : Int) (a0_4 : Int) (A0_5 : Option Addr) (c0_5 : Nat) (l0_5 : List (S127)) (A1 : Option Addr) (c1 : Nat) (l1 : List (S30)) (r : Bool) (w : World) (hr0_0 : Kd.C k140 w A0_0 l0_0.length l0_0) (hc0_0 : l0_0.length ≤ c0_0) (hr0_2 : Kd.C (Kd.int .i64) w A0_2 l0_2.length l0_2) (hc0_2 : l0_2.length ≤ c0_2) (hr0_5 : Kd.C k127 w A0_5 l0_5.length l0_5) (hc0_5 : l0_5.length ≤ c0_5) (hr1 : Kd.C k30 w A1 l1.length l1) (hc1 : l1.length ≤ c1) (h : laws_FnExactRunActs.f k l0_0 a0_1 l0_2 a0_3 a0_4 l0_5 l1 = some r) (hrt_ : Aside0 (r = true)) :
  Calls Tryz.prog 4 #[.agg #[.slice A0_0 l0_0.length c0_0, .int .i64 a0_1, .slice A0_2 l0_2.length c0_2, .int .i64 a0_3, .int .i64 a0_4, .slice A0_5 l0_5.length c0_5], .slice A1 l1.length c1] w fun e w' => e = .returned (.bool r) ∧ Below w.heap.size w w' := by
 replace hr0_0 := RdE.mk hr0_0
 replace hc0_0 := LeI.mk hc0_0
 replace hr0_2 := RdE.mk hr0_2
 replace hc0_2 := LeI.mk hc0_2
 replace hr0_5 := RdE.mk hr0_5
 replace hc0_5 := LeI.mk hc0_5
 replace hr1 := RdE.mk hr1
 replace hc1 := LeI.mk hc1
 obtain rfl := hrt_.out
 clear hrt_
 have ne3 := NoE.mk (d := (Kd.int .i64)) rfl
 have nt3_28 := NeT.mk (d := (Kd.int .i64)) (e := 3) (t := 28) (by decide)
 have nt3_37 := NeT.mk (d := (Kd.int .i64)) (e := 3) (t := 37) (by decide)
 have ne104 := NoE.mk (d := k104) rfl
 have nt104_28 := NeT.mk (d := k104) (e := 104) (t := 28) (by decide)
 have nt104_37 := NeT.mk (d := k104) (e := 104) (t := 37) (by decide)
 have ne112 := NoE.mk (d := k112) rfl
 have nt112_28 := NeT.mk (d := k112) (e := 112) (t := 28) (by decide)
 have nt112_37 := NeT.mk (d := k112) (e := 112) (t := 37) (by decide)
 have ne41 := NoE.mk (d := k41) rfl
 have nt41_28 := NeT.mk (d := k41) (e := 41) (t := 28) (by decide)
 have nt41_37 := NeT.mk (d := k41) (e := 41) (t := 37) (by decide)
 unfold laws_FnExactRunActs.f at h
 have hu28 := Tryz.underlying28
 have hu37 := Tryz.underlying37
 (repeat' first | ((with_reducible replace h := ite_some h); rcases h with ⟨hc, h⟩ | ⟨hc, h⟩ <;> first | exact (none_some h).elim | exact absurd (Option.some.inj h) (by decide) | exact absurd hc (by decide) | subst hc | (replace hc := hF_ hc; subst hc) | (have hd := hF_ hc) | (have hd := hI_ hc; have he := hJ_ hc; clear hc) | (have hd := hK_ hc; have he := hL_ hc) | (have hd := decide_eq_false hc) | (have hd := decide_eq_true hc) | skip) | ((have hj : laws_FnExactRunActs.j0 k _ _ _ _ _ _ _ _ _ _ _ _ _ _ _ _ _ _ _ _ _ _ _ _ _ _ _ _ _ = _ := h); clear hj; rcases k with _ | k <;> rw [laws_FnExactRunActs.j0] at h <;> first | exact (none_some h).elim | skip) | ((have hj : laws_FnExactRunActs.j1 k _ _ _ _ _ _ _ _ _ _ _ _ _ _ _ _ _ _ _ _ _ _ = _ := h); clear hj; rcases k with _ | k <;> rw [laws_FnExactRunActs.j1] at h <;> first | exact (none_some h).elim | skip) | ((have hj : laws_FnExactRunActs.j2 k _ _ _ _ _ _ _ _ _ = _ := h); clear hj; rcases k with _ | k <;> rw [laws_FnExactRunActs.j2] at h <;> first | exact (none_some h).elim | skip))
 all_goals go_enter Tryz.func4, Tryz.ntmps4
 all_goals go_wp2_with ((first
  | ((with_reducible refine gate_dst (N := 2) rfl ?_); refine bV #[.slice A0_0 l0_0.length c0_0, .int .i64 a0_1, .slice A0_2 l0_2.length c0_2, .int .i64 a0_3, .int .i64 a0_4, .slice A0_5 l0_5.length c0_5] 28 fun g w1 j1 j2 j3 => ?_)
  | ((with_reducible refine gate_dst (N := 6) rfl ?_); refine bV #[.slice none 0 0, .int .i64 0, .slice none 0 0, .int .i64 0, .int .i64 0, .slice none 0 0] 37 fun g w1 j1 j2 j3 => ?_)
  | ((with_reducible refine gate_dst (N := 8) rfl ?_); refine bV #[.slice none 0 0, .int .i64 0, .slice none 0 0, .int .i64 0, .int .i64 0, .slice none 0 0] 37 fun g w1 j1 j2 j3 => ?_)
  | ((with_reducible refine gate_dst (N := 10) rfl ?_); refine bV #[.slice none 0 0, .int .i64 0, .slice none 0 0, .int .i64 0, .int .i64 0, .slice none 0 0] 37 fun g w1 j1 j2 j3 => ?_)
  | ((with_reducible refine gate_dst (N := 15) rfl ?_); refine bV #[.slice none 0 0, .int .i64 0, .slice none 0 0, .int .i64 0, .int .i64 0, .slice none 0 0] 37 fun g w1 j1 j2 j3 => ?_)
  | (go_at_call 9; replace h := bI h; obtain ⟨t, A, h⟩ := h; (try dsimp only at h); refine (laws_szShop.calls _ _ _ _ _ _ _ _ _ _ _ _ _ _ _ Rd.out LeI.out Rd.out LeI.out Rd.out LeI.out A).mono ?_; rintro e w2 ⟨rfl, hb⟩; have jb := Bel.mk hb; clear A hb)
  | (go_at_call 17; replace h := bI h; obtain ⟨t, A, h⟩ := h; (try dsimp only at h); refine (laws_szActS.calls _ _ _ _ _ _ Rd.out LeI.out A).mono ?_; rintro e w2 ⟨rfl, n, rfl⟩; clear A)
  | (go_at_call 11; replace h := bI h; obtain ⟨⟨t1, t2, t3, t4, t5, t6⟩, A, h⟩ := h; (try dsimp only at h); refine (laws_toShop.calls _ _ _ _ _ _ _ _ _ _ _ _ _ _ _ _ _ _ _ _ Rd.out LeI.out Rd.out LeI.out Rd.out LeI.out A).mono ?_; rintro e w2 ⟨v0, v1, v2, rfl, ho0, ho1, ho2, hb⟩; obtain ⟨B0, b0, rfl, j0, q0⟩ := rowS ho0; obtain ⟨B1, b1, rfl, j1, q1⟩ := rowS ho1; obtain ⟨B2, b2, rfl, j2, q2⟩ := rowS ho2; have jb := Bel.mk hb; clear A ho0 ho1 ho2 hb)
  | (go_at_call 19; replace h := bI h; obtain ⟨t, A, h⟩ := h; (try dsimp only at h); refine (laws_toActS.calls _ _ _ _ _ _ Rd.out LeI.out A).mono ?_; rintro e w2 ⟨v0, rfl, ho0, hb⟩; obtain ⟨B0, b0, rfl, j0, q0⟩ := rowS ho0; have jb := Bel.mk hb; clear A ho0 hb)
  | (go_at_call 18; replace h := bI h; obtain ⟨⟨t1, t2, t3, t4, t5, t6, t7⟩, A, h⟩ := h; (try dsimp only at h); refine (spec_RunActs.calls _ _ _ _ _ _ _ _ _ _ _ _ _ _ _ _ _ _ _ _ _ _ _ _ Rd.out LeI.out Rd.out LeI.out Rd.out LeI.out Rd.out LeI.out A).mono ?_; rintro e w2 ⟨v0, v1, v2, v3, rfl, ho0, ho1, ho2, ho3, hb⟩; obtain ⟨B0, b0, rfl, j0, q0⟩ := rowS ho0; replace ho1 := rowAny ho1; obtain ⟨B1, b1, rfl, j1, q1⟩ := rowS ho1; obtain ⟨B2, b2, rfl, j2, q2⟩ := rowS ho2; replace ho3 := rowAny ho3; obtain ⟨B3, b3, rfl, j3, q3⟩ := rowS ho3; have jb := Bel.mk hb; clear A ho0 ho1 ho2 ho3 hb)
  | (go_at_call 20; replace h := bI h; obtain ⟨⟨t1, t2, t3, t4, t5, t6, t7⟩, A, h⟩ := h; (try dsimp only at h); refine (impl_RunActs.calls _ _ _ _ _ _ _ _ _ _ _ _ _ _ _ _ _ _ _ _ _ _ _ _ Rd.out LeI.out Rd.out LeI.out Rd.out LeI.out Rd.out LeI.out A).mono ?_; rintro e w2 ⟨v0, v1, v2, v3, rfl, ho0, ho1, ho2, ho3, hb⟩; obtain ⟨B0, b0, rfl, j0, q0⟩ := rowS ho0; replace ho1 := rowAny ho1; obtain ⟨B1, b1, rfl, j1, q1⟩ := rowS ho1; obtain ⟨B2, b2, rfl, j2, q2⟩ := rowS ho2; have o_ := ho3.1; replace ho3 := rowAny ho3; obtain ⟨B3, b3, rfl, j3, q3⟩ := rowS ho3; have jb := Bel.mk hb; have jn := j3; have dn := djOf_ o_; clear o_; clear A ho0 ho1 ho2 ho3 hb)
  | (go_at_call 14; replace h := bI h; obtain ⟨t, A, h⟩ := h; (try dsimp only at h); refine (laws_eqShop.calls _ _ _ _ _ _ _ _ _ _ _ _ _ _ _ _ _ _ _ _ _ _ _ _ _ _ _ Rd.out LeI.out Rd.out LeI.out Rd.out LeI.out Rd.out LeI.out Rd.out LeI.out Rd.out LeI.out A).mono ?_; rintro e w2 ⟨rfl, hb⟩; have jb := Bel.mk hb; clear A hb)
  | (go_at_call 21; replace h := bI h; obtain ⟨t, A, h⟩ := h; (try dsimp only at h); refine (laws_eqIntS.calls _ _ _ _ _ _ _ _ _ Rd.out LeI.out Rd.out LeI.out A).mono ?_; rintro e w2 ⟨rfl, n, rfl⟩; clear A)
  | (go_at_call 22; replace h := bI h; obtain ⟨t, A, h⟩ := h; (try dsimp only at h); refine (laws_eqActS.calls _ _ _ _ _ _ _ _ _ Rd.out LeI.out Rd.out LeI.out A).mono ?_; rintro e w2 ⟨rfl, hb⟩; have jb := Bel.mk hb; clear A hb)
  | (go_at_call 15; replace h := bI h; obtain ⟨⟨t1, t2, t3, t4⟩, A, h⟩ := h; (try dsimp only at h); refine (laws_markShop.calls _ _ _ _ _ _ _ _ _ _ _ _ _ _ _ _ _ _ w _ From.out (by first | exact rowT | exact atT) (by first | exact rowT | exact atT) (by first | exact rowT | exact atT) A).mono ?_; rintro e w2 ⟨rfl, m0, m1, m2, hb, hk⟩; obtain ⟨e0, q0, c0⟩ := Kd.R_reads' m0; replace q0 := LeI.mk (e0 ▸ q0); have j0 := RdE.mk c0; (try simp only [e0] at *); have ta0 := At.mk (rowAny m0); clear e0 c0 m0; obtain ⟨e1, q1, c1⟩ := Kd.R_reads' m1; replace q1 := LeI.mk (e1 ▸ q1); have j1 := RdE.mk c1; (try simp only [e1] at *); have ta1 := At.mk (rowAny m1); clear e1 c1 m1; obtain ⟨e2, q2, c2⟩ := Kd.R_reads' m2; replace q2 := LeI.mk (e2 ▸ q2); have j2 := RdE.mk c2; (try simp only [e2] at *); have ta2 := At.mk (rowAny m2); clear e2 c2 m2; have jf : From w w2 := ⟨hb⟩; clear hb; have jm := mk3T (d0 := k112) (d1 := (Kd.int .i64)) (d2 := k104) hk; (try have an := keepInt3 (d0 := k112) (d2 := k104) hk jn dn (by decide) (by decide)); clear hk; clear A)
  | (go_at_call 23; replace h := bI h; obtain ⟨⟨t1, t2⟩, A, h⟩ := h; (try dsimp only at h); refine (laws_markActS.calls _ _ _ _ _ _ _ w _ From.out (by first | exact rowT | exact atT) A).mono ?_; rintro e w2 ⟨rfl, m0, hb, hk⟩; obtain ⟨e0, q0, c0⟩ := Kd.R_reads' m0; replace q0 := LeI.mk (e0 ▸ q0); have j0 := RdE.mk c0; (try simp only [e0] at *); clear e0 c0 m0; have jf : From w w2 := ⟨hb⟩; clear hb; have jm := mk1T (d0 := k41) hk; clear hk; clear A)
  | (go_at_call 24; replace h := bI h; obtain ⟨⟨t1, t2⟩, A, h⟩ := h; (try dsimp only at h); refine (laws_markIntS.calls _ _ _ _ _ _ _ w _ From.out (by first | exact rowT | exact atT) A).mono ?_; rintro e w2 ⟨rfl, m0, hb, hk⟩; obtain ⟨e0, q0, c0⟩ := Kd.R_reads' m0; replace q0 := LeI.mk (e0 ▸ q0); have j0 := RdE.mk c0; (try simp only [e0] at *); clear e0 c0 m0; have jf : From w w2 := ⟨hb⟩; clear hb; have jm := mk1T (d0 := (Kd.int .i64)) hk; replace ta0 := atK1 hk ta0 an (by decide); replace ta1 := atK2 hk ta1 (djSym dn); replace ta2 := atK1 hk ta2 an (by decide); clear hk; clear A)
  | (go_at_call 16; replace h := bI h; obtain ⟨t, A, h⟩ := h; (try dsimp only at h); refine (laws_heldShop.calls _ _ _ _ _ _ _ _ _ _ _ _ _ _ _ _ Rd.out LeI.out Rd.out LeI.out Rd.out LeI.out A).mono ?_; rintro e w2 ⟨rfl, hb⟩; have jb := Bel.mk hb; clear A hb)
  | (go_at_call 25; replace h := bI h; obtain ⟨t, A, h⟩ := h; (try dsimp only at h); refine (laws_heldIntS.calls _ _ _ _ _ _ _ Rd.out LeI.out A).mono ?_; rintro e w2 ⟨rfl, n, rfl⟩; clear A)
  | ((with_reducible refine region_at ?_); intro w3 jw; go_region_held3 (fun w' => Sin w3 w') (first | exact ⟨From.out⟩ | skip) (first | (go_at_call 11; replace h := bI h; obtain ⟨⟨t1, t2, t3, t4, t5, t6⟩, A, h⟩ := h; (try dsimp only at h); refine (laws_toShop.calls _ _ _ _ _ _ _ _ _ _ _ _ _ _ _ _ _ _ _ _ Rd.out LeI.out Rd.out LeI.out Rd.out LeI.out A).mono ?_; rintro e w2 ⟨v0, v1, v2, rfl, ho0, ho1, ho2, hb⟩; obtain ⟨B0, b0, rfl, j0, q0⟩ := rowS ho0; obtain ⟨B1, b1, rfl, j1, q1⟩ := rowS ho1; obtain ⟨B2, b2, rfl, j2, q2⟩ := rowS ho2; have jb := Bel.mk hb; clear A ho0 ho1 ho2 hb; (repeat' first | ((with_reducible replace h := ite_some h); rcases h with ⟨hc, h⟩ | ⟨hc, h⟩ <;> first | exact (none_some h).elim | exact absurd (Option.some.inj h) (by decide) | exact absurd hc (by decide) | subst hc | (replace hc := hF_ hc; subst hc) | (have hd := hF_ hc) | (have hd := hI_ hc; have he := hJ_ hc; clear hc) | (have hd := hK_ hc; have he := hL_ hc) | (have hd := decide_eq_false hc) | (have hd := decide_eq_true hc) | skip) | ((have hj : laws_FnExactRunActs.j0 k _ _ _ _ _ _ _ _ _ _ _ _ _ _ _ _ _ _ _ _ _ _ _ _ _ _ _ _ _ = _ := h); clear hj; rcases k with _ | k <;> rw [laws_FnExactRunActs.j0] at h <;> first | exact (none_some h).elim | skip) | ((have hj : laws_FnExactRunActs.j1 k _ _ _ _ _ _ _ _ _ _ _ _ _ _ _ _ _ _ _ _ _ _ = _ := h); clear hj; rcases k with _ | k <;> rw [laws_FnExactRunActs.j1] at h <;> first | exact (none_some h).elim | skip) | ((have hj : laws_FnExactRunActs.j2 k _ _ _ _ _ _ _ _ _ = _ := h); clear hj; rcases k with _ | k <;> rw [laws_FnExactRunActs.j2] at h <;> first | exact (none_some h).elim | skip))) | (go_at_call 14; replace h := bI h; obtain ⟨t, A, h⟩ := h; (try dsimp only at h); refine (laws_eqShop.calls _ _ _ _ _ _ _ _ _ _ _ _ _ _ _ _ _ _ _ _ _ _ _ _ _ _ _ Rd.out LeI.out Rd.out LeI.out Rd.out LeI.out Rd.out LeI.out Rd.out LeI.out Rd.out LeI.out A).mono ?_; rintro e w2 ⟨rfl, hb⟩; have jb := Bel.mk hb; clear A hb; (repeat' first | ((with_reducible replace h := ite_some h); rcases h with ⟨hc, h⟩ | ⟨hc, h⟩ <;> first | exact (none_some h).elim | exact absurd (Option.some.inj h) (by decide) | exact absurd hc (by decide) | subst hc | (replace hc := hF_ hc; subst hc) | (have hd := hF_ hc) | (have hd := hI_ hc; have he := hJ_ hc; clear hc) | (have hd := hK_ hc; have he := hL_ hc) | (have hd := decide_eq_false hc) | (have hd := decide_eq_true hc) | skip) | ((have hj : laws_FnExactRunActs.j0 k _ _ _ _ _ _ _ _ _ _ _ _ _ _ _ _ _ _ _ _ _ _ _ _ _ _ _ _ _ = _ := h); clear hj; rcases k with _ | k <;> rw [laws_FnExactRunActs.j0] at h <;> first | exact (none_some h).elim | skip) | ((have hj : laws_FnExactRunActs.j1 k _ _ _ _ _ _ _ _ _ _ _ _ _ _ _ _ _ _ _ _ _ _ = _ := h); clear hj; rcases k with _ | k <;> rw [laws_FnExactRunActs.j1] at h <;> first | exact (none_some h).elim | skip) | ((have hj : laws_FnExactRunActs.j2 k _ _ _ _ _ _ _ _ _ = _ := h); clear hj; rcases k with _ | k <;> rw [laws_FnExactRunActs.j2] at h <;> first | exact (none_some h).elim | skip)))))); (repeat' first | ((with_reducible replace h := ite_some h); rcases h with ⟨hc, h⟩ | ⟨hc, h⟩ <;> first | exact (none_some h).elim | exact absurd (Option.some.inj h) (by decide) | exact absurd hc (by decide) | subst hc | (replace hc := hF_ hc; subst hc) | (have hd := hF_ hc) | (have hd := hI_ hc; have he := hJ_ hc; clear hc) | (have hd := hK_ hc; have he := hL_ hc) | (have hd := decide_eq_false hc) | (have hd := decide_eq_true hc) | skip) | ((have hj : laws_FnExactRunActs.j0 k _ _ _ _ _ _ _ _ _ _ _ _ _ _ _ _ _ _ _ _ _ _ _ _ _ _ _ _ _ = _ := h); clear hj; rcases k with _ | k <;> rw [laws_FnExactRunActs.j0] at h <;> first | exact (none_some h).elim | skip) | ((have hj : laws_FnExactRunActs.j1 k _ _ _ _ _ _ _ _ _ _ _ _ _ _ _ _ _ _ _ _ _ _ = _ := h); clear hj; rcases k with _ | k <;> rw [laws_FnExactRunActs.j1] at h <;> first | exact (none_some h).elim | skip) | ((have hj : laws_FnExactRunActs.j2 k _ _ _ _ _ _ _ _ _ = _ := h); clear hj; rcases k with _ | k <;> rw [laws_FnExactRunActs.j2] at h <;> first | exact (none_some h).elim | skip)); all_goals (try have hn : decide (0 < t.length) = true := decide_eq_true (by omega)); all_goals (try have hn : decide (0 < t.length) = false := decide_eq_false (by omega)))
 all_goals go_ret
 all_goals exact ⟨rfl, From.out⟩
end Go.Proofs.YtanhnhkcpbdfmaaGreat.P
namespace Go.Proofs.YtanhnhkcpbdfmaaGreat.Q
open Go.RowKit Go.Proofs.YtanhnhkcpbdfmaaGreat.P Go.Proofs.YtanhnhkcpbdfmaaGreatW.PrintWords Go.Proofs.YtanhnhkcpbdfmaaGreatW.PrintMore
def openF (l : List S104) : List S104 := if logOk l = true then openUp l l.length else []
theorem open_impl (l : List S104) (hl : l.length ≤ 1048577) : impl_OpenFaults.f l = some (openF l) := by
  unfold impl_OpenFaults.f
  rw [if_pos hl]
  rfl
theorem openF_spec (l : List S104) (hl : l.length ≤ 1048577) : Ev (fun k => spec_OpenFaults.f k l) (openF l) := open_spec l hl
def nextR (l : List S104) : Int × Int × Bool := match openF l with
  | [] => (0, 0, false)
  | x :: _ => (x.f0.f0, x.f0.f1, true)
theorem next_impl (l : List S104) (hl : l.length ≤ 1048577) : impl_NextRepair.f l = some (nextR l) := by
  unfold impl_NextRepair.f nextR
  rw [open_impl l hl]
  simp only [Option.bind_some]
  cases h : openF l with
  | nil => simp
  | cons x r =>
    rw [if_neg (by first | (simp; done) | (simp; omega)), if_pos (by first | (simp; done) | (simp; omega))]
    simp [rd_T104]
theorem next_spec (l : List S104) (hl : l.length ≤ 1048577) : Ev (fun k => spec_NextRepair.f k l) (nextR l) := by
  unfold spec_NextRepair.f nextR
  refine Ev.bind (openF_spec l hl) ?_
  cases h : openF l with
  | nil => exact evp (by simp) (Ev.now _)
  | cons x r =>
    refine evn (by first | (simp; done) | (simp; omega)) (evp (by first | (simp; done) | (simp; omega)) ?_)
    simp only [rd_T104]
    exact Ev.now _
def repNext (l : List S104) (m : Int) : List S104 × Bool := if (nextR l).2.2 = true then addEntry l (nextR l).1 (nextR l).2.1 0 m else (l, false)
theorem repNext_impl (l : List S104) (m : Int) (hl : l.length ≤ 1048576) : Ev (fun k => impl_RepairNext.f k l m) (repNext l m) := by
  unfold impl_RepairNext.f repNext
  refine evb (next_impl l (by omega)) ?_
  by_cases h : (nextR l).2.2 = true
  · exact rpos h <| evp h (Ev.bind (add_impl l _ _ _ _ hl) (Ev.now _))
  · exact rneg h <| evn h (evb (copyLog_eq l (by omega)) (Ev.now _))
theorem repNext_spec (l : List S104) (m : Int) (hl : l.length ≤ 1048576) : Ev (fun k => spec_RepairNext.f k l m) (repNext l m) := by
  unfold spec_RepairNext.f repNext
  refine Ev.bind (next_spec l (by omega)) ?_
  by_cases h : (nextR l).2.2 = true
  · exact rpos h <| evp h (Ev.bind (add_spec l _ _ _ _ hl) (Ev.now _))
  · exact rneg h <| evn h (evb (l34Copy_eq l (by omega)) (Ev.now _))
theorem repNext_len (l : List S104) (m : Int) : (repNext l m).1.length ≤ l.length + 1 := by
  unfold repNext
  split
  · exact addEntry_len _ _ _ _ _
  · simp
def tru (b : Bool) : Int := if b = true then 1 else 0
theorem truth_impl (b : Bool) : impl_truth.f b = some (tru b) := by unfold impl_truth.f tru; cases b <;> rfl
theorem truth_spec (b : Bool) : spec_l39Bool.f b = some (tru b) := by unfold spec_l39Bool.f tru; cases b <;> rfl
def doAct (p : List S112) (d : Int) (q : List Int) (a m : Int) (l : List S104) (n x y z : Int) : List S112 × Int × List Int × Int × Int × List S104 × Int :=
  if shopOk p d q a m l = true ∧ actOk n x y z = true then
    (if n = 1 then ((shopTune p d q a m l).1, (shopTune p d q a m l).2.1, (shopTune p d q a m l).2.2.1, (shopTune p d q a m l).2.2.2.1, (shopTune p d q a m l).2.2.2.2.1, (shopTune p d q a m l).2.2.2.2.2.1, tru (shopTune p d q a m l).2.2.2.2.2.2)
    else if n = 2 then ((shopWarm p d q a m l x).1, (shopWarm p d q a m l x).2.1, (shopWarm p d q a m l x).2.2.1, (shopWarm p d q a m l x).2.2.2.1, (shopWarm p d q a m l x).2.2.2.2.1, (shopWarm p d q a m l x).2.2.2.2.2.1, tru (shopWarm p d q a m l x).2.2.2.2.2.2)
    else if n = 3 then ((shopFault p d q a m l x y z).1, (shopFault p d q a m l x y z).2.1, (shopFault p d q a m l x y z).2.2.1, (shopFault p d q a m l x y z).2.2.2.1, (shopFault p d q a m l x y z).2.2.2.2.1, (shopFault p d q a m l x y z).2.2.2.2.2.1, tru (shopFault p d q a m l x y z).2.2.2.2.2.2)
    else if n = 4 then ((shopKnock p d q a m l x y).1, (shopKnock p d q a m l x y).2.1, (shopKnock p d q a m l x y).2.2.1, (shopKnock p d q a m l x y).2.2.2.1, (shopKnock p d q a m l x y).2.2.2.2.1, (shopKnock p d q a m l x y).2.2.2.2.2.1, tru (shopKnock p d q a m l x y).2.2.2.2.2.2)
    else if n = 5 then (p, d, q, a, m, (repNext l m).1, tru (repNext l m).2)
    else if n = 6 then (p, d, q, a, m, l, stepsLeft p d q a m l)
    else (p, d, q, a, m, l, heardAt p d q a m l x))
  else (p, d, q, a, m, l, -1)
section
variable (p : List S112) (d : Int) (q : List Int) (a m : Int) (l : List S104) (n x y z : Int) (hp : p.length ≤ 4000000) (hq : q.length ≤ 4000000) (hl : l.length ≤ 1048576)
include hp hq hl
theorem doAct_impl : Ev (fun k => impl_DoAct.f k p d q a m l n x y z) (doAct p d q a m l n x y z) := by
  have E := copyShop_eq p d q a m l hp hq (by omega)
  have O := shopOk_impl p d q a m l (by omega)
  have AO := actOk_impl n x y z
  have T := stune_impl p d q a m l hp hq hl
  have W := swarm_impl p d q a m l x hp hq hl
  have F := sfault_impl p d q a m l x y z hp hq hl
  have K := sknock_impl p d q a m l x y hp hq hl
  have R := repNext_impl l m hl
  have L := left_impl p d q a m l (by omega)
  have H := heard_impl p d q a m l x (by omega)
  have jt : Ev (fun k => impl_DoAct.j0 k true p d q a m l n x y z) (p, d, q, a, m, l, -1) := Ev.step (fun k => by rw [impl_DoAct.j0]) (evp rfl (evb E (Ev.now _)))
  unfold impl_DoAct.f doAct
  refine Ev.bind O ?_
  by_cases h0 : shopOk p d q a m l = true
  rotate_left
  · exact rneg (fun hh => h0 hh.1) (evn h0 jt)
  refine evp h0 (Ev.bind AO ?_)
  by_cases h1 : actOk n x y z = true
  rotate_left
  · exact rneg (fun hh => h1 hh.2) (by rw [show (!actOk n x y z) = true by simp [h1]]; exact jt)
  refine rpos ⟨h0, h1⟩ ?_
  rw [show (!actOk n x y z) = false by simp [h1]]
  refine Ev.step (fun k => by rw [impl_DoAct.j0]) (evn (by decide) ?_)
  by_cases c1 : n = 1
  · exact rpos c1 (evp c1 (Ev.bind T (evb (truth_impl _) (Ev.now _))))
  refine rneg c1 (evn c1 ?_)
  by_cases c2 : n = 2
  · exact rpos c2 (evp c2 (Ev.bind W (evb (truth_impl _) (Ev.now _))))
  refine rneg c2 (evn c2 ?_)
  by_cases c3 : n = 3
  · exact rpos c3 (evp c3 (Ev.bind F (evb (truth_impl _) (Ev.now _))))
  refine rneg c3 (evn c3 ?_)
  by_cases c4 : n = 4
  · exact rpos c4 (evp c4 (Ev.bind K (evb (truth_impl _) (Ev.now _))))
  refine rneg c4 (evn c4 ?_)
  by_cases c5 : n = 5
  · exact rpos c5 (evp c5 (evb E (Ev.bind R (evb (truth_impl _) (Ev.now _)))))
  refine rneg c5 (evn c5 ?_)
  by_cases c6 : n = 6
  · exact rpos c6 (evp c6 (evb E (Ev.bind L (Ev.now _))))
  exact rneg c6 (evn c6 (evb E (Ev.bind H (Ev.now _))))
theorem doAct_spec : Ev (fun k => spec_DoAct.f k p d q a m l n x y z) (doAct p d q a m l n x y z) := by
  have E := l38Copy_eq p d q a m l hp hq (by omega)
  have O := shopOk_spec p d q a m l (by omega)
  have AO := actOk_spec n x y z
  have T := stune_spec p d q a m l hp hq hl
  have W := swarm_spec p d q a m l x hp hq hl
  have F := sfault_spec p d q a m l x y z hp hq hl
  have K := sknock_spec p d q a m l x y hp hq hl
  have R := repNext_spec l m hl
  have L := left_spec p d q a m l (by omega)
  have H := heard_spec p d q a m l x (by omega)
  have jt : Ev (fun k => spec_DoAct.j0 k true p d q a m l n x y z p d q a m l) (p, d, q, a, m, l, -1) := Ev.step (fun k => by rw [spec_DoAct.j0]) (evp rfl (Ev.now _))
  unfold spec_DoAct.f doAct
  refine evb E (Ev.bind O ?_)
  by_cases h0 : shopOk p d q a m l = true
  rotate_left
  · exact rneg (fun hh => h0 hh.1) (evn h0 jt)
  refine evp h0 (Ev.bind AO ?_)
  by_cases h1 : actOk n x y z = true
  rotate_left
  · exact rneg (fun hh => h1 hh.2) (by rw [show (!actOk n x y z) = true by simp [h1]]; exact jt)
  refine rpos ⟨h0, h1⟩ ?_
  rw [show (!actOk n x y z) = false by simp [h1]]
  refine Ev.step (fun k => by rw [spec_DoAct.j0]) (evn (by decide) ?_)
  by_cases c1 : n = 1
  · exact rpos c1 (evp c1 (Ev.bind T (evb (truth_spec _) (Ev.now _))))
  refine rneg c1 (evn c1 ?_)
  by_cases c2 : n = 2
  · exact rpos c2 (evp c2 (Ev.bind W (evb (truth_spec _) (Ev.now _))))
  refine rneg c2 (evn c2 ?_)
  by_cases c3 : n = 3
  · exact rpos c3 (evp c3 (Ev.bind F (evb (truth_spec _) (Ev.now _))))
  refine rneg c3 (evn c3 ?_)
  by_cases c4 : n = 4
  · exact rpos c4 (evp c4 (Ev.bind K (evb (truth_spec _) (Ev.now _))))
  refine rneg c4 (evn c4 ?_)
  by_cases c5 : n = 5
  · exact rpos c5 (evp c5 (Ev.bind R (evb (truth_spec _) (Ev.now _))))
  refine rneg c5 (evn c5 ?_)
  by_cases c6 : n = 6
  · exact rpos c6 (evp c6 (Ev.bind L (Ev.now _)))
  refine rneg c6 (evn c6 ?_)
  have c7 : n = 7 := by have := actOk_kind h1; omega
  exact evp c7 (Ev.bind H (Ev.now _))
end
theorem doAct_len (p : List S112) (d : Int) (q : List Int) (a m : Int) (l : List S104) (n x y z : Int) : (doAct p d q a m l n x y z).1 = p ∧ (doAct p d q a m l n x y z).2.2.1.length = q.length ∧ (doAct p d q a m l n x y z).2.2.2.2.2.1.length ≤ l.length + 1 := by
  have t := shopTune_len p d q a m l
  have w := shopWarm_len p d q a m l x
  have f := shopFault_len p d q a m l x y z
  have k := shopKnock_len p d q a m l x y
  have r := repNext_len l m
  unfold doAct
  split
  · split
    · exact ⟨t.1, t.2.1, by dsimp only; rw [t.2.2]; omega⟩
    split
    · exact ⟨w.1, by dsimp only; rw [w.2.1], by dsimp only; rw [w.2.2]; omega⟩
    split
    · exact ⟨f.1, by dsimp only; rw [f.2.1], f.2.2⟩
    split
    · exact ⟨k.1, k.2.1, by dsimp only; rw [k.2.2]; omega⟩
    split
    · exact ⟨rfl, rfl, r⟩
    split
    · exact ⟨rfl, rfl, by dsimp only; omega⟩
    · exact ⟨rfl, rfl, by dsimp only; omega⟩
  · exact ⟨rfl, rfl, by dsimp only; omega⟩
def runA : List S41 → List S112 → Int → List Int → Int → Int → List S104 → List Int → List S112 × Int × List Int × Int × Int × List S104 × List Int
  | [], p, d, q, a, m, l, r => (p, d, q, a, m, l, r)
  | x :: xs, p, d, q, a, m, l, r => runA xs (doAct p d q a m l x.f0 x.f1 x.f2 x.f3).1 (doAct p d q a m l x.f0 x.f1 x.f2 x.f3).2.1 (doAct p d q a m l x.f0 x.f1 x.f2 x.f3).2.2.1 (doAct p d q a m l x.f0 x.f1 x.f2 x.f3).2.2.2.1 (doAct p d q a m l x.f0 x.f1 x.f2 x.f3).2.2.2.2.1 (doAct p d q a m l x.f0 x.f1 x.f2 x.f3).2.2.2.2.2.1 (r ++ [(doAct p d q a m l x.f0 x.f1 x.f2 x.f3).2.2.2.2.2.2])
def runActs (p : List S112) (d : Int) (q : List Int) (a m : Int) (l : List S104) (xs : List S41) : List S112 × Int × List Int × Int × Int × List S104 × List Int :=
  if shopOk p d q a m l = true ∧ xs.length ≤ 40 then runA xs p d q a m l [] else (p, d, q, a, m, l, [])
theorem runA_len : ∀ (xs : List S41) (p : List S112) (d : Int) (q : List Int) (a m : Int) (l : List S104) (r : List Int),
    (runA xs p d q a m l r).1 = p ∧ (runA xs p d q a m l r).2.2.1.length = q.length ∧ (runA xs p d q a m l r).2.2.2.2.2.1.length ≤ l.length + xs.length ∧ (runA xs p d q a m l r).2.2.2.2.2.2.length = r.length + xs.length
  | [], p, d, q, a, m, l, r => ⟨rfl, rfl, Nat.le_refl _, rfl⟩
  | x :: xs, p, d, q, a, m, l, r => by
    obtain ⟨h1, h2, h3⟩ := doAct_len p d q a m l x.f0 x.f1 x.f2 x.f3
    unfold runA
    generalize doAct p d q a m l x.f0 x.f1 x.f2 x.f3 = R at *
    obtain ⟨g1, g2, g3, g4⟩ := runA_len xs R.1 R.2.1 R.2.2.1 R.2.2.2.1 R.2.2.2.2.1 R.2.2.2.2.2.1 (r ++ [R.2.2.2.2.2.2])
    refine ⟨g1.trans h1, g2.trans h2, ?_, ?_⟩
    · simp only [List.length_cons]; omega
    · rw [g4]; simp; omega
theorem runActs_len (p : List S112) (d : Int) (q : List Int) (a m : Int) (l : List S104) (xs : List S41) :
    (runActs p d q a m l xs).1 = p ∧ (runActs p d q a m l xs).2.2.1.length = q.length ∧ (runActs p d q a m l xs).2.2.2.2.2.1.length ≤ l.length + 40 ∧ (runActs p d q a m l xs).2.2.2.2.2.2.length ≤ 40 := by
  unfold runActs
  split
  · rename_i h
    obtain ⟨g1, g2, g3, g4⟩ := runA_len xs p d q a m l []
    exact ⟨g1, g2, by omega, by rw [g4]; simp; exact h.2⟩
  · exact ⟨rfl, rfl, by dsimp only; omega, by simp⟩
theorem logLen_ {l : List S104} (h : logOk l = true) : l.length ≤ 30 := by
  unfold logOk at h
  simp only [Bool.and_eq_true, decide_eq_true_eq] at h
  exact h.2
section
variable (xs : List S41) (hx : xs.length ≤ 40)
include hx
theorem runs_impl : ∀ i, i ≤ xs.length → ∀ (p : List S112) (d : Int) (q : List Int) (a m : Int) (l : List S104) (r : List Int), p.length ≤ 4000000 → q.length ≤ 4000000 → l.length ≤ 30 + i → r.length = i →
    Ev (fun k => impl_RunActs.l0 k r xs (xs.length : Int) (i : Int) p d q a m l) (runA (xs.drop i) p d q a m l r) := by
  refine down (n := xs.length) ?_ ?_
  · intro p d q a m l r hp hq hl hr
    refine Ev.step (fun k => by rw [impl_RunActs.l0]) (evn (by omega) (evs ?_))
    rw [drop_end]; rfl
  · intro i hi ih p d q a m l r hp hq hl hr
    refine Ev.step (fun k => by rw [impl_RunActs.l0]) (evp (by omega) (evp (by omega) (evp (by omega) ?_)))
    rw [rdA xs i hi, drop_cons xs i hi]
    obtain ⟨h1, h2, h3⟩ := doAct_len p d q a m l xs[i].f0 xs[i].f1 xs[i].f2 xs[i].f3
    refine Ev.bind (doAct_impl p d q a m l xs[i].f0 xs[i].f1 xs[i].f2 xs[i].f3 hp hq (by omega)) (evp (by omega) ?_)
    rw [w64 (n := (i : Int) + 1) (by omega) (by omega)]
    unfold runA
    exact ih _ _ _ _ _ _ _ (by rw [h1]; exact hp) (by rw [h2]; exact hq) (by omega) (by simp; omega)
theorem runs_spec : ∀ i, i ≤ xs.length → ∀ (p : List S112) (d : Int) (q : List Int) (a m : Int) (l : List S104) (r : List Int), p.length ≤ 4000000 → q.length ≤ 4000000 → l.length ≤ 30 + i → r.length = i →
    Ev (fun k => spec_RunActs.l0 k xs r (i : Int) p d q a m l) (runA (xs.drop i) p d q a m l r) := by
  refine down (n := xs.length) ?_ ?_
  · intro p d q a m l r hp hq hl hr
    refine Ev.step (fun k => by rw [spec_RunActs.l0]) (evn (by omega) (evs ?_))
    rw [drop_end]; rfl
  · intro i hi ih p d q a m l r hp hq hl hr
    refine Ev.step (fun k => by rw [spec_RunActs.l0]) (evp (by omega) (evp (by omega) ?_))
    rw [rdA xs i hi, drop_cons xs i hi]
    obtain ⟨h1, h2, h3⟩ := doAct_len p d q a m l xs[i].f0 xs[i].f1 xs[i].f2 xs[i].f3
    refine Ev.bind (doAct_spec p d q a m l xs[i].f0 xs[i].f1 xs[i].f2 xs[i].f3 hp hq (by omega)) (evp (by omega) ?_)
    rw [w64 (n := (i : Int) + 1) (by omega) (by omega)]
    unfold runA
    exact ih _ _ _ _ _ _ _ (by rw [h1]; exact hp) (by rw [h2]; exact hq) (by omega) (by simp; omega)
end
section
variable (p : List S112) (d : Int) (q : List Int) (a m : Int) (l : List S104) (xs : List S41) (hp : p.length ≤ 4000000) (hq : q.length ≤ 4000000) (hl : l.length ≤ 1048576)
include hp hq hl
theorem runActs_impl : Ev (fun k => impl_RunActs.f k p d q a m l xs) (runActs p d q a m l xs) := by
  have jt : Ev (fun k => impl_RunActs.j0 k xs true p d q a m l) (p, d, q, a, m, l, []) := Ev.step (fun k => by rw [impl_RunActs.j0]) (evp rfl (Ev.now _))
  unfold impl_RunActs.f runActs
  refine evb (copyShop_eq p d q a m l hp hq (by omega)) (Ev.bind (shopOk_impl p d q a m l (by omega)) ?_)
  by_cases h0 : shopOk p d q a m l = true
  rotate_left
  · exact rneg (fun hh => h0 hh.1) (evn h0 jt)
  refine evp h0 ?_
  by_cases h1 : xs.length ≤ 40
  rotate_left
  · exact rneg (fun hh => h1 hh.2) (by rw [show decide ((xs.length : Int) > 40) = true from decide_eq_true (by omega)]; exact jt)
  refine rpos ⟨h0, h1⟩ ?_
  rw [show decide ((xs.length : Int) > 40) = false from decide_eq_false (by omega)]
  have key := runs_impl xs h1 0 (Nat.zero_le _) p d q a m l [] hp hq (logLen_ (shopOk_iff.1 h0).2.1) rfl
  refine Ev.step (fun k => by rw [impl_RunActs.j0]) (evn (by decide) ?_)
  exact key
theorem runActs_spec : Ev (fun k => spec_RunActs.f k p d q a m l xs) (runActs p d q a m l xs) := by
  have jt : Ev (fun k => spec_RunActs.j0 k xs [] true p d q a m l) (p, d, q, a, m, l, []) := Ev.step (fun k => by rw [spec_RunActs.j0]) (evp rfl (Ev.now _))
  unfold spec_RunActs.f runActs
  refine evb (l38Copy_eq p d q a m l hp hq (by omega)) (evb rfl (Ev.bind (shopOk_spec p d q a m l (by omega)) ?_))
  by_cases h0 : shopOk p d q a m l = true
  rotate_left
  · exact rneg (fun hh => h0 hh.1) (evn h0 jt)
  refine evp h0 ?_
  by_cases h1 : xs.length ≤ 40
  rotate_left
  · exact rneg (fun hh => h1 hh.2) (by rw [show decide ((xs.length : Int) > 40) = true from decide_eq_true (by omega)]; exact jt)
  refine rpos ⟨h0, h1⟩ ?_
  rw [show decide ((xs.length : Int) > 40) = false from decide_eq_false (by omega)]
  have key := runs_spec xs h1 0 (Nat.zero_le _) p d q a m l [] hp hq (logLen_ (shopOk_iff.1 h0).2.1) rfl
  refine Ev.step (fun k => by rw [spec_RunActs.j0]) (evn (by decide) ?_)
  exact key
end
end Go.Proofs.YtanhnhkcpbdfmaaGreat.Q
namespace Go.Proofs.YtanhnhkcpbdfmaaGreat.Pure
open Go.RowKit Go.Proofs.YtanhnhkcpbdfmaaGreat.P Go.Proofs.YtanhnhkcpbdfmaaGreat.Q Go.Proofs.YtanhnhkcpbdfmaaGreatW.PrintWords Go.Proofs.YtanhnhkcpbdfmaaGreatW.PrintLast
theorem FnExactRunActs (p : List S140) (d : Int) (q : List Int) (a m : Int) (l : List S127) (xs : List S30) (h0 : ((p.length ≤ 9223372036854775807 ∧ ∀ y ∈ p, good140 y) ∧ (Lit.int .i64 d).wf = true ∧ (q.length ≤ 9223372036854775807 ∧ ∀ y ∈ q, good3 y)) ∧ (Lit.int .i64 a).wf = true ∧ (Lit.int .i64 m).wf = true ∧ (l.length ≤ 9223372036854775807 ∧ ∀ y ∈ l, good127 y)) (hx : xs.length ≤ 9223372036854775807 ∧ ∀ y ∈ xs, good30 y) : ∃ k, laws_FnExactRunActs.f k p d q a m l xs = some true := by
  refine Ev.rounds ?_
  unfold laws_FnExactRunActs.f
  refine evb (szShop_eq p d q a m l 1048576 (by omega) (by omega) h0.1.1.1 h0.1.2.2.1 h0.2.2.2.1) ?_
  by_cases h : (1048576 : Int) < p.length + q.length + l.length
  · rw [if_pos h]; exact evp (by omega) (Ev.now _)
  rw [if_neg h]
  refine evn (by omega) ?_
  refine evb (szActS_eq xs _ (by omega) (by omega) hx.1) ?_
  by_cases h2 : (1048576 - ((p.length : Int) + q.length + l.length)) < xs.length
  · rw [if_pos (by omega)]; exact evp (by omega) (Ev.now _)
  rw [if_neg (by omega)]
  refine evn (by omega) ?_
  have lx : (xs.map cAct).length ≤ 1048576 := by simp; omega
  have TA := toActS_ev xs (by omega)
  have EA := eqActS_ev (xs.map cAct) (by omega)
  have lp : (p.map cStep).length ≤ 1048576 := by simp; omega
  have ll : (l.map cEntry).length ≤ 1048576 := by simp; omega
  have T := toShop_ev p d q a m l (by omega) (by omega) (by omega)
  have E := eqShop_ev (p.map cStep) d q a m (l.map cEntry) (by omega) (by omega) (by omega)
  have M := markShop_ev (p.map cStep) d q a m (l.map cEntry) 1 (by omega) (by omega) (by omega) (by omega) (by omega)
  have MA := fun n h1 h2 => markActS_ev (xs.map cAct) n h1 h2
  obtain ⟨R, hR⟩ : ∃ R, runActs (p.map cStep) d q a m (l.map cEntry) (xs.map cAct) = R := ⟨_, rfl⟩
  have A := runActs_spec (p.map cStep) d q a m (l.map cEntry) (xs.map cAct) (by omega) (by omega) (by omega)
  have B := runActs_impl (p.map cStep) d q a m (l.map cEntry) (xs.map cAct) (by omega) (by omega) (by omega)
  rw [hR] at A B
  have L := runActs_len (p.map cStep) d q a m (l.map cEntry) (xs.map cAct)
  rw [hR] at L
  have L1 : R.1.length ≤ 1048576 := by rw [L.1]; exact lp
  have L2 : R.2.2.1.length ≤ 1048576 := by rw [L.2.1]; omega
  have L3 : R.2.2.2.2.2.1.length ≤ 1048616 := by have := L.2.2.1; omega
  have L4 : R.2.2.2.2.2.2.length ≤ 40 := L.2.2.2
  have F := eqShop_ev R.1 R.2.1 R.2.2.1 R.2.2.2.1 R.2.2.2.2.1 R.2.2.2.2.2.1 (by omega) (by omega) (by omega)
  have G := markShop_ev R.1 R.2.1 R.2.2.1 R.2.2.2.1 R.2.2.2.2.1 R.2.2.2.2.2.1 1 (by omega) (by omega) (by omega) (by omega) (by omega)
  have H := heldShop_ev R.1.length R.2.1 R.2.2.1.length R.2.2.2.1 R.2.2.2.2.1 R.2.2.2.2.2.1.length 1 (by omega) (by omega) (by omega) (by omega) (by omega)
  have FI := eqIntS_ev R.2.2.2.2.2.2 (by omega)
  have GI := fun n h1 h2 => markIntS_ev R.2.2.2.2.2.2 n h1 h2
  have HI := fun n h1 h2 => heldIntS_ev R.2.2.2.2.2.2.length n h1 h2
  repeat' first
    | exact Ev.now _
    | refine Ev.bind T ?_
    | refine Ev.bind TA ?_
    | refine Ev.bind E ?_
    | refine Ev.bind EA ?_
    | refine Ev.bind M ?_
    | refine Ev.bind A ?_
    | refine Ev.bind B ?_
    | refine Ev.bind F ?_
    | refine Ev.bind FI ?_
    | refine Ev.bind G ?_
    | refine Ev.bind H ?_
    | refine Ev.bind (MA _ (by first | omega | (dsimp only; omega)) (by first | omega | (dsimp only; omega))) ?_
    | refine Ev.bind (GI _ (by first | omega | (dsimp only; omega)) (by first | omega | (dsimp only; omega))) ?_
    | refine Ev.bind (HI _ (by first | omega | (dsimp only; omega)) (by first | omega | (dsimp only; omega))) ?_
    | refine evp rfl ?_
    | refine evn (by first | decide | (dsimp only; omega) | simp) ?_
    | refine Ev.step (fun k => by rw [laws_FnExactRunActs.j0]) ?_
    | refine Ev.step (fun k => by rw [laws_FnExactRunActs.j1]) ?_
    | refine Ev.step (fun k => by rw [laws_FnExactRunActs.j2]) ?_
end Go.Proofs.YtanhnhkcpbdfmaaGreat.Pure
namespace Go.Proofs.YtanhnhkcpbdfmaaGreat.fnExactRunActs
open Go.ChangeShapes Go.WideShapes Go.ChangeAt Go.RowKit Go.Proofs.YtanhnhkcpbdfmaaGreat.P Go.Proofs.YtanhnhkcpbdfmaaGreat.Q Go.Proofs.YtanhnhkcpbdfmaaGreatW.PrintWords
open Go.ChangeMaps (open_string shut_string)
theorem own : ownKnob Tryz.prog.godebug = none := by kernel_rfl
theorem laidOut : laidOutB Tryz.prog = true := by kernel_rfl
set_option maxRecDepth 100000 in
theorem lifted (os : Os) (started : os.Started) (H : Type) (enc : TypeId × Value → H) :
    ReturnsInHanded {} Tryz.checked os 4 .any (Rows.fnExactRunActsSpec.pre6 enc Tryz.prog Tryz.f4 Rows.fnExactRunActsRow.domain false) (Rows.fnExactRunActsSpec.post enc Tryz.prog Tryz.f4 false true false false) := by
  refine returnsInHanded_of_change_sized (C := Tryz.checked) own started (by kernel_rfl) Tryz.func4
    (ChangeSpec.witness6 (enc := enc) (C := Tryz.checked) false ⟨#[], #[.agg #[.slice none 0 0, .int .i64 0, .slice none 0 0, .int .i64 0, .int .i64 0, .slice none 0 0], .slice none 0 0], []⟩ 8 (by kernel_rfl) (by kernel_rfl) (by kernel_rfl) (by kernel_rfl)) ?_
  intro W base args ds gs before hval0 hW hcnd hsz0 _
  have hval : ∀ (j : Nat) t v, Tryz.f4.params[j]? = some t → args[j]? = some v → Value.okWide Tryz.prog W .any base t v := hval0
  have hW' := hW
  obtain ⟨p, q, hA0, hV, rfl, hfz, hnd⟩ := hW
  have hA : DataW.TrodAll enc Tryz.prog W 0 (fun _ => true) true Tryz.f4.params.toList args.toList ds p := hA0
  rw [Tryz.params4] at hA hval
  obtain ⟨v0, vs0, d0, ds0, p0, q0, hargs, rfl, rfl, h0, r0⟩ := trodAll_cons hA
  obtain ⟨v1, vs1, d1, ds1, p1, q1, rfl, rfl, rfl, h1, r1⟩ := trodAll_cons r0
  obtain ⟨rfl, rfl, rfl⟩ := trodAll_nil r1
  obtain rfl : args = #[v0, v1] := by cases args; simp_all
  obtain ⟨rfl, rfl⟩ := trodVars_none hV
  have k0 := h0
  have lt0 : ∀ x ∈ p0, x.block < W.heap.size := by obtain ⟨m, hm⟩ := k0; exact DataW.trod_lt m _ _ _ hm
  obtain ⟨fuel0, f0⟩ := h0
  obtain ⟨x0, K0, G0⟩ := (show Opens Tryz.prog W (Kd.pair (Kd.pair (Kd.slice 140 k140) (Kd.pair (Kd.int .i64) (Kd.slice 3 (Kd.int .i64)))) (Kd.pair (Kd.int .i64) (Kd.pair (Kd.int .i64) (Kd.slice 127 k127)))) 28 _ from Opens.pairs Tryz.underlying28 (by kernel_rfl) (OpensFs.more rfl (Opens.pairs Tryz.underlying25 (by kernel_rfl) (OpensFs.more rfl (Opens.slice z140 Tryz.underlying22 (by kernel_rfl) op140) rfl (by kernel_rfl) (OpensFs.more rfl (Opens.int Tryz.underlying3) rfl (by kernel_rfl) (OpensFs.one rfl (Opens.slice 0 Tryz.underlying23 (by kernel_rfl) op3) rfl (by kernel_rfl))))) rfl (by kernel_rfl) (OpensFs.more rfl (Opens.int Tryz.underlying3) rfl (by kernel_rfl) (OpensFs.more rfl (Opens.int Tryz.underlying3) rfl (by kernel_rfl) (OpensFs.one rfl (Opens.slice z127 Tryz.underlying26 (by kernel_rfl) op127) rfl (by kernel_rfl)))))) H enc 0 _ _ fuel0 _ _ f0
  obtain ⟨cs0, rfl, _⟩ := okWide_struct Tryz.underlying28 (hval 0 28 v0 rfl rfl)
  obtain ⟨_, _, e0, ⟨_, _, rfl, ⟨A0_0, c0_0, rfl, hc0_0, hr0_0⟩, ⟨_, _, rfl, rfl, ⟨A0_1, c0_1, rfl, hc0_1, hr0_1⟩⟩⟩, ⟨_, _, rfl, rfl, ⟨_, _, rfl, rfl, ⟨A0_2, c0_2, rfl, hc0_2, hr0_2⟩⟩⟩⟩ := K0
  obtain rfl : cs0 = #[.slice A0_0 x0.1.1.length c0_0, .int .i64 x0.1.2.1, .slice A0_1 x0.1.2.2.length c0_1, .int .i64 x0.2.1, .int .i64 x0.2.2.1, .slice A0_2 x0.2.2.2.length c0_2] := Array.ext' e0
  have k1 := h1
  have lt1 : ∀ x ∈ p1, x.block < W.heap.size := by obtain ⟨m, hm⟩ := k1; exact DataW.trod_lt m _ _ _ hm
  obtain ⟨fuel1, f1⟩ := h1
  obtain ⟨x1, K1, G1⟩ := (show Opens Tryz.prog W (Kd.slice 30 k30) 46 _ from Opens.slice z30 Tryz.underlying46 (by kernel_rfl) op30) H enc 0 _ _ fuel1 _ _ f1
  obtain ⟨len1, cap1, adr1, rfl⟩ : ∃ l c a, v1 = .slice a l c := by obtain ⟨a, l, c, e⟩ := okWide_slice Tryz.underlying46 (hval 1 46 v1 rfl rfl); exact ⟨l, c, a, e⟩
  obtain ⟨A1, c1, e1, hc1, hr1⟩ := K1
  simp [Value.cells] at e1
  obtain ⟨rfl, rfl, rfl⟩ := e1
  obtain ⟨k, hP⟩ := Pure.FnExactRunActs x0.1.1 x0.1.2.1 x0.1.2.2 x0.2.1 x0.2.2.1 x0.2.2.2 x1 G0 G1
  refine (P.laws_FnExactRunActs.calls k _ _ x0.1.1 x0.1.2.1 _ _ x0.1.2.2 x0.2.1 x0.2.2.1 _ _ x0.2.2.2 _ _ x1 true W hr0_0 hc0_0 hr0_1 hc0_1 hr0_2 hc0_2 hr1 hc1 hP ⟨rfl⟩).mono fun e W' ⟨he, bel0⟩ => ?_
  have bel : Below W.heap.size W W' := bel0
  subst he
  exact ⟨_, rfl, _, _, _, [], _, [], hW', trodAll_mk1 (shut_bool Tryz.underlying4 _), (trodAll_cons_mk (Below.trod laidOut (by kernel_rfl) (of_decide_eq_true (by kernel_rfl)) k0 bel lt0) (trodAll_cons_mk (Below.trod laidOut (by kernel_rfl) (of_decide_eq_true (by kernel_rfl)) k1 bel lt1) trodAll_mk0)), rfl, bel.frame _, fun h => by cases h⟩
theorem over : Rows.fnExactRunActsRow.holds Tryz.pinned (OpenSpec.ofChange Rows.fnExactRunActsSpec) :=
  OpenClaim.holds_of_wide 4 Tryz.f4 rfl rfl rfl rfl rfl rfl rfl ⟨rfl, rfl, rfl, rfl, rfl⟩ rfl rfl rfl rfl rfl (by kernel_rfl) Tryz.func4 (by kernel_rfl)
    (of_decide_eq_true (by kernel_rfl)) (by unfold Func.isWrapper; first | (rw [if_pos (by decide +kernel)]; kernel_rfl) | (rw [if_neg (by decide +kernel)]; exact ⟨rfl, rfl⟩))
    (fun os started H enc _ => lifted os started H enc)
theorem proved : Rows.FnExactRunActsSaid := over
#print axioms proved
end Go.Proofs.YtanhnhkcpbdfmaaGreat.fnExactRunActs
namespace Go.Proofs.YtanhnhkcpbdfmaaGreat
theorem fnExactRunActs_holds : Rows.FnExactRunActsSaid := fnExactRunActs.proved
end Go.Proofs.YtanhnhkcpbdfmaaGreat
