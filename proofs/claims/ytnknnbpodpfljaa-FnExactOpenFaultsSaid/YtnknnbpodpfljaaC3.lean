/- What functions of the program come to (f), that their calls come to just this (calls), and the plain laws over lists and numbers, and the law FnExactOpenFaults: for every argument it answers true. No condition but those of the given row. -/
import Derived.Test.YtnknnbpodpfljaaRows
import Derived.Test.YtnknnbpodpfljaaC2
import Derived.Sort.WalkC
import Derived.Sort.LotC
import Derived.Shelf.GgSortFunc.Lays
import Derived.Test.YtnknnbpodpfljaaProg
import Derived.Shelf.SlSortFuncK.PdqK
import Derived.RangeFuncBox
import Derived.Deep.Slices
import Derived.ChangeArms
import Derived.ChangeSame
import Derived.KernelRfl
import Derived.WalkKit
import Derived.ProofKit
import Derived.OpenShut
import Derived.ShutString
import Derived.ChangeOld
import Derived.Below
import Derived.SizedLaws
namespace Go.Proofs.Ytnknnbpodpfljaa.S
open Go.RowKit Go.Sort Go.Proofs.Ytnknnbpodpfljaa.P Go.Proofs.Ytnknnbpodpfljaa.Q Go.Proofs.Ytnknnbpodpfljaa.V Go.Proofs.YtnknnbpodpfljaaW.PrintWords
set_option linter.unusedVariables false
set_option linter.unusedSimpArgs false
attribute [local go_sem] cell_b frozen_b swap_run
set_option maxHeartbeats 16000000 in
set_option maxRecDepth 100000 in
set_option synthInstance.maxHeartbeats 400000 in
set_option synthInstance.maxSize 100000 in
theorem partitionEqual_calls (C : SoC) [SoG C] (w : World) (D : Array E) (h : SoAt C w D) (a b p : Nat) (hap : a ≤ p) (hpb : p < b) (hb : b ≤ C.n) :
    Calls Try.prog 84 #[datV C, .int .i64 a, .int .i64 b, .int .i64 p] w fun e w' => e = .returned (.int .i64 (partitionEqual beforeE D a b p).1) ∧ SoAt C w' (partitionEqual beforeE D a b p).2 ∧ w.grownBy w' (some C.g) := by
  have j0 := So.mk h
  have hsm := SoG.small (C := C)
  have jx : NeB w.heap.size C.g := ⟨Nat.ne_of_gt h.lt⟩
  have jy := Blk.mk (blk_new w (.cells (datC C) 88))
  have x5 : Ix (a : Int) C.n := ⟨by omega, by omega⟩
  have x6 : Ix (p : Int) C.n := ⟨by omega, by omega⟩
  have hR : partitionEqual beforeE D a b p = partEqLoop beforeE a (a + 1) (b - 1) (swp D a p) := rfl
  obtain ⟨R, hRR⟩ : ∃ R, partitionEqual beforeE D a b p = R := ⟨_, rfl⟩
  rw [hRR] at hR ⊢
  have hR := Aside0.mk hR
  clear h hRR
  have hu := Try.underlying88
  go_enter Try.func84, Try.ntmps84
  go_wp2
  go_loopw [9, 10] (fun v u wr => ∃ (i j : Nat) (dk : Array E), v = .int .i64 i ∧ u = .int .i64 j ∧ Aside0 (a < i) ∧ Aside0 (i ≤ j + 1) ∧ Aside0 (j < b) ∧ So C wr dk ∧ Fr C w wr ∧ Blk wr w.heap.size (datC C) 88 ∧ Aside0 (partEqLoop beforeE a i j dk = R)) (fun v u _ => (intOf u).toNat + 1 - (intOf v).toNat)
  case atStart => exact ⟨a + 1, b - 1, swp D a p, by go_num, by congr 1; omega, ⟨by omega⟩, ⟨by omega⟩, ⟨by omega⟩, ⟨so_cast (D' := swp D a p) inferInstance rfl⟩, inferInstance, inferInstance, ⟨hR.out.symm⟩⟩
  case round =>
    clear j0 jy
    obtain ⟨i, j, dk, rfl, rfl, HP, HQ, HR, j1, j2, j3, HO⟩ := hrel
    have hp := HP.out
    have hq := HQ.out
    have hr := HR.out
    go_wp2
    go_loopw [9] (fun v wr => ∃ i2 : Nat, v = .int .i64 i2 ∧ Aside0 (a < i2) ∧ Aside0 (i2 ≤ j + 1) ∧ So C wr dk ∧ Fr C w wr ∧ Blk wr w.heap.size (datC C) 88 ∧ Aside0 (scanUp (fun x => !beforeE dk[a]! x) dk (j) i2 = scanUp (fun x => !beforeE dk[a]! x) dk (j) (i))) (fun v _ => j + 1 - (intOf v).toNat)
    case atStart => exact ⟨i, by first | rfl | go_num, ⟨by omega⟩, ⟨by omega⟩, inferInstance, inferInstance, inferInstance, ⟨rfl⟩⟩
    case round =>
      clear j1 j2 j3
      obtain ⟨i2, rfl, HA2, HB2, m1, m2, m3, HU2⟩ := hrel
      have ha2 := HA2.out
      have hb2 := HB2.out
      have x2 : Ix (a : Int) C.n := ⟨by omega, by omega⟩
      by_cases c1 : i2 ≤ j ∧ beforeE dk[a]! dk[i2]! = false
      · obtain ⟨c1, l⟩ := c1
        have d1 : decide ((i2 : Int) ≤ (j : Int)) = true := decide_eq_true (by omega)
        have x1 : Ix (i2 : Int) C.n := ⟨by omega, by omega⟩
        have y1 : Les dk (a : Int) (i2 : Int) false := Les.of l rfl rfl
        have hs := Aside0.mk (scanUp_go (fun x => !beforeE dk[a]! x) dk (j) i2 c1 (by simp [l]))
        clear l
        go_wp2_with (first | (go_at_call 49; refine (less_is _ _).mono ?_; rintro e w2 ⟨rfl, hb⟩; have jb := Bel.mk hb; clear hb))
        first
          | exact ⟨⟨i2 + 1, by first | rfl | go_num, ⟨by omega⟩, ⟨by omega⟩, inferInstance, inferInstance, inferInstance, ⟨by rw [← HU2.out, hs.out]⟩⟩, by simp [intOf]; omega⟩
          | (go_roundw; (case rel => ((repeat apply Exists.intro); exact ⟨⟨i2 + 1, by first | rfl | go_num, ⟨by omega⟩, ⟨by omega⟩, inferInstance, inferInstance, inferInstance, ⟨by rw [← HU2.out, hs.out]⟩⟩, (by first | rfl | (simp only [Int.natCast_add, Int.natCast_one]; rfl) | (simp only [Int.natCast_add, Int.natCast_one, ez]; rfl))⟩)); (case measure => first | (simp [intOf]; omega) | (simp [intOf]; done)))
      · have Hi2 : Aside0 (scanUp (fun x => !beforeE dk[a]! x) dk (j) (i) = i2) := ⟨by
          rw [← HU2.out]
          refine scanUp_end (fun x => !beforeE dk[a]! x) dk (j) i2 ?_
          by_cases c : i2 ≤ j
          · refine .inr ?_
            have : beforeE dk[a]! dk[i2]! = true := by
              cases h : beforeE dk[a]! dk[i2]! with
              | false => exact absurd ⟨c, h⟩ c1
              | true => rfl
            simp [this]
          · exact .inl c⟩
        have step : (i2 ≤ j ∧ beforeE dk[a]! dk[i2]! = true) ∨ ¬ i2 ≤ j := by
          by_cases c : i2 ≤ j
          · refine .inl ⟨c, ?_⟩
            cases h : beforeE dk[a]! dk[i2]! with
            | false => exact absurd ⟨c, h⟩ c1
            | true => rfl
          · exact .inr c
        clear c1 HU2
        rcases step with ⟨c1, l⟩ | c1
        · have d1 : decide ((i2 : Int) ≤ (j : Int)) = true := decide_eq_true (by omega)
          have x1 : Ix (i2 : Int) C.n := ⟨by omega, by omega⟩
          have y1 : Les dk (a : Int) (i2 : Int) true := Les.of l rfl rfl
          have EA := Aside0.mk l
          clear l
          go_wp2_with (first | (go_at_call 49; refine (less_is _ _).mono ?_; rintro e w2 ⟨rfl, hb⟩; have jb := Bel.mk hb; clear hb))
          clear d1
          go_loopw [10] (fun v wr => ∃ j2 : Nat, v = .int .i64 j2 ∧ Aside0 (i2 ≤ j2 + 1) ∧ Aside0 (j2 ≤ j) ∧ So C wr dk ∧ Fr C w wr ∧ Blk wr w.heap.size (datC C) 88 ∧ Aside0 (scanDown (fun x => beforeE dk[a]! x) dk i2 j2 = scanDown (fun x => beforeE dk[a]! x) dk i2 (j))) (fun v _ => (intOf v).toNat)
          case atStart => exact ⟨j, by first | rfl | (congr 1; omega), ⟨by omega⟩, ⟨by omega⟩, inferInstance, inferInstance, inferInstance, ⟨rfl⟩⟩
          case round =>
            clear m1 m2 m3
            obtain ⟨j2, rfl, HC2, HD2, n1, n2, n3, HU2⟩ := hrel
            have hc2 := HC2.out
            have hd2 := HD2.out
            by_cases c2 : i2 ≤ j2 ∧ beforeE dk[a]! dk[j2]! = true
            · obtain ⟨c2, l⟩ := c2
              have d2 : decide ((i2 : Int) ≤ (j2 : Int)) = true := decide_eq_true (by omega)
              have d2n : decide (i2 ≤ j2) = true := decide_eq_true (by omega)
              have x3 : Ix (j2 : Int) C.n := ⟨by omega, by omega⟩
              have y2 : Les dk (a : Int) (j2 : Int) true := Les.of l rfl rfl
              have hs := Aside0.mk (scanDown_go (fun x => beforeE dk[a]! x) dk i2 j2 c2 (by omega) l)
              clear l
              go_wp2_with (first | (go_at_call 49; refine (less_is _ _).mono ?_; rintro e w2 ⟨rfl, hb⟩; have jb := Bel.mk hb; clear hb))
              have ez : ((j2 - 1 : Nat) : Int) = (j2 : Int) - 1 := by omega
              first
                | exact ⟨⟨j2 - 1, by first | rfl | (congr 1; omega), ⟨by omega⟩, ⟨by omega⟩, inferInstance, inferInstance, inferInstance, ⟨by rw [← HU2.out, hs.out]⟩⟩, by simp [intOf]; omega⟩
                | (go_roundw; (case rel => ((repeat apply Exists.intro); exact ⟨⟨j2 - 1, by first | rfl | (congr 1; omega), ⟨by omega⟩, ⟨by omega⟩, inferInstance, inferInstance, inferInstance, ⟨by rw [← HU2.out, hs.out]⟩⟩, (by first | rfl | (simp only [Int.natCast_add, Int.natCast_one]; rfl) | (simp only [Int.natCast_add, Int.natCast_one, ez]; rfl))⟩)); (case measure => first | (simp [intOf]; omega) | (simp [intOf]; done)))
            · have Hj2 : Aside0 (scanDown (fun x => beforeE dk[a]! x) dk i2 (j) = j2) := ⟨by
                rw [← HU2.out]
                refine scanDown_end (fun x => beforeE dk[a]! x) dk i2 j2 ?_
                by_cases c : i2 ≤ j2
                · refine .inr ?_
                  have : beforeE dk[a]! dk[j2]! = false := by
                    cases h : beforeE dk[a]! dk[j2]! with
                    | true => exact absurd ⟨c, h⟩ c2
                    | false => rfl
                  simp [this]
                · exact .inl c⟩
              have step : (i2 ≤ j2 ∧ beforeE dk[a]! dk[j2]! = false) ∨ ¬ i2 ≤ j2 := by
                by_cases c : i2 ≤ j2
                · refine .inl ⟨c, ?_⟩
                  cases h : beforeE dk[a]! dk[j2]! with
                  | true => exact absurd ⟨c, h⟩ c2
                  | false => rfl
                · exact .inr c
              clear c2 HU2
              rcases step with ⟨c2, l⟩ | c2
              · have d2 : decide ((i2 : Int) ≤ (j2 : Int)) = true := decide_eq_true (by omega)
                have d2n : decide (i2 ≤ j2) = true := decide_eq_true (by omega)
                have d3 : decide ((j2 : Int) < (i2 : Int)) = false := decide_eq_false (by omega)
                have d3n : decide (j2 < i2) = false := decide_eq_false (by omega)
                have x3 : Ix (j2 : Int) C.n := ⟨by omega, by omega⟩
                have x1 : Ix (i2 : Int) C.n := ⟨by omega, by omega⟩
                have y2 : Les dk (a : Int) (j2 : Int) false := Les.of l rfl rfl
                have hge : i ≤ i2 := by
                  have := scanUp_ge (fun x => !beforeE dk[a]! x) dk (j) (i)
                  rw [Hi2.out] at this
                  exact this
                have hne : i2 ≠ j2 := by
                  rintro rfl
                  have := EA.out
                  rw [l] at this
                  cases this
                clear l
                go_wp2_with (first | (go_at_call 49; refine (less_is _ _).mono ?_; rintro e w2 ⟨rfl, hb⟩; have jb := Bel.mk hb; clear hb))
                have ez : ((j2 - 1 : Nat) : Int) = (j2 : Int) - 1 := by omega
                first
                  | exact ⟨⟨i2 + 1, j2 - 1, swp dk i2 j2, by first | rfl | go_num, by first | rfl | (congr 1; omega), ⟨by omega⟩, ⟨by omega⟩, ⟨by omega⟩, ⟨so_cast (D' := swp dk i2 j2) inferInstance rfl⟩, inferInstance, inferInstance, ⟨by
                  rw [← HO.out, partEqLoop_eq beforeE a i j dk, Hi2.out, Hj2.out, if_neg (by omega)]⟩⟩, by simp [intOf]; omega⟩
                  | (go_roundw; (case rel => ((repeat apply Exists.intro); exact ⟨⟨i2 + 1, j2 - 1, swp dk i2 j2, by first | rfl | go_num, by first | rfl | (congr 1; omega), ⟨by omega⟩, ⟨by omega⟩, ⟨by omega⟩, ⟨so_cast (D' := swp dk i2 j2) inferInstance rfl⟩, inferInstance, inferInstance, ⟨by
                  rw [← HO.out, partEqLoop_eq beforeE a i j dk, Hi2.out, Hj2.out, if_neg (by omega)]⟩⟩, (by first | rfl | (simp only [Int.natCast_add, Int.natCast_one]; rfl) | (simp only [Int.natCast_add, Int.natCast_one, ez]; rfl))⟩)); (case measure => first | (simp [intOf]; omega) | (simp [intOf]; done)))
              · have d2 : decide ((i2 : Int) ≤ (j2 : Int)) = false := decide_eq_false (by omega)
                have d2n : decide (i2 ≤ j2) = false := decide_eq_false (by omega)
                have d3 : decide ((j2 : Int) < (i2 : Int)) = true := decide_eq_true (by omega)
                have d3n : decide (j2 < i2) = true := decide_eq_true (by omega)
                have x3 : Ix (j2 : Int) C.n := ⟨by omega, by omega⟩
                go_wp2
                go_ret
                have hz := HO.out
                rw [partEqLoop_eq beforeE a i j dk, Hi2.out, Hj2.out, if_pos (by omega)] at hz
                exact ⟨by rw [← hz]; rfl, so_cast (D := dk) inferInstance (by rw [← hz]), Fr.out⟩
        · have d1 : decide ((i2 : Int) ≤ (j : Int)) = false := decide_eq_false (by omega)
          go_wp2
          go_loopw [10] (fun v wr => ∃ j2 : Nat, v = .int .i64 j2 ∧ Aside0 (i2 ≤ j2 + 1) ∧ Aside0 (j2 ≤ j) ∧ So C wr dk ∧ Fr C w wr ∧ Blk wr w.heap.size (datC C) 88 ∧ Aside0 (scanDown (fun x => beforeE dk[a]! x) dk i2 j2 = scanDown (fun x => beforeE dk[a]! x) dk i2 (j))) (fun v _ => (intOf v).toNat)
          case atStart => exact ⟨j, by first | rfl | (congr 1; omega), ⟨by omega⟩, ⟨by omega⟩, inferInstance, inferInstance, inferInstance, ⟨rfl⟩⟩
          case round =>
            clear m1 m2 m3
            obtain ⟨j2, rfl, HC2, HD2, n1, n2, n3, HU2⟩ := hrel
            have hc2 := HC2.out
            have hd2 := HD2.out
            have c2 : ¬ i2 ≤ j2 := by omega
            have Hj2 : Aside0 (scanDown (fun x => beforeE dk[a]! x) dk i2 (j) = j2) := ⟨by
              rw [← HU2.out]
              exact scanDown_end (fun x => beforeE dk[a]! x) dk i2 j2 (.inl c2)⟩
            clear HU2
            have d2 : decide ((i2 : Int) ≤ (j2 : Int)) = false := decide_eq_false (by omega)
            have d2n : decide (i2 ≤ j2) = false := decide_eq_false (by omega)
            have d3 : decide ((j2 : Int) < (i2 : Int)) = true := decide_eq_true (by omega)
            have d3n : decide (j2 < i2) = true := decide_eq_true (by omega)
            have x3 : Ix (j2 : Int) C.n := ⟨by omega, by omega⟩
            go_wp2
            go_ret
            have hz := HO.out
            rw [partEqLoop_eq beforeE a i j dk, Hi2.out, Hj2.out, if_pos (by omega)] at hz
            exact ⟨by rw [← hz]; rfl, so_cast (D := dk) inferInstance (by rw [← hz]), Fr.out⟩
end Go.Proofs.Ytnknnbpodpfljaa.S


namespace Go.Proofs.Ytnknnbpodpfljaa.P
open Go.Shelf
def sv6_ren : Go.Shelf.Ren := ⟨fun | 6 => 48 | 10 => 61 | 11 => 62 | 12 => 63 | 13 => 64 | 14 => 65 | 24 => 76 | 25 => 77 | 26 => 78 | 27 => 79 | 28 => 80 | 29 => 81 | 30 => 82 | 31 => 83 | 32 => 84 | 33 => 85 | 34 => 86 | 35 => 87 | 36 => 88 | 37 => 89 | 38 => 90 | 39 => 91 | n => n, fun | 20 => 20 | 26 => 69 | 35 => 79 | 0 => 0 | 37 => 81 | 3 => 3 | 41 => 85 | 44 => 88 | 49 => 94 | 51 => 96 | 4 => 4 | 54 => 99 | 53 => 98 | 58 => 103 | 5 => 5 | 9 => 9 | 60 => 105 | 64 => 109 | 66 => 111 | 67 => 112 | 17 => 17 | 32 => 76 | 33 => 77 | 82 => 127 | 12 => 12 | 75 => 120 | 76 => 121 | 77 => 122 | 78 => 123 | 79 => 124 | 80 => 125 | n => n, fun | n => n⟩
theorem sv6 : Go.Proofs.LaysGg.n6 Try.prog sv6_ren := {
  mixed := by kernel_rfl
  f6 := Try.func48.trans (congrArg some (by kernel_rfl))
  f10 := Try.func61.trans (congrArg some (by kernel_rfl))
  f11 := Try.func62.trans (congrArg some (by kernel_rfl))
  f12 := Try.func63.trans (congrArg some (by kernel_rfl))
  f13 := Try.func64.trans (congrArg some (by kernel_rfl))
  f14 := Try.func65.trans (congrArg some (by kernel_rfl))
  f24 := Try.func76.trans (congrArg some (by kernel_rfl))
  f25 := Try.func77.trans (congrArg some (by kernel_rfl))
  f26 := Try.func78.trans (congrArg some (by kernel_rfl))
  f27 := Try.func79.trans (congrArg some (by kernel_rfl))
  f28 := Try.func80.trans (congrArg some (by kernel_rfl))
  f29 := Try.func81.trans (congrArg some (by kernel_rfl))
  f30 := Try.func82.trans (congrArg some (by kernel_rfl))
  f31 := Try.func83.trans (congrArg some (by kernel_rfl))
  f32 := Try.func84.trans (congrArg some (by kernel_rfl))
  f33 := Try.func85.trans (congrArg some (by kernel_rfl))
  f34 := Try.func86.trans (congrArg some (by kernel_rfl))
  f35 := Try.func87.trans (congrArg some (by kernel_rfl))
  f36 := Try.func88.trans (congrArg some (by kernel_rfl))
  f37 := Try.func89.trans (congrArg some (by kernel_rfl))
  f38 := Try.func90.trans (congrArg some (by kernel_rfl))
  f39 := Try.func91.trans (congrArg some (by kernel_rfl))
  t0 := Try.underlying0
  a0 := Try.isAgg0
  z0 := Try.sizeOf0
  v0 := Try.zeroValue0
  i0 := by kernel_rfl
  t3 := Try.underlying3
  a3 := Try.isAgg3
  z3 := Try.sizeOf3
  v3 := Try.zeroValue3
  i3 := by kernel_rfl
  t4 := Try.underlying4
  a4 := Try.isAgg4
  z4 := Try.sizeOf4
  v4 := Try.zeroValue4
  i4 := by kernel_rfl
  t5 := Try.underlying5
  a5 := Try.isAgg5
  z5 := Try.sizeOf5
  v5 := Try.zeroValue5
  i5 := by kernel_rfl
  t9 := Try.underlying9
  a9 := Try.isAgg9
  z9 := Try.sizeOf9
  v9 := Try.zeroValue9
  i9 := by kernel_rfl
  t12 := Try.underlying12
  a12 := Try.isAgg12
  z12 := Try.sizeOf12
  v12 := Try.zeroValue12
  i12 := by kernel_rfl
  t17 := Try.underlying17
  a17 := Try.isAgg17
  z17 := Try.sizeOf17
  v17 := Try.zeroValue17
  i17 := by kernel_rfl
  t20 := Try.underlying20
  a20 := Try.isAgg20
  z20 := Try.sizeOf20
  v20 := Try.zeroValue20
  i20 := by kernel_rfl
  t26 := Try.underlying69
  a26 := Try.isAgg69
  z26 := Try.sizeOf69
  v26 := Try.zeroValue69
  i26 := by kernel_rfl
  t32 := Try.underlying76
  a32 := Try.isAgg76
  z32 := Try.sizeOf76
  v32 := Try.zeroValue76
  i32 := by kernel_rfl
  t33 := Try.underlying77
  a33 := Try.isAgg77
  z33 := Try.sizeOf77
  v33 := Try.zeroValue77
  i33 := by kernel_rfl
  t35 := Try.underlying79
  a35 := Try.isAgg79
  z35 := Try.sizeOf79
  v35 := Try.zeroValue79
  i35 := by kernel_rfl
  t37 := Try.underlying81
  a37 := Try.isAgg81
  z37 := Try.sizeOf81
  v37 := Try.zeroValue81
  i37 := by kernel_rfl
  t41 := Try.underlying85
  a41 := Try.isAgg85
  z41 := Try.sizeOf85
  v41 := Try.zeroValue85
  i41 := by kernel_rfl
  t44 := Try.underlying88
  a44 := Try.isAgg88
  z44 := Try.sizeOf88
  v44 := Try.zeroValue88
  i44 := by kernel_rfl
  t49 := Try.underlying94
  a49 := Try.isAgg94
  z49 := Try.sizeOf94
  v49 := Try.zeroValue94
  i49 := by kernel_rfl
  t51 := Try.underlying96
  a51 := Try.isAgg96
  z51 := Try.sizeOf96
  v51 := Try.zeroValue96
  i51 := by kernel_rfl
  t53 := Try.underlying98
  a53 := Try.isAgg98
  z53 := Try.sizeOf98
  v53 := Try.zeroValue98
  i53 := by kernel_rfl
  t54 := Try.underlying99
  a54 := Try.isAgg99
  z54 := Try.sizeOf99
  v54 := Try.zeroValue99
  i54 := by kernel_rfl
  t58 := Try.underlying103
  a58 := Try.isAgg103
  z58 := Try.sizeOf103
  v58 := Try.zeroValue103
  i58 := by kernel_rfl
  t60 := Try.underlying105
  a60 := Try.isAgg105
  z60 := Try.sizeOf105
  v60 := Try.zeroValue105
  i60 := by kernel_rfl
  t64 := Try.underlying109
  a64 := Try.isAgg109
  z64 := Try.sizeOf109
  v64 := Try.zeroValue109
  i64 := by kernel_rfl
  t66 := Try.underlying111
  a66 := Try.isAgg111
  z66 := Try.sizeOf111
  v66 := Try.zeroValue111
  i66 := by kernel_rfl
  t67 := Try.underlying112
  a67 := Try.isAgg112
  z67 := Try.sizeOf112
  v67 := Try.zeroValue112
  i67 := by kernel_rfl
  t75 := Try.underlying120
  a75 := Try.isAgg120
  z75 := Try.sizeOf120
  v75 := Try.zeroValue120
  i75 := by kernel_rfl
  t76 := Try.underlying121
  a76 := Try.isAgg121
  z76 := Try.sizeOf121
  v76 := Try.zeroValue121
  i76 := by kernel_rfl
  t77 := Try.underlying122
  a77 := Try.isAgg122
  z77 := Try.sizeOf122
  v77 := Try.zeroValue122
  i77 := by kernel_rfl
  t78 := Try.underlying123
  a78 := Try.isAgg123
  z78 := Try.sizeOf123
  v78 := Try.zeroValue123
  i78 := by kernel_rfl
  t79 := Try.underlying124
  a79 := Try.isAgg124
  z79 := Try.sizeOf124
  v79 := Try.zeroValue124
  i79 := by kernel_rfl
  t80 := Try.underlying125
  a80 := Try.isAgg125
  z80 := Try.sizeOf125
  v80 := Try.zeroValue125
  i80 := by kernel_rfl
  t82 := Try.underlying127
  a82 := Try.isAgg127
  z82 := Try.sizeOf127
  v82 := Try.zeroValue127
  i82 := by kernel_rfl }
end Go.Proofs.Ytnknnbpodpfljaa.P


namespace Go.Proofs.Ytnknnbpodpfljaa.S
open Go.RowKit Go.Sort Go.Proofs.Ytnknnbpodpfljaa.P Go.Proofs.Ytnknnbpodpfljaa.Q Go.Proofs.Ytnknnbpodpfljaa.V Go.Proofs.YtnknnbpodpfljaaW.PrintWords
set_option linter.unusedVariables false
set_option linter.unusedSimpArgs false
theorem swo_beforeE : SWO beforeE where
  irrefl := before_irrefl
  trans := fun x y z h k => before_trans h k
  ntrans := fun x y z h k => by
    rw [Bool.eq_false_iff, ne_eq, before_iff] at h k ⊢
    omega
theorem mem_perm {a b : Nat} {D D' : Array E} (hb : b ≤ D.size) (h : PermIn a b D D') : ∀ x ∈ D', x ∈ D := by
  intro x hx
  obtain ⟨k, hk, rfl⟩ := Array.mem_iff_getElem.mp hx
  have hk' : k < D.size := by rw [← h.1]; exact hk
  by_cases hin : a ≤ k ∧ k < b
  · have hall := permIn_all D D' a b (fun y => y ∈ D) hb h (fun i hi hi' => by
      rw [getElem!_pos D i (by omega)]; exact Array.getElem_mem _) k hin.1 hin.2
    rw [getElem!_pos D' k hk] at hall
    exact hall
  · have := h.2.1 k (by omega)
    rw [getElem!_pos D' k hk, getElem!_pos D k hk'] at this
    rw [this]
    exact Array.getElem_mem _
theorem so_sorted {C : SoC} [g : SoG C] {w : World} {D D' : Array E} {a b : Nat} (h : SoAt C w D) (hb : b ≤ C.n) (hp : PermIn a b D D') (n : Nat) (os : Array Obj) :
    SoAt C (sortWorldK enc4 4 w C.g 0 n D' os) D' ∧ w.grownBy (sortWorldK enc4 4 w C.g 0 n D' os) (some C.g) := by
  have hs : D'.size = D.size := hp.1
  have hg : w.grownBy (sortWorldK enc4 4 w C.g 0 n D' os) (some C.g) := by
    unfold sortWorldK
    refine ⟨rfl, rfl, rfl, by rw [size_grow, size_putRowK]; show w.heap.size ≤ w.heap.size + os.size; omega, fun k hk1 hk2 => ?_⟩
    rw [heap_grow_old _ _ (by rw [size_putRowK]; exact hk1)]
    unfold putRowK putRow
    rw [onCells_block, if_neg (fun hh => hk2 (by rw [hh]))]
    rfl
  exact ⟨⟨holdsK_sortWorldK enc4 4 w C.g 0 n D D' os h.lt h.hold hs, by rw [hs]; exact h.size, (hg.block _ h.bs_lt (fun e => g.ne (Option.some.inj e))).trans h.box, Nat.lt_of_lt_of_le h.lt hg.size, by
    unfold sortWorldK
    rw [heap_grow_old _ _ (by rw [size_putRowK]; exact h.lt)]
    exact put_shape (W := Sort.ahead w n) h.shape, fun x hx => h.ftd x (mem_perm (by rw [h.size]; exact hb) hp x hx)⟩, hg⟩
theorem break_calls (C : SoC) [g : SoG C] (w : World) (D : Array E) (h : SoAt C w D) (a b : Nat) (hab : a ≤ b) (hb : b ≤ C.n) :
    Calls Try.prog 80 #[datV C, .int .i64 a, .int .i64 b] w fun e w' => e = .returned (.tuple #[]) ∧ ∃ D', SoAt C w' D' ∧ PermIn a b D D' ∧ w.grownBy w' (some C.g) := by
  have hsw : SwapSwapsK Try.prog 75 C.sb enc4 4 C.g 0 D.size := by rw [h.size]; exact g.swap
  have := Any.breakPatterns_func_cells_w (P := Try.prog) (ρ := sv6_ren) { sv6 with } enc4 4 enc4_len (.func 49) #[] C.lb 75 C.sb C.g 0 a b D w hsw h.hold h.lt hab (by rw [h.size]; exact hb) (by have := g.small; rw [h.size]; omega)
  refine this.mono ?_
  rintro e w' ⟨he, n, os, rfl⟩
  have hp := breakPatterns_holds D a b hab (by rw [h.size]; exact hb)
  obtain ⟨h1, h2⟩ := so_sorted h hb hp n os
  exact ⟨he, _, h1, hp, h2⟩
theorem reverse_calls (C : SoC) [g : SoG C] (w : World) (D : Array E) (h : SoAt C w D) (a b : Nat) (hab : a ≤ b) (hb : b ≤ C.n) :
    Calls Try.prog 82 #[datV C, .int .i64 a, .int .i64 b] w fun e w' => e = .returned (.tuple #[]) ∧ ∃ D', SoAt C w' D' ∧ PermIn a b D D' ∧ w.grownBy w' (some C.g) := by
  have hsw : SwapSwapsK Try.prog 75 C.sb enc4 4 C.g 0 D.size := by rw [h.size]; exact g.swap
  have := Any.reverseRange_func_cells_w (P := Try.prog) (ρ := sv6_ren) { sv6 with } enc4 4 enc4_len (.func 49) #[] C.lb 75 C.sb C.g 0 a b D w hsw h.hold h.lt hab (by rw [h.size]; exact hb) (by have := g.small; rw [h.size]; omega)
  refine this.mono ?_
  rintro e w' ⟨he, n, os, rfl⟩
  have hp := reverseRange_holds D a b hab (by rw [h.size]; exact hb)
  obtain ⟨h1, h2⟩ := so_sorted h hb hp n os
  exact ⟨he, _, h1, hp, h2⟩
theorem less_ex {C : SoC} {W : World} {D : Array E} [g : SoG C] (h : SoAt C W D) (i j : Int) (i' j' : Nat) (ei : i = i') (ej : j = j') (hi : i' < C.n) (hj : j' < C.n) :
    Calls Try.prog 49 (#[.int .i64 i, .int .i64 j] ++ C.lb) W fun e w' => ∃ lb, e = .returned (.bool lb) ∧ beforeE D[i']! D[j']! = lb ∧ RowKit.Below W.heap.size W w' := by
  subst ei ej
  exact (less_calls C W D h g.lb g.small i' j' hi hj).mono fun e w' hh => ⟨_, hh.1, rfl, hh.2⟩
theorem partitionEqual_at {C : SoC} {W : World} {D : Array E} [SoG C] (h : SoAt C W D) (a b p : Nat) (p' : Int) (e : p' = p) (hap : a ≤ p) (hpb : p < b) (hb : b ≤ C.n) :
    Calls Try.prog 84 #[datV C, .int .i64 a, .int .i64 b, .int .i64 p'] W fun e w' => ∃ mid D', partitionEqual beforeE D a b p = (mid, D') ∧ e = .returned (.int .i64 (mid : Nat)) ∧ SoAt C w' D' ∧ W.grownBy w' (some C.g) := by
  subst e
  exact (partitionEqual_calls C W D h a b p hap hpb hb).mono fun e w' hh => ⟨_, _, rfl, hh⟩
theorem partition_at {C : SoC} {W : World} {D : Array E} [SoG C] (h : SoAt C W D) (a b p : Nat) (p' : Int) (e : p' = p) (hap : a ≤ p) (hpb : p < b) (hb : b ≤ C.n) :
    Calls Try.prog 85 #[datV C, .int .i64 a, .int .i64 b, .int .i64 p'] W fun e w' => ∃ mid ap D', partition beforeE D a b p = (mid, ap, D') ∧ e = .returned (.tuple #[.int .i64 (mid : Nat), .bool ap]) ∧ SoAt C w' D' ∧ W.grownBy w' (some C.g) := by
  subst e
  exact (partition_calls C W D h a b p hap hpb hb).mono fun e w' hh => ⟨_, _, _, rfl, hh⟩
end Go.Proofs.Ytnknnbpodpfljaa.S


namespace Go.Proofs.Ytnknnbpodpfljaa.S
open Go.RowKit Go.Sort Go.Proofs.Ytnknnbpodpfljaa.P Go.Proofs.Ytnknnbpodpfljaa.Q Go.Proofs.Ytnknnbpodpfljaa.V Go.Proofs.YtnknnbpodpfljaaW.PrintWords
set_option linter.unusedVariables false
set_option linter.unusedSimpArgs false
attribute [local go_sem] cell_b frozen_b swap_run
def PdqOk (C : SoC) (N : Nat) : Prop := ∀ (w : World) (D : Array E), SoAt C w D → ∀ a b limit : Nat, b - a < N → a ≤ b → b ≤ C.n → limit ≤ 100 → Sort.Below beforeE a b D → ∀ a' b' l' : Int, a' = a → b' = b → l' = limit →
    Calls Try.prog 65 #[datV C, .int .i64 a', .int .i64 b', .int .i64 l'] w fun e w' => e = .returned (.tuple #[]) ∧ ∃ D', SoAt C w' D' ∧ PermIn a b D D' ∧ SortedIn beforeE a b D' ∧ w.grownBy w' (some C.g)
set_option maxHeartbeats 16000000 in
set_option maxRecDepth 100000 in
set_option synthInstance.maxHeartbeats 400000 in
set_option synthInstance.maxSize 100000 in
theorem pdq_step (C : SoC) [SoG C] (N : Nat) (ih : PdqOk C N) : PdqOk C (N + 1) := by
  intro w D h a b limit hN hab hb hlim hB a' b' l' ea eb el
  subst ea eb el
  have j0 := So.mk h
  have hsm := SoG.small (C := C)
  have hsz := h.size
  have jx : NeB w.heap.size C.g := ⟨Nat.ne_of_gt h.lt⟩
  have jy := Blk.mk (blk_new w (.cells (datC C) 88))
  have hBA := Aside0.mk hB
  have IH := Aside0.mk ih
  clear h hB ih
  have hu := Try.underlying88
  go_enter Try.func65, Try.ntmps65
  go_wp2
  go_loopg [1, 2, 3, 8, 9] (b - a) (fun kx v1 v2 v3 v8 v9 wr => ∃ (a1 b1 l1 : Nat) (wb wp : Bool) (dk : Array E), v1 = .int .i64 a1 ∧ v2 = .int .i64 b1 ∧ v3 = .int .i64 l1 ∧ v8 = .bool wb ∧ v9 = .bool wp ∧ Aside0 (a1 ≤ b1 ∧ b1 ≤ C.n ∧ b1 - a1 ≤ kx ∧ kx ≤ b - a ∧ l1 ≤ 100) ∧ Aside0 (Sort.Below beforeE a1 b1 dk) ∧ Aside0 (∀ R, PermIn a1 b1 dk R → SortedIn beforeE a1 b1 R → PermIn a b D R ∧ SortedIn beforeE a b R) ∧ So C wr dk ∧ Fr C w wr ∧ Blk wr w.heap.size (datC C) 88)
  case atStart => exact ⟨a, b, limit, true, true, D, rfl, rfl, rfl, rfl, rfl, ⟨⟨by omega, by omega, by omega, by omega, by omega⟩⟩, hBA, ⟨fun R h1 h2 => ⟨h1, h2⟩⟩, inferInstance, inferInstance, inferInstance⟩
  case round =>
    clear j0 jy
    obtain ⟨a1, b1, l1, wb, wp, dk, rfl, rfl, rfl, rfl, rfl, HN, HB, HR, j1, j2, j3⟩ := hrel
    obtain ⟨hab1, hb1, hn1, hn2, hl1⟩ := HN.out
    have hds : dk.size = C.n := j1.out.size
    by_cases c12 : b1 - a1 ≤ 12
    · have d1 : decide ((b1 : Int) - (a1 : Int) ≤ 12) = true := decide_eq_true (by omega)
      go_wp2_with (first | (go_at_call 78; refine (insertion_calls C _ _ So.out a1 b1 (by omega) (by omega)).mono ?_; rintro e w2 ⟨rfl, hs, hg⟩; have k1 := So.mk hs; have k2 := Gb.mk hg; clear hs hg))
      ((try simp only [Exit.inBlock, Exit.then]); refine bodyPost_ret (results_none rfl _ _ _) rfl ?_)
      obtain ⟨h1, h2⟩ := insertionSort_holds swo_beforeE dk a1 b1 hab1 (by omega)
      obtain ⟨h3, h4⟩ := HR.out _ h1 h2
      exact ⟨rfl, _, So.out, h3, h4, Fr.out⟩
    have d1 : decide ((b1 : Int) - (a1 : Int) ≤ 12) = false := decide_eq_false (by omega)
    by_cases c0 : l1 = 0
    · subst c0
      go_wp2_with (first | (go_at_call 79; refine (heapSort_calls C _ _ So.out a1 b1 (by omega) (by omega)).mono ?_; rintro e w2 ⟨rfl, hs, hg⟩; have k1 := So.mk hs; have k2 := Gb.mk hg; clear hs hg))
      ((try simp only [Exit.inBlock, Exit.then]); refine bodyPost_ret (results_none rfl _ _ _) rfl ?_)
      obtain ⟨h1, h2⟩ := heapSort_holds swo_beforeE dk a1 b1 hab1 (by omega)
      obtain ⟨h3, h4⟩ := HR.out _ h1 h2
      exact ⟨rfl, _, So.out, h3, h4, Fr.out⟩
    have d0 : ((l1 : Int) == 0) = false := beq_eq_false_iff_ne.mpr (by omega)
    go_upto_if 35 with fail
    go_cut [3] from 19 (fun s3 wc => ∃ (l2 : Nat) (dj : Array E), s3 = .int .i64 l2 ∧ Aside0 (l2 ≤ 100) ∧ Aside0 (PermIn a1 b1 dk dj) ∧ So C wc dj ∧ Fr C w wc ∧ Blk wc w.heap.size (datC C) 88)
    case first =>
      cases wb
      · go_wp2_with (first | (go_at_call 80; refine (break_calls C _ _ So.out a1 b1 (by omega) (by omega)).mono ?_; rintro e w2 ⟨rfl, D2, hs, hp, hg⟩; have k1 := So.mk hs; have k2 := Gb.mk hg; have HP := Aside0.mk hp; clear hs hg hp))
        go_meet
        case rel => exact ⟨l1 - 1, D2, by congr 1; omega, ⟨by omega⟩, HP, inferInstance, inferInstance, inferInstance⟩
      · go_wp2_with fail
        go_meet
        case rel => exact ⟨l1, dk, rfl, ⟨by omega⟩, ⟨permIn_refl dk a1 b1⟩, j1, j2, j3⟩
    case rest =>
      clear j1 j2 j3 d0 d1
      obtain ⟨l2, dj, rfl, HL2, HS, j1, j2, j3⟩ := hcut
      have hl2 := HL2.out
      go_upto_if 50 with (go_at_call 81; refine (choosePivot_calls C _ _ So.out a1 b1 (by omega) (by omega)).mono ?_; rintro e w2 ⟨p, k, rfl, hp1, hp2, hk, hb⟩; have jb := Bel.mk hb; clear hb)
      obtain ⟨p, rfl⟩ : ∃ p' : Nat, p = p' := ⟨p.toNat, by omega⟩
      go_cut [11, 12] from 19 (fun s11 s12 wc => ∃ (q : Nat) (k : Int) (dj2 : Array E), s11 = .int .i64 q ∧ s12 = .int .i64 k ∧ Aside0 (a1 ≤ q ∧ q < b1) ∧ Aside0 (PermIn a1 b1 dk dj2) ∧ So C wc dj2 ∧ Fr C w wc ∧ Blk wc w.heap.size (datC C) 88)
      case first =>
        by_cases h2 : k = 2
        · have h2b : (k == 2) = true := beq_iff_eq.mpr h2
          go_wp2_with (first | (go_at_call 82; refine (reverse_calls C _ _ So.out a1 b1 (by omega) (by omega)).mono ?_; rintro e w3 ⟨rfl, D2, hs, hp, hg⟩; have k1 := So.mk hs; have k2 := Gb.mk hg; have HP := Aside0.mk (permIn_trans _ _ _ _ _ HS.out hp); clear hs hg hp))
          go_meet
          case rel => exact ⟨b1 - 1 - (p - a1), 1, D2, by congr 1; omega, rfl, ⟨⟨by omega, by omega⟩⟩, HP, inferInstance, inferInstance, inferInstance⟩
        · have h2b : (k == 2) = false := beq_eq_false_iff_ne.mpr h2
          go_wp2_with fail
          go_meet
          case rel => exact ⟨p, k, dj, rfl, rfl, ⟨⟨by omega, by omega⟩⟩, HS, inferInstance, inferInstance, inferInstance⟩
      case rest =>
        clear j1 j2 j3 jb hk hp1 hp2 HS
        obtain ⟨q, k, dj2, rfl, rfl, HQ, HS, j1, j2, j3⟩ := hcut
        obtain ⟨hq1, hq2⟩ := HQ.out
        go_upto_region 16 with fail
        go_cut [68] from 19 (fun s68 wx => ∃ t : Bool, s68 = .bool t ∧ wx = wc)
        case first =>
          cases wb <;> cases wp <;> by_cases hk1 : k = 1 <;>
            (first | have hkb : (k == 1) = true := beq_iff_eq.mpr hk1 | have hkb : (k == 1) = false := beq_eq_false_iff_ne.mpr hk1) <;>
            (go_wp2_with fail
             go_meet
             exact ⟨_, rfl, rfl⟩)
        case rest =>
          obtain ⟨t, rfl, rfl⟩ := hcut
          go_upto_if 68 with fail
          go_cut [] from 19 (fun wx => So C wx dj2 ∧ Fr C w wx ∧ Blk wx w.heap.size (datC C) 88)
          case first =>
            cases t
            · go_wp2_with fail
              go_meet
              case rel => exact ⟨j1, j2, j3⟩
            · go_wp2_with (first | (go_at_call 83; refine (partial_calls C _ _ So.out a1 b1 (by omega) (by omega)).mono ?_; rintro e w3 ⟨r, rfl, hpi, hb⟩; have jb := Bel.mk hb; have HPI := Aside0.mk hpi; clear hb hpi; cases r))
              · go_meet
                exact ⟨inferInstance, inferInstance, inferInstance⟩
              · ((try simp only [Exit.inBlock, Exit.then]); refine bodyPost_ret (results_none rfl _ _ _) rfl ?_)
                obtain ⟨h1, h2⟩ := partialInsertionSort_holds swo_beforeE dj2 a1 b1 (by omega) (by rw [HS.out.1, hds]; omega) (Below.perm HB.out (by rw [hds]; omega) HS.out)
                rw [HPI.out] at h1 h2
                obtain ⟨h3, h4⟩ := HR.out _ (permIn_trans _ _ _ _ _ HS.out h1) (h2 rfl)
                exact ⟨rfl, _, So.out, h3, h4, Fr.out⟩
          case rest =>
            clear j1 j2 j3
            obtain ⟨j1, j2, j3⟩ := hcut
            go_upto_region 18 with fail
            go_cut [83] from 19 (fun s83 wx => ∃ t : Bool, s83 = .bool t ∧ Aside0 (t = true → 0 < a1 ∧ beforeE dj2[a1 - 1]! dj2[q]! = false) ∧ So C wx dj2 ∧ Fr C w wx ∧ Blk wx w.heap.size (datC C) 88)
            case first =>
              by_cases ha0 : a1 = 0
              · have ha1 : decide (0 < (a1 : Int)) = false := decide_eq_false (by omega)
                have ha2 : decide (0 < a1) = false := decide_eq_false (by omega)
                go_wp2_with fail
                go_meet
                case rel => exact ⟨false, rfl, ⟨fun h => by cases h⟩, j1, j2, j3⟩
              · have ha1 : decide (0 < (a1 : Int)) = true := decide_eq_true (by omega)
                have ha2 : decide (0 < a1) = true := decide_eq_true (by omega)
                go_wp2_with (first | (go_at_call 49; refine (less_ex So.out _ _ (a1 - 1) q (by omega) rfl (by omega) (by omega)).mono ?_; rintro e w3 ⟨lb, rfl, hlb, hb⟩; have jb := Bel.mk hb; have HL := Aside0.mk hlb; clear hb hlb; cases lb))
                · go_meet
                  exact ⟨true, rfl, ⟨fun _ => ⟨by omega, HL.out⟩⟩, inferInstance, inferInstance, inferInstance⟩
                · go_meet
                  exact ⟨false, rfl, ⟨fun h => by cases h⟩, inferInstance, inferInstance, inferInstance⟩
            case rest =>
              clear j1 j2 j3
              obtain ⟨t, rfl, HT, j1, j2, j3⟩ := hcut
              have hsz2 : b1 ≤ dj2.size := by rw [HS.out.1, hds]; omega
              have HB2 := Aside0.mk (Below.perm HB.out (by rw [hds]; omega) HS.out)
              cases t
              · go_upto_if 109 with (go_at_call 85; refine (partition_at So.out a1 b1 q _ rfl (by omega) (by omega) (by omega)).mono ?_; rintro e w3 ⟨mid, ap, D2, hx, rfl, hs, hg⟩; have k1 := So.mk hs; have k2 := Gb.mk hg; obtain ⟨r1, r2, r3, r4, r5, r6, r7⟩ := round_part swo_beforeE (partition_holds beforeE) hq1 hq2 hsz2 HB2.out hx; have R4 := Aside0.mk r4; have R5 := Aside0.mk r5; have R6 := Aside0.mk r6; have R7 := Aside0.mk r7; clear hs hg hx r3 r4 r5 r6 r7)
                by_cases h4 : mid - a1 < b1 - mid
                · have h4z : decide ((mid : Int) - (a1 : Int) < (b1 : Int) - (mid : Int)) = true := decide_eq_true (by omega)
                  go_wp2_with (first | (go_at_call 65; refine (IH.out _ _ So.out a1 mid l2 (by omega) (by omega) (by omega) (by omega) R4.out _ _ _ rfl rfl rfl).mono ?_; rintro e w4 ⟨rfl, L, hs, hp, hso, hg⟩; have k3 := So.mk hs; have k4 := Gb.mk hg; obtain ⟨u1, u2⟩ := R6.out L hp hso; have U1 := Aside0.mk u1; have U2 := Aside0.mk u2; clear hs hp hso hg u1 u2))
                  go_roundg (b1 - (mid + 1))
                  case measure => omega
                  case rel => exact ⟨mid + 1, b1, l2, _, ap, L, by first | rfl | go_num, rfl, rfl, rfl, rfl, ⟨⟨by omega, by omega, by omega, by omega, by omega⟩⟩, U1, ⟨fun R g1 g2 => by obtain ⟨g3, g4⟩ := U2.out R g1 g2; exact HR.out R (permIn_trans _ _ _ _ _ HS.out g3) g4⟩, inferInstance, inferInstance, inferInstance⟩
                · have h4z : decide ((mid : Int) - (a1 : Int) < (b1 : Int) - (mid : Int)) = false := decide_eq_false (by omega)
                  go_wp2_with (first | (go_at_call 65; refine (IH.out _ _ So.out (mid + 1) b1 l2 (by omega) (by omega) (by omega) (by omega) R5.out _ _ _ (by omega) rfl rfl).mono ?_; rintro e w4 ⟨rfl, L, hs, hp, hso, hg⟩; have k3 := So.mk hs; have k4 := Gb.mk hg; obtain ⟨u1, u2⟩ := R7.out L hp hso; have U1 := Aside0.mk u1; have U2 := Aside0.mk u2; clear hs hp hso hg u1 u2))
                  go_roundg (mid - a1)
                  case measure => omega
                  case rel => exact ⟨a1, mid, l2, _, ap, L, rfl, rfl, rfl, rfl, rfl, ⟨⟨by omega, by omega, by omega, by omega, by omega⟩⟩, U1, ⟨fun R g1 g2 => by obtain ⟨g3, g4⟩ := U2.out R g1 g2; exact HR.out R (permIn_trans _ _ _ _ _ HS.out g3) g4⟩, inferInstance, inferInstance, inferInstance⟩
              · obtain ⟨ha0, hnl⟩ := HT.out rfl
                have HNL := Aside0.mk hnl
                clear hnl
                go_wp2_with (first | (go_at_call 84; refine (partitionEqual_at So.out a1 b1 q _ rfl (by omega) (by omega) (by omega)).mono ?_; rintro e w3 ⟨mid, D2, hx, rfl, hs, hg⟩; have k1 := So.mk hs; have k2 := Gb.mk hg; obtain ⟨r1, r2, r3, r4, r5⟩ := round_eq swo_beforeE (partitionEqual_holds beforeE) ha0 hq1 hq2 hsz2 HB2.out HNL.out hx; have R4 := Aside0.mk r4; have R5 := Aside0.mk r5; clear hs hg hx r3 r4 r5))
                go_roundg (b1 - mid)
                case measure => omega
                case rel => exact ⟨mid, b1, l2, wb, wp, D2, rfl, rfl, rfl, rfl, rfl, ⟨⟨by omega, by omega, by omega, by omega, by omega⟩⟩, R4, ⟨fun R g1 g2 => by obtain ⟨g3, g4⟩ := R5.out R g1 g2; exact HR.out R (permIn_trans _ _ _ _ _ HS.out g3) g4⟩, inferInstance, inferInstance, inferInstance⟩
theorem pdq_all (C : SoC) [SoG C] : ∀ N, PdqOk C N
  | 0 => fun _ _ _ _ _ _ h => absurd h (Nat.not_lt_zero _)
  | N + 1 => pdq_step C N (pdq_all C N)
end Go.Proofs.Ytnknnbpodpfljaa.S


namespace Go.Proofs.Ytnknnbpodpfljaa.S
open Go.RowKit Go.Sort Go.Lib Go.Proofs.Ytnknnbpodpfljaa.P Go.Proofs.Ytnknnbpodpfljaa.Q Go.Proofs.Ytnknnbpodpfljaa.V Go.Proofs.YtnknnbpodpfljaaW.PrintWords
set_option linter.unusedVariables false
set_option linter.unusedSimpArgs false
theorem plain4 : Plain k36 enc4 where
  len := fun _ => rfl
  pos := by decide
  of := fun {w base ok x cs} h => by
    obtain ⟨c0, c1, rfl, ⟨d0, d1, rfl, h0, h1⟩, e0, e1, rfl, h2, h3⟩ := h
    rw [h0, h1, h2, h3]
    rfl
  make := fun w base ok x => k36_mkM w base ok x
theorem R_of_so {C : SoC} {w w' : World} {base : Nat} {ok : Nat → Prop} {xs : List E} {D : Array E} (h : k36.R 36 w base ok (.slice (some ⟨C.g, 0, none⟩) xs.length C.c) xs) (hs : SoAt C w' D) (hn : xs.length = C.n) :
    k36.R 36 w' base ok (.slice (some ⟨C.g, 0, none⟩) xs.length C.c) D.toList := by
  obtain ⟨hok, inner, ho, hr⟩ := h
  rcases ho.2 with ⟨hn', _⟩ | ⟨g', cap', cur0, hv, hg, hh, hle, hmx, hcs, htk⟩
  · simp at hn'
  obtain ⟨e1, e2⟩ : C.g = g' ∧ C.c = cap' := by simpa using hv
  subst e1 e2
  obtain ⟨cur, hc, hcz⟩ := hs.shape
  have hD : D.size = xs.length := by rw [hs.size, hn]
  have hat : ∀ i, i < D.size → (cur.toList.drop (i * 4)).take 4 = enc4 D[i]! := by
    intro i hi
    obtain ⟨a0, a1, a2, a3⟩ := hs.at_ i (by rw [← hs.size]; exact hi)
    have e0 := (blk_cell hc (i * 4)).symm.trans a0
    have e1 := (blk_cell hc (i * 4 + 1)).symm.trans a1
    have e2 := (blk_cell hc (i * 4 + 2)).symm.trans a2
    have e3 := (blk_cell hc (i * 4 + 3)).symm.trans a3
    refine List.ext_getElem? fun c => ?_
    by_cases hc4 : c < 4
    · rw [chunk_at hc4, Array.getElem?_toList]
      rcases c with _ | _ | _ | _ | c
      · exact e0
      · exact e1
      · exact e2
      · exact e3
      · omega
    · rw [List.getElem?_eq_none (by rw [List.length_take]; omega), List.getElem?_eq_none (by show (enc4 D[i]!).length ≤ c; rw [enc4_len]; omega)]
  have hlen : D.toList.length = xs.length := by simpa using hD
  have hln : (cur.toList.take (xs.length * 4)).length = xs.length * 4 := by
    have hcl : cur.toList.length = C.c * 4 := by simpa using hcz
    rw [List.length_take, hcl]
    exact Nat.min_eq_left (Nat.mul_le_mul_right 4 hle)
  refine ⟨hok, cur.toList.take (xs.length * 4), ⟨?_, .inr ⟨C.g, C.c, cur, by rw [hlen], hg, hc, by rw [hlen]; exact hle, hmx, hcz, by rw [hlen]; rfl⟩⟩, ?_, fun i x hx => ?_⟩
  · rw [hlen]; exact hln
  · rw [hlen]; exact hln
  · have hi : i < D.size := by have := (List.getElem?_eq_some_iff.1 hx).1; simpa using this
    have hxi : D[i]! = x := by
      have := (List.getElem?_eq_some_iff.1 hx).2
      rw [getElem!_pos D i hi]
      simpa using this
    have e : ((cur.toList.take (xs.length * 4)).drop (i * 4)).take 4 = enc4 x := by
      rw [List.drop_take, List.take_take, Nat.min_eq_left (by rw [← hD]; omega), hat i hi, hxi]
    show k36.M w' base _ x (((cur.toList.take (xs.length * 4)).drop (i * 4)).take 4)
    rw [e]
    exact plain4.make _ _ _ _
noncomputable def svT : TypeInfo := (Try.prog.info? 24).get (by kernel_rfl)
noncomputable def svE : TypeInfo := (Try.prog.info? 36).get (by kernel_rfl)
theorem svK (n : Nat) (h2 : 2 ≤ n) : Lib.swapperK n svE 25 = 9 := by
  have a : svE.hasPointers = false := by kernel_rfl
  have b : svE.bytes = 32 := by kernel_rfl
  have c : (n == 0) = false := by simp; omega
  have d : (n == 1) = false := by simp; omega
  simp [Lib.swapperK, a, b, c, d]
theorem sort_entries (w : World) (g cap bs base : Nat) (ok : Nat → Prop) (xs : List E) (hR : k36.R 36 w base ok (.slice (some ⟨g, 0, none⟩) xs.length cap) xs) (hB : w.heap[bs]? = some (.cells #[.slice (some ⟨g, 0, none⟩) xs.length cap] 24 (0, 0)))
    (hne : bs ≠ g) (h2 : 2 ≤ xs.length) (h50 : xs.length < 50) (hf : ∀ x ∈ xs, Ftd x) :
    Calls Try.prog 48 #[.iface 24 (.slice (some ⟨g, 0, none⟩) xs.length cap), .func (.func 49) #[] #[.pointer (some ⟨bs, 0, none⟩)]] w fun e w' => e = .returned (.tuple #[]) ∧
      ∃ D : Array E, PermIn 0 xs.length xs.toArray D ∧ SortedIn beforeE 0 xs.length D ∧ k36.R 36 w' base ok (.slice (some ⟨g, 0, none⟩) xs.length cap) D.toList ∧ w.grownBy w' (some g) := by
  refine Any.sort_Slice_of_pdq sv6 24 36 svT svE (by kernel_rfl) (by kernel_rfl) (by kernel_rfl) (by kernel_rfl) 25 (fun _ => by kernel_rfl) _ xs.length cap (by omega) 75 (by rw [svK _ h2]; kernel_rfl) _ _ _ w _ ?_
  have hbd : sliceBound Try.prog 36 svE 25 (some ⟨g, 0, none⟩) xs.length cap = #[.slice (some ⟨g, 0, none⟩) xs.length cap, typeHandle Try.prog 36] := by
    unfold sliceBound
    rw [if_neg (swapperK_gt _ _ _ h2)]
  rw [hbd]
  let C : SoC := ⟨g, bs, xs.length, cap, #[.pointer (some ⟨bs, 0, none⟩)], #[.slice (some ⟨g, 0, none⟩) xs.length cap, typeHandle Try.prog 36]⟩
  haveI : SoG C := ⟨swapSwapsK_of_literal false 75 (fun args W => run_callFunc_extern Try.func75 (by kernel_rfl) (by kernel_rfl) (by kernel_rfl) (e := Extern.ReflectliteSwapper.swap false) (by kernel_rfl) args W) 36 svE (by kernel_rfl) enc4 4 (fun _ => rfl) (by kernel_rfl) (fun _ => by kernel_rfl) (fun x v hv => by simp [enc4] at hv; rcases hv with rfl | rfl | rfl | rfl <;> rfl) g 0 xs.length cap, h50, rfl, hne⟩
  have h0 : SoAt C w xs.toArray := by
    have hR0 := hR
    obtain ⟨_, inner, ho, _⟩ := hR0
    rcases ho.2 with ⟨hn', _⟩ | ⟨g', cap', cur0, hv, hg, hh, hle, hmx, hcs, htk⟩
    · simp at hn'
    obtain ⟨e1, e2⟩ : g = g' ∧ cap = cap' := by simpa using hv
    subst e1 e2
    exact ⟨holds_of_R plain4 hR, by simp [C], hB, blk_lt hh, ⟨cur0, hh, hcs⟩, fun x hx => hf x (by simpa using hx)⟩
  have hbl : RowKit.Below w.heap.size w (sliceWorld Try.prog sv6_ren 24 (some ⟨g, 0, none⟩) xs.length cap w) := below_alloc (below_alloc (RowKit.Below.refl _ _) _) _
  have h1 := h0.below hbl
  have hbit : Lib.bitLen xs.length ≤ 62 := Lib.bitLen_le xs.length 62 (by omega) (by omega)
  have := pdq_all C (xs.length + 1) _ _ h1 0 xs.length (Lib.bitLen xs.length) (by omega) (by omega) (Nat.le_refl _) (by omega) (.inl rfl) _ _ _ rfl rfl rfl
  refine this.mono ?_
  rintro e w' ⟨he, D, hs, hp, hso, hg⟩
  exact ⟨he, D, hp, hso, R_of_so (C := C) hR hs rfl, grownBy_trans (grownBy_below hbl) hg⟩
theorem sort_tiny (w : World) (A : Option Addr) (n cap bs : Nat) (h1 : n ≤ 1) :
    Calls Try.prog 48 #[.iface 24 (.slice A n cap), .func (.func 49) #[] #[.pointer (some ⟨bs, 0, none⟩)]] w fun e w' => e = .returned (.tuple #[]) ∧ RowKit.Below w.heap.size w w' := by
  have hK : n = 0 ∨ n = 1 := by omega
  have a : svE.hasPointers = false := by kernel_rfl
  have b : svE.bytes = 32 := by kernel_rfl
  have key : ∀ f, Try.prog.funcs.findIdx? (·.name == "internal/reflectlite" ++ ".Swapper$" ++ toString (swapperK n svE 25)) = some f → Calls Try.prog 48 #[.iface 24 (.slice A n cap), .func (.func 49) #[] #[.pointer (some ⟨bs, 0, none⟩)]] w fun e w' => e = .returned (.tuple #[]) ∧ RowKit.Below w.heap.size w w' := by
    intro f hf
    refine (Any.sort_Slice_tiny sv6 24 36 svT svE (by kernel_rfl) (by kernel_rfl) (by kernel_rfl) (by kernel_rfl) 25 (fun _ => by kernel_rfl) A n cap h1 f hf _ _ _ w).mono ?_
    rintro e w' ⟨he, os, rfl⟩
    exact ⟨he, rfl, rfl, rfl, by simp, fun k hk => heap_grow_old _ _ hk⟩
  rcases hK with rfl | rfl
  · exact key 67 (by rw [show swapperK 0 svE 25 = 1 from rfl]; kernel_rfl)
  · exact key 68 (by rw [show swapperK 1 svE 25 = 2 from rfl]; kernel_rfl)
end Go.Proofs.Ytnknnbpodpfljaa.S


namespace Go.Proofs.Ytnknnbpodpfljaa.P
open Go.RowKit Go.Proofs.YtnknnbpodpfljaaW.PrintWords Go.Proofs.YtnknnbpodpfljaaW.PrintLast Go.Proofs.YtnknnbpodpfljaaW.PrintMore Go.Proofs.Ytnknnbpodpfljaa.V
open Go.Maps (Keyed)
set_option linter.unusedVariables false
set_option linter.unusedSimpArgs false
attribute [local go_sem] cell_b frozen_b
set_option maxHeartbeats 8000000 in
set_option maxRecDepth 100000 in
set_option synthInstance.maxHeartbeats 400000 in
set_option synthInstance.maxSize 100000 in
theorem impl_OpenFaults.calls_ok (k : Nat) (A0 : Option Addr) (c0 : Nat) (l0 : List (S36)) (w : World) (hr0 : Kd.C k36 w A0 l0.length l0) (hc0 : l0.length ≤ c0) (A : impl_LogOk.f k l0 = some true) (hl30 : l0.length ≤ 30) (hw : ∀ x ∈ l0, wf64 x.f0.f0 ∧ wf64 x.f0.f1) (hfl : ∀ x ∈ l0, 0 ≤ x.f1 ∧ x.f1 ≤ 2) :
    Calls Try.prog 27 #[.slice A0 l0.length c0] w fun e w' => ∃ v0_ : Value, e = .returned (v0_) ∧ Kd.R k36 36 w' w.heap.size (fun _ => True) v0_ (Q.openUp l0 l0.length) ∧ Below w.heap.size w w' := by
  have hl : l0.length ≤ 1000 := by omega
  have HFL := Aside0.mk hfl
  clear hfl
  have i0 := RdE.mk hr0
  have i1 := LeI.mk hc0
  have A := Aside0.mk A
  have HW := Aside0.mk hw
  clear hr0 hc0 hw
  have hu74 := Try.underlying36
  have hu56 := Try.underlying31
  go_enter Try.func27, Try.ntmps27
  go_wp2_with (first
    | (go_at_call 18; refine (impl_LogOk.calls k _ _ _ true _ Rd.out LeI.out A.out).mono ?_; rintro e w2 ⟨rfl, hb⟩; have jb := Bel.mk hb; clear hb)
    | (go_at_call 43; refine (impl_lastOf.calls _ _ _ _ Rd.out LeI.out hl HW.out).mono ?_; rintro e w3 ⟨b, rfl, hb1, hm, hb⟩; obtain ⟨D, hD, hD2⟩ := hm; have jb := Bel.mk hb; have HD := Aside0.mk hD; have HD2 := Aside0.mk hD2; have HB1 := Aside0.mk hb1; clear hb hb1 hD hD2)
    | (at_range; refine wpList_range_own _ rfl _ 60 rfl 31 36 pipeKeyed Try.underlying60 pipeR b l0.length D rfl HD.out ?_; intro w4 hrg hg hs; have HRG := Aside0.mk hrg; have HG := Aside0.mk hg; have HS := Aside0.mk hs; clear hrg hg hs))
  go_frame
  have HNE := Aside0.mk (HRG.out.ne)
  have HSZ := Aside0.mk (HD.out.size_le)
  have HLB := Aside0.mk (HD.out.lt)
  have HGB : Aside0 (w2.heap.size + 2 ≤ w3.heap.size) := ⟨by have hs := (Bel.out (W := w3)).size; simpa using hs⟩
  have HGM : Aside0 (w2.heap.size + 2 ≤ b) := ⟨by have := HB1.out; simpa using this⟩
  have HGW : Aside0 (w.heap.size ≤ w2.heap.size) := ⟨Sz.out⟩
  have HB0 : Aside0 (Below w.heap.size w w4) := ⟨(From.out : Below w.heap.size w w3).grown HG.out (Sz.out : w.heap.size ≤ w3.heap.size) (fun k hk => by cases hk)⟩
  have HBX : Aside0 (w4.heap[w2.heap.size + 1]? = some (.cells #[.slice (some ⟨w2.heap.size, 0, none⟩) 0 0] 24 (0, 0))) := ⟨by
    have h3 : Blk w3 (w2.heap.size + 1) #[.slice (some ⟨w2.heap.size, 0, none⟩) 0 0] 24 := ⟨blk_below (by have := blk_new (w2.alloc (.cells #[] 36 (0, 0))) (.cells #[.slice (some ⟨w2.heap.size, 0, none⟩) 0 0] 24 (0, 0)); simpa using this) (Bel.out (W := w3))⟩
    exact (HG.out.block _ (blk_lt h3.out) (by simp)).trans h3.out⟩
  have HRW : Aside0 (Kd.R k36 36 w4 w.heap.size (fun j => j ≠ w2.heap.size + 1 ∧ j ≠ b ∧ j ≠ w3.heap.size) (.slice (some ⟨w2.heap.size, 0, none⟩) 0 0) []) := ⟨by
    have h3 : Blk w3 w2.heap.size #[] 36 := ⟨blk_below (blk_alloc (blk_new w2 (.cells #[] 36 (0, 0))) (.cells #[.slice (some ⟨w2.heap.size, 0, none⟩) 0 0] 24 (0, 0))) (Bel.out (W := w3))⟩
    have h4 : w4.heap[w2.heap.size]? = some (.cells #[] 36 (0, 0)) := (HG.out.block _ (blk_lt h3.out) (by simp)).trans h3.out
    refine ⟨fun k hk => ?_, [], ⟨rfl, .inr ⟨w2.heap.size, 0, #[], rfl, HGW.out, h4, Nat.le_refl _, Nat.zero_le _, rfl, rfl⟩⟩, Reps.none _ _⟩
    obtain rfl : w2.heap.size = k := by simpa [Value.ownBlock] using hk
    exact ⟨by omega, by have := HGM.out; omega, by have := HGB.out; omega⟩⟩
  have HF0 : Aside0 (Found (lastMap l0) (Maps.has D) []) := ⟨⟨fun x hx => by simp at hx, List.Pairwise.nil, fun p x h0 h1 hm hx hf => by
    have e1 := Maps.atKey_of_not_has hf (.map [])
    have e2 := HD2.out.at_ p h0 h1 (.map [])
    rw [hm] at e2
    exact absurd (e1.symm.trans e2) (by simp [quadD])⟩⟩
  go_loopg [] (Maps.size D + 1) (fun kq wr => ∃ (left : Lit → Bool) (cnt : Nat) (v : Value) (xs : List S36), Aside0 (kq = cnt + 1) ∧ Aside0 (xs.length + cnt ≤ Maps.size D) ∧ Aside0 (wr.ranges Try.prog 31 pipeR b w3.heap.size l0.length D left cnt) ∧ Aside0 (Found (lastMap l0) left xs) ∧ Aside0 (Kd.R k36 36 wr w.heap.size (fun j => j ≠ w2.heap.size + 1 ∧ j ≠ b ∧ j ≠ w3.heap.size) v xs) ∧ Aside0 (wr.heap[w2.heap.size + 1]? = some (.cells #[v] 24 (0, 0))) ∧ Aside0 (Below w.heap.size w wr))
  case atStart => exact ⟨_, _, _, [], ⟨rfl⟩, ⟨by simp⟩, HRG, HF0, HRW, HBX, HB0⟩
  case round =>
    clear HRG HF0 HRW HBX HB0 HG
    obtain ⟨left, cnt, v, xs, HK, HN, HRG, HF, HR, HBX, HB⟩ := hrel
    go_wp2_with (first
      | (at_next; refine wpList_next_ranges _ rfl _ rfl 31 pipeKeyed pipeR (fun p : S31 => pairV p.f0 p.f1) quadV (fun key kl h => by obtain ⟨a, b, rfl, _⟩ := keyOf_pipe_inv h; exact ⟨⟨a, b⟩, rfl⟩) (fun v y h => by obtain ⟨x, rfl, _⟩ := pipeR_inv h; exact ⟨x, rfl⟩) b w3.heap.size l0.length D left cnt rfl HRG.out ?_ ?_))
    rotate_left
    · intro p c kl y1 y2 w5 cnt1 hk hlk hv hat hrg1 hlt hg1 hs1 hen
      obtain ⟨p0, p1⟩ : wf64 p.f0 ∧ wf64 p.f1 := by
        obtain ⟨a, b', e, ha, hb⟩ := keyOf_pipe_inv hk
        simp [pairV] at e
        rw [e.1, e.2]
        exact ⟨ha, hb⟩
      obtain rfl : kl = pipeL p.f0 p.f1 := Option.some.inj (hk.symm.trans (keyOf_pipe p0 p1))
      obtain ⟨rfl, rfl⟩ : y1 = quadD c ∧ y2 = [] := by
        have := (pipeR_mk c).symm.trans hv
        simp at this
        exact ⟨this.1.symm, this.2⟩
      have hm := mapIs_key HD2.out p0 p1 hat
      obtain rfl : c.f0 = p := by
        have := (Q.lastMap_iff l0 p c l0.length (Nat.le_refl _)).mp (by rw [List.take_length]; exact hm)
        obtain ⟨_, _, _, e, _⟩ := this
        exact e
      have HST := Aside0.mk (HF.out.step c p0 p1 hm hlk)
      have HRG1 := Aside0.mk hrg1
      have HLT := Aside0.mk hlt
      have HG1 := Aside0.mk hg1
      have HS1 := Aside0.mk hs1
      clear hk hlk hv hat hrg1 hlt hg1 hs1 hm HF HRG
      simp only [pairV, quadV] at hen ⊢
      have HR1 := Aside0.mk (Kd.R_grown HR.out HG1.out (fun j hj e => hj.2.2 (Option.some.inj e)))
      have HBX1 : Aside0 (w5.heap[w2.heap.size + 1]? = some (.cells #[v] 24 (0, 0))) := ⟨(HG1.out.block _ (blk_lt HBX.out) (fun e => by have := HGB.out; have := Option.some.inj e; omega)).trans HBX.out⟩
      have HB1 : Aside0 (Below w.heap.size w w5) := ⟨HB.out.grown HG1.out HB.out.size (fun k hk => by cases hk; have := HGB.out; have := HGW.out; omega)⟩
      have jx := Blk.mk HBX1.out
      have HE := Aside0.mk (show (if c.f1 ≠ 0 then xs ++ [c] else xs) = (if c.f1 ≠ 0 then xs ++ [c] else xs) from rfl)
      clear HR HBX HB
      by_cases hc : c.f1 = 0
      · rw [if_neg (by simpa using hc)] at HST
        obtain ⟨ck, c1, c2⟩ := c
        simp only at hc
        subst hc
        simp only at hen ⊢
        go_wp2
        go_roundg (cnt1 + 1)
        case measure => have := HK.out; have := HLT.out; omega
        case rel =>
          refine ⟨_, cnt1, v, xs, ⟨rfl⟩, ⟨by have := HN.out; have := HLT.out; omega⟩, ⟨HRG1.out.alloc _⟩, HST, ⟨Kd.R_alloc HR1.out _⟩, ⟨blk_alloc HBX1.out _⟩, ⟨below_alloc HB1.out _⟩⟩
      · rw [if_pos hc] at HST
        have hd := beq_eq_false_iff_ne.mpr hc
        have he := bne_iff_ne.mpr hc
        go_upto_region 8 with (fail)
        generalize hW : w5.alloc _ = W
        have HR7 : Aside0 (Kd.R k36 36 W w.heap.size (fun j => j ≠ w2.heap.size + 1 ∧ j ≠ b ∧ j ≠ w3.heap.size) v xs) := ⟨by rw [← hW]; exact Kd.R_alloc HR1.out _⟩
        have HBX7 : Aside0 (W.heap[w2.heap.size + 1]? = some (.cells #[v] 24 (0, 0))) := ⟨by rw [← hW]; exact blk_alloc HBX1.out _⟩
        have HB7 : Aside0 (Below w.heap.size w W) := ⟨by rw [← hW]; exact below_alloc HB1.out _⟩
        have HRG7 : Aside0 (W.ranges Try.prog 31 pipeR b w3.heap.size l0.length D _ cnt1) := ⟨by rw [← hW]; exact HRG1.out.alloc _⟩
        have HSZ7 : Aside0 (w3.heap.size + 1 ≤ W.heap.size) := ⟨HRG7.out.lt⟩
        have jE : Blk W w5.heap.size #[.int .i64 c.f0.f0, .int .i64 c.f0.f1, .int .i64 c.f1, .int .i64 c.f2] 36 := ⟨by rw [← hW]; exact blk_new w5 _⟩
        have jX := Blk.mk HBX7.out
        clear hW jx HR1 HBX1 HB1 HRG1
        go_wp2_with (first
          | (refine Kd.R_append k36 (w0 := w) w.heap.size rfl (.tmp 20) (.tmp 22) 24 36 (.agg #[(.int .i64 0), (.int .i64 0), (.int .i64 0), (.int .i64 0)]) 32 rfl Try.underlying24 info36 rfl (by decide) (by omega) v xs c [.int .i64 c.f0.f0, .int .i64 c.f0.f1, .int .i64 c.f1, .int .i64 c.f2] (fun j => j ≠ w2.heap.size + 1 ∧ j ≠ b ∧ j ≠ w3.heap.size) (fun _ => False) rfl rfl ?aP (fun _ hk => hk.elim) ?aF ?aO ?aB ?aS ?aL ?_; (case aP => exact k36_mkM _ _ _ c); (case aB => exact HB7.out); (case aF => intro j hj; have := HSZ7.out; have := HGB.out; have := HLB.out; exact ⟨by omega, by omega, by omega⟩); (case aO => exact HR7.out); (case aS => exact HB7.out.size); (case aL => have := HN.out; have := HSZ.out; omega); intro v1 w6 ho hb hg hat; obtain ⟨B1, b1, rfl⟩ := Kd.R_slice ho; have HO := Aside0.mk ho; have HB6 := Aside0.mk hb; have HG6 := Aside0.mk hg; have j6 : Blk w6 (w2.heap.size + 1) #[v] 24 := ⟨(HG6.out.block _ (blk_lt HBX7.out) (fun e => (HR7.out.1 _ e.symm).1 rfl)).trans HBX7.out⟩; clear ho hb hg))
        go_roundg (cnt1 + 1)
        case measure => have := HK.out; have := HLT.out; omega
        case rel =>
          refine ⟨_, cnt1, .slice B1 (xs.length + 1) b1, xs ++ [c], ⟨rfl⟩, ⟨by have := HN.out; have := HLT.out; simp only [List.length_append, List.length_singleton]; omega⟩, ⟨?_⟩, HST, ⟨?_⟩, ⟨?_⟩, ⟨?_⟩⟩
          · refine World.ranges.kept (HRG7.out.kept HG6.out (fun e => (HR7.out.1 _ e.symm).2.1 rfl) (fun e => (HR7.out.1 _ e.symm).2.2 rfl)) (grownBy_setCell' w6 _ _) (fun e => ?_) (fun e => ?_)
            · have := HGM.out; have := Option.some.inj e; omega
            · have := HGB.out; have := Option.some.inj e; omega
          · refine Kd.R_far (by simpa using HO.out) (fun j hj => hj.1) _
          · exact blk_put j6.out 0 _ rfl
          · exact below_set HB6.out (by have := HGW.out; omega)
    · intro hc0 hl0
      have hall := HF.out.all
      have hnd : xs.Nodup := by
        refine HF.out.nodup.imp ?_
        intro p q h e
        exact h (by rw [e])
      have hmem : ∀ x, x ∈ xs ↔ lastMap l0 x.f0 = some x ∧ x.f1 ≠ 0 := fun x => ⟨fun hx => ⟨(hall x hx).1, (hall x hx).2.1⟩, fun hx => by
        have hin : x ∈ l0 := by
          have h9 := (Q.mem_open l0 x).mpr hx
          obtain ⟨i, _, _, h3⟩ := (Q.mem_openUp l0 x l0.length (Nat.le_refl _)).mp h9
          exact List.mem_of_getElem? h3
        exact HF.out.got x.f0 x (HW.out x hin).1 (HW.out x hin).2 hx.1 hx.2 (hl0 _)⟩
      have hin : ∀ x ∈ xs, x ∈ l0 := fun x hx => by
        have h9 := (Q.mem_open l0 x).mpr ((hmem x).mp hx)
        obtain ⟨i, _, _, h3⟩ := (Q.mem_openUp l0 x l0.length (Nat.le_refl _)).mp h9
        exact List.mem_of_getElem? h3
      have hft : ∀ x ∈ xs, S.Ftd x := fun x hx => by
        have h8 := HFL.out x (hin x hx)
        have h9 := ((hmem x).mp hx).2
        unfold S.Ftd
        omega
      have hfin : ∀ D' : Array S36, Sort.PermIn 0 xs.length xs.toArray D' → Sort.SortedIn Q.beforeE 0 xs.length D' → D'.toList = Q.openUp l0 l0.length := fun D' hp hs => by
        obtain ⟨h8, h9⟩ := sorted_pairwise (lt := Q.beforeE) (D := xs.toArray) (D' := D') (by simpa using hp) (by simpa using hs) (fun a _ c _ hne => Q.before_total hne) (by simpa using hnd)
        refine Q.open_unique l0 _ h9 fun x => ?_
        rw [h8.mem_iff]
        simpa using hmem x
      have hsmall : xs.length < 50 := by have := HN.out; have := HSZ.out; omega
      have HFT := Aside0.mk hft
      have HFIN := Aside0.mk hfin
      clear hall hnd hmem hin hft hfin HF HRG
      have jx := Blk.mk HBX.out
      by_cases h2 : 2 ≤ xs.length
      · obtain ⟨g, cap, rfl, hg1, hg2, _⟩ := Kd.R_form HR.out (by omega)
        have hne : w2.heap.size + 1 ≠ g := fun e => (HR.out.1 g (by simp [Value.ownBlock])).1 e.symm
        go_wp2_with (first
          | (go_at_call 48; refine (S.sort_entries wr g cap (w2.heap.size + 1) w.heap.size _ xs HR.out HBX.out hne h2 hsmall HFT.out).mono ?_; rintro e w9 ⟨rfl, D9, hp, hso, hR9, hg9⟩; have jx9 : Blk w9 (w2.heap.size + 1) #[.slice (some ⟨g, 0, none⟩) xs.length cap] 24 := ⟨(hg9.block _ (blk_lt HBX.out) (fun e => hne (Option.some.inj e))).trans HBX.out⟩; have H9 := Aside0.mk (HFIN.out D9 hp hso); have R9 := Aside0.mk hR9; have B9 : Aside0 (Below w.heap.size w w9) := ⟨HB.out.grown hg9 HB.out.size (fun k hk => by cases hk; exact hg1)⟩; clear hp hso hR9 hg9))
        go_ret
        refine ⟨_, rfl, ?_, B9.out⟩
        rw [← H9.out]
        exact Kd.R_mono R9.out (fun _ _ => trivial)
      · obtain ⟨A9, cap, rfl⟩ := Kd.R_slice HR.out
        go_wp2_with (first
          | (go_at_call 48; refine (S.sort_tiny wr A9 xs.length cap (w2.heap.size + 1) (by omega)).mono ?_; rintro e w9 ⟨rfl, hb9⟩; have jb9 := Bel.mk hb9; have R9 := Aside0.mk (Kd.R_below HR.out hb9); have B9 : Aside0 (Below w.heap.size w w9) := ⟨below_step HB.out hb9⟩; clear hb9))
        go_ret
        refine ⟨_, rfl, ?_, B9.out⟩
        have hp : Sort.PermIn 0 xs.length xs.toArray xs.toArray := Sort.permIn_refl _ _ _
        have hso : Sort.SortedIn Q.beforeE 0 xs.length xs.toArray := fun i j _ h1 h2 => by omega
        rw [← HFIN.out xs.toArray hp hso]
        exact Kd.R_mono R9.out (fun _ _ => trivial)
set_option maxHeartbeats 8000000 in
set_option maxRecDepth 100000 in
set_option synthInstance.maxHeartbeats 400000 in
set_option synthInstance.maxSize 100000 in
theorem impl_OpenFaults.calls_no (k : Nat) (A0 : Option Addr) (c0 : Nat) (l0 : List (S36)) (w : World) (hr0 : Kd.C k36 w A0 l0.length l0) (hc0 : l0.length ≤ c0) (A : impl_LogOk.f k l0 = some false) :
    Calls Try.prog 27 #[.slice A0 l0.length c0] w fun e w' => ∃ v0_ : Value, e = .returned (v0_) ∧ Kd.R k36 36 w' w.heap.size (fun _ => True) v0_ ([] : List S36) ∧ Below w.heap.size w w' := by
  have i0 := RdE.mk hr0
  have i1 := LeI.mk hc0
  have A := Aside0.mk A
  clear hr0 hc0
  go_enter Try.func27, Try.ntmps27
  go_wp2_with (first
    | (go_at_call 18; refine (impl_LogOk.calls k _ _ _ false _ Rd.out LeI.out A.out).mono ?_; rintro e w2 ⟨rfl, hb⟩; have jb := Bel.mk hb; clear hb))
  go_ret
  exact ⟨_, rfl, Kd.R_nil _ _ _ _ _, From.out⟩
end Go.Proofs.Ytnknnbpodpfljaa.P


namespace Go.Proofs.Ytnknnbpodpfljaa.P
open Go.RowKit Go.Proofs.YtnknnbpodpfljaaW.PrintWords Go.Proofs.YtnknnbpodpfljaaW.PrintLast Go.Proofs.YtnknnbpodpfljaaW.PrintMore Go.Proofs.Ytnknnbpodpfljaa.V
attribute [local go_sem] cell_b frozen_b
attribute [local go_sem] max2_int min2_int max_two min_two max_three min_three max_four min_four
set_option linter.unusedVariables false
set_option linter.unusedSimpArgs false
def impl_OpenFaults.f (l0 : List (S36)) : Option (List (S36)) := if l0.length ≤ 1048577 then some (if Q.logOk l0 = true then Q.openUp l0 l0.length else []) else none
theorem impl_OpenFaults.calls (A0 : Option Addr) (c0 : Nat) (l0 : List (S36)) (r : List (S36)) (w : World) (hr0 : Kd.C k36 w A0 l0.length l0) (hc0 : l0.length ≤ c0) (h : impl_OpenFaults.f l0 = some r) :
    Calls Try.prog 27 #[.slice A0 l0.length c0] w fun e w' => ∃ v0_ : Value, e = .returned (v0_) ∧ Kd.R k36 36 w' w.heap.size (fun _ => True) v0_ r ∧ Below w.heap.size w w' := by
  unfold impl_OpenFaults.f at h
  by_cases h0 : l0.length ≤ 1048577
  rotate_left
  · rw [if_neg h0] at h; cases h
  rw [if_pos h0] at h
  obtain ⟨k, hk⟩ := Q.logOk_impl l0 h0
  have A := hk k (Nat.le_refl _)
  by_cases hb : Q.logOk l0 = true
  · rw [if_pos hb] at h
    rw [hb] at A
    obtain ⟨h1, h2, h3⟩ := logOk_all hb
    obtain rfl := Option.some.inj h
    exact impl_OpenFaults.calls_ok k A0 c0 l0 w hr0 hc0 A h1 h2 h3
  · rw [if_neg hb] at h
    rw [Bool.eq_false_iff.mpr hb] at A
    obtain rfl := Option.some.inj h
    exact impl_OpenFaults.calls_no k A0 c0 l0 w hr0 hc0 A
end Go.Proofs.Ytnknnbpodpfljaa.P


namespace Go.Proofs.Ytnknnbpodpfljaa.P
open Go.RowKit Go.Proofs.YtnknnbpodpfljaaW.PrintWords Go.Proofs.YtnknnbpodpfljaaW.PrintLast Go.Proofs.YtnknnbpodpfljaaW.PrintMore
attribute [local go_sem] max2_int min2_int max_two min_two max_three min_three max_four min_four
set_option linter.unusedVariables false
set_option linter.unusedSimpArgs false
def laws_markEntryS.l0 : Nat → List (S36) → Int → Int → Option (Int × (List (S36)))
  | 0, _, _, _ => none
  | k + 1, x0, x1, x5 => if x5 < (x0.length : Int) then (if 0 ≤ x5 then ((some (x0.set (x5 : Int).toNat (⟨(⟨x1, (rd_T36 x0 x5).f0.f1⟩ : S31), (rd_T36 x0 x5).f1, (rd_T36 x0 x5).f2⟩ : S36) : List (S36))).bind fun y408 => ((some (y408.set (x5 : Int).toNat (⟨(⟨(rd_T36 y408 x5).f0.f0, wrap64 (x1 + 1)⟩ : S31), (rd_T36 y408 x5).f1, (rd_T36 y408 x5).f2⟩ : S36) : List (S36))).bind fun y409 => ((some (y409.set (x5 : Int).toNat (⟨(⟨(rd_T36 y409 x5).f0.f0, (rd_T36 y409 x5).f0.f1⟩ : S31), wrap64 ((wrap64 (x1 + 1)) + 1), (rd_T36 y409 x5).f2⟩ : S36) : List (S36))).bind fun y410 => (laws_markEntryS.l0 k (y410.set (x5 : Int).toNat (⟨(⟨(rd_T36 y410 x5).f0.f0, (rd_T36 y410 x5).f0.f1⟩ : S31), (rd_T36 y410 x5).f1, wrap64 ((wrap64 ((wrap64 (x1 + 1)) + 1)) + 1)⟩ : S36)) (wrap64 ((wrap64 ((wrap64 ((wrap64 (x1 + 1)) + 1)) + 1)) + 1)) (wrap64 (x5 + 1)))))) else (none)) else (some (x1, x0))
def laws_markEntryS.f (k : Nat) (l0 : List (S36)) (a1 : Int) : Option (Int × (List (S36))) := laws_markEntryS.l0 k l0 a1 0
set_option maxHeartbeats 8000000 in
set_option maxRecDepth 100000 in
theorem laws_markEntryS.calls (k : Nat) (P0_ : Nat → Prop) (u9000_ : Value) (l0 : List (S36)) (a1 : Int) (r1 : Int) (r2 : List (S36)) (w0 w : World) (hB : Below w0.heap.size w0 w) (ho0 : Kd.R k36 36 w w0.heap.size P0_ u9000_ l0) (h : laws_markEntryS.f k l0 a1 = some (r1, r2)) :
    Calls Try.prog 30 #[u9000_, .int .i64 a1] w fun e w' => e = .returned (.int .i64 r1) ∧ Kd.R k36 36 w' w0.heap.size (fun k_ => (P0_ k_ ∨ w.heap.size ≤ k_)) u9000_ r2 ∧ Below w0.heap.size w0 w' ∧ Kept w w' (fun k_ => P0_ k_) := by
  have HO0 := Aside0.mk (show Kd.R k36 36 w w0.heap.size (fun k_ => (P0_ k_ ∨ w.heap.size ≤ k_)) u9000_ l0 from Kd.R_mono ho0 (fun k_ hk => (.inl hk)))
  have HK := Aside0.mk (Kept.refl w (fun k_ => P0_ k_))
  have HW0 := Aside0.mk hB.size
  have HB := Aside0.mk hB
  clear hB
  have H : (laws_markEntryS.l0 k l0 a1 0) = some (r1, r2) := h
  clear h
  have H' := Aside0.mk H
  clear H
  go_enter Try.func30, Try.ntmps30
  go_wp2
  go_loopg [1, 5] k (fun kq v1 v5 w' => ∃ (x0_1 : List (S36)) (x1_1 : Int) (x5_1 : Int), v1 = .int .i64 x1_1 ∧ v5 = .int .i64 x5_1 ∧ Aside0 (laws_markEntryS.l0 kq x0_1 x1_1 x5_1 = some (r1, r2)) ∧ Aside0 (kq ≤ k) ∧ Aside0 (Kd.R k36 36 w' w0.heap.size (fun k_ => (P0_ k_ ∨ w.heap.size ≤ k_)) u9000_ x0_1) ∧ Aside0 (Kept w w' (fun k_ => P0_ k_)) ∧ Aside0 (Below w0.heap.size w0 w'))
  case atStart => exact ⟨(l0), (a1), (0), (by first | rfl | (simp; done) | (simp [*]; done)), (by first | rfl | (simp; done) | (simp [*]; done)), H', ⟨Nat.le_refl _⟩, ⟨oR HO0⟩, ⟨by repeat (first | (with_reducible first | exact HK.out | apply Kept.alloc | apply Kept.drewN | apply Kept.drew) | exact HK.out)⟩, ⟨oB HB⟩⟩
  case round =>
    clear H'
    try clear p2
    obtain ⟨x0_1, x1_1, x5_1, rfl, rfl, HA, HK1, HO_0, HK, HB⟩ := hrel
    cases gk with
    | zero => exact absurd HA.out (by simp [laws_markEntryS.l0])
    | succ k1 =>
      have H := HA.out
      clear HA
      simp only [laws_markEntryS.l0] at H
      by_cases c3 : x5_1 < (x0_1.length : Int)
      · rw [if_pos c3] at H
        have c3b0 : decide (x5_1 < (x0_1.length : Int)) = true := decide_eq_true c3
        clear c3
        by_cases c4 : 0 ≤ x5_1
        · rw [if_pos c4] at H
          have c4b0 : decide (0 ≤ x5_1) = true := decide_eq_true c4
          clear c4
          obtain ⟨y408, hy408⟩ : ∃ y_ : List (S36), y_ = (x0_1.set (x5_1 : Int).toNat (⟨(⟨x1_1, (rd_T36 x0_1 x5_1).f0.f1⟩ : S31), (rd_T36 x0_1 x5_1).f1, (rd_T36 x0_1 x5_1).f2⟩ : S36)) := ⟨_, rfl⟩
          replace H : ((some (y408.set (x5_1 : Int).toNat (⟨(⟨(rd_T36 y408 x5_1).f0.f0, wrap64 (x1_1 + 1)⟩ : S31), (rd_T36 y408 x5_1).f1, (rd_T36 y408 x5_1).f2⟩ : S36) : List (S36))).bind fun y409 => ((some (y409.set (x5_1 : Int).toNat (⟨(⟨(rd_T36 y409 x5_1).f0.f0, (rd_T36 y409 x5_1).f0.f1⟩ : S31), wrap64 ((wrap64 (x1_1 + 1)) + 1), (rd_T36 y409 x5_1).f2⟩ : S36) : List (S36))).bind fun y410 => (laws_markEntryS.l0 k1 (y410.set (x5_1 : Int).toNat (⟨(⟨(rd_T36 y410 x5_1).f0.f0, (rd_T36 y410 x5_1).f0.f1⟩ : S31), (rd_T36 y410 x5_1).f1, wrap64 ((wrap64 ((wrap64 (x1_1 + 1)) + 1)) + 1)⟩ : S36)) (wrap64 ((wrap64 ((wrap64 ((wrap64 (x1_1 + 1)) + 1)) + 1)) + 1)) (wrap64 (x5_1 + 1))))) = some (r1, r2) := by first | (rw [hy408]; with_reducible exact H) | (have H2_ := (Option.bind_some _ _).symm.trans H; rw [hy408]; with_reducible exact H2_) | (have H2_ := (Option.bind_some _ _).symm.trans H; with_reducible exact H2_) | with_reducible exact H | (rw [hy408]; exact H) | exact H
          have Ny408 := Aside0.mk hy408
          clear hy408
          obtain ⟨y409, hy409⟩ : ∃ y_ : List (S36), y_ = (y408.set (x5_1 : Int).toNat (⟨(⟨(rd_T36 y408 x5_1).f0.f0, wrap64 (x1_1 + 1)⟩ : S31), (rd_T36 y408 x5_1).f1, (rd_T36 y408 x5_1).f2⟩ : S36)) := ⟨_, rfl⟩
          replace H : ((some (y409.set (x5_1 : Int).toNat (⟨(⟨(rd_T36 y409 x5_1).f0.f0, (rd_T36 y409 x5_1).f0.f1⟩ : S31), wrap64 ((wrap64 (x1_1 + 1)) + 1), (rd_T36 y409 x5_1).f2⟩ : S36) : List (S36))).bind fun y410 => (laws_markEntryS.l0 k1 (y410.set (x5_1 : Int).toNat (⟨(⟨(rd_T36 y410 x5_1).f0.f0, (rd_T36 y410 x5_1).f0.f1⟩ : S31), (rd_T36 y410 x5_1).f1, wrap64 ((wrap64 ((wrap64 (x1_1 + 1)) + 1)) + 1)⟩ : S36)) (wrap64 ((wrap64 ((wrap64 ((wrap64 (x1_1 + 1)) + 1)) + 1)) + 1)) (wrap64 (x5_1 + 1)))) = some (r1, r2) := by first | (rw [hy409]; with_reducible exact H) | (have H2_ := (Option.bind_some _ _).symm.trans H; rw [hy409]; with_reducible exact H2_) | (have H2_ := (Option.bind_some _ _).symm.trans H; with_reducible exact H2_) | with_reducible exact H | (rw [hy409]; exact H) | exact H
          have Ny409 := Aside0.mk hy409
          clear hy409
          obtain ⟨y410, hy410⟩ : ∃ y_ : List (S36), y_ = (y409.set (x5_1 : Int).toNat (⟨(⟨(rd_T36 y409 x5_1).f0.f0, (rd_T36 y409 x5_1).f0.f1⟩ : S31), wrap64 ((wrap64 (x1_1 + 1)) + 1), (rd_T36 y409 x5_1).f2⟩ : S36)) := ⟨_, rfl⟩
          replace H : (laws_markEntryS.l0 k1 (y410.set (x5_1 : Int).toNat (⟨(⟨(rd_T36 y410 x5_1).f0.f0, (rd_T36 y410 x5_1).f0.f1⟩ : S31), (rd_T36 y410 x5_1).f1, wrap64 ((wrap64 ((wrap64 (x1_1 + 1)) + 1)) + 1)⟩ : S36)) (wrap64 ((wrap64 ((wrap64 ((wrap64 (x1_1 + 1)) + 1)) + 1)) + 1)) (wrap64 (x5_1 + 1))) = some (r1, r2) := by first | (rw [hy410]; with_reducible exact H) | (have H2_ := (Option.bind_some _ _).symm.trans H; rw [hy410]; with_reducible exact H2_) | (have H2_ := (Option.bind_some _ _).symm.trans H; with_reducible exact H2_) | with_reducible exact H | (rw [hy410]; exact H) | exact H
          have Ny410 := Aside0.mk hy410
          clear hy410
          obtain ⟨y411, hy411⟩ : ∃ y_ : List (S36), y_ = (y410.set (x5_1 : Int).toNat (⟨(⟨(rd_T36 y410 x5_1).f0.f0, (rd_T36 y410 x5_1).f0.f1⟩ : S31), (rd_T36 y410 x5_1).f1, wrap64 ((wrap64 ((wrap64 (x1_1 + 1)) + 1)) + 1)⟩ : S36)) := ⟨_, rfl⟩
          replace H : (laws_markEntryS.l0 k1 y411 (wrap64 ((wrap64 ((wrap64 ((wrap64 (x1_1 + 1)) + 1)) + 1)) + 1)) (wrap64 (x5_1 + 1))) = some (r1, r2) := by first | (rw [hy411]; with_reducible exact H) | (have H2_ := (Option.bind_some _ _).symm.trans H; rw [hy411]; with_reducible exact H2_) | (have H2_ := (Option.bind_some _ _).symm.trans H; with_reducible exact H2_) | with_reducible exact H | (rw [hy411]; exact H) | exact H
          have Ny411 := Aside0.mk hy411
          clear hy411
          have H' := Aside0.mk H
          clear H
          obtain ⟨Ao9, co9, eo9⟩ := Kd.R_slice HO_0.out
          subst eo9
          have p5 : 0 ≤ (x5_1 : Int) := of_decide_eq_true (by first | (with_reducible assumption) | assumption)
          have q5 : (x5_1 : Int) < ((x0_1.length : Int) : Int) := of_decide_eq_true (by first | (with_reducible assumption) | assumption)
          obtain ⟨go5, co5, eo5, gb5, gl5, cl5, HG5⟩ := Kd.R_form HO_0.out (by omega)
          (first | cases eo5 | (injection eo5 with ea_ en_ ec_; (first | subst ea_ | (injection ea_ with ea_; subst ea_)); subst ec_; clear en_))
          have GB5 := Aside0.mk gb5
          have GG5 := Aside0.mk HG5
          clear gb5 gl5 HG5
          have HMgo5 := Aside0.mk (show (P0_ go5 ∨ w.heap.size ≤ go5) from (HO_0.out.1 _ rfl))
          obtain ⟨ce5, hcl5, hM5, hcc5, hfr5⟩ := Kd.R_elem HO_0.out z36 (x5_1 : Int) p5 q5
          obtain rfl := k36_openM hM5
          have hx5_0 : wr.cell? ⟨go5, (x5_1 : Int).toNat * 4, none⟩ = some (.int .i64 ((rd_T36 x0_1 x5_1).f0.f0)) := hcc5 0 _ rfl
          have hx5_1 : wr.cell? ⟨go5, (x5_1 : Int).toNat * 4 + 1, none⟩ = some (.int .i64 ((rd_T36 x0_1 x5_1).f0.f1)) := hcc5 1 _ rfl
          have hx5_2 : wr.cell? ⟨go5, (x5_1 : Int).toNat * 4 + 2, none⟩ = some (.int .i64 ((rd_T36 x0_1 x5_1).f1)) := hcc5 2 _ rfl
          have hx5_3 : wr.cell? ⟨go5, (x5_1 : Int).toNat * 4 + 3, none⟩ = some (.int .i64 ((rd_T36 x0_1 x5_1).f2)) := hcc5 3 _ rfl
          have hf5_0 : wr.frozen? ⟨go5, (x5_1 : Int).toNat * 4, none⟩ = false := hfr5 0
          have hf5_1 : wr.frozen? ⟨go5, (x5_1 : Int).toNat * 4 + 1, none⟩ = false := hfr5 1
          have hf5_2 : wr.frozen? ⟨go5, (x5_1 : Int).toNat * 4 + 2, none⟩ = false := hfr5 2
          have hf5_3 : wr.frozen? ⟨go5, (x5_1 : Int).toNat * 4 + 3, none⟩ = false := hfr5 3
          clear hcl5 hcc5 hfr5 hM5
          replace p5 := eq_true p5
          replace q5 := eq_true q5
          have HX10 := Aside0.mk (show Kd.R k36 36 wr w0.heap.size (fun k_ => (P0_ k_ ∨ w.heap.size ≤ k_)) (.slice (some ⟨go5, 0, none⟩) x0_1.length co9) x0_1 from (oR HO_0))
          obtain ⟨ce10, hcl10, hM10, hcc10, hfr10⟩ := Kd.R_elem HX10.out z36 (x5_1 : Int) (of_decide_eq_true (by first | (with_reducible assumption) | assumption)) (by have h_ : (x5_1 : Int) < ((x0_1.length : Int) : Int) := of_decide_eq_true (by first | (with_reducible assumption) | assumption); first | exact h_ | (have e_ := (Kd.R_reads' HO_0.out).1; omega) | simpa using h_)
          obtain rfl := k36_openM hM10
          have HP10 := Kd.R_seg HX10.out (x5_1 : Int) (of_decide_eq_true (by first | (with_reducible assumption) | assumption)) (by have h_ : (x5_1 : Int) < ((x0_1.length : Int) : Int) := of_decide_eq_true (by first | (with_reducible assumption) | assumption); first | exact h_ | (have e_ := (Kd.R_reads' HO_0.out).1; omega) | simpa using h_) (seg := [.int .i64 x1_1]) (j := 0) hcl10 hcc10 (show 1 ≤ 4 from by decide) (x' := (⟨(⟨x1_1, (rd_T36 x0_1 x5_1).f0.f1⟩ : S31), (rd_T36 x0_1 x5_1).f1, (rd_T36 x0_1 x5_1).f2⟩ : S36)) (k36_mkM _ _ _ (⟨(⟨x1_1, (rd_T36 x0_1 x5_1).f0.f1⟩ : S31), (rd_T36 x0_1 x5_1).f1, (rd_T36 x0_1 x5_1).f2⟩ : S36) ) (fun _ hk => hk)
          have hx10_0 := hcc10 0 _ rfl
          (try simp only [show (k36).sz = 4 from rfl, Nat.mul_one, Nat.add_zero] at hx10_0)
          have hf10_0 := hfr10 0
          (try simp only [show (k36).sz = 4 from rfl, Nat.mul_one, Nat.add_zero] at hf10_0)
          clear hcl10 hcc10 hfr10 hM10
          go_wp2_with (first | ((with_reducible refine gate_store (t := 3) (p := 17) rfl ?_); refine store_event (t := 3) (p := 17) (v := ?vo_w11) (w1 := (wr.setCell ⟨go5, (x5_1 : Int).toNat * 4, none⟩ (.int .i64 x1_1))) ?hg ?ho ?hn ?hr ?_; (case ho => rfl); (case hg => rfl); (case hn => rfl); (case hr => first | (go_simp; done) | (go_simp; rfl)); intro w11 hw; have hg : wr.grownBy w11 (some go5) := (by rw [hw]; exact HP10.2); have hp_ : Kd.R k36 36 w11 w0.heap.size (fun k_ => (P0_ k_ ∨ w.heap.size ≤ k_)) (.slice (some ⟨go5, 0, none⟩) x0_1.length co9) y408 := (by rw [hw, Ny408.out]; exact HP10.1); clear HP10; have n0_ := Aside0.mk (hp_); have n1_ := Aside0.mk ((by rw [hw]; exact below_set (HB.out) GB5.out : Below w0.heap.size w0 w11)); have n2_ := Aside0.mk (Kept.of_grown (S := (fun k_ => P0_ k_)) hg (by repeat (first | (with_reducible first | exact HK.out | apply Kept.alloc | apply Kept.drewN | apply Kept.drew) | exact HK.out)) (fun k_ e_ => (HO_0.out.1 k_ e_))); clear HO_0; clear HB; clear HK; have HO_0 := n0_; have HB := n1_; have HK := n2_; clear n0_ n1_ n2_; clear hg hw hp_; have p6 : 0 ≤ (x5_1 : Int) := of_decide_eq_true (by first | (with_reducible assumption) | assumption); have q6 : (x5_1 : Int) < ((x0_1.length : Int) : Int) := of_decide_eq_true (by first | (with_reducible assumption) | assumption); obtain ⟨ce6, hcl6, hM6, hcc6, hfr6⟩ := Kd.R_elem HO_0.out z36 (x5_1 : Int) p6 q6; obtain rfl := k36_openM hM6; have hx6_0 : w11.cell? ⟨go5, (x5_1 : Int).toNat * 4, none⟩ = some (.int .i64 ((rd_T36 y408 x5_1).f0.f0)) := hcc6 0 _ rfl; have hx6_1 : w11.cell? ⟨go5, (x5_1 : Int).toNat * 4 + 1, none⟩ = some (.int .i64 ((rd_T36 y408 x5_1).f0.f1)) := hcc6 1 _ rfl; have hx6_2 : w11.cell? ⟨go5, (x5_1 : Int).toNat * 4 + 2, none⟩ = some (.int .i64 ((rd_T36 y408 x5_1).f1)) := hcc6 2 _ rfl; have hx6_3 : w11.cell? ⟨go5, (x5_1 : Int).toNat * 4 + 3, none⟩ = some (.int .i64 ((rd_T36 y408 x5_1).f2)) := hcc6 3 _ rfl; have hf6_0 : w11.frozen? ⟨go5, (x5_1 : Int).toNat * 4, none⟩ = false := hfr6 0; have hf6_1 : w11.frozen? ⟨go5, (x5_1 : Int).toNat * 4 + 1, none⟩ = false := hfr6 1; have hf6_2 : w11.frozen? ⟨go5, (x5_1 : Int).toNat * 4 + 2, none⟩ = false := hfr6 2; have hf6_3 : w11.frozen? ⟨go5, (x5_1 : Int).toNat * 4 + 3, none⟩ = false := hfr6 3; clear hcl6 hcc6 hfr6 hM6; replace p6 := eq_true p6; replace q6 := eq_true q6; have HX12 := Aside0.mk (show Kd.R k36 36 w11 w0.heap.size (fun k_ => (P0_ k_ ∨ w.heap.size ≤ k_)) (.slice (some ⟨go5, 0, none⟩) x0_1.length co9) y408 from (oR HO_0)); obtain ⟨ce12, hcl12, hM12, hcc12, hfr12⟩ := Kd.R_elem HX12.out z36 (x5_1 : Int) (of_decide_eq_true (by first | (with_reducible assumption) | assumption)) (by have h_ : (x5_1 : Int) < ((x0_1.length : Int) : Int) := of_decide_eq_true (by first | (with_reducible assumption) | assumption); first | exact h_ | (have e_ := (Kd.R_reads' HO_0.out).1; omega) | simpa using h_); obtain rfl := k36_openM hM12; have HP12 := Kd.R_seg HX12.out (x5_1 : Int) (of_decide_eq_true (by first | (with_reducible assumption) | assumption)) (by have h_ : (x5_1 : Int) < ((x0_1.length : Int) : Int) := of_decide_eq_true (by first | (with_reducible assumption) | assumption); first | exact h_ | (have e_ := (Kd.R_reads' HO_0.out).1; omega) | simpa using h_) (seg := [.int .i64 (wrap64 (x1_1 + 1))]) (j := 1) hcl12 hcc12 (show 2 ≤ 4 from by decide) (x' := (⟨(⟨(rd_T36 y408 x5_1).f0.f0, wrap64 (x1_1 + 1)⟩ : S31), (rd_T36 y408 x5_1).f1, (rd_T36 y408 x5_1).f2⟩ : S36)) (k36_mkM _ _ _ (⟨(⟨(rd_T36 y408 x5_1).f0.f0, wrap64 (x1_1 + 1)⟩ : S31), (rd_T36 y408 x5_1).f1, (rd_T36 y408 x5_1).f2⟩ : S36) ) (fun _ hk => hk); have hx12_1 := hcc12 1 _ rfl; (try simp only [show (k36).sz = 4 from rfl, Nat.mul_one, Nat.add_zero] at hx12_1); have hf12_1 := hfr12 1; (try simp only [show (k36).sz = 4 from rfl, Nat.mul_one, Nat.add_zero] at hf12_1); clear hcl12 hcc12 hfr12 hM12) | ((with_reducible refine gate_store (t := 3) (p := 25) rfl ?_); refine store_event (t := 3) (p := 25) (v := ?vo_w13) (w1 := (w11.setCell ⟨go5, (x5_1 : Int).toNat * 4 + 1, none⟩ (.int .i64 (wrap64 (x1_1 + 1))))) ?hg ?ho ?hn ?hr ?_; (case ho => rfl); (case hg => rfl); (case hn => rfl); (case hr => first | (go_simp; done) | (go_simp; rfl)); intro w13 hw; have hg : w11.grownBy w13 (some go5) := (by rw [hw]; exact HP12.2); have hp_ : Kd.R k36 36 w13 w0.heap.size (fun k_ => (P0_ k_ ∨ w.heap.size ≤ k_)) (.slice (some ⟨go5, 0, none⟩) x0_1.length co9) y409 := (by rw [hw, Ny409.out]; exact HP12.1); clear HP12; have n0_ := Aside0.mk (hp_); have n1_ := Aside0.mk ((by rw [hw]; exact below_set (HB.out) GB5.out : Below w0.heap.size w0 w13)); have n2_ := Aside0.mk (Kept.of_grown (S := (fun k_ => P0_ k_)) hg (by repeat (first | (with_reducible first | exact HK.out | apply Kept.alloc | apply Kept.drewN | apply Kept.drew) | exact HK.out)) (fun k_ e_ => (HO_0.out.1 k_ e_))); clear HO_0; clear HB; clear HK; have HO_0 := n0_; have HB := n1_; have HK := n2_; clear n0_ n1_ n2_; clear hg hw hp_; have p7 : 0 ≤ (x5_1 : Int) := of_decide_eq_true (by first | (with_reducible assumption) | assumption); have q7 : (x5_1 : Int) < ((x0_1.length : Int) : Int) := of_decide_eq_true (by first | (with_reducible assumption) | assumption); obtain ⟨ce7, hcl7, hM7, hcc7, hfr7⟩ := Kd.R_elem HO_0.out z36 (x5_1 : Int) p7 q7; obtain rfl := k36_openM hM7; have hx7_0 : w13.cell? ⟨go5, (x5_1 : Int).toNat * 4, none⟩ = some (.int .i64 ((rd_T36 y409 x5_1).f0.f0)) := hcc7 0 _ rfl; have hx7_1 : w13.cell? ⟨go5, (x5_1 : Int).toNat * 4 + 1, none⟩ = some (.int .i64 ((rd_T36 y409 x5_1).f0.f1)) := hcc7 1 _ rfl; have hx7_2 : w13.cell? ⟨go5, (x5_1 : Int).toNat * 4 + 2, none⟩ = some (.int .i64 ((rd_T36 y409 x5_1).f1)) := hcc7 2 _ rfl; have hx7_3 : w13.cell? ⟨go5, (x5_1 : Int).toNat * 4 + 3, none⟩ = some (.int .i64 ((rd_T36 y409 x5_1).f2)) := hcc7 3 _ rfl; have hf7_0 : w13.frozen? ⟨go5, (x5_1 : Int).toNat * 4, none⟩ = false := hfr7 0; have hf7_1 : w13.frozen? ⟨go5, (x5_1 : Int).toNat * 4 + 1, none⟩ = false := hfr7 1; have hf7_2 : w13.frozen? ⟨go5, (x5_1 : Int).toNat * 4 + 2, none⟩ = false := hfr7 2; have hf7_3 : w13.frozen? ⟨go5, (x5_1 : Int).toNat * 4 + 3, none⟩ = false := hfr7 3; clear hcl7 hcc7 hfr7 hM7; replace p7 := eq_true p7; replace q7 := eq_true q7; have HX14 := Aside0.mk (show Kd.R k36 36 w13 w0.heap.size (fun k_ => (P0_ k_ ∨ w.heap.size ≤ k_)) (.slice (some ⟨go5, 0, none⟩) x0_1.length co9) y409 from (oR HO_0)); obtain ⟨ce14, hcl14, hM14, hcc14, hfr14⟩ := Kd.R_elem HX14.out z36 (x5_1 : Int) (of_decide_eq_true (by first | (with_reducible assumption) | assumption)) (by have h_ : (x5_1 : Int) < ((x0_1.length : Int) : Int) := of_decide_eq_true (by first | (with_reducible assumption) | assumption); first | exact h_ | (have e_ := (Kd.R_reads' HO_0.out).1; omega) | simpa using h_); obtain rfl := k36_openM hM14; have HP14 := Kd.R_seg HX14.out (x5_1 : Int) (of_decide_eq_true (by first | (with_reducible assumption) | assumption)) (by have h_ : (x5_1 : Int) < ((x0_1.length : Int) : Int) := of_decide_eq_true (by first | (with_reducible assumption) | assumption); first | exact h_ | (have e_ := (Kd.R_reads' HO_0.out).1; omega) | simpa using h_) (seg := [.int .i64 (wrap64 ((wrap64 (x1_1 + 1)) + 1))]) (j := 2) hcl14 hcc14 (show 3 ≤ 4 from by decide) (x' := (⟨(⟨(rd_T36 y409 x5_1).f0.f0, (rd_T36 y409 x5_1).f0.f1⟩ : S31), wrap64 ((wrap64 (x1_1 + 1)) + 1), (rd_T36 y409 x5_1).f2⟩ : S36)) (k36_mkM _ _ _ (⟨(⟨(rd_T36 y409 x5_1).f0.f0, (rd_T36 y409 x5_1).f0.f1⟩ : S31), wrap64 ((wrap64 (x1_1 + 1)) + 1), (rd_T36 y409 x5_1).f2⟩ : S36) ) (fun _ hk => hk); have hx14_2 := hcc14 2 _ rfl; (try simp only [show (k36).sz = 4 from rfl, Nat.mul_one, Nat.add_zero] at hx14_2); have hf14_2 := hfr14 2; (try simp only [show (k36).sz = 4 from rfl, Nat.mul_one, Nat.add_zero] at hf14_2); clear hcl14 hcc14 hfr14 hM14) | ((with_reducible refine gate_store (t := 3) (p := 32) rfl ?_); refine store_event (t := 3) (p := 32) (v := ?vo_w15) (w1 := (w13.setCell ⟨go5, (x5_1 : Int).toNat * 4 + 2, none⟩ (.int .i64 (wrap64 ((wrap64 (x1_1 + 1)) + 1))))) ?hg ?ho ?hn ?hr ?_; (case ho => rfl); (case hg => rfl); (case hn => rfl); (case hr => first | (go_simp; done) | (go_simp; rfl)); intro w15 hw; have hg : w13.grownBy w15 (some go5) := (by rw [hw]; exact HP14.2); have hp_ : Kd.R k36 36 w15 w0.heap.size (fun k_ => (P0_ k_ ∨ w.heap.size ≤ k_)) (.slice (some ⟨go5, 0, none⟩) x0_1.length co9) y410 := (by rw [hw, Ny410.out]; exact HP14.1); clear HP14; have n0_ := Aside0.mk (hp_); have n1_ := Aside0.mk ((by rw [hw]; exact below_set (HB.out) GB5.out : Below w0.heap.size w0 w15)); have n2_ := Aside0.mk (Kept.of_grown (S := (fun k_ => P0_ k_)) hg (by repeat (first | (with_reducible first | exact HK.out | apply Kept.alloc | apply Kept.drewN | apply Kept.drew) | exact HK.out)) (fun k_ e_ => (HO_0.out.1 k_ e_))); clear HO_0; clear HB; clear HK; have HO_0 := n0_; have HB := n1_; have HK := n2_; clear n0_ n1_ n2_; clear hg hw hp_; have p8 : 0 ≤ (x5_1 : Int) := of_decide_eq_true (by first | (with_reducible assumption) | assumption); have q8 : (x5_1 : Int) < ((x0_1.length : Int) : Int) := of_decide_eq_true (by first | (with_reducible assumption) | assumption); obtain ⟨ce8, hcl8, hM8, hcc8, hfr8⟩ := Kd.R_elem HO_0.out z36 (x5_1 : Int) p8 q8; obtain rfl := k36_openM hM8; have hx8_0 : w15.cell? ⟨go5, (x5_1 : Int).toNat * 4, none⟩ = some (.int .i64 ((rd_T36 y410 x5_1).f0.f0)) := hcc8 0 _ rfl; have hx8_1 : w15.cell? ⟨go5, (x5_1 : Int).toNat * 4 + 1, none⟩ = some (.int .i64 ((rd_T36 y410 x5_1).f0.f1)) := hcc8 1 _ rfl; have hx8_2 : w15.cell? ⟨go5, (x5_1 : Int).toNat * 4 + 2, none⟩ = some (.int .i64 ((rd_T36 y410 x5_1).f1)) := hcc8 2 _ rfl; have hx8_3 : w15.cell? ⟨go5, (x5_1 : Int).toNat * 4 + 3, none⟩ = some (.int .i64 ((rd_T36 y410 x5_1).f2)) := hcc8 3 _ rfl; have hf8_0 : w15.frozen? ⟨go5, (x5_1 : Int).toNat * 4, none⟩ = false := hfr8 0; have hf8_1 : w15.frozen? ⟨go5, (x5_1 : Int).toNat * 4 + 1, none⟩ = false := hfr8 1; have hf8_2 : w15.frozen? ⟨go5, (x5_1 : Int).toNat * 4 + 2, none⟩ = false := hfr8 2; have hf8_3 : w15.frozen? ⟨go5, (x5_1 : Int).toNat * 4 + 3, none⟩ = false := hfr8 3; clear hcl8 hcc8 hfr8 hM8; replace p8 := eq_true p8; replace q8 := eq_true q8; have HX16 := Aside0.mk (show Kd.R k36 36 w15 w0.heap.size (fun k_ => (P0_ k_ ∨ w.heap.size ≤ k_)) (.slice (some ⟨go5, 0, none⟩) x0_1.length co9) y410 from (oR HO_0)); obtain ⟨ce16, hcl16, hM16, hcc16, hfr16⟩ := Kd.R_elem HX16.out z36 (x5_1 : Int) (of_decide_eq_true (by first | (with_reducible assumption) | assumption)) (by have h_ : (x5_1 : Int) < ((x0_1.length : Int) : Int) := of_decide_eq_true (by first | (with_reducible assumption) | assumption); first | exact h_ | (have e_ := (Kd.R_reads' HO_0.out).1; omega) | simpa using h_); obtain rfl := k36_openM hM16; have HP16 := Kd.R_seg HX16.out (x5_1 : Int) (of_decide_eq_true (by first | (with_reducible assumption) | assumption)) (by have h_ : (x5_1 : Int) < ((x0_1.length : Int) : Int) := of_decide_eq_true (by first | (with_reducible assumption) | assumption); first | exact h_ | (have e_ := (Kd.R_reads' HO_0.out).1; omega) | simpa using h_) (seg := [.int .i64 (wrap64 ((wrap64 ((wrap64 (x1_1 + 1)) + 1)) + 1))]) (j := 3) hcl16 hcc16 (show 4 ≤ 4 from by decide) (x' := (⟨(⟨(rd_T36 y410 x5_1).f0.f0, (rd_T36 y410 x5_1).f0.f1⟩ : S31), (rd_T36 y410 x5_1).f1, wrap64 ((wrap64 ((wrap64 (x1_1 + 1)) + 1)) + 1)⟩ : S36)) (k36_mkM _ _ _ (⟨(⟨(rd_T36 y410 x5_1).f0.f0, (rd_T36 y410 x5_1).f0.f1⟩ : S31), (rd_T36 y410 x5_1).f1, wrap64 ((wrap64 ((wrap64 (x1_1 + 1)) + 1)) + 1)⟩ : S36) ) (fun _ hk => hk); have hx16_3 := hcc16 3 _ rfl; (try simp only [show (k36).sz = 4 from rfl, Nat.mul_one, Nat.add_zero] at hx16_3); have hf16_3 := hfr16 3; (try simp only [show (k36).sz = 4 from rfl, Nat.mul_one, Nat.add_zero] at hf16_3); clear hcl16 hcc16 hfr16 hM16) | ((with_reducible refine gate_store (t := 3) (p := 39) rfl ?_); refine store_event (t := 3) (p := 39) (v := ?vo_w17) (w1 := (w15.setCell ⟨go5, (x5_1 : Int).toNat * 4 + 3, none⟩ (.int .i64 (wrap64 ((wrap64 ((wrap64 (x1_1 + 1)) + 1)) + 1))))) ?hg ?ho ?hn ?hr ?_; (case ho => rfl); (case hg => rfl); (case hn => rfl); (case hr => first | (go_simp; done) | (go_simp; rfl)); intro w17 hw; have hg : w15.grownBy w17 (some go5) := (by rw [hw]; exact HP16.2); have hp_ : Kd.R k36 36 w17 w0.heap.size (fun k_ => (P0_ k_ ∨ w.heap.size ≤ k_)) (.slice (some ⟨go5, 0, none⟩) x0_1.length co9) y411 := (by rw [hw, Ny411.out]; exact HP16.1); clear HP16; have n0_ := Aside0.mk (hp_); have n1_ := Aside0.mk ((by rw [hw]; exact below_set (HB.out) GB5.out : Below w0.heap.size w0 w17)); have n2_ := Aside0.mk (Kept.of_grown (S := (fun k_ => P0_ k_)) hg (by repeat (first | (with_reducible first | exact HK.out | apply Kept.alloc | apply Kept.drewN | apply Kept.drew) | exact HK.out)) (fun k_ e_ => (HO_0.out.1 k_ e_))); clear HO_0; clear HB; clear HK; have HO_0 := n0_; have HB := n1_; have HK := n2_; clear n0_ n1_ n2_; clear hg hw hp_))
          go_roundg k1
          case measure => have := HK1.out; omega
          case rel => exact ⟨(y411), (wrap64 ((wrap64 ((wrap64 ((wrap64 (x1_1 + 1)) + 1)) + 1)) + 1)), (wrap64 (x5_1 + 1)), (by first | rfl | (simp; done) | (simp [*]; done)), (by first | rfl | (simp; done) | (simp [*]; done)), H', ⟨by have := HK1.out; omega⟩, ⟨oR HO_0⟩, ⟨by repeat (first | (with_reducible first | exact HK.out | apply Kept.alloc | apply Kept.drewN | apply Kept.drew) | exact HK.out)⟩, ⟨oB HB⟩⟩
        · rw [if_neg c4] at H
          exact absurd H (by simp)
      · rw [if_neg c3] at H
        have c3b0 : decide (x5_1 < (x0_1.length : Int)) = false := decide_eq_false c3
        clear c3
        simp only [Option.some.injEq, Prod.mk.injEq] at H
        obtain ⟨rfl, rfl⟩ := H
        obtain ⟨Ao18, co18, eo18⟩ := Kd.R_slice HO_0.out
        subst eo18
        go_wp2
        go_ret
        exact ⟨by first | rfl | (simp [errW_none, errW_some] <;> rfl) | (simp [*, errW_none, errW_some] <;> rfl), oR HO_0, oB HB, by repeat (first | (with_reducible first | exact HK.out | apply Kept.alloc | apply Kept.drewN | apply Kept.drew) | exact HK.out)⟩
end Go.Proofs.Ytnknnbpodpfljaa.P


namespace Go.Proofs.Ytnknnbpodpfljaa.P
open Go.RowKit Go.Proofs.YtnknnbpodpfljaaW.PrintWords Go.Proofs.YtnknnbpodpfljaaW.PrintLast Go.Proofs.YtnknnbpodpfljaaW.PrintMore
attribute [local go_sem] max2_int min2_int max_two min_two max_three min_three max_four min_four
set_option linter.unusedVariables false
set_option linter.unusedSimpArgs false
def laws_heldEntryS.l0 : Nat → List (S36) → Int → Int → Option (Int)
  | 0, _, _, _ => none
  | k + 1, x0, x1, x5 => if x5 < (x0.length : Int) then (if 0 ≤ x5 then (if ((rd_T36 x0 x5).f0.f0) = x1 then (if ((rd_T36 x0 x5).f0.f1) = (wrap64 (x1 + 1)) then (if ((rd_T36 x0 x5).f1) = (wrap64 ((wrap64 (x1 + 1)) + 1)) then (if ((rd_T36 x0 x5).f2) = (wrap64 ((wrap64 ((wrap64 (x1 + 1)) + 1)) + 1)) then (laws_heldEntryS.l0 k x0 (wrap64 ((wrap64 ((wrap64 ((wrap64 (x1 + 1)) + 1)) + 1)) + 1)) (wrap64 (x5 + 1))) else (some (-1))) else (some (-1))) else (some (-1))) else (some (-1))) else (none)) else (some x1)
def laws_heldEntryS.f (k : Nat) (l0 : List (S36)) (a1 : Int) : Option (Int) := laws_heldEntryS.l0 k l0 a1 0
set_option maxHeartbeats 8000000 in
set_option maxRecDepth 100000 in
theorem laws_heldEntryS.calls (k : Nat) (A0 : Option Addr) (c0 : Nat) (l0 : List (S36)) (a1 : Int) (r : Int) (w : World) (hr0 : Kd.C k36 w A0 l0.length l0) (hc0 : l0.length ≤ c0) (h : laws_heldEntryS.f k l0 a1 = some r) :
    Calls Try.prog 31 #[.slice A0 l0.length c0, .int .i64 a1] w fun e w' => e = .returned (.int .i64 r) ∧ Drawn0 w w' := by
  have HR0 := Aside0.mk hr0
  have HC0 := Aside0.mk hc0
  clear hr0 hc0
  have H : (laws_heldEntryS.l0 k l0 a1 0) = some r := h
  clear h
  have H' := Aside0.mk H
  clear H
  go_enter Try.func31, Try.ntmps31
  go_wp2
  go_loopg [1, 5] k (fun kq v1 v5 w' => ∃ (x1_1 : Int) (x5_1 : Int), v1 = .int .i64 x1_1 ∧ v5 = .int .i64 x5_1 ∧ Aside0 (laws_heldEntryS.l0 kq l0 x1_1 x5_1 = some r) ∧ Aside0 (kq ≤ k) ∧ Drawn0 w w')
  case atStart => exact ⟨(a1), (0), (by first | rfl | (simp; done) | (simp [*]; done)), (by first | rfl | (simp; done) | (simp [*]; done)), H', ⟨Nat.le_refl _⟩, by repeat (first | exact Drawn0.refl _ | apply Drawn0.step)⟩
  case round =>
    clear H'
    try clear p2
    obtain ⟨x1_1, x5_1, rfl, rfl, HA, HK1, ⟨m1, rfl⟩⟩ := hrel
    cases gk with
    | zero => exact absurd HA.out (by simp [laws_heldEntryS.l0])
    | succ k1 =>
      have H := HA.out
      clear HA
      simp only [laws_heldEntryS.l0] at H
      by_cases c3 : x5_1 < (l0.length : Int)
      · rw [if_pos c3] at H
        have c3b0 : decide (x5_1 < (l0.length : Int)) = true := decide_eq_true c3
        clear c3
        by_cases c4 : 0 ≤ x5_1
        · rw [if_pos c4] at H
          have c4b0 : decide (0 ≤ x5_1) = true := decide_eq_true c4
          clear c4
          by_cases c5 : ((rd_T36 l0 x5_1).f0.f0) = x1_1
          · rw [if_pos c5] at H
            have c5b0 : (((rd_T36 l0 x5_1).f0.f0) == x1_1) = true := beq_iff_eq.mpr c5
            have c5b1 : (((rd_T36 l0 x5_1).f0.f0) != x1_1) = false := bne_eq_false_iff_eq.mpr c5
            clear c5
            by_cases c6 : ((rd_T36 l0 x5_1).f0.f1) = (wrap64 (x1_1 + 1))
            · rw [if_pos c6] at H
              have c6b0 : (((rd_T36 l0 x5_1).f0.f1) == (wrap64 (x1_1 + 1))) = true := beq_iff_eq.mpr c6
              have c6b1 : (((rd_T36 l0 x5_1).f0.f1) != (wrap64 (x1_1 + 1))) = false := bne_eq_false_iff_eq.mpr c6
              clear c6
              by_cases c7 : ((rd_T36 l0 x5_1).f1) = (wrap64 ((wrap64 (x1_1 + 1)) + 1))
              · rw [if_pos c7] at H
                have c7b0 : (((rd_T36 l0 x5_1).f1) == (wrap64 ((wrap64 (x1_1 + 1)) + 1))) = true := beq_iff_eq.mpr c7
                have c7b1 : (((rd_T36 l0 x5_1).f1) != (wrap64 ((wrap64 (x1_1 + 1)) + 1))) = false := bne_eq_false_iff_eq.mpr c7
                clear c7
                by_cases c8 : ((rd_T36 l0 x5_1).f2) = (wrap64 ((wrap64 ((wrap64 (x1_1 + 1)) + 1)) + 1))
                · rw [if_pos c8] at H
                  have c8b0 : (((rd_T36 l0 x5_1).f2) == (wrap64 ((wrap64 ((wrap64 (x1_1 + 1)) + 1)) + 1))) = true := beq_iff_eq.mpr c8
                  have c8b1 : (((rd_T36 l0 x5_1).f2) != (wrap64 ((wrap64 ((wrap64 (x1_1 + 1)) + 1)) + 1))) = false := bne_eq_false_iff_eq.mpr c8
                  clear c8
                  have H' := Aside0.mk H
                  clear H
                  have p412 : 0 ≤ (x5_1 : Int) := of_decide_eq_true (by first | (with_reducible assumption) | assumption)
                  have q412 : x5_1 < (l0.length : Int) := of_decide_eq_true (by first | (with_reducible assumption) | assumption)
                  obtain ⟨ad412, e412, hx412_0, hx412_1, hx412_2, hx412_3⟩ := at_T36 HR0.out x5_1 p412 q412
                  cases e412
                  replace p412 := eq_true p412
                  replace q412 := eq_true q412
                  have p413 : 0 ≤ (x5_1 : Int) := of_decide_eq_true (by first | (with_reducible assumption) | assumption)
                  have q413 : x5_1 < (l0.length : Int) := of_decide_eq_true (by first | (with_reducible assumption) | assumption)
                  obtain ⟨ad413, e413, hx413_0, hx413_1, hx413_2, hx413_3⟩ := at_T36 HR0.out x5_1 p413 q413
                  obtain rfl : ad412 = ad413 := (by injection e413)
                  replace p413 := eq_true p413
                  replace q413 := eq_true q413
                  have p414 : 0 ≤ (x5_1 : Int) := of_decide_eq_true (by first | (with_reducible assumption) | assumption)
                  have q414 : x5_1 < (l0.length : Int) := of_decide_eq_true (by first | (with_reducible assumption) | assumption)
                  obtain ⟨ad414, e414, hx414_0, hx414_1, hx414_2, hx414_3⟩ := at_T36 HR0.out x5_1 p414 q414
                  obtain rfl : ad412 = ad414 := (by injection e414)
                  replace p414 := eq_true p414
                  replace q414 := eq_true q414
                  have p415 : 0 ≤ (x5_1 : Int) := of_decide_eq_true (by first | (with_reducible assumption) | assumption)
                  have q415 : x5_1 < (l0.length : Int) := of_decide_eq_true (by first | (with_reducible assumption) | assumption)
                  obtain ⟨ad415, e415, hx415_0, hx415_1, hx415_2, hx415_3⟩ := at_T36 HR0.out x5_1 p415 q415
                  obtain rfl : ad412 = ad415 := (by injection e415)
                  replace p415 := eq_true p415
                  replace q415 := eq_true q415
                  go_wp2
                  go_roundg k1
                  case measure => have := HK1.out; omega
                  case rel => exact ⟨(wrap64 ((wrap64 ((wrap64 ((wrap64 (x1_1 + 1)) + 1)) + 1)) + 1)), (wrap64 (x5_1 + 1)), (by first | rfl | (simp; done) | (simp [*]; done)), (by first | rfl | (simp; done) | (simp [*]; done)), H', ⟨by have := HK1.out; omega⟩, by repeat (first | exact Drawn0.refl _ | apply Drawn0.step)⟩
                · rw [if_neg c8] at H
                  have c8b0 : (((rd_T36 l0 x5_1).f2) == (wrap64 ((wrap64 ((wrap64 (x1_1 + 1)) + 1)) + 1))) = false := beq_eq_false_iff_ne.mpr c8
                  have c8b1 : (((rd_T36 l0 x5_1).f2) != (wrap64 ((wrap64 ((wrap64 (x1_1 + 1)) + 1)) + 1))) = true := bne_iff_ne.mpr c8
                  obtain rfl := Option.some.inj H
                  have p412 : 0 ≤ (x5_1 : Int) := of_decide_eq_true (by first | (with_reducible assumption) | assumption)
                  have q412 : x5_1 < (l0.length : Int) := of_decide_eq_true (by first | (with_reducible assumption) | assumption)
                  obtain ⟨ad412, e412, hx412_0, hx412_1, hx412_2, hx412_3⟩ := at_T36 HR0.out x5_1 p412 q412
                  cases e412
                  replace p412 := eq_true p412
                  replace q412 := eq_true q412
                  have p413 : 0 ≤ (x5_1 : Int) := of_decide_eq_true (by first | (with_reducible assumption) | assumption)
                  have q413 : x5_1 < (l0.length : Int) := of_decide_eq_true (by first | (with_reducible assumption) | assumption)
                  obtain ⟨ad413, e413, hx413_0, hx413_1, hx413_2, hx413_3⟩ := at_T36 HR0.out x5_1 p413 q413
                  obtain rfl : ad412 = ad413 := (by injection e413)
                  replace p413 := eq_true p413
                  replace q413 := eq_true q413
                  have p414 : 0 ≤ (x5_1 : Int) := of_decide_eq_true (by first | (with_reducible assumption) | assumption)
                  have q414 : x5_1 < (l0.length : Int) := of_decide_eq_true (by first | (with_reducible assumption) | assumption)
                  obtain ⟨ad414, e414, hx414_0, hx414_1, hx414_2, hx414_3⟩ := at_T36 HR0.out x5_1 p414 q414
                  obtain rfl : ad412 = ad414 := (by injection e414)
                  replace p414 := eq_true p414
                  replace q414 := eq_true q414
                  have p415 : 0 ≤ (x5_1 : Int) := of_decide_eq_true (by first | (with_reducible assumption) | assumption)
                  have q415 : x5_1 < (l0.length : Int) := of_decide_eq_true (by first | (with_reducible assumption) | assumption)
                  obtain ⟨ad415, e415, hx415_0, hx415_1, hx415_2, hx415_3⟩ := at_T36 HR0.out x5_1 p415 q415
                  obtain rfl : ad412 = ad415 := (by injection e415)
                  replace p415 := eq_true p415
                  replace q415 := eq_true q415
                  go_wp2
                  go_ret
                  exact ⟨by first | rfl | (simp; done) | (simp [*]; done), by repeat (first | exact Drawn0.refl _ | apply Drawn0.step)⟩
              · rw [if_neg c7] at H
                have c7b0 : (((rd_T36 l0 x5_1).f1) == (wrap64 ((wrap64 (x1_1 + 1)) + 1))) = false := beq_eq_false_iff_ne.mpr c7
                have c7b1 : (((rd_T36 l0 x5_1).f1) != (wrap64 ((wrap64 (x1_1 + 1)) + 1))) = true := bne_iff_ne.mpr c7
                obtain rfl := Option.some.inj H
                have p412 : 0 ≤ (x5_1 : Int) := of_decide_eq_true (by first | (with_reducible assumption) | assumption)
                have q412 : x5_1 < (l0.length : Int) := of_decide_eq_true (by first | (with_reducible assumption) | assumption)
                obtain ⟨ad412, e412, hx412_0, hx412_1, hx412_2, hx412_3⟩ := at_T36 HR0.out x5_1 p412 q412
                cases e412
                replace p412 := eq_true p412
                replace q412 := eq_true q412
                have p413 : 0 ≤ (x5_1 : Int) := of_decide_eq_true (by first | (with_reducible assumption) | assumption)
                have q413 : x5_1 < (l0.length : Int) := of_decide_eq_true (by first | (with_reducible assumption) | assumption)
                obtain ⟨ad413, e413, hx413_0, hx413_1, hx413_2, hx413_3⟩ := at_T36 HR0.out x5_1 p413 q413
                obtain rfl : ad412 = ad413 := (by injection e413)
                replace p413 := eq_true p413
                replace q413 := eq_true q413
                have p414 : 0 ≤ (x5_1 : Int) := of_decide_eq_true (by first | (with_reducible assumption) | assumption)
                have q414 : x5_1 < (l0.length : Int) := of_decide_eq_true (by first | (with_reducible assumption) | assumption)
                obtain ⟨ad414, e414, hx414_0, hx414_1, hx414_2, hx414_3⟩ := at_T36 HR0.out x5_1 p414 q414
                obtain rfl : ad412 = ad414 := (by injection e414)
                replace p414 := eq_true p414
                replace q414 := eq_true q414
                go_wp2
                go_ret
                exact ⟨by first | rfl | (simp; done) | (simp [*]; done), by repeat (first | exact Drawn0.refl _ | apply Drawn0.step)⟩
            · rw [if_neg c6] at H
              have c6b0 : (((rd_T36 l0 x5_1).f0.f1) == (wrap64 (x1_1 + 1))) = false := beq_eq_false_iff_ne.mpr c6
              have c6b1 : (((rd_T36 l0 x5_1).f0.f1) != (wrap64 (x1_1 + 1))) = true := bne_iff_ne.mpr c6
              obtain rfl := Option.some.inj H
              have p412 : 0 ≤ (x5_1 : Int) := of_decide_eq_true (by first | (with_reducible assumption) | assumption)
              have q412 : x5_1 < (l0.length : Int) := of_decide_eq_true (by first | (with_reducible assumption) | assumption)
              obtain ⟨ad412, e412, hx412_0, hx412_1, hx412_2, hx412_3⟩ := at_T36 HR0.out x5_1 p412 q412
              cases e412
              replace p412 := eq_true p412
              replace q412 := eq_true q412
              have p413 : 0 ≤ (x5_1 : Int) := of_decide_eq_true (by first | (with_reducible assumption) | assumption)
              have q413 : x5_1 < (l0.length : Int) := of_decide_eq_true (by first | (with_reducible assumption) | assumption)
              obtain ⟨ad413, e413, hx413_0, hx413_1, hx413_2, hx413_3⟩ := at_T36 HR0.out x5_1 p413 q413
              obtain rfl : ad412 = ad413 := (by injection e413)
              replace p413 := eq_true p413
              replace q413 := eq_true q413
              go_wp2
              go_ret
              exact ⟨by first | rfl | (simp; done) | (simp [*]; done), by repeat (first | exact Drawn0.refl _ | apply Drawn0.step)⟩
          · rw [if_neg c5] at H
            have c5b0 : (((rd_T36 l0 x5_1).f0.f0) == x1_1) = false := beq_eq_false_iff_ne.mpr c5
            have c5b1 : (((rd_T36 l0 x5_1).f0.f0) != x1_1) = true := bne_iff_ne.mpr c5
            obtain rfl := Option.some.inj H
            have p412 : 0 ≤ (x5_1 : Int) := of_decide_eq_true (by first | (with_reducible assumption) | assumption)
            have q412 : x5_1 < (l0.length : Int) := of_decide_eq_true (by first | (with_reducible assumption) | assumption)
            obtain ⟨ad412, e412, hx412_0, hx412_1, hx412_2, hx412_3⟩ := at_T36 HR0.out x5_1 p412 q412
            cases e412
            replace p412 := eq_true p412
            replace q412 := eq_true q412
            go_wp2
            go_ret
            exact ⟨by first | rfl | (simp; done) | (simp [*]; done), by repeat (first | exact Drawn0.refl _ | apply Drawn0.step)⟩
        · rw [if_neg c4] at H
          exact absurd H (by simp)
      · rw [if_neg c3] at H
        have c3b0 : decide (x5_1 < (l0.length : Int)) = false := decide_eq_false c3
        clear c3
        obtain rfl := Option.some.inj H
        go_wp2
        go_ret
        exact ⟨by first | rfl | (simp; done) | (simp [*]; done), by repeat (first | exact Drawn0.refl _ | apply Drawn0.step)⟩
end Go.Proofs.Ytnknnbpodpfljaa.P


namespace Go.Proofs.Ytnknnbpodpfljaa.P
open Go.RowKit Go.Proofs.YtnknnbpodpfljaaW.PrintWords Go.Proofs.YtnknnbpodpfljaaW.PrintLast Go.Proofs.YtnknnbpodpfljaaW.PrintMore
attribute [local go_sem] max2_int min2_int max_two min_two max_three min_three max_four min_four
set_option linter.unusedVariables false
set_option linter.unusedSimpArgs false
def laws_FnExactOpenFaults.j0 : Nat → List (S66) → List (S36) → List (S36) → Bool → Option (Bool)
  | 0, _, _, _, _ => none
  | k + 1, x0, x4, x6, x42 => if x42 = true then (some false) else ((laws_markEntryS.f k x6 1).bind fun bt437 => ((laws_heldEntryS.f k bt437.2 1).bind fun t439 => (if t439 < 0 then (some false) else (if t439 = bt437.1 then ((laws_toEntryS.f k x0).bind fun t440 => ((impl_OpenFaults.f t440).bind fun t443 => ((laws_eqEntryS.f k t443 x4).bind fun t446 => (if t446 = true then ((laws_heldEntryS.f k bt437.2 1).bind fun t447 => (if t447 < 0 then (some false) else (if t447 = bt437.1 then (some true) else (some false)))) else (some false))))) else (some false)))))
def laws_FnExactOpenFaults.f (k : Nat) (l0 : List (S66)) : Option (Bool) := (laws_szEntryS.f l0 1048576).bind fun t416 => (if t416 < 0 then (some true) else ((laws_toEntryS.f k l0).bind fun t417 => ((spec_OpenFaults.f k t417).bind fun t420 => ((laws_toEntryS.f k l0).bind fun t423 => ((impl_OpenFaults.f t423).bind fun t426 => ((laws_eqEntryS.f k t426 t420).bind fun t429 => (if t429 = true then ((laws_toEntryS.f k l0).bind fun t430 => ((laws_eqEntryS.f k t423 t430).bind fun t433 => (if t433 = true then ((laws_markEntryS.f k t423 1).bind fun bt434 => (if bt434.1 < 0 then (laws_FnExactOpenFaults.j0 k l0 t420 t426 true) else ((laws_eqEntryS.f k t426 t420).bind fun t436 => (laws_FnExactOpenFaults.j0 k l0 t420 t426 (!t436))))) else (some false)))) else (some false))))))))
set_option maxHeartbeats 8000000 in
set_option maxRecDepth 100000 in
theorem laws_FnExactOpenFaults.calls (k : Nat) (A0 : Option Addr) (c0 : Nat) (l0 : List (S66)) (r : Bool) (w : World) (hr0 : Kd.C k66 w A0 l0.length l0) (hc0 : l0.length ≤ c0) (h : laws_FnExactOpenFaults.f k l0 = some r) (hrt_ : Aside0 (r = true)) :
    Calls Try.prog 7 #[.slice A0 l0.length c0] w fun e w' => e = .returned (.bool r) ∧ Below w.heap.size w w' := by
  have HR0 := Aside0.mk hr0
  have HC0 := Aside0.mk hc0
  clear hr0 hc0
  have HB := Aside0.mk (Below.refl w.heap.size w)
  have H : ((laws_szEntryS.f l0 1048576).bind fun t416 => (if t416 < 0 then (some true) else ((laws_toEntryS.f k l0).bind fun t417 => ((spec_OpenFaults.f k t417).bind fun t420 => ((laws_toEntryS.f k l0).bind fun t423 => ((impl_OpenFaults.f t423).bind fun t426 => ((laws_eqEntryS.f k t426 t420).bind fun t429 => (if t429 = true then ((laws_toEntryS.f k l0).bind fun t430 => ((laws_eqEntryS.f k t423 t430).bind fun t433 => (if t433 = true then ((laws_markEntryS.f k t423 1).bind fun bt434 => (if bt434.1 < 0 then (laws_FnExactOpenFaults.j0 k l0 t420 t426 true) else ((laws_eqEntryS.f k t426 t420).bind fun t436 => (laws_FnExactOpenFaults.j0 k l0 t420 t426 (!t436))))) else (some false)))) else (some false))))))))) = some r := h
  clear h
  replace H := Option.bind_eq_some_iff.mp H
  obtain ⟨t416, A20, H⟩ := H
  (try dsimp only at H)
  have A2 := Aside0.mk A20
  clear A20
  by_cases c3 : t416 < 0
  · rw [if_pos c3] at H
    have c3b0 : decide (t416 < 0) = true := decide_eq_true c3
    clear c3
    obtain rfl := Option.some.inj H
    go_enter Try.func7, Try.ntmps7
    go_wp2_with (first | ((with_reducible refine gate_callee (f := 19) rfl ?_); refine goesL_ (some 13) rfl rfl Try.func19 (by kernel_rfl) rfl #[.slice A0 l0.length c0, .int .i64 1048576] rfl (by (try simp only [List.map_toArray, List.map_cons, List.map_nil]); first | done | rfl | (simp only [List.length_drop, List.length_take]; rfl)) ?_; (with_reducible refine (laws_szEntryS.calls _ _ l0 1048576 t416 _ ?side1 ?side2 A2.out).mono ?_); (case side1 => repeat (first | exact HR0.out | (with_reducible refine Kd.C_alloc ?_ _) | (with_reducible refine Kd.C_drewN ?_ _) | (with_reducible refine Kd.C_drew ?_))); (case side2 => exact HC0.out); rintro e w' ⟨rfl, ⟨nd, rfl⟩⟩; refine ⟨_, rfl, ?_⟩))
    go_ret
    exact ⟨by first | rfl | (simp [errW_none, errW_some] <;> rfl) | (simp [*, errW_none, errW_some] <;> rfl), oB HB⟩
  · rw [if_neg c3] at H
    have c3b0 : decide (t416 < 0) = false := decide_eq_false c3
    clear c3
    replace H := Option.bind_eq_some_iff.mp H
    obtain ⟨t417, A40, H⟩ := H
    (try dsimp only at H)
    have A4 := Aside0.mk A40
    clear A40
    replace H := Option.bind_eq_some_iff.mp H
    obtain ⟨t420, A50, H⟩ := H
    (try dsimp only at H)
    have A5 := Aside0.mk A50
    clear A50
    replace H := Option.bind_eq_some_iff.mp H
    obtain ⟨t423, A60, H⟩ := H
    (try dsimp only at H)
    have A6 := Aside0.mk A60
    clear A60
    replace H := Option.bind_eq_some_iff.mp H
    obtain ⟨t426, A70, H⟩ := H
    (try dsimp only at H)
    have A7 := Aside0.mk A70
    clear A70
    replace H := Option.bind_eq_some_iff.mp H
    obtain ⟨t429, A80, H⟩ := H
    (try dsimp only at H)
    have A8 := Aside0.mk A80
    clear A80
    by_cases c9 : t429 = true
    · subst c9
      rw [if_pos rfl] at H
      replace H := Option.bind_eq_some_iff.mp H
      obtain ⟨t430, A100, H⟩ := H
      (try dsimp only at H)
      have A10 := Aside0.mk A100
      clear A100
      replace H := Option.bind_eq_some_iff.mp H
      obtain ⟨t433, A110, H⟩ := H
      (try dsimp only at H)
      have A11 := Aside0.mk A110
      clear A110
      by_cases c12 : t433 = true
      · subst c12
        rw [if_pos rfl] at H
        replace H := Option.bind_eq_some_iff.mp H
        obtain ⟨⟨t434, t435⟩, A130, H⟩ := H
        (try dsimp only at H)
        have A13 := Aside0.mk A130
        clear A130
        have HC14 := Aside0.mk H
        clear H
        go_enter Try.func7, Try.ntmps7
        go_upto_region 14 with (first | ((with_reducible refine gate_callee (f := 19) rfl ?_); refine goesL_ (some 13) rfl rfl Try.func19 (by kernel_rfl) rfl #[.slice A0 l0.length c0, .int .i64 1048576] rfl (by (try simp only [List.map_toArray, List.map_cons, List.map_nil]); first | done | rfl | (simp only [List.length_drop, List.length_take]; rfl)) ?_; (with_reducible refine (laws_szEntryS.calls _ _ l0 1048576 t416 _ ?side1 ?side2 A2.out).mono ?_); (case side1 => repeat (first | exact HR0.out | (with_reducible refine Kd.C_alloc ?_ _) | (with_reducible refine Kd.C_drewN ?_ _) | (with_reducible refine Kd.C_drew ?_))); (case side2 => exact HC0.out); rintro e w' ⟨rfl, ⟨nd, rfl⟩⟩; refine ⟨_, rfl, ?_⟩) | ((with_reducible refine gate_callee (f := 21) rfl ?_); refine goesL_ (some 17) rfl rfl Try.func21 (by kernel_rfl) rfl #[.slice A0 l0.length c0] rfl (by (try simp only [List.map_toArray, List.map_cons, List.map_nil]); first | done | rfl | (simp only [List.length_drop, List.length_take]; rfl)) ?_; (with_reducible refine (laws_toEntryS.calls k _ _ l0 t417 _ ?side1 ?side2 A4.out).mono ?_); (case side1 => repeat (first | exact HR0.out | (with_reducible refine Kd.C_alloc ?_ _) | (with_reducible refine Kd.C_drewN ?_ _) | (with_reducible refine Kd.C_drew ?_))); (case side2 => exact HC0.out); rintro e w15 ⟨v418, rfl, ho0, hb⟩; refine ⟨_, rfl, ?_⟩; have n0_ := Aside0.mk (Kd.R_lower ho0 (below_size (oB HB))); have n1_ := Aside0.mk (below_step (oB HB) hb); clear HB; have HO419 := n0_; have HB := n1_; clear n0_ n1_; (try clear hb); (try clear hb2); (try clear hk); (try clear hi); (try clear ho0); obtain ⟨Ao16, co16, eo16⟩ := Kd.R_slice HO419.out; subst eo16) | ((with_reducible refine gate_callee (f := 29) rfl ?_); refine goesL_ (some 18) rfl rfl Try.func29 (by kernel_rfl) rfl #[.slice Ao16 t417.length co16] rfl (by (try simp only [List.map_toArray, List.map_cons, List.map_nil]); first | done | rfl | (simp only [List.length_drop, List.length_take]; rfl)) ?_; (with_reducible refine (spec_OpenFaults.calls k _ _ t417 t420 _ ?side1 ?side2 A5.out).mono ?_); (case side1 => repeat (first | exact (Kd.R_reads' HO419.out).2.2 | (with_reducible refine Kd.C_alloc ?_ _) | (with_reducible refine Kd.C_drewN ?_ _) | (with_reducible refine Kd.C_drew ?_))); (case side2 => exact (Kd.R_reads' HO419.out).2.1); rintro e w17 ⟨v421, rfl, ho0, hb⟩; refine ⟨_, rfl, ?_⟩; have n0_ := Aside0.mk (Kd.R_elder' (oR HO419) (Kd.R_base ho0) hb); have n1_ := Aside0.mk (Kd.R_lower (Kd.R_new' ho0 (Kd.R_lt (oR HO419))) (below_size (oB HB))); have n2_ := Aside0.mk (below_step (oB HB) hb); clear HO419; clear HB; have HO419 := n0_; have HO422 := n1_; have HB := n2_; clear n0_ n1_ n2_; (try clear hb); (try clear hb2); (try clear hk); (try clear hi); (try clear ho0)) | ((with_reducible refine gate_callee (f := 21) rfl ?_); refine goesL_ (some 20) rfl rfl Try.func21 (by kernel_rfl) rfl #[.slice A0 l0.length c0] rfl (by (try simp only [List.map_toArray, List.map_cons, List.map_nil]); first | done | rfl | (simp only [List.length_drop, List.length_take]; rfl)) ?_; (with_reducible refine (laws_toEntryS.calls k _ _ l0 t423 _ ?side1 ?side2 A6.out).mono ?_); (case side1 => exact oc_ HR0.out); (case side2 => exact HC0.out); rintro e w18 ⟨v424, rfl, ho0, hb⟩; refine ⟨_, rfl, ?_⟩; have n0_ := Aside0.mk (Kd.R_elder' (oR HO419) (Kd.R_base ho0) hb); have n1_ := Aside0.mk (Kd.R_elder' (oR HO422) (Kd.R_base ho0) hb); have n2_ := Aside0.mk (Kd.R_lower (Kd.R_new' (Kd.R_new' ho0 (Kd.R_lt (oR HO419))) (Kd.R_lt (oR HO422))) (below_size (oB HB))); have n3_ := Aside0.mk (below_step (oB HB) hb); clear HO419; clear HO422; clear HB; have HO419 := n0_; have HO422 := n1_; have HO425 := n2_; have HB := n3_; clear n0_ n1_ n2_ n3_; (try clear hb); (try clear hb2); (try clear hk); (try clear hi); (try clear ho0); obtain ⟨Ao19, co19, eo19⟩ := Kd.R_slice HO425.out; subst eo19) | ((with_reducible refine gate_callee (f := 27) rfl ?_); refine goesL_ (some 22) rfl rfl Try.func27 (by kernel_rfl) rfl #[.slice Ao19 t423.length co19] rfl (by (try simp only [List.map_toArray, List.map_cons, List.map_nil]); first | done | rfl | (simp only [List.length_drop, List.length_take]; rfl)) ?_; (with_reducible refine (impl_OpenFaults.calls _ _ t423 t426 _ ?side1 ?side2 A7.out).mono ?_); (case side1 => repeat (first | exact (Kd.R_reads' HO425.out).2.2 | (with_reducible refine Kd.C_alloc ?_ _) | (with_reducible refine Kd.C_drewN ?_ _) | (with_reducible refine Kd.C_drew ?_))); (case side2 => exact (Kd.R_reads' HO425.out).2.1); rintro e w20 ⟨v427, rfl, ho0, hb⟩; refine ⟨_, rfl, ?_⟩; have n0_ := Aside0.mk (Kd.R_elder' (oR HO419) (Kd.R_base ho0) hb); have n1_ := Aside0.mk (Kd.R_elder' (oR HO422) (Kd.R_base ho0) hb); have n2_ := Aside0.mk (Kd.R_elder' (oR HO425) (Kd.R_base ho0) hb); have n3_ := Aside0.mk (Kd.R_lower (Kd.R_new' (Kd.R_new' (Kd.R_new' ho0 (Kd.R_lt (oR HO419))) (Kd.R_lt (oR HO422))) (Kd.R_lt (oR HO425))) (below_size (oB HB))); have n4_ := Aside0.mk (below_step (oB HB) hb); clear HO419; clear HO422; clear HO425; clear HB; have HO419 := n0_; have HO422 := n1_; have HO425 := n2_; have HO428 := n3_; have HB := n4_; clear n0_ n1_ n2_ n3_ n4_; (try clear hb); (try clear hb2); (try clear hk); (try clear hi); (try clear ho0); obtain ⟨Ao21, co21, eo21⟩ := Kd.R_slice HO428.out; subst eo21; obtain ⟨Ao22, co22, eo22⟩ := Kd.R_slice HO422.out; subst eo22) | ((with_reducible refine gate_callee (f := 23) rfl ?_); refine goesL_ (some 25) rfl rfl Try.func23 (by kernel_rfl) rfl #[.slice Ao21 t426.length co21, .slice Ao22 t420.length co22] rfl (by (try simp only [List.map_toArray, List.map_cons, List.map_nil]); first | done | rfl | (simp only [List.length_drop, List.length_take]; rfl)) ?_; (with_reducible refine (laws_eqEntryS.calls k _ _ t426 _ _ t420 true _ ?side1 ?side2 ?side3 ?side4 A8.out).mono ?_); (case side1 => repeat (first | exact (Kd.R_reads' HO428.out).2.2 | (with_reducible refine Kd.C_alloc ?_ _) | (with_reducible refine Kd.C_drewN ?_ _) | (with_reducible refine Kd.C_drew ?_))); (case side2 => exact (Kd.R_reads' HO428.out).2.1); (case side3 => repeat (first | exact (Kd.R_reads' HO422.out).2.2 | (with_reducible refine Kd.C_alloc ?_ _) | (with_reducible refine Kd.C_drewN ?_ _) | (with_reducible refine Kd.C_drew ?_))); (case side4 => exact (Kd.R_reads' HO422.out).2.1); rintro e w23 ⟨rfl, hb⟩; refine ⟨_, rfl, ?_⟩; have n0_ := Aside0.mk (Kd.R_below (oR HO419) hb); have n1_ := Aside0.mk (Kd.R_below (oR HO422) hb); have n2_ := Aside0.mk (Kd.R_below (oR HO425) hb); have n3_ := Aside0.mk (Kd.R_below (oR HO428) hb); have n4_ := Aside0.mk (below_step (oB HB) hb); clear HO419; clear HO422; clear HO425; clear HO428; clear HB; have HO419 := n0_; have HO422 := n1_; have HO425 := n2_; have HO428 := n3_; have HB := n4_; clear n0_ n1_ n2_ n3_ n4_; (try clear hb); (try clear hb2); (try clear hk); (try clear hi)) | ((with_reducible refine gate_callee (f := 21) rfl ?_); refine goesL_ (some 29) rfl rfl Try.func21 (by kernel_rfl) rfl #[.slice A0 l0.length c0] rfl (by (try simp only [List.map_toArray, List.map_cons, List.map_nil]); first | done | rfl | (simp only [List.length_drop, List.length_take]; rfl)) ?_; (with_reducible refine (laws_toEntryS.calls k _ _ l0 t430 _ ?side1 ?side2 A10.out).mono ?_); (case side1 => exact oc_ HR0.out); (case side2 => exact HC0.out); rintro e w24 ⟨v431, rfl, ho0, hb⟩; refine ⟨_, rfl, ?_⟩; have n0_ := Aside0.mk (Kd.R_elder' (oR HO419) (Kd.R_base ho0) hb); have n1_ := Aside0.mk (Kd.R_elder' (oR HO422) (Kd.R_base ho0) hb); have n2_ := Aside0.mk (Kd.R_elder' (oR HO425) (Kd.R_base ho0) hb); have n3_ := Aside0.mk (Kd.R_elder' (oR HO428) (Kd.R_base ho0) hb); have n4_ := Aside0.mk (Kd.R_lower (Kd.R_new' (Kd.R_new' (Kd.R_new' (Kd.R_new' ho0 (Kd.R_lt (oR HO419))) (Kd.R_lt (oR HO422))) (Kd.R_lt (oR HO425))) (Kd.R_lt (oR HO428))) (below_size (oB HB))); have n5_ := Aside0.mk (below_step (oB HB) hb); clear HO419; clear HO422; clear HO425; clear HO428; clear HB; have HO419 := n0_; have HO422 := n1_; have HO425 := n2_; have HO428 := n3_; have HO432 := n4_; have HB := n5_; clear n0_ n1_ n2_ n3_ n4_ n5_; (try clear hb); (try clear hb2); (try clear hk); (try clear hi); (try clear ho0); obtain ⟨Ao25, co25, eo25⟩ := Kd.R_slice HO432.out; subst eo25) | ((with_reducible refine gate_callee (f := 23) rfl ?_); refine goesL_ (some 30) rfl rfl Try.func23 (by kernel_rfl) rfl #[.slice Ao19 t423.length co19, .slice Ao25 t430.length co25] rfl (by (try simp only [List.map_toArray, List.map_cons, List.map_nil]); first | done | rfl | (simp only [List.length_drop, List.length_take]; rfl)) ?_; (with_reducible refine (laws_eqEntryS.calls k _ _ t423 _ _ t430 true _ ?side1 ?side2 ?side3 ?side4 A11.out).mono ?_); (case side1 => repeat (first | exact (Kd.R_reads' HO425.out).2.2 | (with_reducible refine Kd.C_alloc ?_ _) | (with_reducible refine Kd.C_drewN ?_ _) | (with_reducible refine Kd.C_drew ?_))); (case side2 => exact (Kd.R_reads' HO425.out).2.1); (case side3 => repeat (first | exact (Kd.R_reads' HO432.out).2.2 | (with_reducible refine Kd.C_alloc ?_ _) | (with_reducible refine Kd.C_drewN ?_ _) | (with_reducible refine Kd.C_drew ?_))); (case side4 => exact (Kd.R_reads' HO432.out).2.1); rintro e w26 ⟨rfl, hb⟩; refine ⟨_, rfl, ?_⟩; have n0_ := Aside0.mk (Kd.R_below (oR HO419) hb); have n1_ := Aside0.mk (Kd.R_below (oR HO422) hb); have n2_ := Aside0.mk (Kd.R_below (oR HO425) hb); have n3_ := Aside0.mk (Kd.R_below (oR HO428) hb); have n4_ := Aside0.mk (Kd.R_below (oR HO432) hb); have n5_ := Aside0.mk (below_step (oB HB) hb); clear HO419; clear HO422; clear HO425; clear HO428; clear HO432; clear HB; have HO419 := n0_; have HO422 := n1_; have HO425 := n2_; have HO428 := n3_; have HO432 := n4_; have HB := n5_; clear n0_ n1_ n2_ n3_ n4_ n5_; (try clear hb); (try clear hb2); (try clear hk); (try clear hi)) | ((with_reducible refine gate_callee (f := 30) rfl ?_); refine goesL_ (some 34) rfl rfl Try.func30 (by kernel_rfl) rfl #[.slice Ao19 t423.length co19, .int .i64 1] rfl (by (try simp only [List.map_toArray, List.map_cons, List.map_nil]); first | done | rfl | (simp only [List.length_drop, List.length_take]; rfl)) ?_; (with_reducible refine (laws_markEntryS.calls k (fun k_ => some k_ = (.slice Ao19 t423.length co19 : Value).ownBlock) (.slice Ao19 t423.length co19) t423 1 t434 t435 w _ ?side1 ?side2 A13.out).mono ?_); (case side1 => repeat (first | (with_reducible first | exact HB.out | apply below_alloc | apply pw_below_drewN | apply below_drew1) | exact HB.out)); (case side2 => exact Kd.R_tight rfl HO425.out); rintro e w27 ⟨rfl, hy0, hb, hkp⟩; refine ⟨_, rfl, ?_⟩; have n0_ := Aside0.mk (Kd.R_mono (ok' := fun k_ => some k_ ≠ (.slice Ao22 t420.length co22 : Value).ownBlock ∧ some k_ ≠ (.slice Ao19 t423.length co19 : Value).ownBlock ∧ some k_ ≠ (.slice Ao21 t426.length co21 : Value).ownBlock ∧ some k_ ≠ (.slice Ao25 t430.length co25 : Value).ownBlock) (Kd.R_keptB (HO419.out) hkp (fun k_ hk_ hs_ => (hk_.1.1.2) hs_)) (fun k_ hk_ => ⟨hk_.1.1.1.1.2, hk_.1.1.1.2, hk_.1.1.2, hk_.1.2⟩)); have n1_ := Aside0.mk (Kd.R_mono (ok' := fun k_ => some k_ ≠ (.slice Ao16 t417.length co16 : Value).ownBlock ∧ some k_ ≠ (.slice Ao19 t423.length co19 : Value).ownBlock ∧ some k_ ≠ (.slice Ao21 t426.length co21 : Value).ownBlock ∧ some k_ ≠ (.slice Ao25 t430.length co25 : Value).ownBlock) (Kd.R_keptB (HO422.out) hkp (fun k_ hk_ hs_ => (hk_.1.1.2) hs_)) (fun k_ hk_ => ⟨hk_.1.1.1.1.2, hk_.1.1.1.2, hk_.1.1.2, hk_.1.2⟩)); have n2_ := Aside0.mk (Kd.R_reok rfl hy0 (fun k_ e_ => HO425.out.1 k_ e_)); have n3_ := Aside0.mk (Kd.R_mono (ok' := fun k_ => some k_ ≠ (.slice Ao16 t417.length co16 : Value).ownBlock ∧ some k_ ≠ (.slice Ao22 t420.length co22 : Value).ownBlock ∧ some k_ ≠ (.slice Ao19 t423.length co19 : Value).ownBlock ∧ some k_ ≠ (.slice Ao25 t430.length co25 : Value).ownBlock) (Kd.R_keptB (HO428.out) hkp (fun k_ hk_ hs_ => (hk_.1.2) hs_)) (fun k_ hk_ => ⟨hk_.1.1.1.1.2, hk_.1.1.1.2, hk_.1.1.2, hk_.1.2⟩)); have n4_ := Aside0.mk (Kd.R_mono (ok' := fun k_ => some k_ ≠ (.slice Ao16 t417.length co16 : Value).ownBlock ∧ some k_ ≠ (.slice Ao22 t420.length co22 : Value).ownBlock ∧ some k_ ≠ (.slice Ao19 t423.length co19 : Value).ownBlock ∧ some k_ ≠ (.slice Ao21 t426.length co21 : Value).ownBlock) (Kd.R_keptB (HO432.out) hkp (fun k_ hk_ hs_ => (hk_.1.2) hs_)) (fun k_ hk_ => ⟨hk_.1.1.1.1.2, hk_.1.1.1.2, hk_.1.1.2, hk_.1.2⟩)); have n5_ := Aside0.mk (hb); clear HO419; clear HO422; clear HO425; clear HO428; clear HO432; clear HB; have HO419 := n0_; have HO422 := n1_; have HO425 := n2_; have HO428 := n3_; have HO432 := n4_; have HB := n5_; clear n0_ n1_ n2_ n3_ n4_ n5_; (try clear hb); (try clear hkp); (try clear hy0)))
        (try simp only [Act.put, List.setIfInBounds_toArray, List.set_cons_zero, List.set_cons_succ])
        go_cut [42] (fun v42 wc => ∃ (kq : Nat) (x42_13 : Bool), v42 = .bool x42_13 ∧ Aside0 (laws_FnExactOpenFaults.j0 kq l0 t420 t426 x42_13 = some r) ∧ Aside0 (kq ≤ k) ∧ Aside0 (Kd.R k36 36 wc w.heap.size (fun k_ => some k_ ≠ ((.slice Ao21 t426.length co21) : Value).ownBlock) (.slice Ao22 t420.length co22) t420) ∧ Aside0 (Kd.R k36 36 wc w.heap.size (fun k_ => some k_ ≠ ((.slice Ao22 t420.length co22) : Value).ownBlock) (.slice Ao21 t426.length co21) t426) ∧ Aside0 (Below w.heap.size w wc))
        case first =>
          have H := HC14.out
          clear HC14
          by_cases c28 : t434 < 0
          · rw [if_pos c28] at H
            have c28b0 : decide (t434 < 0) = true := decide_eq_true c28
            clear c28
            (first | rw [c28b0] | (simp only [i64_w, i32_w]; rw [c28b0]) | skip)
            have H' := Aside0.mk H
            clear H
            go_wp2
            go_meet
            case rel => exact ⟨_, (true), (by first | rfl | (simp; done) | (simp [*]; done)), H', ⟨by first | omega | exact Nat.le_refl _⟩, ⟨by (with_reducible repeat (first | apply Kd.R_alloc | apply Kd.R_drewN | apply Kd.R_drew)); exact Kd.R_mono HO422.out (fun _ hk => hk.2.2.1)⟩, ⟨by (with_reducible repeat (first | apply Kd.R_alloc | apply Kd.R_drewN | apply Kd.R_drew)); exact Kd.R_mono HO428.out (fun _ hk => hk.2.1)⟩, ⟨oB HB⟩⟩
          · rw [if_neg c28] at H
            have c28b0 : decide (t434 < 0) = false := decide_eq_false c28
            clear c28
            (first | rw [c28b0] | (simp only [i64_w, i32_w]; rw [c28b0]) | skip)
            replace H := Option.bind_eq_some_iff.mp H
            obtain ⟨t436, A290, H⟩ := H
            (try dsimp only at H)
            have A29 := Aside0.mk A290
            clear A290
            have H' := Aside0.mk H
            clear H
            go_wp2_with (first | (go_at_call 23; (with_reducible refine (laws_eqEntryS.calls k _ _ t426 _ _ t420 t436 _ ?side1 ?side2 ?side3 ?side4 A29.out).mono ?_); (case side1 => repeat (first | exact (Kd.R_reads' HO428.out).2.2 | (with_reducible refine Kd.C_alloc ?_ _) | (with_reducible refine Kd.C_drewN ?_ _) | (with_reducible refine Kd.C_drew ?_))); (case side2 => exact (Kd.R_reads' HO428.out).2.1); (case side3 => repeat (first | exact (Kd.R_reads' HO422.out).2.2 | (with_reducible refine Kd.C_alloc ?_ _) | (with_reducible refine Kd.C_drewN ?_ _) | (with_reducible refine Kd.C_drew ?_))); (case side4 => exact (Kd.R_reads' HO422.out).2.1); rintro e w30 ⟨rfl, hb⟩; have n0_ := Aside0.mk (Kd.R_below (oR HO419) hb); have n1_ := Aside0.mk (Kd.R_below (oR HO422) hb); have n2_ := Aside0.mk (Kd.R_below (oR HO425) hb); have n3_ := Aside0.mk (Kd.R_below (oR HO428) hb); have n4_ := Aside0.mk (Kd.R_below (oR HO432) hb); have n5_ := Aside0.mk (below_step (oB HB) hb); clear HO419; clear HO422; clear HO425; clear HO428; clear HO432; clear HB; have HO419 := n0_; have HO422 := n1_; have HO425 := n2_; have HO428 := n3_; have HO432 := n4_; have HB := n5_; clear n0_ n1_ n2_ n3_ n4_ n5_; (try clear hb); (try clear hb2); (try clear hk); (try clear hi)))
            go_meet
            case rel => exact ⟨_, (!t436), (by first | rfl | (simp; done) | (simp [*]; done)), H', ⟨by first | omega | exact Nat.le_refl _⟩, ⟨by (with_reducible repeat (first | apply Kd.R_alloc | apply Kd.R_drewN | apply Kd.R_drew)); exact Kd.R_mono HO422.out (fun _ hk => hk.2.2.1)⟩, ⟨by (with_reducible repeat (first | apply Kd.R_alloc | apply Kd.R_drewN | apply Kd.R_drew)); exact Kd.R_mono HO428.out (fun _ hk => hk.2.1)⟩, ⟨oB HB⟩⟩
        case rest =>
          clear HC14
          try clear c1
          try clear c2
          try clear p2
          try clear c3
          try clear c3b0
          try clear c7
          try clear c9
          try clear c12
          try clear c19
          try clear c21
          try clear c23
          try clear c27
          try clear c28
          try clear c28b0
          try clear c29
          try clear c30
          obtain ⟨kq, x42_13, rfl, HA, HJ13, HO_4, HO_6, HB⟩ := hcut
          cases kq with
          | zero => exact absurd HA.out (by simp [laws_FnExactOpenFaults.j0])
          | succ kj13 =>
            have H := HA.out
            clear HA
            simp only [laws_FnExactOpenFaults.j0] at H
            by_cases c31 : x42_13 = true
            · subst c31
              rw [if_pos rfl] at H
              exact absurd ((Option.some.inj H).trans hrt_.out) (by decide)
            · replace c31 := Bool.eq_false_iff.mpr c31
              subst c31
              rw [if_neg (show ¬ (false = true) by decide)] at H
              replace H := Option.bind_eq_some_iff.mp H
              obtain ⟨⟨t437, t438⟩, A320, H⟩ := H
              (try dsimp only at H)
              have A32 := Aside0.mk A320
              clear A320
              replace H := Option.bind_eq_some_iff.mp H
              obtain ⟨t439, A330, H⟩ := H
              (try dsimp only at H)
              have A33 := Aside0.mk A330
              clear A330
              by_cases c34 : t439 < 0
              · rw [if_pos c34] at H
                have c34b0 : decide (t439 < 0) = true := decide_eq_true c34
                clear c34
                exact absurd ((Option.some.inj H).trans hrt_.out) (by decide)
              · rw [if_neg c34] at H
                have c34b0 : decide (t439 < 0) = false := decide_eq_false c34
                clear c34
                by_cases c35 : t439 = t437
                · rw [if_pos c35] at H
                  have c35b0 : (t439 == t437) = true := beq_iff_eq.mpr c35
                  have c35b1 : (t439 != t437) = false := bne_eq_false_iff_eq.mpr c35
                  clear c35
                  replace H := Option.bind_eq_some_iff.mp H
                  obtain ⟨t440, A360, H⟩ := H
                  (try dsimp only at H)
                  have A36 := Aside0.mk A360
                  clear A360
                  replace H := Option.bind_eq_some_iff.mp H
                  obtain ⟨t443, A370, H⟩ := H
                  (try dsimp only at H)
                  have A37 := Aside0.mk A370
                  clear A370
                  replace H := Option.bind_eq_some_iff.mp H
                  obtain ⟨t446, A380, H⟩ := H
                  (try dsimp only at H)
                  have A38 := Aside0.mk A380
                  clear A380
                  by_cases c39 : t446 = true
                  · subst c39
                    rw [if_pos rfl] at H
                    replace H := Option.bind_eq_some_iff.mp H
                    obtain ⟨t447, A400, H⟩ := H
                    (try dsimp only at H)
                    have A40 := Aside0.mk A400
                    clear A400
                    by_cases c41 : t447 < 0
                    · rw [if_pos c41] at H
                      have c41b0 : decide (t447 < 0) = true := decide_eq_true c41
                      clear c41
                      exact absurd ((Option.some.inj H).trans hrt_.out) (by decide)
                    · rw [if_neg c41] at H
                      have c41b0 : decide (t447 < 0) = false := decide_eq_false c41
                      clear c41
                      by_cases c42 : t447 = t437
                      · rw [if_pos c42] at H
                        have c42b0 : (t447 == t437) = true := beq_iff_eq.mpr c42
                        have c42b1 : (t447 != t437) = false := bne_eq_false_iff_eq.mpr c42
                        clear c42
                        obtain rfl := Option.some.inj H
                        go_wp2_with (first | ((with_reducible refine gate_callee (f := 30) rfl ?_); refine goesL_ (some 45) rfl rfl Try.func30 (by kernel_rfl) rfl #[.slice Ao21 t426.length co21, .int .i64 1] rfl (by (try simp only [List.map_toArray, List.map_cons, List.map_nil]); first | done | rfl | (simp only [List.length_drop, List.length_take]; rfl)) ?_; (with_reducible refine (laws_markEntryS.calls kj13 (fun k_ => some k_ = (.slice Ao21 t426.length co21 : Value).ownBlock) (.slice Ao21 t426.length co21) t426 1 t437 t438 w _ ?side1 ?side2 A32.out).mono ?_); (case side1 => repeat (first | (with_reducible first | exact HB.out | apply below_alloc | apply pw_below_drewN | apply below_drew1) | exact HB.out)); (case side2 => exact Kd.R_tight rfl HO_6.out); rintro e w43 ⟨rfl, hy0, hb, hkp⟩; refine ⟨_, rfl, ?_⟩; have n0_ := Aside0.mk (Kd.R_mono (ok' := fun k_ => some k_ ≠ (.slice Ao21 t426.length co21 : Value).ownBlock) (Kd.R_keptB (HO_4.out) hkp (fun k_ hk_ hs_ => (hk_) hs_)) (fun k_ hk_ => hk_.1)); have n1_ := Aside0.mk (Kd.R_reok rfl hy0 (fun k_ e_ => HO_6.out.1 k_ e_)); have n2_ := Aside0.mk (hb); clear HO_4; clear HO_6; clear HB; have HO_4 := n0_; have HO_6 := n1_; have HB := n2_; clear n0_ n1_ n2_; (try clear hb); (try clear hkp); (try clear hy0)) | ((with_reducible refine gate_callee (f := 31) rfl ?_); refine goesL_ (some 48) rfl rfl Try.func31 (by kernel_rfl) rfl #[.slice Ao21 t438.length co21, .int .i64 1] rfl (by (try simp only [List.map_toArray, List.map_cons, List.map_nil]); first | done | (rw [show t438.length = t426.length from (Kd.R_reads' HO_6.out).1.symm] <;> rfl) | rfl | (simp only [List.length_drop, List.length_take]; rfl)) ?_; (with_reducible refine (laws_heldEntryS.calls kj13 _ _ t438 1 t439 _ ?side1 ?side2 A33.out).mono ?_); (case side1 => repeat (first | exact (Kd.R_reads' HO_6.out).2.2 | (with_reducible refine Kd.C_alloc ?_ _) | (with_reducible refine Kd.C_drewN ?_ _) | (with_reducible refine Kd.C_drew ?_))); (case side2 => rw [show t438.length = t426.length from (Kd.R_reads' HO_6.out).1.symm]; exact (Kd.R_reads' HO_6.out).2.1); rintro e w' ⟨rfl, ⟨nd, rfl⟩⟩; refine ⟨_, rfl, ?_⟩) | ((with_reducible refine gate_callee (f := 21) rfl ?_); refine goesL_ (some 55) rfl rfl Try.func21 (by kernel_rfl) rfl #[.slice A0 l0.length c0] rfl (by (try simp only [List.map_toArray, List.map_cons, List.map_nil]); first | done | rfl | (simp only [List.length_drop, List.length_take]; rfl)) ?_; (with_reducible refine (laws_toEntryS.calls kj13 _ _ l0 t440 _ ?side1 ?side2 A36.out).mono ?_); (case side1 => repeat (first | exact (Kd.C_below HR0.out (oB HB)) | (with_reducible refine Kd.C_alloc ?_ _) | (with_reducible refine Kd.C_drewN ?_ _) | (with_reducible refine Kd.C_drew ?_))); (case side2 => exact HC0.out); rintro e w44 ⟨v441, rfl, ho0, hb⟩; refine ⟨_, rfl, ?_⟩; have n0_ := Aside0.mk (Kd.R_elder' (oR HO_4) (Kd.R_base ho0) hb); have n1_ := Aside0.mk (Kd.R_elder' (oR HO_6) (Kd.R_base ho0) hb); have n2_ := Aside0.mk (Kd.R_lower (Kd.R_new' (Kd.R_new' ho0 (Kd.R_lt (oR HO_4))) (Kd.R_lt (oR HO_6))) (below_size (oB HB))); have n3_ := Aside0.mk (below_step (oB HB) hb); clear HO_4; clear HO_6; clear HB; have HO_4 := n0_; have HO_6 := n1_; have HO442 := n2_; have HB := n3_; clear n0_ n1_ n2_ n3_; (try clear hb); (try clear hb2); (try clear hk); (try clear hi); (try clear ho0); obtain ⟨Ao45, co45, eo45⟩ := Kd.R_slice HO442.out; subst eo45) | ((with_reducible refine gate_callee (f := 27) rfl ?_); refine goesL_ (some 56) rfl rfl Try.func27 (by kernel_rfl) rfl #[.slice Ao45 t440.length co45] rfl (by (try simp only [List.map_toArray, List.map_cons, List.map_nil]); first | done | rfl | (simp only [List.length_drop, List.length_take]; rfl)) ?_; (with_reducible refine (impl_OpenFaults.calls _ _ t440 t443 _ ?side1 ?side2 A37.out).mono ?_); (case side1 => repeat (first | exact (Kd.R_reads' HO442.out).2.2 | (with_reducible refine Kd.C_alloc ?_ _) | (with_reducible refine Kd.C_drewN ?_ _) | (with_reducible refine Kd.C_drew ?_))); (case side2 => exact (Kd.R_reads' HO442.out).2.1); rintro e w46 ⟨v444, rfl, ho0, hb⟩; refine ⟨_, rfl, ?_⟩; have n0_ := Aside0.mk (Kd.R_elder' (oR HO_4) (Kd.R_base ho0) hb); have n1_ := Aside0.mk (Kd.R_elder' (oR HO_6) (Kd.R_base ho0) hb); have n2_ := Aside0.mk (Kd.R_elder' (oR HO442) (Kd.R_base ho0) hb); have n3_ := Aside0.mk (Kd.R_lower (Kd.R_new' (Kd.R_new' (Kd.R_new' ho0 (Kd.R_lt (oR HO_4))) (Kd.R_lt (oR HO_6))) (Kd.R_lt (oR HO442))) (below_size (oB HB))); have n4_ := Aside0.mk (below_step (oB HB) hb); clear HO_4; clear HO_6; clear HO442; clear HB; have HO_4 := n0_; have HO_6 := n1_; have HO442 := n2_; have HO445 := n3_; have HB := n4_; clear n0_ n1_ n2_ n3_ n4_; (try clear hb); (try clear hb2); (try clear hk); (try clear hi); (try clear ho0); obtain ⟨Ao47, co47, eo47⟩ := Kd.R_slice HO445.out; subst eo47) | ((with_reducible refine gate_callee (f := 23) rfl ?_); refine goesL_ (some 59) rfl rfl Try.func23 (by kernel_rfl) rfl #[.slice Ao47 t443.length co47, .slice Ao22 t420.length co22] rfl (by (try simp only [List.map_toArray, List.map_cons, List.map_nil]); first | done | rfl | (simp only [List.length_drop, List.length_take]; rfl)) ?_; (with_reducible refine (laws_eqEntryS.calls kj13 _ _ t443 _ _ t420 true _ ?side1 ?side2 ?side3 ?side4 A38.out).mono ?_); (case side1 => repeat (first | exact (Kd.R_reads' HO445.out).2.2 | (with_reducible refine Kd.C_alloc ?_ _) | (with_reducible refine Kd.C_drewN ?_ _) | (with_reducible refine Kd.C_drew ?_))); (case side2 => exact (Kd.R_reads' HO445.out).2.1); (case side3 => repeat (first | exact (Kd.R_reads' HO_4.out).2.2 | (with_reducible refine Kd.C_alloc ?_ _) | (with_reducible refine Kd.C_drewN ?_ _) | (with_reducible refine Kd.C_drew ?_))); (case side4 => exact (Kd.R_reads' HO_4.out).2.1); rintro e w48 ⟨rfl, hb⟩; refine ⟨_, rfl, ?_⟩; have n0_ := Aside0.mk (Kd.R_below (oR HO_4) hb); have n1_ := Aside0.mk (Kd.R_below (oR HO_6) hb); have n2_ := Aside0.mk (Kd.R_below (oR HO442) hb); have n3_ := Aside0.mk (Kd.R_below (oR HO445) hb); have n4_ := Aside0.mk (below_step (oB HB) hb); clear HO_4; clear HO_6; clear HO442; clear HO445; clear HB; have HO_4 := n0_; have HO_6 := n1_; have HO442 := n2_; have HO445 := n3_; have HB := n4_; clear n0_ n1_ n2_ n3_ n4_; (try clear hb); (try clear hb2); (try clear hk); (try clear hi)) | ((with_reducible refine gate_callee (f := 31) rfl ?_); refine goesL_ (some 63) rfl rfl Try.func31 (by kernel_rfl) rfl #[.slice Ao21 t438.length co21, .int .i64 1] rfl (by (try simp only [List.map_toArray, List.map_cons, List.map_nil]); first | done | (rw [show t438.length = t426.length from (Kd.R_reads' HO_6.out).1.symm] <;> rfl) | rfl | (simp only [List.length_drop, List.length_take]; rfl)) ?_; (with_reducible refine (laws_heldEntryS.calls kj13 _ _ t438 1 t447 _ ?side1 ?side2 A40.out).mono ?_); (case side1 => repeat (first | exact (Kd.R_reads' HO_6.out).2.2 | (with_reducible refine Kd.C_alloc ?_ _) | (with_reducible refine Kd.C_drewN ?_ _) | (with_reducible refine Kd.C_drew ?_))); (case side2 => rw [show t438.length = t426.length from (Kd.R_reads' HO_6.out).1.symm]; exact (Kd.R_reads' HO_6.out).2.1); rintro e w' ⟨rfl, ⟨nd, rfl⟩⟩; refine ⟨_, rfl, ?_⟩))
                        go_ret
                        exact ⟨by first | rfl | (simp [errW_none, errW_some] <;> rfl) | (simp [*, errW_none, errW_some] <;> rfl), oB HB⟩
                      · rw [if_neg c42] at H
                        have c42b0 : (t447 == t437) = false := beq_eq_false_iff_ne.mpr c42
                        have c42b1 : (t447 != t437) = true := bne_iff_ne.mpr c42
                        exact absurd ((Option.some.inj H).trans hrt_.out) (by decide)
                  · replace c39 := Bool.eq_false_iff.mpr c39
                    subst c39
                    rw [if_neg (show ¬ (false = true) by decide)] at H
                    exact absurd ((Option.some.inj H).trans hrt_.out) (by decide)
                · rw [if_neg c35] at H
                  have c35b0 : (t439 == t437) = false := beq_eq_false_iff_ne.mpr c35
                  have c35b1 : (t439 != t437) = true := bne_iff_ne.mpr c35
                  exact absurd ((Option.some.inj H).trans hrt_.out) (by decide)
      · replace c12 := Bool.eq_false_iff.mpr c12
        subst c12
        rw [if_neg (show ¬ (false = true) by decide)] at H
        exact absurd ((Option.some.inj H).trans hrt_.out) (by decide)
    · replace c9 := Bool.eq_false_iff.mpr c9
      subst c9
      rw [if_neg (show ¬ (false = true) by decide)] at H
      exact absurd ((Option.some.inj H).trans hrt_.out) (by decide)
end Go.Proofs.Ytnknnbpodpfljaa.P


namespace Go.Proofs.Ytnknnbpodpfljaa.Q
set_option linter.unusedVariables false
set_option linter.unusedSimpArgs false
open Go.RowKit Go.Proofs.Ytnknnbpodpfljaa.P Go.Proofs.YtnknnbpodpfljaaW.PrintWords Go.Proofs.YtnknnbpodpfljaaW.PrintMore
def openF (l : List S36) : List S36 := if logOk l = true then openUp l l.length else []
theorem openF_len (l : List S36) : (openF l).length ≤ l.length := by
  unfold openF
  split
  · exact openUp_length l l.length
  · simp
theorem open_impl (l : List S36) (hl : l.length ≤ 1048577) : impl_OpenFaults.f l = some (openF l) := by
  unfold impl_OpenFaults.f
  rw [if_pos hl]
  rfl
theorem openF_spec (l : List S36) (hl : l.length ≤ 1048577) : Ev (fun k => spec_OpenFaults.f k l) (openF l) := open_spec l hl
end Go.Proofs.Ytnknnbpodpfljaa.Q


namespace Go.Proofs.Ytnknnbpodpfljaa.Q
set_option linter.unusedVariables false
set_option linter.unusedSimpArgs false
open Go.RowKit Go.Proofs.Ytnknnbpodpfljaa.P Go.Proofs.YtnknnbpodpfljaaW.PrintWords Go.Proofs.YtnknnbpodpfljaaW.PrintMore
def runsE (m : Int) (n : Nat) : List S36 := (List.range n).map (fun (j : Nat) => ⟨⟨m + 4 * j, m + 4 * j + 1⟩, m + 4 * j + 2, m + 4 * j + 3⟩)
theorem runsE_len (m : Int) (n : Nat) : (runsE m n).length = n := by simp [runsE]
theorem rdE_set_self (l : List S36) (i : Nat) (v : S36) (h : i < l.length) : rd_T36 (l.set i v) (i : Int) = v := by
  rw [rdE _ _ (by simpa using h)]; simp
theorem markEntryS_ev (l : List S36) (m : Int) (h0 : 0 ≤ m) (hm : m + 4 * l.length ≤ 4000000000000000000) : Ev (fun k => laws_markEntryS.f k l m) (m + 4 * l.length, runsE m l.length) := by
  have key : ∀ i, i ≤ l.length → ∀ acc : List S36, acc.length = l.length → acc.take i = runsE m i → Ev (fun k => laws_markEntryS.l0 k acc (m + 4 * i) (i : Int)) (m + 4 * l.length, runsE m l.length) := by
    refine down (n := l.length) ?_ ?_
    · intro acc ha ht
      refine Ev.step (fun k => by rw [laws_markEntryS.l0]) (evn (by omega) (evs ?_))
      rw [← ht, List.take_of_length_le (by omega)]
    · intro i hi ih acc ha ht
      refine Ev.step (fun k => by rw [laws_markEntryS.l0]) ?_
      refine evp (by omega) (evp (by omega) ?_)
      simp only [Option.bind_some]
      rw [w64 (n := m + 4 * i + 1) (by omega) (by omega), w64 (n := m + 4 * i + 1 + 1) (by omega) (by omega), w64 (n := m + 4 * i + 1 + 1 + 1) (by omega) (by omega), w64 (n := m + 4 * i + 1 + 1 + 1 + 1) (by omega) (by omega), w64 (n := (i : Int) + 1) (by omega) (by omega), Int.toNat_natCast]
      have := ih (acc.set i ⟨⟨m + 4 * i, m + 4 * i + 1⟩, m + 4 * i + 2, m + 4 * i + 3⟩) (by simpa using ha) (by
        rw [set_take _ _ _ (by omega), ht]
        simp [runsE, List.range_succ])
      have rs : ∀ (L : List S36) (v : S36), L.length = l.length → rd_T36 (L.set i v) (i : Int) = v := fun L v hL => rdE_set_self L i v (by omega)
      simp only [rs _ _ ha, List.set_set]
      rw [show m + 4 * (i : Int) + 1 + 1 = m + 4 * i + 2 by omega, show m + 4 * (i : Int) + 2 + 1 = m + 4 * i + 3 by omega, show m + 4 * (i : Int) + 3 + 1 = m + 4 * ((i + 1 : Nat) : Int) by omega]
      exact this
  have := key 0 (Nat.zero_le _) l rfl (by simp [runsE])
  unfold laws_markEntryS.f
  simpa using this
theorem heldEntryS_ev (n : Nat) (m : Int) (h0 : 0 ≤ m) (hm : m + 4 * n ≤ 4000000000000000000) : Ev (fun k => laws_heldEntryS.f k (runsE m n) m) (m + 4 * n) := by
  have key : ∀ i, i ≤ n → Ev (fun k => laws_heldEntryS.l0 k (runsE m n) (m + 4 * i) (i : Int)) (m + 4 * n) := by
    refine down (n := n) ?_ ?_
    · exact Ev.step (fun k => by rw [laws_heldEntryS.l0]) (evn (by rw [runsE_len]; omega) (evs rfl))
    · intro i hi ih
      refine Ev.step (fun k => by rw [laws_heldEntryS.l0]) (evp (by rw [runsE_len]; omega) (evp (by omega) ?_))
      rw [rdE _ _ (by rw [runsE_len]; exact hi), show (runsE m n)[i]'(by rw [runsE_len]; exact hi) = ⟨⟨m + 4 * i, m + 4 * i + 1⟩, m + 4 * i + 2, m + 4 * i + 3⟩ by simp [runsE]]
      rw [w64 (n := m + 4 * i + 1) (by omega) (by omega), w64 (n := m + 4 * i + 1 + 1) (by omega) (by omega), w64 (n := m + 4 * i + 1 + 1 + 1) (by omega) (by omega), w64 (n := m + 4 * i + 1 + 1 + 1 + 1) (by omega) (by omega), w64 (n := (i : Int) + 1) (by omega) (by omega)]
      refine evp rfl (evp rfl (evp ?_ (evp ?_ ?_)))
      · show m + 4 * (i : Int) + 2 = _; omega
      · show m + 4 * (i : Int) + 3 = _; omega
      rw [show m + 4 * (i : Int) + 1 + 1 + 1 + 1 = m + 4 * ((i + 1 : Nat) : Int) by omega]
      exact ih
  have := key 0 (Nat.zero_le _)
  unfold laws_heldEntryS.f
  simpa using this
end Go.Proofs.Ytnknnbpodpfljaa.Q


namespace Go.Proofs.Ytnknnbpodpfljaa.Q
set_option linter.unusedVariables false
set_option linter.unusedSimpArgs false
open Go.RowKit Go.Deep Go.ChangeShapes Go.WideShapes Go.Proofs.YtnknnbpodpfljaaW.PrintWords
def Opens {α : Type} (P : Program) (w : World) (d : Kd α) (T : TypeId) (G : α → Prop) : Prop :=
  ∀ (H : Type) (enc : TypeId × Value → H) (base : Nat) (spare : Nat → Bool) (held : Bool) (fuel : Nat) (cs : List Value) (x : DataW H × List MemPlace),
    DataW.trod enc P w base spare held fuel T cs = some x → ∃ v, d.K w v cs ∧ G v
def OpensFs {α : Type} (P : Program) (w : World) (d : Kd α) (off : Nat) (fs : Array Field) (i : Nat) (G : α → Prop) : Prop :=
  ∀ (H : Type) (enc : TypeId × Value → H) (base : Nat) (spare : Nat → Bool) (held : Bool) (fuel : Nat) (cs : List Value), cs.length = off + d.sz →
    (∀ j f, i ≤ j → fs[j]? = some f → ∃ y : DataW H × List MemPlace, DataW.trod enc P w base spare held fuel f.type ((cs.drop f.offset).take (P.cellsOf f.type)) = some y) → ∃ v, d.K w v (cs.drop off) ∧ G v
section
variable {P : Program} {w : World}
theorem Opens.mono {α : Type} {d : Kd α} {T : TypeId} {G G' : α → Prop} (h : Opens P w d T G) (hg : ∀ x, G x → G' x) : Opens P w d T G' := by
  intro H enc base spare held fuel cs x hx
  obtain ⟨v, hv, g⟩ := h H enc base spare held fuel cs x hx
  exact ⟨v, hv, hg v g⟩
theorem Opens.int {k : IntKind} {T : TypeId} (ht : P.underlying T = some (.int k)) : Opens P w (Kd.int k) T (fun n => (Lit.int k n).wf = true) := by
  intro H enc base spare held fuel cs x hx
  obtain ⟨n, rfl, _, hw⟩ := DataW.trod_int ht hx
  exact ⟨n, rfl, hw⟩
theorem Opens.slice {α : Type} (z : α) {d : Kd α} {E T : TypeId} {G : α → Prop} (ht : P.underlying T = some (.slice E)) (hC : P.cellsOf E = d.sz) (h : Opens P w d E G) :
    Opens P w (Kd.slice E d) T (fun l => l.length ≤ 9223372036854775807 ∧ ∀ x ∈ l, G x) := by
  haveI : Inhabited α := ⟨z⟩
  intro H enc base spare held fuel cs x hx
  rcases open_slice ht hx with ⟨rfl, _⟩ | ⟨a, len, cap, m, n, D, Pl, rfl, hb, hl, hm, hmm, _, hi⟩
  · exact ⟨[], ⟨none, 0, rfl, Nat.le_refl _, rfl, by simp, fun h => absurd h (by simp)⟩, by simp, by simp⟩
  · have hlm : len ≤ m := by rw [hmm]; split <;> omega
    obtain ⟨V, hV⟩ := choose_lt (α := α) (n := len) (p := fun i v => G v ∧ ∃ c, c.length = d.sz ∧ d.K w v c ∧ ∀ j u, c[j]? = some u → w.cell? (a.add (i * d.sz + j)) = some u) (fun i hil => by
      obtain ⟨cs', h1, h2⟩ := hi i (by omega)
      obtain ⟨v, hv, g⟩ := h H enc base spare held n cs' _ h2
      obtain ⟨_, hcl, hat⟩ := World.cells?_some h1
      refine ⟨v, g, cs', by rw [hcl, hC], hv, fun j u hu => ?_⟩
      have hj : j < P.cellsOf E := by rw [← hcl]; exact (List.getElem?_eq_some_iff.1 hu).1
      have := hat j hj
      rw [hC, Go.Deep.add_add] at this
      rw [this, hu])
    refine ⟨(List.range len).map V, ⟨some a, cap, by simp, by simpa using hl, by simp, by have := hm; unfold maxLen at this; simp; omega, fun _ => ⟨a, rfl, fun j p hj => ?_⟩⟩, ?_⟩
    · have hj' : j < len := by have := (List.getElem?_eq_some_iff.1 hj).1; simpa using this
      obtain rfl : V j = p := by simpa [hj'] using hj
      exact (hV j hj').2
    · refine ⟨by have := hm; unfold maxLen at this; simp; omega, fun x hx => ?_⟩
      obtain ⟨i, hi, rfl⟩ := List.mem_map.1 hx
      exact (hV i (List.mem_range.1 hi)).1
theorem OpensFs.one {α : Type} {d : Kd α} {off i : Nat} {fs : Array Field} {f : Field} {G : α → Prop} (hf : fs[i]? = some f) (h : Opens P w d f.type G) (ho : f.offset = off) (hc : P.cellsOf f.type = d.sz) : OpensFs P w d off fs i G := by
  intro H enc base spare held fuel cs hlen hfs
  obtain ⟨y, hy⟩ := hfs i f (Nat.le_refl _) hf
  rw [ho, hc, List.take_of_length_le (by simp [hlen])] at hy
  exact h H enc base spare held fuel _ _ hy
theorem OpensFs.more {α β : Type} {d : Kd α} {d2 : Kd β} {off i : Nat} {fs : Array Field} {f : Field} {G : α → Prop} {G2 : β → Prop} (hf : fs[i]? = some f) (h : Opens P w d f.type G) (ho : f.offset = off) (hc : P.cellsOf f.type = d.sz)
    (h2 : OpensFs P w d2 (off + d.sz) fs (i + 1) G2) : OpensFs P w (Kd.pair d d2) off fs i (fun x => G x.1 ∧ G2 x.2) := by
  intro H enc base spare held fuel cs hlen hfs
  have hlen' : cs.length = off + (d.sz + d2.sz) := hlen
  obtain ⟨y, hy⟩ := hfs i f (Nat.le_refl _) hf
  rw [ho, hc] at hy
  obtain ⟨v, hv, g⟩ := h H enc base spare held fuel _ _ hy
  obtain ⟨v2, hv2, g2⟩ := h2 H enc base spare held fuel cs (by omega) (fun j f' hj hf' => hfs j f' (by omega) hf')
  refine ⟨(v, v2), ⟨_, _, ?_, hv, hv2⟩, g, g2⟩
  rw [← List.drop_drop, List.take_append_drop]
theorem Opens.pairs {α : Type} {d : Kd α} {T : TypeId} {fs : Array Field} {G : α → Prop} (ht : P.underlying T = some (.struct fs)) (hC : P.cellsOf T = d.sz) (h : OpensFs P w d 0 fs 0 G) : Opens P w d T G := by
  intro H enc base spare held fuel cs x hx
  obtain ⟨xs, n, _, _, hlen, hxl, hat⟩ := DataW.trod_struct ht hx
  exact h H enc base spare held n cs (by rw [hlen, hC, Nat.zero_add]) (fun j f' _ hf' => by
    have hi' : j < fs.size := (Array.getElem?_eq_some_iff.1 hf').1
    have e := hat j f' hf'
    rw [List.getElem?_eq_getElem (by omega)] at e
    exact ⟨_, e⟩)
theorem Opens.struct {α β : Type} {d : Kd α} {T : TypeId} {fs : Array Field} {f : β → α} {G0 : α → Prop} {G : β → Prop} (g : α → β) (ht : P.underlying T = some (.struct fs)) (hC : P.cellsOf T = d.sz) (hfg : ∀ x, f (g x) = x)
    (h : OpensFs P w d 0 fs 0 G0) (hg : ∀ x, G0 x → G (g x)) : Opens P w (Kd.iso d f) T G := by
  intro H enc base spare held fuel cs x hx
  obtain ⟨v, hv, g0⟩ := Opens.pairs ht hC h H enc base spare held fuel cs x hx
  refine ⟨g v, ?_, hg v g0⟩
  show d.K w (f (g v)) cs
  rw [hfg]
  exact hv
end
end Go.Proofs.Ytnknnbpodpfljaa.Q


namespace Go.Proofs.Ytnknnbpodpfljaa.Q
open Go.RowKit Go.Proofs.Ytnknnbpodpfljaa.P Go.Proofs.YtnknnbpodpfljaaW.PrintWords
def good64 (x : S64) : Prop := ((Lit.int .i64 x.f0).wf = true ∧ (Lit.int .i64 x.f1).wf = true)
theorem op64 {w : World} : Opens Try.prog w k64 64 good64 := (Opens.struct (fun x => (⟨x.1, x.2⟩ : S64)) (G := good64) Try.underlying64 (by kernel_rfl) (fun _ => rfl) (OpensFs.more rfl (Opens.int Try.underlying3) rfl (by kernel_rfl) (OpensFs.one rfl (Opens.int Try.underlying3) rfl (by kernel_rfl))) (fun _ h => h))
def good66 (x : S66) : Prop := (((Lit.int .i64 x.f0.f0).wf = true ∧ (Lit.int .i64 x.f0.f1).wf = true) ∧ (Lit.int .i64 x.f1).wf = true ∧ (Lit.int .i64 x.f2).wf = true)
theorem op66 {w : World} : Opens Try.prog w k66 66 good66 := (Opens.struct (fun x => (⟨x.1, x.2.1, x.2.2⟩ : S66)) (G := good66) Try.underlying66 (by kernel_rfl) (fun _ => rfl) (OpensFs.more rfl op64 rfl (by kernel_rfl) (OpensFs.more rfl (Opens.int Try.underlying3) rfl (by kernel_rfl) (OpensFs.one rfl (Opens.int Try.underlying3) rfl (by kernel_rfl)))) (fun _ h => h))
end Go.Proofs.Ytnknnbpodpfljaa.Q


namespace Go.Proofs.Ytnknnbpodpfljaa.Pure
set_option linter.unusedVariables false
set_option linter.unusedSimpArgs false
open Go.RowKit Go.Proofs.Ytnknnbpodpfljaa.P Go.Proofs.Ytnknnbpodpfljaa.Q Go.Proofs.YtnknnbpodpfljaaW.PrintWords Go.Proofs.YtnknnbpodpfljaaW.PrintLast
theorem FnExactOpenFaults (l : List S66) (h0 : l.length ≤ 9223372036854775807 ∧ ∀ y ∈ l, good66 y) : ∃ k, laws_FnExactOpenFaults.f k l = some true := by
  refine Ev.rounds ?_
  unfold laws_FnExactOpenFaults.f
  refine evb (szEntryS_eq l 1048576 (by omega) (by omega) h0.1) ?_
  by_cases h : (1048576 : Int) < l.length
  · rw [if_pos h]; exact evp (by omega) (Ev.now _)
  rw [if_neg h]
  refine evn (by omega) ?_
  have ll : (l.map cEntry).length ≤ 1048576 := by simp; omega
  have T := toEntryS_ev l (by omega)
  have E := eqEntryS_ev (l.map cEntry) (by omega)
  have M := markEntryS_ev (l.map cEntry) 1 (by omega) (by omega)
  obtain ⟨R, hR⟩ : ∃ R, openF (l.map cEntry) = R := ⟨_, rfl⟩
  have A := openF_spec (l.map cEntry) (by omega)
  have B := open_impl (l.map cEntry) (by omega)
  rw [hR] at A B
  have L := openF_len (l.map cEntry)
  rw [hR] at L
  have F := eqEntryS_ev R (by omega)
  have G := markEntryS_ev R 1 (by omega) (by omega)
  have H := heldEntryS_ev R.length 1 (by omega) (by omega)
  repeat' first
    | exact Ev.now _
    | refine Ev.bind T ?_
    | refine Ev.bind E ?_
    | refine Ev.bind M ?_
    | refine Ev.bind A ?_
    | refine evb B ?_
    | refine Ev.bind F ?_
    | refine Ev.bind G ?_
    | refine Ev.bind H ?_
    | refine evp rfl ?_
    | refine evn (by first | decide | (dsimp only; omega) | simp) ?_
    | refine Ev.step (fun k => by rw [laws_FnExactOpenFaults.j0]) ?_
end Go.Proofs.Ytnknnbpodpfljaa.Pure


namespace Go.Proofs.Ytnknnbpodpfljaa.fnExactOpenFaults
open Go.ChangeShapes Go.WideShapes Go.ChangeAt Go.RowKit Go.Proofs.Ytnknnbpodpfljaa.P Go.Proofs.Ytnknnbpodpfljaa.Q Go.Proofs.YtnknnbpodpfljaaW.PrintWords
open Go.ChangeMaps (open_string shut_string)
set_option linter.unusedVariables false
set_option linter.unusedSimpArgs false
theorem own : ownKnob Try.prog.godebug = none := by kernel_rfl
theorem laidOut : laidOutB Try.prog = true := by kernel_rfl
set_option maxRecDepth 100000 in
theorem lifted (os : Os) (started : os.Started) (H : Type) (enc : TypeId × Value → H) :
    ReturnsInHanded {} Try.checked os 7 .any (Rows.fnExactOpenFaultsSpec.pre6 enc Try.prog Try.f7 Rows.fnExactOpenFaultsRow.domain false) (Rows.fnExactOpenFaultsSpec.post enc Try.prog Try.f7 false true false false) := by
  refine returnsInHanded_of_change_sized (C := Try.checked) own started (by kernel_rfl) Try.func7
    (ChangeSpec.witness6 (enc := enc) (C := Try.checked) false ⟨#[], #[.slice none 0 0], []⟩ 8 (by kernel_rfl) (by kernel_rfl) (by kernel_rfl) (by kernel_rfl)) ?_
  intro W base args ds gs before hval0 hW hcnd hsz0 _
  have hval : ∀ (j : Nat) t v, Try.f7.params[j]? = some t → args[j]? = some v → Value.okWide Try.prog W .any base t v := hval0
  have hW' := hW
  obtain ⟨p, q, hA0, hV, rfl, hfz, hnd⟩ := hW
  have hA : DataW.TrodAll enc Try.prog W 0 (fun _ => true) true Try.f7.params.toList args.toList ds p := hA0
  rw [Try.params7] at hA hval
  obtain ⟨v0, vs0, d0, ds0, p0, q0, hargs, rfl, rfl, h0, r0⟩ := trodAll_cons hA
  obtain ⟨rfl, rfl, rfl⟩ := trodAll_nil r0
  obtain rfl : args = #[v0] := by cases args; simp_all
  obtain ⟨rfl, rfl⟩ := trodVars_none hV
  have k0 := h0
  have lt0 : ∀ x ∈ p0, x.block < W.heap.size := by obtain ⟨m, hm⟩ := k0; exact DataW.trod_lt m _ _ _ hm
  obtain ⟨fuel0, f0⟩ := h0
  obtain ⟨x0, K0, G0⟩ := (show Opens Try.prog W (Kd.slice 66 k66) 39 _ from Opens.slice z66 Try.underlying39 (by kernel_rfl) op66) H enc 0 _ _ fuel0 _ _ f0
  obtain ⟨len0, cap0, adr0, rfl⟩ : ∃ l c a, v0 = .slice a l c := by obtain ⟨a, l, c, e⟩ := okWide_slice Try.underlying39 (hval 0 39 v0 rfl rfl); exact ⟨l, c, a, e⟩
  obtain ⟨A0, c0, e0, hc0, hr0⟩ := K0
  simp [Value.cells] at e0
  obtain ⟨rfl, rfl, rfl⟩ := e0
  obtain ⟨k, hP⟩ := Pure.FnExactOpenFaults x0 G0
  refine (P.laws_FnExactOpenFaults.calls k _ _ x0 true W hr0 hc0 hP ⟨rfl⟩).mono fun e W' ⟨he, bel0⟩ => ?_
  have bel : Below W.heap.size W W' := bel0
  subst he
  exact ⟨_, rfl, _, _, _, [], _, [], hW', trodAll_mk1 (shut_bool Try.underlying4 _), (trodAll_cons_mk (Below.trod laidOut (by kernel_rfl) (of_decide_eq_true (by kernel_rfl)) k0 bel lt0) trodAll_mk0), rfl, bel.frame _, fun h => by cases h⟩
theorem over : Rows.fnExactOpenFaultsRow.holds Try.pinned (OpenSpec.ofChange Rows.fnExactOpenFaultsSpec) :=
  OpenClaim.holds_of_wide 7 Try.f7 rfl rfl rfl rfl rfl rfl rfl ⟨rfl, rfl, rfl, rfl, rfl⟩ rfl rfl rfl rfl rfl (by kernel_rfl) Try.func7 (by kernel_rfl)
    (of_decide_eq_true (by kernel_rfl)) (by unfold Func.isWrapper; first | (rw [if_pos (by decide +kernel)]; kernel_rfl) | (rw [if_neg (by decide +kernel)]; exact ⟨rfl, rfl⟩))
    (fun os started H enc _ => lifted os started H enc)
theorem proved : Rows.FnExactOpenFaultsSaid := over
#print axioms proved
end Go.Proofs.Ytnknnbpodpfljaa.fnExactOpenFaults
namespace Go.Proofs.Ytnknnbpodpfljaa
theorem fnExactOpenFaults_holds : Rows.FnExactOpenFaultsSaid := fnExactOpenFaults.proved
end Go.Proofs.Ytnknnbpodpfljaa

