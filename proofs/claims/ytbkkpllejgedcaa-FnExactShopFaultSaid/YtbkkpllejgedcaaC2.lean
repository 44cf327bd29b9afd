/- What functions of the program come to (f), that their calls come to just this (calls), and the plain laws over lists and numbers. No condition but those of the given row. -/
import Derived.Test.YtbkkpllejgedcaaC1
namespace Go.Proofs.Ytbkkpllejgedcaa.P
open Go.RowKit Go.Proofs.YtbkkpllejgedcaaW.PrintWords Go.Proofs.YtbkkpllejgedcaaW.PrintLast Go.Proofs.YtbkkpllejgedcaaW.PrintMore
attribute [local go_sem] max2_int min2_int max_two min_two max_three min_three max_four min_four
set_option linter.unusedVariables false
set_option linter.unusedSimpArgs false
def laws_heldEntryS.l0 : Nat → List (S74) → Int → Int → Option (Int)
  | 0, _, _, _ => none
  | k + 1, x0, x1, x5 => if x5 < (x0.length : Int) then (if 0 ≤ x5 then (if ((rd_T74 x0 x5).f0.f0) = x1 then (if ((rd_T74 x0 x5).f0.f1) = (wrap64 (x1 + 1)) then (if ((rd_T74 x0 x5).f1) = (wrap64 ((wrap64 (x1 + 1)) + 1)) then (if ((rd_T74 x0 x5).f2) = (wrap64 ((wrap64 ((wrap64 (x1 + 1)) + 1)) + 1)) then (laws_heldEntryS.l0 k x0 (wrap64 ((wrap64 ((wrap64 ((wrap64 (x1 + 1)) + 1)) + 1)) + 1)) (wrap64 (x5 + 1))) else (some (-1))) else (some (-1))) else (some (-1))) else (some (-1))) else (none)) else (some x1)
def laws_heldEntryS.f (k : Nat) (l0 : List (S74)) (a1 : Int) : Option (Int) := laws_heldEntryS.l0 k l0 a1 0
set_option maxHeartbeats 8000000 in
set_option maxRecDepth 100000 in
theorem laws_heldEntryS.calls (k : Nat) (A0 : Option Addr) (c0 : Nat) (l0 : List (S74)) (a1 : Int) (r : Int) (w : World) (hr0 : Kd.C k74 w A0 l0.length l0) (hc0 : l0.length ≤ c0) (h : laws_heldEntryS.f k l0 a1 = some r) :
    Calls Try.prog 54 #[.slice A0 l0.length c0, .int .i64 a1] w fun e w' => e = .returned (.int .i64 r) ∧ Drawn0 w w' := by
  have HR0 := Aside0.mk hr0
  have HC0 := Aside0.mk hc0
  clear hr0 hc0
  have H : (laws_heldEntryS.l0 k l0 a1 0) = some r := h
  clear h
  have H' := Aside0.mk H
  clear H
  go_enter Try.func54, Try.ntmps54
  go_wp2
  go_loopg [1, 5] k (fun kq v1 v5 w' => ∃ (x1_1 : Int) (x5_1 : Int), v1 = .int .i64 x1_1 ∧ v5 = .int .i64 x5_1 ∧ Aside0 (laws_heldEntryS.l0 kq l0 x1_1 x5_1 = some r) ∧ Aside0 (kq ≤ k) ∧ Drawn0 w w')
  case atStart => exact ⟨(a1), (0), (by first | rfl | (simp; done) | (simp [*]; done)), (by first | rfl | (simp; done) | (simp [*]; done)), H', ⟨Nat.le_refl _⟩, by repeat (first | exact Drawn0.refl _ | apply Drawn0.step)⟩
  case round =>
    clear H'
    try clear p2
    obtain ⟨x1_1, x5_1, rfl, rfl, HA, HK1, ⟨m1, rfl⟩⟩ := hrel
    cases gk with
    | zero => exact absurd HA.out (by simp [laws_heldEntryS.l0])
    | succ k1 =>
      have H := HA.out
      clear HA
      simp only [laws_heldEntryS.l0] at H
      by_cases c3 : x5_1 < (l0.length : Int)
      · rw [if_pos c3] at H
        have c3b0 : decide (x5_1 < (l0.length : Int)) = true := decide_eq_true c3
        clear c3
        by_cases c4 : 0 ≤ x5_1
        · rw [if_pos c4] at H
          have c4b0 : decide (0 ≤ x5_1) = true := decide_eq_true c4
          clear c4
          by_cases c5 : ((rd_T74 l0 x5_1).f0.f0) = x1_1
          · rw [if_pos c5] at H
            have c5b0 : (((rd_T74 l0 x5_1).f0.f0) == x1_1) = true := beq_iff_eq.mpr c5
            have c5b1 : (((rd_T74 l0 x5_1).f0.f0) != x1_1) = false := bne_eq_false_iff_eq.mpr c5
            clear c5
            by_cases c6 : ((rd_T74 l0 x5_1).f0.f1) = (wrap64 (x1_1 + 1))
            · rw [if_pos c6] at H
              have c6b0 : (((rd_T74 l0 x5_1).f0.f1) == (wrap64 (x1_1 + 1))) = true := beq_iff_eq.mpr c6
              have c6b1 : (((rd_T74 l0 x5_1).f0.f1) != (wrap64 (x1_1 + 1))) = false := bne_eq_false_iff_eq.mpr c6
              clear c6
              by_cases c7 : ((rd_T74 l0 x5_1).f1) = (wrap64 ((wrap64 (x1_1 + 1)) + 1))
              · rw [if_pos c7] at H
                have c7b0 : (((rd_T74 l0 x5_1).f1) == (wrap64 ((wrap64 (x1_1 + 1)) + 1))) = true := beq_iff_eq.mpr c7
                have c7b1 : (((rd_T74 l0 x5_1).f1) != (wrap64 ((wrap64 (x1_1 + 1)) + 1))) = false := bne_eq_false_iff_eq.mpr c7
                clear c7
                by_cases c8 : ((rd_T74 l0 x5_1).f2) = (wrap64 ((wrap64 ((wrap64 (x1_1 + 1)) + 1)) + 1))
                · rw [if_pos c8] at H
                  have c8b0 : (((rd_T74 l0 x5_1).f2) == (wrap64 ((wrap64 ((wrap64 (x1_1 + 1)) + 1)) + 1))) = true := beq_iff_eq.mpr c8
                  have c8b1 : (((rd_T74 l0 x5_1).f2) != (wrap64 ((wrap64 ((wrap64 (x1_1 + 1)) + 1)) + 1))) = false := bne_eq_false_iff_eq.mpr c8
                  clear c8
                  have H' := Aside0.mk H
                  clear H
                  have p428 : 0 ≤ (x5_1 : Int) := of_decide_eq_true (by first | (with_reducible assumption) | assumption)
                  have q428 : x5_1 < (l0.length : Int) := of_decide_eq_true (by first | (with_reducible assumption) | assumption)
                  obtain ⟨ad428, e428, hx428_0, hx428_1, hx428_2, hx428_3⟩ := at_T74 HR0.out x5_1 p428 q428
                  cases e428
                  replace p428 := eq_true p428
                  replace q428 := eq_true q428
                  have p429 : 0 ≤ (x5_1 : Int) := of_decide_eq_true (by first | (with_reducible assumption) | assumption)
                  have q429 : x5_1 < (l0.length : Int) := of_decide_eq_true (by first | (with_reducible assumption) | assumption)
                  obtain ⟨ad429, e429, hx429_0, hx429_1, hx429_2, hx429_3⟩ := at_T74 HR0.out x5_1 p429 q429
                  obtain rfl : ad428 = ad429 := (by injection e429)
                  replace p429 := eq_true p429
                  replace q429 := eq_true q429
                  have p430 : 0 ≤ (x5_1 : Int) := of_decide_eq_true (by first | (with_reducible assumption) | assumption)
                  have q430 : x5_1 < (l0.length : Int) := of_decide_eq_true (by first | (with_reducible assumption) | assumption)
                  obtain ⟨ad430, e430, hx430_0, hx430_1, hx430_2, hx430_3⟩ := at_T74 HR0.out x5_1 p430 q430
                  obtain rfl : ad428 = ad430 := (by injection e430)
                  replace p430 := eq_true p430
                  replace q430 := eq_true q430
                  have p431 : 0 ≤ (x5_1 : Int) := of_decide_eq_true (by first | (with_reducible assumption) | assumption)
                  have q431 : x5_1 < (l0.length : Int) := of_decide_eq_true (by first | (with_reducible assumption) | assumption)
                  obtain ⟨ad431, e431, hx431_0, hx431_1, hx431_2, hx431_3⟩ := at_T74 HR0.out x5_1 p431 q431
                  obtain rfl : ad428 = ad431 := (by injection e431)
                  replace p431 := eq_true p431
                  replace q431 := eq_true q431
                  go_wp2
                  go_roundg k1
                  case measure => have := HK1.out; omega
                  case rel => exact ⟨(wrap64 ((wrap64 ((wrap64 ((wrap64 (x1_1 + 1)) + 1)) + 1)) + 1)), (wrap64 (x5_1 + 1)), (by first | rfl | (simp; done) | (simp [*]; done)), (by first | rfl | (simp; done) | (simp [*]; done)), H', ⟨by have := HK1.out; omega⟩, by repeat (first | exact Drawn0.refl _ | apply Drawn0.step)⟩
                · rw [if_neg c8] at H
                  have c8b0 : (((rd_T74 l0 x5_1).f2) == (wrap64 ((wrap64 ((wrap64 (x1_1 + 1)) + 1)) + 1))) = false := beq_eq_false_iff_ne.mpr c8
                  have c8b1 : (((rd_T74 l0 x5_1).f2) != (wrap64 ((wrap64 ((wrap64 (x1_1 + 1)) + 1)) + 1))) = true := bne_iff_ne.mpr c8
                  obtain rfl := Option.some.inj H
                  have p428 : 0 ≤ (x5_1 : Int) := of_decide_eq_true (by first | (with_reducible assumption) | assumption)
                  have q428 : x5_1 < (l0.length : Int) := of_decide_eq_true (by first | (with_reducible assumption) | assumption)
                  obtain ⟨ad428, e428, hx428_0, hx428_1, hx428_2, hx428_3⟩ := at_T74 HR0.out x5_1 p428 q428
                  cases e428
                  replace p428 := eq_true p428
                  replace q428 := eq_true q428
                  have p429 : 0 ≤ (x5_1 : Int) := of_decide_eq_true (by first | (with_reducible assumption) | assumption)
                  have q429 : x5_1 < (l0.length : Int) := of_decide_eq_true (by first | (with_reducible assumption) | assumption)
                  obtain ⟨ad429, e429, hx429_0, hx429_1, hx429_2, hx429_3⟩ := at_T74 HR0.out x5_1 p429 q429
                  obtain rfl : ad428 = ad429 := (by injection e429)
                  replace p429 := eq_true p429
                  replace q429 := eq_true q429
                  have p430 : 0 ≤ (x5_1 : Int) := of_decide_eq_true (by first | (with_reducible assumption) | assumption)
                  have q430 : x5_1 < (l0.length : Int) := of_decide_eq_true (by first | (with_reducible assumption) | assumption)
                  obtain ⟨ad430, e430, hx430_0, hx430_1, hx430_2, hx430_3⟩ := at_T74 HR0.out x5_1 p430 q430
                  obtain rfl : ad428 = ad430 := (by injection e430)
                  replace p430 := eq_true p430
                  replace q430 := eq_true q430
                  have p431 : 0 ≤ (x5_1 : Int) := of_decide_eq_true (by first | (with_reducible assumption) | assumption)
                  have q431 : x5_1 < (l0.length : Int) := of_decide_eq_true (by first | (with_reducible assumption) | assumption)
                  obtain ⟨ad431, e431, hx431_0, hx431_1, hx431_2, hx431_3⟩ := at_T74 HR0.out x5_1 p431 q431
                  obtain rfl : ad428 = ad431 := (by injection e431)
                  replace p431 := eq_true p431
                  replace q431 := eq_true q431
                  go_wp2
                  go_ret
                  exact ⟨by first | rfl | (simp; done) | (simp [*]; done), by repeat (first | exact Drawn0.refl _ | apply Drawn0.step)⟩
              · rw [if_neg c7] at H
                have c7b0 : (((rd_T74 l0 x5_1).f1) == (wrap64 ((wrap64 (x1_1 + 1)) + 1))) = false := beq_eq_false_iff_ne.mpr c7
                have c7b1 : (((rd_T74 l0 x5_1).f1) != (wrap64 ((wrap64 (x1_1 + 1)) + 1))) = true := bne_iff_ne.mpr c7
                obtain rfl := Option.some.inj H
                have p428 : 0 ≤ (x5_1 : Int) := of_decide_eq_true (by first | (with_reducible assumption) | assumption)
                have q428 : x5_1 < (l0.length : Int) := of_decide_eq_true (by first | (with_reducible assumption) | assumption)
                obtain ⟨ad428, e428, hx428_0, hx428_1, hx428_2, hx428_3⟩ := at_T74 HR0.out x5_1 p428 q428
                cases e428
                replace p428 := eq_true p428
                replace q428 := eq_true q428
                have p429 : 0 ≤ (x5_1 : Int) := of_decide_eq_true (by first | (with_reducible assumption) | assumption)
                have q429 : x5_1 < (l0.length : Int) := of_decide_eq_true (by first | (with_reducible assumption) | assumption)
                obtain ⟨ad429, e429, hx429_0, hx429_1, hx429_2, hx429_3⟩ := at_T74 HR0.out x5_1 p429 q429
                obtain rfl : ad428 = ad429 := (by injection e429)
                replace p429 := eq_true p429
                replace q429 := eq_true q429
                have p430 : 0 ≤ (x5_1 : Int) := of_decide_eq_true (by first | (with_reducible assumption) | assumption)
                have q430 : x5_1 < (l0.length : Int) := of_decide_eq_true (by first | (with_reducible assumption) | assumption)
                obtain ⟨ad430, e430, hx430_0, hx430_1, hx430_2, hx430_3⟩ := at_T74 HR0.out x5_1 p430 q430
                obtain rfl : ad428 = ad430 := (by injection e430)
                replace p430 := eq_true p430
                replace q430 := eq_true q430
                go_wp2
                go_ret
                exact ⟨by first | rfl | (simp; done) | (simp [*]; done), by repeat (first | exact Drawn0.refl _ | apply Drawn0.step)⟩
            · rw [if_neg c6] at H
              have c6b0 : (((rd_T74 l0 x5_1).f0.f1) == (wrap64 (x1_1 + 1))) = false := beq_eq_false_iff_ne.mpr c6
              have c6b1 : (((rd_T74 l0 x5_1).f0.f1) != (wrap64 (x1_1 + 1))) = true := bne_iff_ne.mpr c6
              obtain rfl := Option.some.inj H
              have p428 : 0 ≤ (x5_1 : Int) := of_decide_eq_true (by first | (with_reducible assumption) | assumption)
              have q428 : x5_1 < (l0.length : Int) := of_decide_eq_true (by first | (with_reducible assumption) | assumption)
              obtain ⟨ad428, e428, hx428_0, hx428_1, hx428_2, hx428_3⟩ := at_T74 HR0.out x5_1 p428 q428
              cases e428
              replace p428 := eq_true p428
              replace q428 := eq_true q428
              have p429 : 0 ≤ (x5_1 : Int) := of_decide_eq_true (by first | (with_reducible assumption) | assumption)
              have q429 : x5_1 < (l0.length : Int) := of_decide_eq_true (by first | (with_reducible assumption) | assumption)
              obtain ⟨ad429, e429, hx429_0, hx429_1, hx429_2, hx429_3⟩ := at_T74 HR0.out x5_1 p429 q429
              obtain rfl : ad428 = ad429 := (by injection e429)
              replace p429 := eq_true p429
              replace q429 := eq_true q429
              go_wp2
              go_ret
              exact ⟨by first | rfl | (simp; done) | (simp [*]; done), by repeat (first | exact Drawn0.refl _ | apply Drawn0.step)⟩
          · rw [if_neg c5] at H
            have c5b0 : (((rd_T74 l0 x5_1).f0.f0) == x1_1) = false := beq_eq_false_iff_ne.mpr c5
            have c5b1 : (((rd_T74 l0 x5_1).f0.f0) != x1_1) = true := bne_iff_ne.mpr c5
            obtain rfl := Option.some.inj H
            have p428 : 0 ≤ (x5_1 : Int) := of_decide_eq_true (by first | (with_reducible assumption) | assumption)
            have q428 : x5_1 < (l0.length : Int) := of_decide_eq_true (by first | (with_reducible assumption) | assumption)
            obtain ⟨ad428, e428, hx428_0, hx428_1, hx428_2, hx428_3⟩ := at_T74 HR0.out x5_1 p428 q428
            cases e428
            replace p428 := eq_true p428
            replace q428 := eq_true q428
            go_wp2
            go_ret
            exact ⟨by first | rfl | (simp; done) | (simp [*]; done), by repeat (first | exact Drawn0.refl _ | apply Drawn0.step)⟩
        · rw [if_neg c4] at H
          exact absurd H (by simp)
      · rw [if_neg c3] at H
        have c3b0 : decide (x5_1 < (l0.length : Int)) = false := decide_eq_false c3
        clear c3
        obtain rfl := Option.some.inj H
        go_wp2
        go_ret
        exact ⟨by first | rfl | (simp; done) | (simp [*]; done), by repeat (first | exact Drawn0.refl _ | apply Drawn0.step)⟩
end Go.Proofs.Ytbkkpllejgedcaa.P


namespace Go.Proofs.Ytbkkpllejgedcaa.P
open Go.RowKit Go.Proofs.YtbkkpllejgedcaaW.PrintWords Go.Proofs.YtbkkpllejgedcaaW.PrintLast Go.Proofs.YtbkkpllejgedcaaW.PrintMore
attribute [local go_sem] max2_int min2_int max_two min_two max_three min_three max_four min_four
set_option linter.unusedVariables false
set_option linter.unusedSimpArgs false
def laws_heldStepS.l0 : Nat → List (S96) → Int → Int → Option (Int)
  | 0, _, _, _ => none
  | k + 1, x0, x1, x5 => if x5 < (x0.length : Int) then (if 0 ≤ x5 then (if ((rd_T96 x0 x5).f0) = x1 then (if ((rd_T96 x0 x5).f1) = (wrap64 (x1 + 1)) then (if ((rd_T96 x0 x5).f2) = (wrap64 ((wrap64 (x1 + 1)) + 1)) then (if ((rd_T96 x0 x5).f3) = (wrap64 ((wrap64 ((wrap64 (x1 + 1)) + 1)) + 1)) then (laws_heldStepS.l0 k x0 (wrap64 ((wrap64 ((wrap64 ((wrap64 (x1 + 1)) + 1)) + 1)) + 1)) (wrap64 (x5 + 1))) else (some (-1))) else (some (-1))) else (some (-1))) else (some (-1))) else (none)) else (some x1)
def laws_heldStepS.f (k : Nat) (l0 : List (S96)) (a1 : Int) : Option (Int) := laws_heldStepS.l0 k l0 a1 0
set_option maxHeartbeats 8000000 in
set_option maxRecDepth 100000 in
theorem laws_heldStepS.calls (k : Nat) (A0 : Option Addr) (c0 : Nat) (l0 : List (S96)) (a1 : Int) (r : Int) (w : World) (hr0 : Kd.C k96 w A0 l0.length l0) (hc0 : l0.length ≤ c0) (h : laws_heldStepS.f k l0 a1 = some r) :
    Calls Try.prog 114 #[.slice A0 l0.length c0, .int .i64 a1] w fun e w' => e = .returned (.int .i64 r) ∧ Drawn0 w w' := by
  have HR0 := Aside0.mk hr0
  have HC0 := Aside0.mk hc0
  clear hr0 hc0
  have H : (laws_heldStepS.l0 k l0 a1 0) = some r := h
  clear h
  have H' := Aside0.mk H
  clear H
  go_enter Try.func114, Try.ntmps114
  go_wp2
  go_loopg [1, 5] k (fun kq v1 v5 w' => ∃ (x1_1 : Int) (x5_1 : Int), v1 = .int .i64 x1_1 ∧ v5 = .int .i64 x5_1 ∧ Aside0 (laws_heldStepS.l0 kq l0 x1_1 x5_1 = some r) ∧ Aside0 (kq ≤ k) ∧ Drawn0 w w')
  case atStart => exact ⟨(a1), (0), (by first | rfl | (simp; done) | (simp [*]; done)), (by first | rfl | (simp; done) | (simp [*]; done)), H', ⟨Nat.le_refl _⟩, by repeat (first | exact Drawn0.refl _ | apply Drawn0.step)⟩
  case round =>
    clear H'
    try clear c1
    try clear p2
    obtain ⟨x1_1, x5_1, rfl, rfl, HA, HK1, ⟨m1, rfl⟩⟩ := hrel
    cases gk with
    | zero => exact absurd HA.out (by simp [laws_heldStepS.l0])
    | succ k1 =>
      have H := HA.out
      clear HA
      simp only [laws_heldStepS.l0] at H
      by_cases c3 : x5_1 < (l0.length : Int)
      · rw [if_pos c3] at H
        have c3b0 : decide (x5_1 < (l0.length : Int)) = true := decide_eq_true c3
        clear c3
        by_cases c4 : 0 ≤ x5_1
        · rw [if_pos c4] at H
          have c4b0 : decide (0 ≤ x5_1) = true := decide_eq_true c4
          clear c4
          by_cases c5 : ((rd_T96 l0 x5_1).f0) = x1_1
          · rw [if_pos c5] at H
            have c5b0 : (((rd_T96 l0 x5_1).f0) == x1_1) = true := beq_iff_eq.mpr c5
            have c5b1 : (((rd_T96 l0 x5_1).f0) != x1_1) = false := bne_eq_false_iff_eq.mpr c5
            clear c5
            by_cases c6 : ((rd_T96 l0 x5_1).f1) = (wrap64 (x1_1 + 1))
            · rw [if_pos c6] at H
              have c6b0 : (((rd_T96 l0 x5_1).f1) == (wrap64 (x1_1 + 1))) = true := beq_iff_eq.mpr c6
              have c6b1 : (((rd_T96 l0 x5_1).f1) != (wrap64 (x1_1 + 1))) = false := bne_eq_false_iff_eq.mpr c6
              clear c6
              by_cases c7 : ((rd_T96 l0 x5_1).f2) = (wrap64 ((wrap64 (x1_1 + 1)) + 1))
              · rw [if_pos c7] at H
                have c7b0 : (((rd_T96 l0 x5_1).f2) == (wrap64 ((wrap64 (x1_1 + 1)) + 1))) = true := beq_iff_eq.mpr c7
                have c7b1 : (((rd_T96 l0 x5_1).f2) != (wrap64 ((wrap64 (x1_1 + 1)) + 1))) = false := bne_eq_false_iff_eq.mpr c7
                clear c7
                by_cases c8 : ((rd_T96 l0 x5_1).f3) = (wrap64 ((wrap64 ((wrap64 (x1_1 + 1)) + 1)) + 1))
                · rw [if_pos c8] at H
                  have c8b0 : (((rd_T96 l0 x5_1).f3) == (wrap64 ((wrap64 ((wrap64 (x1_1 + 1)) + 1)) + 1))) = true := beq_iff_eq.mpr c8
                  have c8b1 : (((rd_T96 l0 x5_1).f3) != (wrap64 ((wrap64 ((wrap64 (x1_1 + 1)) + 1)) + 1))) = false := bne_eq_false_iff_eq.mpr c8
                  clear c8
                  have H' := Aside0.mk H
                  clear H
                  have p432 : 0 ≤ (x5_1 : Int) := of_decide_eq_true (by first | (with_reducible assumption) | assumption)
                  have q432 : x5_1 < (l0.length : Int) := of_decide_eq_true (by first | (with_reducible assumption) | assumption)
                  obtain ⟨ad432, e432, hx432_0, hx432_1, hx432_2, hx432_3⟩ := at_T96 HR0.out x5_1 p432 q432
                  cases e432
                  replace p432 := eq_true p432
                  replace q432 := eq_true q432
                  have p433 : 0 ≤ (x5_1 : Int) := of_decide_eq_true (by first | (with_reducible assumption) | assumption)
                  have q433 : x5_1 < (l0.length : Int) := of_decide_eq_true (by first | (with_reducible assumption) | assumption)
                  obtain ⟨ad433, e433, hx433_0, hx433_1, hx433_2, hx433_3⟩ := at_T96 HR0.out x5_1 p433 q433
                  obtain rfl : ad432 = ad433 := (by injection e433)
                  replace p433 := eq_true p433
                  replace q433 := eq_true q433
                  have p434 : 0 ≤ (x5_1 : Int) := of_decide_eq_true (by first | (with_reducible assumption) | assumption)
                  have q434 : x5_1 < (l0.length : Int) := of_decide_eq_true (by first | (with_reducible assumption) | assumption)
                  obtain ⟨ad434, e434, hx434_0, hx434_1, hx434_2, hx434_3⟩ := at_T96 HR0.out x5_1 p434 q434
                  obtain rfl : ad432 = ad434 := (by injection e434)
                  replace p434 := eq_true p434
                  replace q434 := eq_true q434
                  have p435 : 0 ≤ (x5_1 : Int) := of_decide_eq_true (by first | (with_reducible assumption) | assumption)
                  have q435 : x5_1 < (l0.length : Int) := of_decide_eq_true (by first | (with_reducible assumption) | assumption)
                  obtain ⟨ad435, e435, hx435_0, hx435_1, hx435_2, hx435_3⟩ := at_T96 HR0.out x5_1 p435 q435
                  obtain rfl : ad432 = ad435 := (by injection e435)
                  replace p435 := eq_true p435
                  replace q435 := eq_true q435
                  go_wp2
                  go_roundg k1
                  case measure => have := HK1.out; omega
                  case rel => exact ⟨(wrap64 ((wrap64 ((wrap64 ((wrap64 (x1_1 + 1)) + 1)) + 1)) + 1)), (wrap64 (x5_1 + 1)), (by first | rfl | (simp; done) | (simp [*]; done)), (by first | rfl | (simp; done) | (simp [*]; done)), H', ⟨by have := HK1.out; omega⟩, by repeat (first | exact Drawn0.refl _ | apply Drawn0.step)⟩
                · rw [if_neg c8] at H
                  have c8b0 : (((rd_T96 l0 x5_1).f3) == (wrap64 ((wrap64 ((wrap64 (x1_1 + 1)) + 1)) + 1))) = false := beq_eq_false_iff_ne.mpr c8
                  have c8b1 : (((rd_T96 l0 x5_1).f3) != (wrap64 ((wrap64 ((wrap64 (x1_1 + 1)) + 1)) + 1))) = true := bne_iff_ne.mpr c8
                  obtain rfl := Option.some.inj H
                  have p432 : 0 ≤ (x5_1 : Int) := of_decide_eq_true (by first | (with_reducible assumption) | assumption)
                  have q432 : x5_1 < (l0.length : Int) := of_decide_eq_true (by first | (with_reducible assumption) | assumption)
                  obtain ⟨ad432, e432, hx432_0, hx432_1, hx432_2, hx432_3⟩ := at_T96 HR0.out x5_1 p432 q432
                  cases e432
                  replace p432 := eq_true p432
                  replace q432 := eq_true q432
                  have p433 : 0 ≤ (x5_1 : Int) := of_decide_eq_true (by first | (with_reducible assumption) | assumption)
                  have q433 : x5_1 < (l0.length : Int) := of_decide_eq_true (by first | (with_reducible assumption) | assumption)
                  obtain ⟨ad433, e433, hx433_0, hx433_1, hx433_2, hx433_3⟩ := at_T96 HR0.out x5_1 p433 q433
                  obtain rfl : ad432 = ad433 := (by injection e433)
                  replace p433 := eq_true p433
                  replace q433 := eq_true q433
                  have p434 : 0 ≤ (x5_1 : Int) := of_decide_eq_true (by first | (with_reducible assumption) | assumption)
                  have q434 : x5_1 < (l0.length : Int) := of_decide_eq_true (by first | (with_reducible assumption) | assumption)
                  obtain ⟨ad434, e434, hx434_0, hx434_1, hx434_2, hx434_3⟩ := at_T96 HR0.out x5_1 p434 q434
                  obtain rfl : ad432 = ad434 := (by injection e434)
                  replace p434 := eq_true p434
                  replace q434 := eq_true q434
                  have p435 : 0 ≤ (x5_1 : Int) := of_decide_eq_true (by first | (with_reducible assumption) | assumption)
                  have q435 : x5_1 < (l0.length : Int) := of_decide_eq_true (by first | (with_reducible assumption) | assumption)
                  obtain ⟨ad435, e435, hx435_0, hx435_1, hx435_2, hx435_3⟩ := at_T96 HR0.out x5_1 p435 q435
                  obtain rfl : ad432 = ad435 := (by injection e435)
                  replace p435 := eq_true p435
                  replace q435 := eq_true q435
                  go_wp2
                  go_ret
                  exact ⟨by first | rfl | (simp; done) | (simp [*]; done), by repeat (first | exact Drawn0.refl _ | apply Drawn0.step)⟩
              · rw [if_neg c7] at H
                have c7b0 : (((rd_T96 l0 x5_1).f2) == (wrap64 ((wrap64 (x1_1 + 1)) + 1))) = false := beq_eq_false_iff_ne.mpr c7
                have c7b1 : (((rd_T96 l0 x5_1).f2) != (wrap64 ((wrap64 (x1_1 + 1)) + 1))) = true := bne_iff_ne.mpr c7
                obtain rfl := Option.some.inj H
                have p432 : 0 ≤ (x5_1 : Int) := of_decide_eq_true (by first | (with_reducible assumption) | assumption)
                have q432 : x5_1 < (l0.length : Int) := of_decide_eq_true (by first | (with_reducible assumption) | assumption)
                obtain ⟨ad432, e432, hx432_0, hx432_1, hx432_2, hx432_3⟩ := at_T96 HR0.out x5_1 p432 q432
                cases e432
                replace p432 := eq_true p432
                replace q432 := eq_true q432
                have p433 : 0 ≤ (x5_1 : Int) := of_decide_eq_true (by first | (with_reducible assumption) | assumption)
                have q433 : x5_1 < (l0.length : Int) := of_decide_eq_true (by first | (with_reducible assumption) | assumption)
                obtain ⟨ad433, e433, hx433_0, hx433_1, hx433_2, hx433_3⟩ := at_T96 HR0.out x5_1 p433 q433
                obtain rfl : ad432 = ad433 := (by injection e433)
                replace p433 := eq_true p433
                replace q433 := eq_true q433
                have p434 : 0 ≤ (x5_1 : Int) := of_decide_eq_true (by first | (with_reducible assumption) | assumption)
                have q434 : x5_1 < (l0.length : Int) := of_decide_eq_true (by first | (with_reducible assumption) | assumption)
                obtain ⟨ad434, e434, hx434_0, hx434_1, hx434_2, hx434_3⟩ := at_T96 HR0.out x5_1 p434 q434
                obtain rfl : ad432 = ad434 := (by injection e434)
                replace p434 := eq_true p434
                replace q434 := eq_true q434
                go_wp2
                go_ret
                exact ⟨by first | rfl | (simp; done) | (simp [*]; done), by repeat (first | exact Drawn0.refl _ | apply Drawn0.step)⟩
            · rw [if_neg c6] at H
              have c6b0 : (((rd_T96 l0 x5_1).f1) == (wrap64 (x1_1 + 1))) = false := beq_eq_false_iff_ne.mpr c6
              have c6b1 : (((rd_T96 l0 x5_1).f1) != (wrap64 (x1_1 + 1))) = true := bne_iff_ne.mpr c6
              obtain rfl := Option.some.inj H
              have p432 : 0 ≤ (x5_1 : Int) := of_decide_eq_true (by first | (with_reducible assumption) | assumption)
              have q432 : x5_1 < (l0.length : Int) := of_decide_eq_true (by first | (with_reducible assumption) | assumption)
              obtain ⟨ad432, e432, hx432_0, hx432_1, hx432_2, hx432_3⟩ := at_T96 HR0.out x5_1 p432 q432
              cases e432
              replace p432 := eq_true p432
              replace q432 := eq_true q432
              have p433 : 0 ≤ (x5_1 : Int) := of_decide_eq_true (by first | (with_reducible assumption) | assumption)
              have q433 : x5_1 < (l0.length : Int) := of_decide_eq_true (by first | (with_reducible assumption) | assumption)
              obtain ⟨ad433, e433, hx433_0, hx433_1, hx433_2, hx433_3⟩ := at_T96 HR0.out x5_1 p433 q433
              obtain rfl : ad432 = ad433 := (by injection e433)
              replace p433 := eq_true p433
              replace q433 := eq_true q433
              go_wp2
              go_ret
              exact ⟨by first | rfl | (simp; done) | (simp [*]; done), by repeat (first | exact Drawn0.refl _ | apply Drawn0.step)⟩
          · rw [if_neg c5] at H
            have c5b0 : (((rd_T96 l0 x5_1).f0) == x1_1) = false := beq_eq_false_iff_ne.mpr c5
            have c5b1 : (((rd_T96 l0 x5_1).f0) != x1_1) = true := bne_iff_ne.mpr c5
            obtain rfl := Option.some.inj H
            have p432 : 0 ≤ (x5_1 : Int) := of_decide_eq_true (by first | (with_reducible assumption) | assumption)
            have q432 : x5_1 < (l0.length : Int) := of_decide_eq_true (by first | (with_reducible assumption) | assumption)
            obtain ⟨ad432, e432, hx432_0, hx432_1, hx432_2, hx432_3⟩ := at_T96 HR0.out x5_1 p432 q432
            cases e432
            replace p432 := eq_true p432
            replace q432 := eq_true q432
            go_wp2
            go_ret
            exact ⟨by first | rfl | (simp; done) | (simp [*]; done), by repeat (first | exact Drawn0.refl _ | apply Drawn0.step)⟩
        · rw [if_neg c4] at H
          exact absurd H (by simp)
      · rw [if_neg c3] at H
        have c3b0 : decide (x5_1 < (l0.length : Int)) = false := decide_eq_false c3
        clear c3
        obtain rfl := Option.some.inj H
        go_wp2
        go_ret
        exact ⟨by first | rfl | (simp; done) | (simp [*]; done), by repeat (first | exact Drawn0.refl _ | apply Drawn0.step)⟩
end Go.Proofs.Ytbkkpllejgedcaa.P


namespace Go.Proofs.Ytbkkpllejgedcaa.P
open Go.RowKit Go.Proofs.YtbkkpllejgedcaaW.PrintWords Go.Proofs.YtbkkpllejgedcaaW.PrintLast Go.Proofs.YtbkkpllejgedcaaW.PrintMore
attribute [local go_sem] max2_int min2_int max_two min_two max_three min_three max_four min_four
set_option linter.unusedVariables false
set_option linter.unusedSimpArgs false
def laws_heldIntS.l0 : Nat → List Int → Int → Int → Option (Int)
  | 0, _, _, _ => none
  | k + 1, x0, x1, x5 => if x5 < (x0.length : Int) then (if 0 ≤ x5 then (if (rd x0 x5) = x1 then (laws_heldIntS.l0 k x0 (wrap64 (x1 + 1)) (wrap64 (x5 + 1))) else (some (-1))) else (none)) else (some x1)
def laws_heldIntS.f (k : Nat) (l0 : List Int) (a1 : Int) : Option (Int) := laws_heldIntS.l0 k l0 a1 0
set_option maxHeartbeats 8000000 in
set_option maxRecDepth 100000 in
theorem laws_heldIntS.calls (k : Nat) (A0 : Option Addr) (c0 : Nat) (l0 : List Int) (a1 : Int) (r : Int) (w : World) (hr0 : Kd.C (Kd.int .i64) w A0 l0.length l0) (hc0 : l0.length ≤ c0) (h : laws_heldIntS.f k l0 a1 = some r) :
    Calls Try.prog 115 #[.slice A0 l0.length c0, .int .i64 a1] w fun e w' => e = .returned (.int .i64 r) ∧ Drawn0 w w' := by
  have HR0 := Aside0.mk hr0
  have HC0 := Aside0.mk hc0
  clear hr0 hc0
  have H : (laws_heldIntS.l0 k l0 a1 0) = some r := h
  clear h
  have H' := Aside0.mk H
  clear H
  go_enter Try.func115, Try.ntmps115
  go_wp2
  go_loopg [1, 5] k (fun kq v1 v5 w' => ∃ (x1_1 : Int) (x5_1 : Int), v1 = .int .i64 x1_1 ∧ v5 = .int .i64 x5_1 ∧ Aside0 (laws_heldIntS.l0 kq l0 x1_1 x5_1 = some r) ∧ Aside0 (kq ≤ k) ∧ Drawn0 w w')
  case atStart => exact ⟨(a1), (0), (by first | rfl | (simp; done) | (simp [*]; done)), (by first | rfl | (simp; done) | (simp [*]; done)), H', ⟨Nat.le_refl _⟩, by repeat (first | exact Drawn0.refl _ | apply Drawn0.step)⟩
  case round =>
    clear H'
    try clear c1
    try clear p2
    obtain ⟨x1_1, x5_1, rfl, rfl, HA, HK1, ⟨m1, rfl⟩⟩ := hrel
    cases gk with
    | zero => exact absurd HA.out (by simp [laws_heldIntS.l0])
    | succ k1 =>
      have H := HA.out
      clear HA
      simp only [laws_heldIntS.l0] at H
      by_cases c3 : x5_1 < (l0.length : Int)
      · rw [if_pos c3] at H
        have c3b0 : decide (x5_1 < (l0.length : Int)) = true := decide_eq_true c3
        clear c3
        by_cases c4 : 0 ≤ x5_1
        · rw [if_pos c4] at H
          have c4b0 : decide (0 ≤ x5_1) = true := decide_eq_true c4
          clear c4
          by_cases c5 : (rd l0 x5_1) = x1_1
          · rw [if_pos c5] at H
            have c5b0 : ((rd l0 x5_1) == x1_1) = true := beq_iff_eq.mpr c5
            have c5b1 : ((rd l0 x5_1) != x1_1) = false := bne_eq_false_iff_eq.mpr c5
            clear c5
            have H' := Aside0.mk H
            clear H
            have p436 : 0 ≤ (x5_1 : Int) := of_decide_eq_true (by first | (with_reducible assumption) | assumption)
            have q436 : x5_1 < (l0.length : Int) := of_decide_eq_true (by first | (with_reducible assumption) | assumption)
            obtain ⟨ad436, e436, hx436_0⟩ := Kd.at_int HR0.out x5_1 p436 q436
            cases e436
            replace p436 := eq_true p436
            replace q436 := eq_true q436
            go_wp2
            go_roundg k1
            case measure => have := HK1.out; omega
            case rel => exact ⟨(wrap64 (x1_1 + 1)), (wrap64 (x5_1 + 1)), (by first | rfl | (simp; done) | (simp [*]; done)), (by first | rfl | (simp; done) | (simp [*]; done)), H', ⟨by have := HK1.out; omega⟩, by repeat (first | exact Drawn0.refl _ | apply Drawn0.step)⟩
          · rw [if_neg c5] at H
            have c5b0 : ((rd l0 x5_1) == x1_1) = false := beq_eq_false_iff_ne.mpr c5
            have c5b1 : ((rd l0 x5_1) != x1_1) = true := bne_iff_ne.mpr c5
            obtain rfl := Option.some.inj H
            have p436 : 0 ≤ (x5_1 : Int) := of_decide_eq_true (by first | (with_reducible assumption) | assumption)
            have q436 : x5_1 < (l0.length : Int) := of_decide_eq_true (by first | (with_reducible assumption) | assumption)
            obtain ⟨ad436, e436, hx436_0⟩ := Kd.at_int HR0.out x5_1 p436 q436
            cases e436
            replace p436 := eq_true p436
            replace q436 := eq_true q436
            go_wp2
            go_ret
            exact ⟨by first | rfl | (simp; done) | (simp [*]; done), by repeat (first | exact Drawn0.refl _ | apply Drawn0.step)⟩
        · rw [if_neg c4] at H
          exact absurd H (by simp)
      · rw [if_neg c3] at H
        have c3b0 : decide (x5_1 < (l0.length : Int)) = false := decide_eq_false c3
        clear c3
        obtain rfl := Option.some.inj H
        go_wp2
        go_ret
        exact ⟨by first | rfl | (simp; done) | (simp [*]; done), by repeat (first | exact Drawn0.refl _ | apply Drawn0.step)⟩
end Go.Proofs.Ytbkkpllejgedcaa.P


namespace Go.Proofs.Ytbkkpllejgedcaa.P
open Go.RowKit Go.Proofs.YtbkkpllejgedcaaW.PrintWords Go.Proofs.YtbkkpllejgedcaaW.PrintLast Go.Proofs.YtbkkpllejgedcaaW.PrintMore Go.Proofs.Ytbkkpllejgedcaa.V
attribute [local go_sem] cell_b frozen_b
attribute [local go_sem] max2_int min2_int max_two min_two max_three min_three max_four min_four
set_option linter.unusedVariables false
set_option linter.unusedSimpArgs false
def laws_heldWork.f (k : Nat) (l0_0 : List (S96)) (a0_1 : Int) (l0_2 : List Int) (a1 : Int) : Option (Int) := (laws_heldStepS.f k l0_0 a1).bind fun t438 => (if t438 < 0 then (some (-1)) else ((laws_heldIntS.f k l0_2 t438).bind fun t439 => (if t439 < 0 then (some (-1)) else (some t439))))
set_option maxHeartbeats 8000000 in
set_option maxRecDepth 100000 in
set_option synthInstance.maxHeartbeats 400000 in
set_option synthInstance.maxSize 100000 in
theorem laws_heldWork.calls (k : Nat) (A0_0 : Option Addr) (c0_0 : Nat) (l0_0 : List (S96)) (a0_1 : Int) (A0_2 : Option Addr) (c0_2 : Nat) (l0_2 : List Int) (a1 : Int) (r : Int) (w : World) (hr0_0 : Kd.C k96 w A0_0 l0_0.length l0_0) (hc0_0 : l0_0.length ≤ c0_0) (hr0_2 : Kd.C (Kd.int .i64) w A0_2 l0_2.length l0_2) (hc0_2 : l0_2.length ≤ c0_2) (h : laws_heldWork.f k l0_0 a0_1 l0_2 a1 = some r) :
    Calls Try.prog 78 #[.agg #[.slice A0_0 l0_0.length c0_0, .int .i64 a0_1, .slice A0_2 l0_2.length c0_2], .int .i64 a1] w fun e w' => e = .returned (.int .i64 r) ∧ Below w.heap.size w w' := by
  have ihr0_0 := RdE.mk hr0_0
  have ihc0_0 := LeI.mk hc0_0
  have ihr0_2 := RdE.mk hr0_2
  have ihc0_2 := LeI.mk hc0_2
  clear hr0_0 hc0_0 hr0_2 hc0_2
  unfold laws_heldWork.f at h
  have hu33 := Try.underlying33
  (repeat' first | ((with_reducible replace h := ite_some h); rcases h with ⟨hc, h⟩ | ⟨hc, h⟩ <;> first | exact (none_some h).elim | exact absurd hc (by decide) | subst hc | (replace hc := Bool.eq_false_iff.mpr hc; subst hc) | (have hd := beq_iff_eq.mpr hc; have he := bne_eq_false_iff_eq.mpr hc; clear hc) | (have hd := beq_eq_false_iff_ne.mpr hc; have he := bne_iff_ne.mpr hc) | (have hd := decide_eq_false hc) | (have hd := decide_eq_true hc) | skip))
  all_goals go_enter Try.func78, Try.ntmps78
  all_goals go_wp2_with (first
    | ((with_reducible refine gate_dst (N := 2) rfl ?_); refine box_event rfl (N := 2) rfl (cs := #[.slice A0_0 l0_0.length c0_0, .int .i64 a0_1, .slice A0_2 l0_2.length c0_2]) (t := 33) (by first | (go_simp; done) | (go_simp; rfl)) ?_; intro g hg w1 hk hb; have j1 := Born.mk hg; have j2 := Bel.mk hb; have j3 := Blk.mk hk; clear hg hb hk)
    | (go_at_call 114; replace h := Option.bind_eq_some_iff.mp h; obtain ⟨t, A, h⟩ := h; (try dsimp only at h); refine (laws_heldStepS.calls _ _ _ _ _ _ _ Rd.out LeI.out A).mono ?_; rintro e w2 ⟨rfl, n, rfl⟩; clear A; (repeat' first | ((with_reducible replace h := ite_some h); rcases h with ⟨hc, h⟩ | ⟨hc, h⟩ <;> first | exact (none_some h).elim | exact absurd hc (by decide) | subst hc | (replace hc := Bool.eq_false_iff.mpr hc; subst hc) | (have hd := beq_iff_eq.mpr hc; have he := bne_eq_false_iff_eq.mpr hc; clear hc) | (have hd := beq_eq_false_iff_ne.mpr hc; have he := bne_iff_ne.mpr hc) | (have hd := decide_eq_false hc) | (have hd := decide_eq_true hc) | skip)))
    | (go_at_call 115; replace h := Option.bind_eq_some_iff.mp h; obtain ⟨t, A, h⟩ := h; (try dsimp only at h); refine (laws_heldIntS.calls _ _ _ _ _ _ _ Rd.out LeI.out A).mono ?_; rintro e w2 ⟨rfl, n, rfl⟩; clear A; (repeat' first | ((with_reducible replace h := ite_some h); rcases h with ⟨hc, h⟩ | ⟨hc, h⟩ <;> first | exact (none_some h).elim | exact absurd hc (by decide) | subst hc | (replace hc := Bool.eq_false_iff.mpr hc; subst hc) | (have hd := beq_iff_eq.mpr hc; have he := bne_eq_false_iff_eq.mpr hc; clear hc) | (have hd := beq_eq_false_iff_ne.mpr hc; have he := bne_iff_ne.mpr hc) | (have hd := decide_eq_false hc) | (have hd := decide_eq_true hc) | skip))))
  all_goals (repeat' first | ((with_reducible replace h := ite_some h); rcases h with ⟨hc, h⟩ | ⟨hc, h⟩ <;> first | exact (none_some h).elim | exact absurd hc (by decide) | subst hc | (replace hc := Bool.eq_false_iff.mpr hc; subst hc) | (have hd := beq_iff_eq.mpr hc; have he := bne_eq_false_iff_eq.mpr hc; clear hc) | (have hd := beq_eq_false_iff_ne.mpr hc; have he := bne_iff_ne.mpr hc) | (have hd := decide_eq_false hc) | (have hd := decide_eq_true hc) | skip))
  all_goals obtain rfl := Option.some.inj h
  all_goals go_ret
  all_goals exact ⟨rfl, From.out⟩
end Go.Proofs.Ytbkkpllejgedcaa.P


namespace Go.Proofs.Ytbkkpllejgedcaa.P
open Go.RowKit Go.Proofs.YtbkkpllejgedcaaW.PrintWords Go.Proofs.YtbkkpllejgedcaaW.PrintLast Go.Proofs.YtbkkpllejgedcaaW.PrintMore Go.Proofs.Ytbkkpllejgedcaa.V
attribute [local go_sem] cell_b frozen_b
attribute [local go_sem] max2_int min2_int max_two min_two max_three min_three max_four min_four
set_option linter.unusedVariables false
set_option linter.unusedSimpArgs false
def laws_heldShop.f (k : Nat) (l0_0 : List (S96)) (a0_1 : Int) (l0_2 : List Int) (a0_3 : Int) (a0_4 : Int) (l0_5 : List (S74)) (a1 : Int) : Option (Int) := (laws_heldWork.f k l0_0 a0_1 l0_2 a1).bind fun t441 => (if t441 < 0 then (some (-1)) else ((laws_heldEntryS.f k l0_5 t441).bind fun t442 => (if t442 < 0 then (some (-1)) else (some t442))))
set_option maxHeartbeats 8000000 in
set_option maxRecDepth 100000 in
set_option synthInstance.maxHeartbeats 400000 in
set_option synthInstance.maxSize 100000 in
theorem laws_heldShop.calls (k : Nat) (A0_0 : Option Addr) (c0_0 : Nat) (l0_0 : List (S96)) (a0_1 : Int) (A0_2 : Option Addr) (c0_2 : Nat) (l0_2 : List Int) (a0_3 : Int) (a0_4 : Int) (A0_5 : Option Addr) (c0_5 : Nat) (l0_5 : List (S74)) (a1 : Int) (r : Int) (w : World) (hr0_0 : Kd.C k96 w A0_0 l0_0.length l0_0) (hc0_0 : l0_0.length ≤ c0_0) (hr0_2 : Kd.C (Kd.int .i64) w A0_2 l0_2.length l0_2) (hc0_2 : l0_2.length ≤ c0_2) (hr0_5 : Kd.C k74 w A0_5 l0_5.length l0_5) (hc0_5 : l0_5.length ≤ c0_5) (h : laws_heldShop.f k l0_0 a0_1 l0_2 a0_3 a0_4 l0_5 a1 = some r) :
    Calls Try.prog 29 #[.agg #[.slice A0_0 l0_0.length c0_0, .int .i64 a0_1, .slice A0_2 l0_2.length c0_2, .int .i64 a0_3, .int .i64 a0_4, .slice A0_5 l0_5.length c0_5], .int .i64 a1] w fun e w' => e = .returned (.int .i64 r) ∧ Below w.heap.size w w' := by
  have ihr0_0 := RdE.mk hr0_0
  have ihc0_0 := LeI.mk hc0_0
  have ihr0_2 := RdE.mk hr0_2
  have ihc0_2 := LeI.mk hc0_2
  have ihr0_5 := RdE.mk hr0_5
  have ihc0_5 := LeI.mk hc0_5
  clear hr0_0 hc0_0 hr0_2 hc0_2 hr0_5 hc0_5
  unfold laws_heldShop.f at h
  have hu36 := Try.underlying36
  (repeat' first | ((with_reducible replace h := ite_some h); rcases h with ⟨hc, h⟩ | ⟨hc, h⟩ <;> first | exact (none_some h).elim | exact absurd hc (by decide) | subst hc | (replace hc := Bool.eq_false_iff.mpr hc; subst hc) | (have hd := beq_iff_eq.mpr hc; have he := bne_eq_false_iff_eq.mpr hc; clear hc) | (have hd := beq_eq_false_iff_ne.mpr hc; have he := bne_iff_ne.mpr hc) | (have hd := decide_eq_false hc) | (have hd := decide_eq_true hc) | skip))
  all_goals go_enter Try.func29, Try.ntmps29
  all_goals go_wp2_with (first
    | ((with_reducible refine gate_dst (N := 2) rfl ?_); refine box_event rfl (N := 2) rfl (cs := #[.slice A0_0 l0_0.length c0_0, .int .i64 a0_1, .slice A0_2 l0_2.length c0_2, .int .i64 a0_3, .int .i64 a0_4, .slice A0_5 l0_5.length c0_5]) (t := 36) (by first | (go_simp; done) | (go_simp; rfl)) ?_; intro g hg w1 hk hb; have j1 := Born.mk hg; have j2 := Bel.mk hb; have j3 := Blk.mk hk; clear hg hb hk)
    | (go_at_call 78; replace h := Option.bind_eq_some_iff.mp h; obtain ⟨t, A, h⟩ := h; (try dsimp only at h); refine (laws_heldWork.calls _ _ _ _ _ _ _ _ _ _ _ Rd.out LeI.out Rd.out LeI.out A).mono ?_; rintro e w2 ⟨rfl, hb⟩; have jb := Bel.mk hb; clear A hb; (repeat' first | ((with_reducible replace h := ite_some h); rcases h with ⟨hc, h⟩ | ⟨hc, h⟩ <;> first | exact (none_some h).elim | exact absurd hc (by decide) | subst hc | (replace hc := Bool.eq_false_iff.mpr hc; subst hc) | (have hd := beq_iff_eq.mpr hc; have he := bne_eq_false_iff_eq.mpr hc; clear hc) | (have hd := beq_eq_false_iff_ne.mpr hc; have he := bne_iff_ne.mpr hc) | (have hd := decide_eq_false hc) | (have hd := decide_eq_true hc) | skip)))
    | (go_at_call 54; replace h := Option.bind_eq_some_iff.mp h; obtain ⟨t, A, h⟩ := h; (try dsimp only at h); refine (laws_heldEntryS.calls _ _ _ _ _ _ _ Rd.out LeI.out A).mono ?_; rintro e w2 ⟨rfl, n, rfl⟩; clear A; (repeat' first | ((with_reducible replace h := ite_some h); rcases h with ⟨hc, h⟩ | ⟨hc, h⟩ <;> first | exact (none_some h).elim | exact absurd hc (by decide) | subst hc | (replace hc := Bool.eq_false_iff.mpr hc; subst hc) | (have hd := beq_iff_eq.mpr hc; have he := bne_eq_false_iff_eq.mpr hc; clear hc) | (have hd := beq_eq_false_iff_ne.mpr hc; have he := bne_iff_ne.mpr hc) | (have hd := decide_eq_false hc) | (have hd := decide_eq_true hc) | skip))))
  all_goals (repeat' first | ((with_reducible replace h := ite_some h); rcases h with ⟨hc, h⟩ | ⟨hc, h⟩ <;> first | exact (none_some h).elim | exact absurd hc (by decide) | subst hc | (replace hc := Bool.eq_false_iff.mpr hc; subst hc) | (have hd := beq_iff_eq.mpr hc; have he := bne_eq_false_iff_eq.mpr hc; clear hc) | (have hd := beq_eq_false_iff_ne.mpr hc; have he := bne_iff_ne.mpr hc) | (have hd := decide_eq_false hc) | (have hd := decide_eq_true hc) | skip))
  all_goals obtain rfl := Option.some.inj h
  all_goals go_ret
  all_goals exact ⟨rfl, From.out⟩
end Go.Proofs.Ytbkkpllejgedcaa.P


namespace Go.Proofs.Ytbkkpllejgedcaa.Q
set_option linter.unusedVariables false
set_option linter.unusedSimpArgs false
open Go.RowKit Go.Proofs.Ytbkkpllejgedcaa.P
def entOk (e : S74) : Bool := decide (0 ≤ e.f0.f0 ∧ e.f0.f0 ≤ 3) && (decide (0 ≤ e.f0.f1 ∧ e.f0.f1 ≤ 39) && (decide (0 ≤ e.f1 ∧ e.f1 ≤ 2) && decide (0 ≤ e.f2 ∧ e.f2 ≤ 100000)))
def logGo : Int → List S74 → Bool
  | _, [] => true
  | p, e :: r => entOk e && (decide (p ≤ e.f2) && logGo e.f2 r)
def logOk (l : List S74) : Bool := logGo 0 l && decide (l.length ≤ 30)
def prevM (l : List S74) (i : Nat) : Int := if i = 0 then 0 else (l.getD (i - 1) z74).f2
theorem prevM_succ (l : List S74) (i : Nat) (h : i < l.length) : prevM l (i + 1) = l[i].f2 := by simp [prevM, List.getD_eq_getElem?_getD, h]
theorem prevM_pos (l : List S74) (i : Nat) (h0 : 0 < i) (h : i < l.length) : prevM l i = l[i - 1].f2 := by
  simp [prevM, List.getD_eq_getElem?_getD, show i ≠ 0 by omega, show i - 1 < l.length by omega]
theorem logGo_at (l : List S74) (i : Nat) (h : i < l.length) : logGo (prevM l i) (l.drop i) = (entOk l[i] && (decide (prevM l i ≤ l[i].f2) && logGo (prevM l (i + 1)) (l.drop (i + 1)))) := by
  rw [List.drop_eq_getElem_cons h, prevM_succ l i h]; rfl
end Go.Proofs.Ytbkkpllejgedcaa.Q


namespace Go.Proofs.Ytbkkpllejgedcaa.P
open Go.RowKit Go.Proofs.YtbkkpllejgedcaaW.PrintWords Go.Proofs.YtbkkpllejgedcaaW.PrintLast Go.Proofs.YtbkkpllejgedcaaW.PrintMore
attribute [local go_sem] max2_int min2_int max_two min_two max_three min_three max_four min_four
set_option linter.unusedVariables false
set_option linter.unusedSimpArgs false
def impl_within.f (a0 : Int) (a1 : Int) (a2 : Int) : Option (Bool) := if a1 ≤ a0 then (some (decide (a0 ≤ a2))) else (some false)
set_option maxHeartbeats 8000000 in
set_option maxRecDepth 100000 in
theorem impl_within.calls (a0 : Int) (a1 : Int) (a2 : Int) (r : Bool) (w : World) (h : impl_within.f a0 a1 a2 = some r) :
    Calls Try.prog 67 #[.int .i64 a0, .int .i64 a1, .int .i64 a2] w fun e w' => e = .returned (.bool r) ∧ Drawn0 w w' := by
  have H : (if a1 ≤ a0 then (some (decide (a0 ≤ a2))) else (some false)) = some r := h
  clear h
  by_cases c4 : a1 ≤ a0
  · rw [if_pos c4] at H
    have c4b0 : decide (a1 ≤ a0) = true := decide_eq_true c4
    clear c4
    obtain rfl := Option.some.inj H
    go_enter Try.func67, Try.ntmps67
    go_wp2
    go_ret
    exact ⟨by first | rfl | (simp; done) | (simp [*]; done), by repeat (first | exact Drawn0.refl _ | apply Drawn0.step)⟩
  · rw [if_neg c4] at H
    have c4b0 : decide (a1 ≤ a0) = false := decide_eq_false c4
    clear c4
    obtain rfl := Option.some.inj H
    go_enter Try.func67, Try.ntmps67
    go_wp2
    go_ret
    exact ⟨by first | rfl | (simp; done) | (simp [*]; done), by repeat (first | exact Drawn0.refl _ | apply Drawn0.step)⟩
end Go.Proofs.Ytbkkpllejgedcaa.P


namespace Go.Proofs.Ytbkkpllejgedcaa.P
open Go.RowKit Go.Proofs.YtbkkpllejgedcaaW.PrintWords Go.Proofs.YtbkkpllejgedcaaW.PrintLast Go.Proofs.YtbkkpllejgedcaaW.PrintMore
attribute [local go_sem] max2_int min2_int max_two min_two max_three min_three max_four min_four
set_option linter.unusedVariables false
set_option linter.unusedSimpArgs false
def stepOk (x : S96) (t : List Bool) : Bool :=
  (decide (x.f2 = 1) || decide (x.f2 = 2)) && (decide (0 ≤ x.f3 ∧ x.f3 ≤ 5000) && (decide (0 ≤ x.f0 ∧ x.f0 ≤ 11) && (decide (0 ≤ x.f1 ∧ x.f1 ≤ 11) && (decide (x.f1 = (x.f0 + 1) % 12) && (t.getD x.f0.toNat false && !t.getD x.f1.toNat false)))))
def planGo : List S96 → List Bool → Bool
  | [], _ => true
  | x :: r, t => stepOk x t && planGo r (t.set x.f1.toNat true)
def tuned0 : List Bool := true :: List.replicate 11 false
def planOk (l : List S96) : Bool := decide (l.length ≤ 11) && planGo l tuned0
def impl_PlanOk.f (l0 : List (S96)) : Option (Bool) := some (planOk l0)
set_option maxHeartbeats 8000000 in
set_option maxRecDepth 100000 in
theorem impl_PlanOk.calls (A0 : Option Addr) (c0 : Nat) (l0 : List (S96)) (r : Bool) (w : World) (hr0 : Kd.C k96 w A0 l0.length l0) (hc0 : l0.length ≤ c0) (h : impl_PlanOk.f l0 = some r) :
    Calls Try.prog 105 #[.slice A0 l0.length c0] w fun e w' => e = .returned (.bool r) ∧ Below w.heap.size w w' := by
  have H := Option.some.inj h
  clear h
  by_cases h11 : l0.length ≤ 11
  rotate_left
  · have hb : decide (11 < (l0.length : Int)) = true := decide_eq_true (by omega)
    have hb2 : decide (11 < l0.length) = true := decide_eq_true (by omega)
    obtain rfl : false = r := by rw [← H]; simp [planOk, h11]
    go_enter Try.func105, Try.ntmps105
    go_wp2
    go_ret
    exact ⟨rfl, Below.refl _ _⟩
  · have hb : decide (11 < (l0.length : Int)) = false := decide_eq_false (by omega)
    have hb2 : decide (11 < l0.length) = false := decide_eq_false (by omega)
    go_enter Try.func105, Try.ntmps105
    go_wp2
    go_loopg [12] (l0.length + 1) (fun kq v12 w' => ∃ (i : Nat) (tn : List Bool), v12 = .int .i64 (i : Int) ∧ Aside0 (i + kq = l0.length + 1) ∧ Aside0 (i ≤ l0.length) ∧ Aside0 (tn.length = 12) ∧ Aside0 (w'.heap[w.heap.size]? = some (.cells (tn.map Value.bool).toArray 117 (0, 0))) ∧ Aside0 (planGo (l0.drop i) tn = r) ∧ Aside0 (Below w.heap.size w w'))
    case atStart =>
      exact ⟨0, tuned0, rfl, ⟨by omega⟩, ⟨by omega⟩, ⟨rfl⟩, ⟨by rw [heap_alloc_new]; rfl⟩, ⟨by rw [← H]; simp [planOk, h11]⟩, ⟨below_alloc (Below.refl _ _) _⟩⟩
    case round =>
      obtain ⟨i, tn, rfl, HK, HI, HT, HA, HP, HB⟩ := hrel
      by_cases hlt : i < l0.length
      rotate_left
      · have hb3 : decide ((i : Int) < (l0.length : Int)) = false := decide_eq_false (by omega)
        have hb4 : decide (i < l0.length) = false := decide_eq_false (by omega)
        obtain rfl : true = r := by
          have h1 := HP.out
          rw [List.drop_eq_nil_of_le (by omega)] at h1
          exact h1
        go_wp2
        go_ret
        exact ⟨rfl, HB.out⟩
      · have hb3 : decide ((i : Int) < (l0.length : Int)) = true := decide_eq_true (by omega)
        have hb4 : decide (i < l0.length) = true := decide_eq_true (by omega)
        obtain ⟨ad, e, hx0, hx1, hx2, hx3⟩ := at_T96 hr0 (i : Int) (by omega) (by omega)
        cases e
        replace hx0 := (HB.out.cell (World.block_lt_of_cell? w _ hx0)).trans hx0
        replace hx1 := (HB.out.cell (World.block_lt_of_cell? w _ hx1)).trans hx1
        replace hx2 := (HB.out.cell (World.block_lt_of_cell? w _ hx2)).trans hx2
        replace hx3 := (HB.out.cell (World.block_lt_of_cell? w _ hx3)).trans hx3
        obtain ⟨x, hx⟩ : ∃ x, rd_T96 l0 (i : Int) = x := ⟨_, rfl⟩
        rw [hx] at hx0 hx1 hx2 hx3
        simp only [Int.toNat_natCast] at hx0 hx1 hx2 hx3
        have hd : planGo (l0.drop i) tn = (stepOk x tn && planGo (l0.drop (i + 1)) (tn.set x.f1.toNat true)) := by
          rw [List.drop_eq_getElem_cons hlt]
          have e0 : l0[i] = x := by rw [← hx]; simp [rd_T96, List.getD_eq_getElem?_getD, hlt]
          rw [e0]; rfl
        have HX := Aside0.mk hx
        clear hx
        have HD := Aside0.mk hd
        clear hd
        have win : ∀ (a b c : Int) (d : Bool) (W : World), decide (b ≤ a ∧ a ≤ c) = d → Calls Try.prog 67 #[.int .i64 a, .int .i64 b, .int .i64 c] W fun e w' => e = .returned (.bool d) ∧ Drawn0 W w' := fun a b c d W hd =>
          impl_within.calls a b c d W (by rw [← hd]; unfold impl_within.f; by_cases hh : b ≤ a <;> simp [hh])
        have tc : ∀ k, k < 12 → ∀ o : Obj, (wr.alloc o).cell? ⟨w.heap.size, k, none⟩ = some (.bool (tn.getD k false)) := fun k hk o => (blk_cell (blk_alloc HA.out o) k).trans (by have := HT.out; simp [List.getD_eq_getElem?_getD, show k < tn.length by omega])
        by_cases q1 : 0 ≤ x.f3 ∧ x.f3 ≤ 5000
        rotate_left
        · have W1 := Aside0.mk fun W => win x.f3 0 5000 false W (decide_eq_false q1)
          have Q1 := Aside0.mk q1
          clear q1 win tc
          go_wp2_with (first | (go_at_call 67; (with_reducible refine (W1.out _).mono ?_); rintro e w' ⟨rfl, ⟨nd, rfl⟩⟩))
          all_goals
            obtain rfl : false = r := by
              rw [← HP.out, HD.out]; simp [stepOk, Q1.out]
            go_ret
            exact ⟨rfl, by repeat (first | exact HB.out | apply below_alloc | apply pw_below_drewN | apply below_drew1)⟩
        have W1 := Aside0.mk fun W => win x.f3 0 5000 true W (decide_eq_true q1)
        by_cases q2 : 0 ≤ x.f0 ∧ x.f0 ≤ 11
        rotate_left
        · have W2 := Aside0.mk fun W => win x.f0 0 11 false W (decide_eq_false q2)
          have Q1 := Aside0.mk q2
          clear q1 q2 win tc
          go_wp2_with (first | (go_at_call 67; (with_reducible refine (W1.out _).mono ?_); rintro e w' ⟨rfl, ⟨nd, rfl⟩⟩) | (go_at_call 67; (with_reducible refine (W2.out _).mono ?_); rintro e w' ⟨rfl, ⟨nd, rfl⟩⟩))
          all_goals
            obtain rfl : false = r := by
              rw [← HP.out, HD.out]; simp [stepOk, Q1.out]
            go_ret
            exact ⟨rfl, by repeat (first | exact HB.out | apply below_alloc | apply pw_below_drewN | apply below_drew1)⟩
        have W2 := Aside0.mk fun W => win x.f0 0 11 true W (decide_eq_true q2)
        by_cases q3 : 0 ≤ x.f1 ∧ x.f1 ≤ 11
        rotate_left
        · have W3 := Aside0.mk fun W => win x.f1 0 11 false W (decide_eq_false q3)
          have Q1 := Aside0.mk q3
          clear q1 q2 q3 win tc
          go_wp2_with (first | (go_at_call 67; (with_reducible refine (W1.out _).mono ?_); rintro e w' ⟨rfl, ⟨nd, rfl⟩⟩) | (go_at_call 67; (with_reducible refine (W2.out _).mono ?_); rintro e w' ⟨rfl, ⟨nd, rfl⟩⟩) | (go_at_call 67; (with_reducible refine (W3.out _).mono ?_); rintro e w' ⟨rfl, ⟨nd, rfl⟩⟩))
          all_goals
            obtain rfl : false = r := by
              rw [← HP.out, HD.out]; simp [stepOk, Q1.out]
            go_ret
            exact ⟨rfl, by repeat (first | exact HB.out | apply below_alloc | apply pw_below_drewN | apply below_drew1)⟩
        have W3 := Aside0.mk fun W => win x.f1 0 11 true W (decide_eq_true q3)
        clear win
        obtain ⟨q2a, q2b⟩ := q2
        obtain ⟨q3a, q3b⟩ := q3
        have Q13 := Aside0.mk q1
        clear q1
        have hc0 := tc x.f0.toNat (by omega)
        have hc1 := tc x.f1.toNat (by omega)
        have hfz := fun o : Obj => blk_frozen (blk_alloc HA.out o) x.f1.toNat
        clear tc
        by_cases q4 : x.f1 = (x.f0 + 1) % 12
        rotate_left
        · have q4a : (x.f1 == (x.f0 + 1) % 12) = false := beq_eq_false_iff_ne.mpr q4
          have q4b : (x.f1 != (x.f0 + 1) % 12) = true := bne_iff_ne.mpr q4
          have Q4 := Aside0.mk q4
          clear q4 hc0 hc1 hfz
          go_wp2_with (first | (go_at_call 67; (with_reducible refine (W1.out _).mono ?_); rintro e w' ⟨rfl, ⟨nd, rfl⟩⟩) | (go_at_call 67; (with_reducible refine (W2.out _).mono ?_); rintro e w' ⟨rfl, ⟨nd, rfl⟩⟩) | (go_at_call 67; (with_reducible refine (W3.out _).mono ?_); rintro e w' ⟨rfl, ⟨nd, rfl⟩⟩))
          all_goals
            obtain rfl : false = r := by
              rw [← HP.out, HD.out]; simp [stepOk, Q4.out]
            go_ret
            exact ⟨rfl, by repeat (first | exact HB.out | apply below_alloc | apply pw_below_drewN | apply below_drew1)⟩
        have q4a : (x.f1 == (x.f0 + 1) % 12) = true := beq_iff_eq.mpr q4
        have q4b : (x.f1 != (x.f0 + 1) % 12) = false := bne_eq_false_iff_eq.mpr q4
        have Q4 := Aside0.mk q4
        clear q4
        obtain ⟨b0, hb0⟩ : ∃ b, tn.getD x.f0.toNat false = b := ⟨_, rfl⟩
        obtain ⟨b1, hb1⟩ : ∃ b, tn.getD x.f1.toNat false = b := ⟨_, rfl⟩
        rw [hb0] at hc0
        rw [hb1] at hc1
        have B0 := Aside0.mk hb0
        have B1 := Aside0.mk hb1
        clear hb0 hb1
        go_wp2_with (first | (go_at_call 67; (with_reducible refine (W1.out _).mono ?_); rintro e w' ⟨rfl, ⟨nd, rfl⟩⟩) | (go_at_call 67; (with_reducible refine (W2.out _).mono ?_); rintro e w' ⟨rfl, ⟨nd, rfl⟩⟩) | (go_at_call 67; (with_reducible refine (W3.out _).mono ?_); rintro e w' ⟨rfl, ⟨nd, rfl⟩⟩))
        all_goals first
          | (go_ret
             have e : false = r := by
               have h3 := B0.out; have h4 := B1.out
               rw [← HP.out, HD.out]; unfold stepOk; rw [h3, h4]; simp [*]
             subst e
             exact ⟨rfl, by repeat (first | exact HB.out | apply below_alloc | apply pw_below_drewN | apply below_drew1)⟩)
          | (go_roundg (gk - 1)
             case measure => have := HK.out; omega
             case rel =>
               refine ⟨i + 1, tn.set x.f1.toNat true, by go_num, ⟨by have := HK.out; omega⟩, ⟨by omega⟩, ⟨by rw [List.length_set]; exact HT.out⟩, ⟨?_⟩, ⟨?_⟩, ⟨?_⟩⟩
               · refine blk_put (cs := (tn.map Value.bool).toArray) ?_ x.f1.toNat (.bool true) ?_
                 · repeat (first | exact HA.out | refine blk_drewN ?_ _ | refine blk_drew ?_ | refine blk_alloc ?_ _)
                 · simp [List.map_set]
               · rw [← HP.out, HD.out]
                 have e : stepOk x tn = true := by
                   have h1 := Q4.out; have h2 := Q13.out; have h3 := B0.out; have h4 := B1.out
                   unfold stepOk; rw [h3, h4]; simp [*]; omega
                 rw [e, Bool.true_and]
               · refine below_set ?_ (Nat.le_refl _)
                 repeat (first | exact HB.out | apply below_alloc | apply pw_below_drewN | apply below_drew1))
end Go.Proofs.Ytbkkpllejgedcaa.P


namespace Go.Proofs.Ytbkkpllejgedcaa.P
open Go.RowKit Go.Proofs.YtbkkpllejgedcaaW.PrintWords Go.Proofs.YtbkkpllejgedcaaW.PrintLast Go.Proofs.YtbkkpllejgedcaaW.PrintMore
attribute [local go_sem] max2_int min2_int max_two min_two max_three min_three max_four min_four
set_option linter.unusedVariables false
set_option linter.unusedSimpArgs false
def impl_isFine.f (a0 : Int) : Option (Bool) := (impl_within.f a0 1 10000000).bind fun t175 => (some t175)
set_option maxHeartbeats 8000000 in
set_option maxRecDepth 100000 in
theorem impl_isFine.calls (a0 : Int) (r : Bool) (w : World) (h : impl_isFine.f a0 = some r) :
    Calls Try.prog 106 #[.int .i64 a0] w fun e w' => e = .returned (.bool r) ∧ Drawn0 w w' := by
  have H : ((impl_within.f a0 1 10000000).bind fun t175 => (some t175)) = some r := h
  clear h
  replace H := Option.bind_eq_some_iff.mp H
  obtain ⟨t175, A20, H⟩ := H
  (try dsimp only at H)
  have A2 := Aside0.mk A20
  clear A20
  obtain rfl := Option.some.inj H
  go_enter Try.func106, Try.ntmps106
  go_wp2_with (first | ((with_reducible refine gate_callee (f := 67) rfl ?_); refine goesL_ (some 4) rfl rfl Try.func67 (by kernel_rfl) rfl #[.int .i64 a0, .int .i64 1, .int .i64 10000000] rfl (by (try simp only [List.map_toArray, List.map_cons, List.map_nil]); first | done | rfl | (simp only [List.length_drop, List.length_take]; rfl)) ?_; (with_reducible refine (impl_within.calls a0 1 10000000 t175 _ A2.out).mono ?_); rintro e w' ⟨rfl, ⟨nd, rfl⟩⟩; refine ⟨_, rfl, ?_⟩))
  go_ret
  exact ⟨by first | rfl | (simp; done) | (simp [*]; done), by repeat (first | exact Drawn0.refl _ | apply Drawn0.step)⟩
end Go.Proofs.Ytbkkpllejgedcaa.P


namespace Go.Proofs.Ytbkkpllejgedcaa.P
open Go.RowKit Go.Proofs.YtbkkpllejgedcaaW.PrintWords Go.Proofs.YtbkkpllejgedcaaW.PrintLast Go.Proofs.YtbkkpllejgedcaaW.PrintMore
attribute [local go_sem] max2_int min2_int max_two min_two max_three min_three max_four min_four
set_option linter.unusedVariables false
set_option linter.unusedSimpArgs false
def tunedBy (l : List S96) (t : List Bool) : List Bool := l.foldl (fun t x => t.set x.f1.toNat true) t
def keyGo : List Bool → List Int → Bool
  | b :: t, p :: q => (if b then decide (1 ≤ p ∧ p ≤ 10000000) else decide (p = 0)) && keyGo t q
  | _, _ => true
def workOk (p : List S96) (d : Int) (q : List Int) : Bool :=
  planOk p && (decide (0 ≤ d ∧ d ≤ p.length) && (decide (q.length = 12) && keyGo (tunedBy (p.take d.toNat) tuned0) q))
theorem planGo_keys : ∀ (l : List S96) (t : List Bool), planGo l t = true → ∀ x ∈ l, 0 ≤ x.f1 ∧ x.f1 ≤ 11
  | [], _, _, x, hx => by simp at hx
  | y :: r, t, h, x, hx => by
    simp only [planGo, Bool.and_eq_true] at h
    rcases List.mem_cons.1 hx with rfl | hx
    · have h1 := h.1; simp [stepOk] at h1; exact h1.2.2.2.1
    · exact planGo_keys r _ h.2 x hx
theorem tunedBy_len (l : List S96) : ∀ t : List Bool, (tunedBy l t).length = t.length := by
  induction l with
  | nil => intro t; rfl
  | cons x r ih => intro t; show (tunedBy r _).length = _; rw [ih, List.length_set]
theorem tunedBy_snoc (l : List S96) (x : S96) (t : List Bool) : tunedBy (l ++ [x]) t = (tunedBy l t).set x.f1.toNat true := by simp [tunedBy, List.foldl_append]
def impl_WorkOk.f (l0_0 : List (S96)) (a0_1 : Int) (l0_2 : List Int) : Option (Bool) := some (workOk l0_0 a0_1 l0_2)
set_option maxHeartbeats 8000000 in
set_option maxRecDepth 100000 in
theorem impl_WorkOk.calls (A0_0 : Option Addr) (c0_0 : Nat) (l0_0 : List (S96)) (a0_1 : Int) (A0_2 : Option Addr) (c0_2 : Nat) (l0_2 : List Int) (r : Bool) (w : World) (hr0_0 : Kd.C k96 w A0_0 l0_0.length l0_0) (hc0_0 : l0_0.length ≤ c0_0) (hr0_2 : Kd.C (Kd.int .i64) w A0_2 l0_2.length l0_2) (hc0_2 : l0_2.length ≤ c0_2) (h : impl_WorkOk.f l0_0 a0_1 l0_2 = some r) :
    Calls Try.prog 64 #[.agg #[.slice A0_0 l0_0.length c0_0, .int .i64 a0_1, .slice A0_2 l0_2.length c0_2]] w fun e w' => e = .returned (.bool r) ∧ Below w.heap.size w w' := by
  have HH := Aside0.mk (Option.some.inj h)
  clear h
  have win : ∀ (a b c : Int) (d : Bool) (W : World), decide (b ≤ a ∧ a ≤ c) = d → Calls Try.prog 67 #[.int .i64 a, .int .i64 b, .int .i64 c] W fun e w' => e = .returned (.bool d) ∧ Drawn0 W w' := fun a b c d W hd =>
    impl_within.calls a b c d W (by rw [← hd]; unfold impl_within.f; by_cases hh : b ≤ a <;> simp [hh])
  have hpl : ∀ (b : Bool) (o : Obj), planOk l0_0 = b → Calls Try.prog 105 #[.slice A0_0 l0_0.length c0_0] (w.alloc o) fun e w' => e = .returned (.bool b) ∧ Below (w.alloc o).heap.size (w.alloc o) w' := fun b o hb =>
    impl_PlanOk.calls A0_0 c0_0 l0_0 b (w.alloc o) (Kd.C_alloc hr0_0 o) hc0_0 (by unfold impl_PlanOk.f; rw [hb])
  have hbx : ∀ (w1 : World) (o : Obj), Below (w.alloc o).heap.size (w.alloc o) w1 → w1.heap[w.heap.size]? = some o ∧ Below w.heap.size w w1 ∧ w.heap.size + 1 ≤ w1.heap.size := fun w1 o hb =>
    ⟨blk_below (blk_new w o) hb, below_step (below_alloc (Below.refl _ _) o) hb, by have := hb.size; simpa using this⟩
  by_cases p1 : planOk l0_0 = true
  rotate_left
  · have P1 := Aside0.mk fun o => hpl false o (Bool.eq_false_iff.2 p1)
    obtain rfl : false = r := by rw [← HH.out]; simp [workOk, p1]
    clear hpl win p1
    go_enter Try.func64, Try.ntmps64
    go_wp2_with (first | (go_at_call 105; (with_reducible refine (P1.out _).mono ?_); rintro e w1 ⟨rfl, hb⟩; obtain ⟨hB1, hB2, hB3⟩ := hbx w1 _ hb; have HB := Aside0.mk hB2; clear hb hB1 hB2 hB3))
    go_ret
    exact ⟨rfl, by repeat (first | exact HB.out | apply below_alloc | apply pw_below_drewN | apply below_drew1)⟩
  have P1 := Aside0.mk fun o => hpl true o p1
  by_cases p2 : 0 ≤ a0_1 ∧ a0_1 ≤ (l0_0.length : Int)
  rotate_left
  · have W1 := Aside0.mk fun W => win a0_1 0 l0_0.length false W (decide_eq_false p2)
    obtain rfl : false = r := by rw [← HH.out]; simp [workOk, p2]
    clear hpl win p1 p2
    go_enter Try.func64, Try.ntmps64
    go_wp2_with (first | (go_at_call 105; (with_reducible refine (P1.out _).mono ?_); rintro e w1 ⟨rfl, hb⟩; obtain ⟨hB1, hB2, hB3⟩ := hbx w1 _ hb; have HB := Aside0.mk hB2; have hcz0 := blk_cell hB1 0; have hcz1 := blk_cell hB1 1; have hcz2 := blk_cell hB1 2; clear hb hB1 hB2 hB3) | (go_at_call 67; (with_reducible refine (W1.out _).mono ?_); rintro e w' ⟨rfl, ⟨nd, rfl⟩⟩))
    go_ret
    exact ⟨rfl, by repeat (first | exact HB.out | apply below_alloc | apply pw_below_drewN | apply below_drew1)⟩
  have W1 := Aside0.mk fun W => win a0_1 0 l0_0.length true W (decide_eq_true p2)
  by_cases p3 : l0_2.length = 12
  rotate_left
  · have p3a : ((l0_2.length : Int) != 12) = true := bne_iff_ne.mpr (by omega)
    have p3b : ((l0_2.length : Int) == 12) = false := beq_eq_false_iff_ne.mpr (by omega)
    obtain rfl : false = r := by rw [← HH.out]; simp [workOk, p3]
    have P3 := Aside0.mk p3
    clear hpl win p1 p2 p3
    go_enter Try.func64, Try.ntmps64
    go_wp2_with (first | (go_at_call 105; (with_reducible refine (P1.out _).mono ?_); rintro e w1 ⟨rfl, hb⟩; obtain ⟨hB1, hB2, hB3⟩ := hbx w1 _ hb; have HB := Aside0.mk hB2; have HX := Aside0.mk hB1; have HS := Aside0.mk hB3; have hcz0 := blk_cell hB1 0; have hcz1 := blk_cell hB1 1; clear hb hB1 hB2 hB3) | (go_at_call 67; (with_reducible refine (W1.out _).mono ?_); rintro e w2 ⟨rfl, hdr⟩; have n1 := Aside0.mk (below_step HB.out hdr.below); have hB1 := blk_below HX.out hdr.below; have n3 := Aside0.mk (Nat.le_trans HS.out hdr.below.size); clear HB HX HS hcz0 hcz1 hdr; have HB := n1; have HX := Aside0.mk hB1; have HS := n3; clear n1 n3; have hcz0 := blk_cell hB1 0; have hcz1 := blk_cell hB1 1; have hcz2 := blk_cell hB1 2; have hca0 := fun o : Obj => blk_cell (blk_alloc hB1 o) 0; have hca1 := fun o : Obj => blk_cell (blk_alloc hB1 o) 1; have hca2 := fun o : Obj => blk_cell (blk_alloc hB1 o) 2; clear hB1))
    go_ret
    exact ⟨rfl, by repeat (first | exact HB.out | apply below_alloc | apply pw_below_drewN | apply below_drew1)⟩
  have p3a : ((l0_2.length : Int) != 12) = false := bne_eq_false_iff_eq.mpr (by omega)
  have p3b : ((l0_2.length : Int) == 12) = true := beq_iff_eq.mpr (by omega)
  obtain ⟨d, rfl⟩ : ∃ d : Nat, a0_1 = (d : Int) := ⟨a0_1.toNat, by omega⟩
  have hd1 : d ≤ l0_0.length := by omega
  have hd2 : d ≤ c0_0 := by omega
  have hm : l0_0.length ≤ 9223372036854775807 := Kd.C_max hr0_0
  have HK := Aside0.mk (planGo_keys l0_0 tuned0 (by have := p1; simp [planOk] at this; exact this.2))
  have HQ : Aside0 (keyGo (tunedBy (l0_0.take d) tuned0) l0_2 = r) := ⟨by rw [← HH.out]; simp [workOk, p1, p3, hd1]⟩
  have P3 := Aside0.mk p3
  have HR0 := Aside0.mk hr0_0
  have HR2 := Aside0.mk hr0_2
  clear hpl p1 p2 p3 HH hr0_0 hr0_2
  go_enter Try.func64, Try.ntmps64
  go_wp2_with (first | (go_at_call 105; (with_reducible refine (P1.out _).mono ?_); rintro e w1 ⟨rfl, hb⟩; obtain ⟨hB1, hB2, hB3⟩ := hbx w1 _ hb; have HB := Aside0.mk hB2; have HX := Aside0.mk hB1; have HS := Aside0.mk hB3; have hcz0 := blk_cell hB1 0; have hcz1 := blk_cell hB1 1; clear hb hB1 hB2 hB3) | (go_at_call 67; (with_reducible refine (W1.out _).mono ?_); rintro e w2 ⟨rfl, hdr⟩; have n1 := Aside0.mk (below_step HB.out hdr.below); have hB1 := blk_below HX.out hdr.below; have n3 := Aside0.mk (Nat.le_trans HS.out hdr.below.size); clear HB HX HS hcz0 hcz1 hdr; have HB := n1; have HX := Aside0.mk hB1; have HS := n3; clear n1 n3; have hcz0 := blk_cell hB1 0; have hcz1 := blk_cell hB1 1; have hcz2 := blk_cell hB1 2; have hca0 := fun o : Obj => blk_cell (blk_alloc hB1 o) 0; have hca1 := fun o : Obj => blk_cell (blk_alloc hB1 o) 1; have hca2 := fun o : Obj => blk_cell (blk_alloc hB1 o) 2; clear hB1))
  have BX := Aside0.mk (rfl : #[Value.slice A0_0 l0_0.length c0_0, .int .i64 (d : Int), .slice A0_2 l0_2.length c0_2] = #[Value.slice A0_0 l0_0.length c0_0, .int .i64 (d : Int), .slice A0_2 l0_2.length c0_2])
  go_loopg [34] (d + 1) (fun kq v34 w' => ∃ (i : Nat), v34 = .int .i64 (i : Int) ∧ Aside0 (i + kq = d + 1) ∧ Aside0 (i ≤ d) ∧ Aside0 (w'.heap[w2.heap.size]? = some (.cells ((tunedBy (l0_0.take i) tuned0).map Value.bool).toArray 117 (0, 0))) ∧ Aside0 (w'.heap[w.heap.size]? = some (.cells #[.slice A0_0 l0_0.length c0_0, .int .i64 (d : Int), .slice A0_2 l0_2.length c0_2] 33 (0, 0))) ∧ Aside0 (Below w.heap.size w w'))
  case atStart =>
    exact ⟨0, rfl, ⟨by omega⟩, ⟨by omega⟩, ⟨by rw [heap_alloc_new]; rfl⟩, ⟨blk_alloc HX.out _⟩, ⟨below_alloc HB.out _⟩⟩
  case round =>
    clear hcz0 hcz1 hcz2 hca0 hca1 hca2 HB HX
    obtain ⟨i, rfl, HI1, HI2, HA, HX, HB⟩ := hrel
    have hTl : (tunedBy (l0_0.take i) tuned0).length = 12 := tunedBy_len _ _
    by_cases hlt : i < d
    · have hb3 : decide ((i : Int) < (d : Int)) = true := decide_eq_true (by omega)
      have hb4 : decide (i < d) = true := decide_eq_true (by omega)
      obtain ⟨ad, e, hx0, hx1, hx2, hx3⟩ := at_T96 HR0.out (i : Int) (by omega) (by omega)
      cases e
      replace hx0 := (HB.out.cell (World.block_lt_of_cell? w _ hx0)).trans hx0
      replace hx1 := (HB.out.cell (World.block_lt_of_cell? w _ hx1)).trans hx1
      replace hx2 := (HB.out.cell (World.block_lt_of_cell? w _ hx2)).trans hx2
      replace hx3 := (HB.out.cell (World.block_lt_of_cell? w _ hx3)).trans hx3
      obtain ⟨x, hx⟩ : ∃ x, rd_T96 l0_0 (i : Int) = x := ⟨_, rfl⟩
      rw [hx] at hx0 hx1 hx2 hx3
      simp only [Int.toNat_natCast] at hx0 hx1 hx2 hx3
      have hil : i < l0_0.length := by omega
      have e0 : l0_0[i] = x := by rw [← hx]; simp [rd_T96, List.getD_eq_getElem?_getD, hil]
      obtain ⟨q1, q2⟩ := HK.out x (by rw [← e0]; exact List.getElem_mem hil)
      have HT : Aside0 (tunedBy (l0_0.take (i + 1)) tuned0 = (tunedBy (l0_0.take i) tuned0).set x.f1.toNat true) := ⟨by rw [List.take_succ_eq_append_getElem hil, e0, tunedBy_snoc]⟩
      obtain ⟨tn, htn⟩ : ∃ tn, tunedBy (l0_0.take i) tuned0 = tn := ⟨_, rfl⟩
      have HA' := Aside0.mk (show wr.heap[w2.heap.size]? = some (.cells (tn.map Value.bool).toArray 117 (0, 0)) by rw [← htn]; exact HA.out)
      rw [htn] at hTl HT
      have hc1 : ∀ o : Obj, (wr.alloc o).cell? ⟨w2.heap.size, x.f1.toNat, none⟩ = some (.bool (tn.getD x.f1.toNat false)) := fun o => (blk_cell (blk_alloc HA'.out o) _).trans (by simp [List.getD_eq_getElem?_getD, show x.f1.toNat < tn.length by omega])
      have hfz := fun o : Obj => blk_frozen (blk_alloc HA'.out o) x.f1.toNat
      clear hx e0 htn HA hTl
      go_wp2
      go_roundg (d - i)
      case measure => have := HI1.out; omega
      case rel =>
        refine ⟨i + 1, by go_num, ⟨by omega⟩, ⟨by omega⟩, ⟨?_⟩, ⟨?_⟩, ⟨?_⟩⟩
        · rw [HT.out]
          refine blk_put (cs := (tn.map Value.bool).toArray) (blk_alloc HA'.out _) x.f1.toNat (.bool true) ?_
          simp [List.map_set]
        · refine blk_far ?_ (by have := HS.out; show w.heap.size ≠ w2.heap.size; omega) _
          exact blk_alloc HX.out _
        · refine below_set (below_alloc HB.out _) (by have := HS.out; omega)
    · have hb3 : decide ((i : Int) < (d : Int)) = false := decide_eq_false (by omega)
      have hb4 : decide (i < d) = false := decide_eq_false (by omega)
      obtain rfl : i = d := by have := HI2.out; omega
      obtain ⟨tn, htn⟩ : ∃ tn, tunedBy (l0_0.take i) tuned0 = tn := ⟨_, rfl⟩
      have HA' := Aside0.mk (show wr.heap[w2.heap.size]? = some (.cells (tn.map Value.bool).toArray 117 (0, 0)) by rw [← htn]; exact HA.out)
      have HT := Aside0.mk (show tn.length = 12 by rw [← htn]; exact hTl)
      have HQ' := Aside0.mk (show keyGo tn l0_2 = r by rw [← htn]; exact HQ.out)
      have hcz0 := blk_cell HX.out 0
      have hcz1 := blk_cell HX.out 1
      have hcz2 := blk_cell HX.out 2
      clear HA HQ htn hTl
      go_wp2
      have H12 := P3.out
      go_loopg [45] 13 (fun kq v45 w' => ∃ (j : Nat), v45 = .int .i64 (j : Int) ∧ Aside0 (j + kq = 13) ∧ Aside0 (j ≤ 12) ∧ Aside0 (keyGo (tn.drop j) (l0_2.drop j) = r) ∧ Aside0 (w'.heap[w2.heap.size]? = some (.cells (tn.map Value.bool).toArray 117 (0, 0))) ∧ Aside0 (Below w.heap.size w w'))
      case atStart => exact ⟨0, rfl, ⟨by omega⟩, ⟨by omega⟩, ⟨HQ'.out⟩, ⟨HA'.out⟩, ⟨HB.out⟩⟩
      case round =>
        clear hcz0 hcz1 hcz2 HB HX HA' HQ'
        obtain ⟨j, rfl, HJ1, HJ2, HQ, HA, HB⟩ := hrel
        by_cases hlt2 : j < 12
        rotate_left
        · have hb5 : decide ((j : Int) < (l0_2.length : Int)) = false := decide_eq_false (by omega)
          have hb6 : decide (j < l0_2.length) = false := decide_eq_false (by omega)
          obtain rfl : true = r := by
            have h1 := HQ.out
            rw [List.drop_eq_nil_of_le (by have := HT.out; omega)] at h1
            simpa [keyGo] using h1
          clear H12
          go_wp2
          go_ret
          exact ⟨rfl, HB.out⟩
        · have hb5 : decide ((j : Int) < (l0_2.length : Int)) = true := decide_eq_true (by omega)
          have hb6 : decide (j < l0_2.length) = true := decide_eq_true (by omega)
          have hj : j < l0_2.length := by omega
          obtain ⟨ad, e, hy⟩ := Kd.at_int HR2.out (j : Int) (by omega) (by omega)
          cases e
          replace hy := (HB.out.cell (World.block_lt_of_cell? w _ hy)).trans hy
          obtain ⟨y, hyy⟩ : ∃ y, rd l0_2 (j : Int) = y := ⟨_, rfl⟩
          obtain ⟨b, hbb⟩ : ∃ b, tn.getD j false = b := ⟨_, rfl⟩
          rw [hyy] at hy
          simp only [Int.toNat_natCast] at hy
          have hT12 := HT.out
          have hct : wr.cell? ⟨w2.heap.size, j, none⟩ = some (.bool b) := (blk_cell HA.out j).trans (by rw [← hbb]; simp [List.getD_eq_getElem?_getD, show j < tn.length by omega])
          have HD : Aside0 (keyGo (tn.drop j) (l0_2.drop j) = ((if b then decide (1 ≤ y ∧ y ≤ 10000000) else decide (y = 0)) && keyGo (tn.drop (j + 1)) (l0_2.drop (j + 1)))) := ⟨by
            rw [List.drop_eq_getElem_cons (show j < tn.length by omega), List.drop_eq_getElem_cons (show j < l0_2.length by omega)]
            have e1 : tn[j] = b := by rw [← hbb]; simp [List.getD_eq_getElem?_getD, show j < tn.length by omega]
            have e2 : l0_2[j] = y := by rw [← hyy]; simp [rd, List.getD_eq_getElem?_getD, show j < l0_2.length by omega]
            rw [e1, e2]; rfl⟩
          have fine : ∀ (d : Bool) (W : World), decide (1 ≤ y ∧ y ≤ 10000000) = d → Calls Try.prog 106 #[.int .i64 y] W fun e w' => e = .returned (.bool d) ∧ Drawn0 W w' := fun d W hd =>
            impl_isFine.calls y d W (by rw [← hd]; unfold impl_isFine.f impl_within.f; by_cases hh : 1 ≤ y <;> simp [hh])
          clear hyy hbb hT12 H12
          cases b with
          | true =>
            by_cases q : 1 ≤ y ∧ y ≤ 10000000
            · have F1 := Aside0.mk fun W => fine true W (decide_eq_true q)
              have Q := Aside0.mk q
              clear q fine
              go_wp2_with (first | (go_at_call 106; (with_reducible refine (F1.out _).mono ?_); rintro e w' ⟨rfl, ⟨nd, rfl⟩⟩))
              go_roundg (12 - j)
              case measure => have := HJ1.out; omega
              case rel =>
                refine ⟨j + 1, by go_num, ⟨by omega⟩, ⟨by omega⟩, ⟨?_⟩, ⟨?_⟩, ⟨?_⟩⟩
                · rw [← HQ.out, HD.out]; simp [Q.out]
                · repeat (first | exact HA.out | refine blk_drewN ?_ _ | refine blk_drew ?_)
                · repeat (first | exact HB.out | apply below_alloc | apply pw_below_drewN | apply below_drew1)
            · have F1 := Aside0.mk fun W => fine false W (decide_eq_false q)
              have Q := Aside0.mk q
              clear q fine
              obtain rfl : false = r := by rw [← HQ.out, HD.out]; simp [Q.out]
              go_wp2_with (first | (go_at_call 106; (with_reducible refine (F1.out _).mono ?_); rintro e w' ⟨rfl, ⟨nd, rfl⟩⟩))
              go_ret
              exact ⟨rfl, by repeat (first | exact HB.out | apply below_alloc | apply pw_below_drewN | apply below_drew1)⟩
          | false =>
            by_cases q : y = 0
            · have q1 : (y != 0) = false := bne_eq_false_iff_eq.mpr q
              have q2 : (y == 0) = true := beq_iff_eq.mpr q
              have Q := Aside0.mk q
              clear q fine
              go_wp2
              go_roundg (12 - j)
              case measure => have := HJ1.out; omega
              case rel =>
                refine ⟨j + 1, by go_num, ⟨by omega⟩, ⟨by omega⟩, ⟨?_⟩, ⟨?_⟩, ⟨?_⟩⟩
                · rw [← HQ.out, HD.out]; simp [Q.out]
                · repeat (first | exact HA.out | refine blk_drewN ?_ _ | refine blk_drew ?_)
                · repeat (first | exact HB.out | apply below_alloc | apply pw_below_drewN | apply below_drew1)
            · have q1 : (y != 0) = true := bne_iff_ne.mpr q
              have q2 : (y == 0) = false := beq_eq_false_iff_ne.mpr q
              have Q := Aside0.mk q
              clear q fine
              obtain rfl : false = r := by rw [← HQ.out, HD.out]; simp [Q.out]
              go_wp2
              go_ret
              exact ⟨rfl, by repeat (first | exact HB.out | apply below_alloc | apply pw_below_drewN | apply below_drew1)⟩
end Go.Proofs.Ytbkkpllejgedcaa.P


namespace Go.Proofs.Ytbkkpllejgedcaa.Q
set_option linter.unusedVariables false
set_option linter.unusedSimpArgs false
open Go.RowKit Go.Proofs.Ytbkkpllejgedcaa.P
def lastOk (l : List S74) (m : Int) : Prop := l.length = 0 ∨ (l.getD (l.length - 1) z74).f2 ≤ m
instance (l : List S74) (m : Int) : Decidable (lastOk l m) := by unfold lastOk; exact inferInstance
def shopOk (p : List S96) (d : Int) (q : List Int) (a m : Int) (l : List S74) : Bool := workOk p d q && (logOk l && (decide (-10 ≤ a ∧ a ≤ 40) && (decide (0 ≤ m ∧ m ≤ 100000) && decide (lastOk l m))))
end Go.Proofs.Ytbkkpllejgedcaa.Q


namespace Go.Proofs.Ytbkkpllejgedcaa.V
set_option linter.unusedVariables false
open Go.RowKit Go.Proofs.YtbkkpllejgedcaaW.PrintWords
class CelR (W : World) (a : Addr) (v : outParam Value) : Prop where out : W.cell? a = some v
class FarA (a : Addr) (g : Nat) : Prop where out : a.block ≠ g
section
variable {w w0 W : World} {a : Addr} {v u : Value} {o : Obj} {n g i : Nat}
theorem celR_lt (h : CelR W a v) : a.block < W.heap.size := World.block_lt_of_cell? W a h.out
instance [h : CelR W a v] : CelR (W.alloc o) a v := ⟨((below_alloc (RowKit.Below.refl W.heap.size W) o).cell (celR_lt h)).trans h.out⟩
instance [h : CelR W a v] : CelR W.drew a v := ⟨h.out⟩
instance [h : CelR W a v] : CelR (W.drewN n) a v := ⟨h.out⟩
instance [b : Bel w W] [h : CelR w a v] : CelR W a v := ⟨(b.out.cell (celR_lt h)).trans h.out⟩
instance [b : Sin w0 W] [h : CelR w0 a v] : CelR W a v := ⟨(b.out.cell (celR_lt h)).trans h.out⟩
instance [h : Born W g] [k : CelR W a v] : FarA a g := ⟨by rw [h.out]; exact Nat.ne_of_lt (celR_lt k)⟩
instance [h : CelR W a v] [k : FarA a g] : CelR (W.setCell ⟨g, i, none⟩ u) a v := ⟨(cell_far k.out u).trans h.out⟩
theorem cellR_c (W : World) (a : Addr) {v : Value} [h : CelR W a v] : W.cell? a = some v := h.out
end
end Go.Proofs.Ytbkkpllejgedcaa.V


namespace Go.Proofs.Ytbkkpllejgedcaa.P
open Go.RowKit Go.Proofs.YtbkkpllejgedcaaW.PrintWords Go.Proofs.YtbkkpllejgedcaaW.PrintLast Go.Proofs.YtbkkpllejgedcaaW.PrintMore
attribute [local go_sem] max2_int min2_int max_two min_two max_three min_three max_four min_four
set_option linter.unusedVariables false
set_option linter.unusedSimpArgs false
def spec_l01In.f (a0 : Int) (a1 : Int) (a2 : Int) : Option (Bool) := if a0 ≥ a1 then (some (decide (a0 ≤ a2))) else (some false)
set_option maxHeartbeats 8000000 in
set_option maxRecDepth 100000 in
theorem spec_l01In.calls (a0 : Int) (a1 : Int) (a2 : Int) (r : Bool) (w : World) (h : spec_l01In.f a0 a1 a2 = some r) :
    Calls Try.prog 62 #[.int .i64 a0, .int .i64 a1, .int .i64 a2] w fun e w' => e = .returned (.bool r) ∧ Drawn0 w w' := by
  have H : (if a0 ≥ a1 then (some (decide (a0 ≤ a2))) else (some false)) = some r := h
  clear h
  by_cases c4 : a0 ≥ a1
  · rw [if_pos c4] at H
    have c4b0 : decide (a1 ≤ a0) = true := decide_eq_true c4
    clear c4
    obtain rfl := Option.some.inj H
    go_enter Try.func62, Try.ntmps62
    go_wp2
    go_ret
    exact ⟨by first | rfl | (simp; done) | (simp [*]; done), by repeat (first | exact Drawn0.refl _ | apply Drawn0.step)⟩
  · rw [if_neg c4] at H
    have c4b0 : decide (a1 ≤ a0) = false := decide_eq_false c4
    clear c4
    obtain rfl := Option.some.inj H
    go_enter Try.func62, Try.ntmps62
    go_wp2
    go_ret
    exact ⟨by first | rfl | (simp; done) | (simp [*]; done), by repeat (first | exact Drawn0.refl _ | apply Drawn0.step)⟩
end Go.Proofs.Ytbkkpllejgedcaa.P


namespace Go.Proofs.Ytbkkpllejgedcaa.P
open Go.RowKit Go.Proofs.YtbkkpllejgedcaaW.PrintWords Go.Proofs.YtbkkpllejgedcaaW.PrintLast Go.Proofs.YtbkkpllejgedcaaW.PrintMore
attribute [local go_sem] max2_int min2_int max_two min_two max_three min_three max_four min_four
set_option linter.unusedVariables false
set_option linter.unusedSimpArgs false
def stepOkS (x : S96) (t : List Bool) : Bool :=
  (decide (x.f2 = 1) || decide (x.f2 = 2)) && (decide (0 ≤ x.f3 ∧ x.f3 ≤ 5000) && (decide (0 ≤ x.f0 ∧ x.f0 ≤ 11) && (decide (0 ≤ x.f1 ∧ x.f1 ≤ 11) && (decide (x.f1 = (x.f0 + 1) % 12) && (t.getD x.f0.toNat false && !t.getD x.f1.toNat false)))))
def planGoS : List S96 → List Bool → Bool
  | [], _ => true
  | x :: r, t => stepOkS x t && planGoS r (t.set x.f1.toNat true)
def planOkS (l : List S96) : Bool := planGoS l (true :: List.replicate 11 false) && decide (l.length ≤ 11)
theorem count_put {t : List Bool} {k : Nat} (hk : k < t.length) (h : t.getD k false = false) : (t.set k true).count true = t.count true + 1 := by
  rw [List.count_set hk]
  simp [List.getD_eq_getElem?_getD, hk] at h
  simp [h]
def spec_PlanOk.f (l0 : List (S96)) : Option (Bool) := some (planOkS l0)
set_option maxHeartbeats 8000000 in
set_option maxRecDepth 100000 in
theorem spec_PlanOk.calls (A0 : Option Addr) (c0 : Nat) (l0 : List (S96)) (r : Bool) (w : World) (hr0 : Kd.C k96 w A0 l0.length l0) (hc0 : l0.length ≤ c0) (h : spec_PlanOk.f l0 = some r) :
    Calls Try.prog 101 #[.slice A0 l0.length c0] w fun e w' => e = .returned (.bool r) ∧ Below w.heap.size w w' := by
  have hu67 := Try.underlying96
  have H := Option.some.inj h
  clear h
  go_enter Try.func101, Try.ntmps101
  go_wp2_with (first | ((with_reducible refine gate_dst (N := 6) rfl ?_); refine Kd.R_make Kd.bool _ 4 rfl (N := 6) rfl 132 _ _ rfl 12 rfl rfl Try.underlying132 (.bool false) 1 info4 rfl (by decide) (by omega) false (ok := fun _ => True) (okp := fun _ => True) rfl (fun _ hk => hk) trivial (by omega) (by omega) (Below.refl _ _) (Nat.le_refl _) ?_; intro v105 w5 ho6 hb hg_ hnew_; clear hg_ hnew_; have HB := Aside0.mk hb; obtain ⟨go4, co4, eo4, gb4, gl4, cl4, HG4⟩ := Kd.R_form ho6 (by decide); subst eo4; have HO := Aside0.mk ho6; have GB := Aside0.mk gb4; clear ho6 gl4 cl4 HG4 hb gb4; have qi4 : (0 < (List.replicate (Int.toNat 12) false).length) = True := eq_true (by decide); obtain ⟨hx4, hf4⟩ := Kd.R_celln false HO.out (0 : Int) (by omega) (by decide); simp only [Int.toNat_zero] at hx4 hf4))
  go_loopg [4] (l0.length + 1) (fun kq v4 w' => ∃ (i : Nat) (tn : List Bool), v4 = .int .i64 (i : Int) ∧ Aside0 (i + kq = l0.length + 1) ∧ Aside0 (i ≤ l0.length) ∧ Aside0 (tn.length = 12) ∧ Aside0 (tn.count true = i + 1) ∧ Aside0 (Kd.R Kd.bool 4 w' w.heap.size (fun _ => True) (.slice (some ⟨go4, 0, none⟩) 12 co4) tn) ∧ Aside0 ((planGoS (l0.drop i) tn && decide (l0.length ≤ 11)) = r) ∧ Aside0 (Below w.heap.size w w'))
  case atStart =>
    exact ⟨0, true :: List.replicate 11 false, rfl, ⟨by omega⟩, ⟨by omega⟩, ⟨rfl⟩, ⟨by decide⟩, ⟨(Kd.R_putg HO.out (0 : Int) true).1⟩, ⟨by rw [← H]; rfl⟩, ⟨below_set HB.out GB.out⟩⟩
  case round =>
    obtain ⟨i, tn, rfl, HK, HI, HT, HN, HA, HP, HB⟩ := hrel
    clear HO qi4 hx4 hf4
    by_cases hlt : i < l0.length
    rotate_left
    · have hb3 : decide ((i : Int) < (l0.length : Int)) = false := decide_eq_false (by omega)
      have hb4 : decide (i < l0.length) = false := decide_eq_false (by omega)
      have h1 := HP.out
      rw [List.drop_eq_nil_of_le (by omega)] at h1
      by_cases h11 : l0.length ≤ 11
      · obtain rfl : true = r := by rw [← h1]; simp [planGoS, h11]
        have hb5 : decide ((l0.length : Int) ≤ 11) = true := decide_eq_true (by omega)
        have hb6 : decide (l0.length ≤ 11) = true := decide_eq_true (by omega)
        clear h1
        go_wp2
        go_ret
        exact ⟨rfl, HB.out⟩
      · obtain rfl : false = r := by rw [← h1]; simp [planGoS, h11]
        have hb5 : decide ((l0.length : Int) ≤ 11) = false := decide_eq_false (by omega)
        have hb6 : decide (l0.length ≤ 11) = false := decide_eq_false (by omega)
        clear h1
        go_wp2
        go_ret
        exact ⟨rfl, HB.out⟩
    · have hb3 : decide ((i : Int) < (l0.length : Int)) = true := decide_eq_true (by omega)
      have hb4 : decide (i < l0.length) = true := decide_eq_true (by omega)
      obtain ⟨ad, e, hx0, hx1, hx2, hx3⟩ := at_T96 hr0 (i : Int) (by omega) (by omega)
      cases e
      replace hx0 := (HB.out.cell (World.block_lt_of_cell? w _ hx0)).trans hx0
      replace hx1 := (HB.out.cell (World.block_lt_of_cell? w _ hx1)).trans hx1
      replace hx2 := (HB.out.cell (World.block_lt_of_cell? w _ hx2)).trans hx2
      replace hx3 := (HB.out.cell (World.block_lt_of_cell? w _ hx3)).trans hx3
      obtain ⟨x, hx⟩ : ∃ x, rd_T96 l0 (i : Int) = x := ⟨_, rfl⟩
      rw [hx] at hx0 hx1 hx2 hx3
      simp only [Int.toNat_natCast] at hx0 hx1 hx2 hx3
      have hd : (planGoS (l0.drop i) tn && decide (l0.length ≤ 11)) = (stepOkS x tn && (planGoS (l0.drop (i + 1)) (tn.set x.f1.toNat true) && decide (l0.length ≤ 11))) := by
        rw [List.drop_eq_getElem_cons hlt]
        have e0 : l0[i] = x := by rw [← hx]; simp [rd_T96, List.getD_eq_getElem?_getD, hlt]
        rw [e0]; show (stepOkS x tn && planGoS _ _ && _) = _; rw [Bool.and_assoc]
      have HX := Aside0.mk hx
      clear hx
      have HD := Aside0.mk hd
      clear hd
      have win : ∀ (a b c : Int) (d : Bool) (W : World), decide (b ≤ a ∧ a ≤ c) = d → Calls Try.prog 62 #[.int .i64 a, .int .i64 b, .int .i64 c] W fun e w' => e = .returned (.bool d) ∧ Drawn0 W w' := fun a b c d W hd =>
        spec_l01In.calls a b c d W (by rw [← hd]; unfold spec_l01In.f; by_cases hh : b ≤ a <;> simp [hh])
      have tc : ∀ k, k < 12 → ∀ o : Obj, (wr.alloc o).cell? ⟨go4, k, none⟩ = some (.bool (tn.getD k false)) := fun k hk o => by
        have h9 := (Kd.R_celln false (Kd.R_alloc HA.out o) (k : Int) (by omega) (by omega)).1
        simpa [rdOf] using h9
      have tf : ∀ k, k < 12 → ∀ o : Obj, (wr.alloc o).frozen? ⟨go4, k, none⟩ = false := fun k hk o => by
        have h9 := (Kd.R_celln false (Kd.R_alloc HA.out o) (k : Int) (by omega) (by omega)).2
        simpa using h9
      by_cases q0 : x.f2 = 1 ∨ x.f2 = 2
      rotate_left
      · have W0 := Aside0.mk fun W => win x.f2 1 2 false W (decide_eq_false (by omega))
        have Q1 := Aside0.mk q0
        clear q0 win tc tf
        go_wp2_with (first | (go_at_call 62; (with_reducible refine (W0.out _).mono ?_); rintro e w' ⟨rfl, ⟨nd, rfl⟩⟩))
        all_goals
          obtain rfl : false = r := by
            rw [← HP.out, HD.out]; have := Q1.out; simp only [not_or] at this; simp [stepOkS, this.1, this.2]
          go_ret
          exact ⟨rfl, by repeat (first | exact HB.out | apply below_alloc | apply pw_below_drewN | apply below_drew1)⟩
      have W0 := Aside0.mk fun W => win x.f2 1 2 true W (decide_eq_true (by omega))
      have Q0 := Aside0.mk q0
      clear q0
      by_cases q1 : 0 ≤ x.f3 ∧ x.f3 ≤ 5000
      rotate_left
      · have W1 := Aside0.mk fun W => win x.f3 0 5000 false W (decide_eq_false q1)
        have Q1 := Aside0.mk q1
        clear q1 win tc tf
        go_wp2_with (first | (go_at_call 62; (with_reducible refine (W0.out _).mono ?_); rintro e w' ⟨rfl, ⟨nd, rfl⟩⟩) | (go_at_call 62; (with_reducible refine (W1.out _).mono ?_); rintro e w' ⟨rfl, ⟨nd, rfl⟩⟩))
        all_goals
          obtain rfl : false = r := by
            rw [← HP.out, HD.out]; simp [stepOkS, Q1.out]
          go_ret
          exact ⟨rfl, by repeat (first | exact HB.out | apply below_alloc | apply pw_below_drewN | apply below_drew1)⟩
      have W1 := Aside0.mk fun W => win x.f3 0 5000 true W (decide_eq_true q1)
      by_cases q2 : 0 ≤ x.f0 ∧ x.f0 ≤ 11
      rotate_left
      · have W2 := Aside0.mk fun W => win x.f0 0 11 false W (decide_eq_false q2)
        have Q1 := Aside0.mk q2
        clear q1 q2 win tc tf
        go_wp2_with (first | (go_at_call 62; (with_reducible refine (W0.out _).mono ?_); rintro e w' ⟨rfl, ⟨nd, rfl⟩⟩) | (go_at_call 62; (with_reducible refine (W1.out _).mono ?_); rintro e w' ⟨rfl, ⟨nd, rfl⟩⟩) | (go_at_call 62; (with_reducible refine (W2.out _).mono ?_); rintro e w' ⟨rfl, ⟨nd, rfl⟩⟩))
        all_goals
          obtain rfl : false = r := by
            rw [← HP.out, HD.out]; simp [stepOkS, Q1.out]
          go_ret
          exact ⟨rfl, by repeat (first | exact HB.out | apply below_alloc | apply pw_below_drewN | apply below_drew1)⟩
      have W2 := Aside0.mk fun W => win x.f0 0 11 true W (decide_eq_true q2)
      clear win
      obtain ⟨q2a, q2b⟩ := q2
      have Q13 := Aside0.mk q1
      clear q1
      by_cases q4 : x.f1 = (x.f0 + 1) % 12
      rotate_left
      · have q4a : (x.f1 == (x.f0 + 1) % 12) = false := beq_eq_false_iff_ne.mpr q4
        have q4b : (x.f1 != (x.f0 + 1) % 12) = true := bne_iff_ne.mpr q4
        have Q4 := Aside0.mk q4
        clear q4 tc tf
        go_wp2_with (first | (go_at_call 62; (with_reducible refine (W0.out _).mono ?_); rintro e w' ⟨rfl, ⟨nd, rfl⟩⟩) | (go_at_call 62; (with_reducible refine (W1.out _).mono ?_); rintro e w' ⟨rfl, ⟨nd, rfl⟩⟩) | (go_at_call 62; (with_reducible refine (W2.out _).mono ?_); rintro e w' ⟨rfl, ⟨nd, rfl⟩⟩))
        all_goals
          obtain rfl : false = r := by
            rw [← HP.out, HD.out]; simp [stepOkS, Q4.out]
          go_ret
          exact ⟨rfl, by repeat (first | exact HB.out | apply below_alloc | apply pw_below_drewN | apply below_drew1)⟩
      have q4a : (x.f1 == (x.f0 + 1) % 12) = true := beq_iff_eq.mpr q4
      have q4b : (x.f1 != (x.f0 + 1) % 12) = false := bne_eq_false_iff_eq.mpr q4
      have q3a : 0 ≤ x.f1 := by omega
      have q3b : x.f1 ≤ 11 := by omega
      have Q4 := Aside0.mk q4
      clear q4
      have hc0 := tc x.f0.toNat (by omega)
      have hc1 := tc x.f1.toNat (by omega)
      have hfz := tf x.f1.toNat (by omega)
      clear tc tf
      obtain ⟨b0, hb0⟩ : ∃ b, tn.getD x.f0.toNat false = b := ⟨_, rfl⟩
      obtain ⟨b1, hb1⟩ : ∃ b, tn.getD x.f1.toNat false = b := ⟨_, rfl⟩
      rw [hb0] at hc0
      rw [hb1] at hc1
      have B0 := Aside0.mk hb0
      have B1 := Aside0.mk hb1
      clear hb0 hb1
      have qa := decide_eq_true q2a
      have qb : decide (x.f0 < 12) = true := decide_eq_true (by omega)
      have qc := decide_eq_true q3a
      have qd : decide (x.f1 < 12) = true := decide_eq_true (by omega)
      go_wp2_with (first | (go_at_call 62; (with_reducible refine (W0.out _).mono ?_); rintro e w' ⟨rfl, ⟨nd, rfl⟩⟩) | (go_at_call 62; (with_reducible refine (W1.out _).mono ?_); rintro e w' ⟨rfl, ⟨nd, rfl⟩⟩) | (go_at_call 62; (with_reducible refine (W2.out _).mono ?_); rintro e w' ⟨rfl, ⟨nd, rfl⟩⟩))
      all_goals first
        | (go_ret
           have e : false = r := by
             have h3 := B0.out; have h4 := B1.out
             rw [← HP.out, HD.out]; unfold stepOkS; rw [h3, h4]; simp [*]
           subst e
           exact ⟨rfl, by repeat (first | exact HB.out | apply below_alloc | apply pw_below_drewN | apply below_drew1)⟩)
        | (go_roundg (gk - 1)
           case measure => have := HK.out; omega
           case rel =>
             have hi : i ≤ 11 := by have h1 := HN.out; have h2 := HT.out; have h3 := @List.count_le_length _ _ true tn; omega
             have hn : (tn.set x.f1.toNat true).count true = i + 1 + 1 := by rw [count_put (by have := HT.out; omega) (by rw [B1.out]; first | assumption | simp [*]), HN.out]
             refine ⟨i + 1, tn.set x.f1.toNat true, by rw [show wrap64 ((i : Int) + 1) = ((i + 1 : Nat) : Int) by unfold wrap64; omega], ⟨by have := HK.out; omega⟩, ⟨by omega⟩, ⟨by rw [List.length_set]; exact HT.out⟩, ⟨hn⟩, ⟨?_⟩, ⟨?_⟩, ⟨?_⟩⟩
             · refine (Kd.R_putg ?_ x.f1 true).1
               with_reducible repeat (first | apply Kd.R_alloc | apply Kd.R_drewN | apply Kd.R_drew)
               exact HA.out
             · rw [← HP.out, HD.out]
               have e : stepOkS x tn = true := by
                 have h0 := Q0.out; have h1 := Q4.out; have h2 := Q13.out; have h3 := B0.out; have h4 := B1.out
                 unfold stepOkS; rw [h3, h4]; simp [*]; omega
               rw [e, Bool.true_and]
             · refine below_set ?_ GB.out
               repeat (first | exact HB.out | apply below_alloc | apply pw_below_drewN | apply below_drew1))
end Go.Proofs.Ytbkkpllejgedcaa.P


namespace Go.Proofs.Ytbkkpllejgedcaa.P
open Go.RowKit Go.Proofs.YtbkkpllejgedcaaW.PrintWords Go.Proofs.YtbkkpllejgedcaaW.PrintLast Go.Proofs.YtbkkpllejgedcaaW.PrintMore
attribute [local go_sem] max2_int min2_int max_two min_two max_three min_three max_four min_four
set_option linter.unusedVariables false
set_option linter.unusedSimpArgs false
def spec_l20Step.l0 : Nat → List (S96) → Int → Int → Option (Int)
  | 0, _, _, _ => none
  | k + 1, x0, x1, x5 => if x5 < (x0.length : Int) then (if 0 ≤ x5 then (if ((rd_T96 x0 x5).f1) = x1 then (some x5) else (spec_l20Step.l0 k x0 x1 (wrap64 (x5 + 1)))) else (none)) else (some (-1))
def spec_l20Step.f (k : Nat) (l0 : List (S96)) (a1 : Int) : Option (Int) := spec_l20Step.l0 k l0 a1 0
set_option maxHeartbeats 8000000 in
set_option maxRecDepth 100000 in
theorem spec_l20Step.calls (k : Nat) (A0 : Option Addr) (c0 : Nat) (l0 : List (S96)) (a1 : Int) (r : Int) (w : World) (hr0 : Kd.C k96 w A0 l0.length l0) (hc0 : l0.length ≤ c0) (h : spec_l20Step.f k l0 a1 = some r) :
    Calls Try.prog 102 #[.slice A0 l0.length c0, .int .i64 a1] w fun e w' => e = .returned (.int .i64 r) ∧ Drawn0 w w' := by
  have HR0 := Aside0.mk hr0
  have HC0 := Aside0.mk hc0
  clear hr0 hc0
  have H : (spec_l20Step.l0 k l0 a1 0) = some r := h
  clear h
  have H' := Aside0.mk H
  clear H
  go_enter Try.func102, Try.ntmps102
  go_wp2
  go_loopg [5] k (fun kq v5 w' => ∃ (x5_1 : Int), v5 = .int .i64 x5_1 ∧ Aside0 (spec_l20Step.l0 kq l0 a1 x5_1 = some r) ∧ Aside0 (kq ≤ k) ∧ Drawn0 w w')
  case atStart => exact ⟨(0), (by first | rfl | (simp; done) | (simp [*]; done)), H', ⟨Nat.le_refl _⟩, by repeat (first | exact Drawn0.refl _ | apply Drawn0.step)⟩
  case round =>
    clear H'
    try clear c1
    try clear p2
    obtain ⟨x5_1, rfl, HA, HK1, ⟨m1, rfl⟩⟩ := hrel
    cases gk with
    | zero => exact absurd HA.out (by simp [spec_l20Step.l0])
    | succ k1 =>
      have H := HA.out
      clear HA
      simp only [spec_l20Step.l0] at H
      by_cases c3 : x5_1 < (l0.length : Int)
      · rw [if_pos c3] at H
        have c3b0 : decide (x5_1 < (l0.length : Int)) = true := decide_eq_true c3
        clear c3
        by_cases c4 : 0 ≤ x5_1
        · rw [if_pos c4] at H
          have c4b0 : decide (0 ≤ x5_1) = true := decide_eq_true c4
          clear c4
          by_cases c5 : ((rd_T96 l0 x5_1).f1) = a1
          · rw [if_pos c5] at H
            have c5b0 : (((rd_T96 l0 x5_1).f1) == a1) = true := beq_iff_eq.mpr c5
            have c5b1 : (((rd_T96 l0 x5_1).f1) != a1) = false := bne_eq_false_iff_eq.mpr c5
            clear c5
            obtain rfl := Option.some.inj H
            have p107 : 0 ≤ (x5_1 : Int) := of_decide_eq_true (by first | (with_reducible assumption) | assumption)
            have q107 : x5_1 < (l0.length : Int) := of_decide_eq_true (by first | (with_reducible assumption) | assumption)
            obtain ⟨ad107, e107, hx107_0, hx107_1, hx107_2, hx107_3⟩ := at_T96 HR0.out x5_1 p107 q107
            cases e107
            replace p107 := eq_true p107
            replace q107 := eq_true q107
            go_wp2
            go_ret
            exact ⟨by first | rfl | (simp; done) | (simp [*]; done), by repeat (first | exact Drawn0.refl _ | apply Drawn0.step)⟩
          · rw [if_neg c5] at H
            have c5b0 : (((rd_T96 l0 x5_1).f1) == a1) = false := beq_eq_false_iff_ne.mpr c5
            have c5b1 : (((rd_T96 l0 x5_1).f1) != a1) = true := bne_iff_ne.mpr c5
            have H' := Aside0.mk H
            clear H
            have p107 : 0 ≤ (x5_1 : Int) := of_decide_eq_true (by first | (with_reducible assumption) | assumption)
            have q107 : x5_1 < (l0.length : Int) := of_decide_eq_true (by first | (with_reducible assumption) | assumption)
            obtain ⟨ad107, e107, hx107_0, hx107_1, hx107_2, hx107_3⟩ := at_T96 HR0.out x5_1 p107 q107
            cases e107
            replace p107 := eq_true p107
            replace q107 := eq_true q107
            go_wp2
            go_roundg k1
            case measure => have := HK1.out; omega
            case rel => exact ⟨(wrap64 (x5_1 + 1)), (by first | rfl | (simp; done) | (simp [*]; done)), H', ⟨by have := HK1.out; omega⟩, by repeat (first | exact Drawn0.refl _ | apply Drawn0.step)⟩
        · rw [if_neg c4] at H
          exact absurd H (by simp)
      · rw [if_neg c3] at H
        have c3b0 : decide (x5_1 < (l0.length : Int)) = false := decide_eq_false c3
        clear c3
        obtain rfl := Option.some.inj H
        go_wp2
        go_ret
        exact ⟨by first | rfl | (simp; done) | (simp [*]; done), by repeat (first | exact Drawn0.refl _ | apply Drawn0.step)⟩
end Go.Proofs.Ytbkkpllejgedcaa.P


namespace Go.Proofs.Ytbkkpllejgedcaa.P
open Go.RowKit Go.Proofs.YtbkkpllejgedcaaW.PrintWords Go.Proofs.YtbkkpllejgedcaaW.PrintLast Go.Proofs.YtbkkpllejgedcaaW.PrintMore
attribute [local go_sem] max2_int min2_int max_two min_two max_three min_three max_four min_four
set_option linter.unusedVariables false
set_option linter.unusedSimpArgs false
def spec_l18Pitch.f (a0 : Int) : Option (Bool) := (spec_l01In.f a0 1 10000000).bind fun t108 => (some t108)
set_option maxHeartbeats 8000000 in
set_option maxRecDepth 100000 in
theorem spec_l18Pitch.calls (a0 : Int) (r : Bool) (w : World) (h : spec_l18Pitch.f a0 = some r) :
    Calls Try.prog 103 #[.int .i64 a0] w fun e w' => e = .returned (.bool r) ∧ Drawn0 w w' := by
  have H : ((spec_l01In.f a0 1 10000000).bind fun t108 => (some t108)) = some r := h
  clear h
  replace H := Option.bind_eq_some_iff.mp H
  obtain ⟨t108, A20, H⟩ := H
  (try dsimp only at H)
  have A2 := Aside0.mk A20
  clear A20
  obtain rfl := Option.some.inj H
  go_enter Try.func103, Try.ntmps103
  go_wp2_with (first | ((with_reducible refine gate_callee (f := 62) rfl ?_); refine goesL_ (some 4) rfl rfl Try.func62 (by kernel_rfl) rfl #[.int .i64 a0, .int .i64 1, .int .i64 10000000] rfl (by (try simp only [List.map_toArray, List.map_cons, List.map_nil]); first | done | rfl | (simp only [List.length_drop, List.length_take]; rfl)) ?_; (with_reducible refine (spec_l01In.calls a0 1 10000000 t108 _ A2.out).mono ?_); rintro e w' ⟨rfl, ⟨nd, rfl⟩⟩; refine ⟨_, rfl, ?_⟩))
  go_ret
  exact ⟨by first | rfl | (simp; done) | (simp [*]; done), by repeat (first | exact Drawn0.refl _ | apply Drawn0.step)⟩
end Go.Proofs.Ytbkkpllejgedcaa.P


namespace Go.Proofs.Ytbkkpllejgedcaa.P
open Go.RowKit Go.Proofs.YtbkkpllejgedcaaW.PrintWords Go.Proofs.YtbkkpllejgedcaaW.PrintLast Go.Proofs.YtbkkpllejgedcaaW.PrintMore
attribute [local go_sem] max2_int min2_int max_two min_two max_three min_three max_four min_four
set_option linter.unusedVariables false
set_option linter.unusedSimpArgs false
mutual
def spec_WorkOk.j0 : Nat → Bool → List (S96) → Int → List Int → Option (Bool)
  | 0, _, _, _, _ => none
  | k + 1, x24, x110000, x110001, x110002 => if x24 = true then (some false) else (spec_WorkOk.l0 k 0 x110000 x110001 x110002)
def spec_WorkOk.l0 : Nat → Int → List (S96) → Int → List Int → Option (Bool)
  | 0, _, _, _, _ => none
  | k + 1, x3, x110000, x110001, x110002 => if x3 < 12 then ((spec_l20Step.f k x110000 x3).bind fun t112 => (if x3 = 0 then (if 0 ≤ x3 then (if x3 < (x110002.length : Int) then ((spec_l18Pitch.f (rd x110002 x3)).bind fun t114 => (if t114 = true then (spec_WorkOk.l0 k (wrap64 (x3 + 1)) x110000 x110001 x110002) else (some false))) else (none)) else (none)) else (if t112 ≥ 0 then (if t112 < x110001 then (if 0 ≤ x3 then (if x3 < (x110002.length : Int) then ((spec_l18Pitch.f (rd x110002 x3)).bind fun t116 => (if t116 = true then (spec_WorkOk.l0 k (wrap64 (x3 + 1)) x110000 x110001 x110002) else (some false))) else (none)) else (none)) else (if 0 ≤ x3 then (if x3 < (x110002.length : Int) then (if (rd x110002 x3) = 0 then (spec_WorkOk.l0 k (wrap64 (x3 + 1)) x110000 x110001 x110002) else (some false)) else (none)) else (none))) else (if 0 ≤ x3 then (if x3 < (x110002.length : Int) then (if (rd x110002 x3) = 0 then (spec_WorkOk.l0 k (wrap64 (x3 + 1)) x110000 x110001 x110002) else (some false)) else (none)) else (none))))) else (some true)
end
def spec_WorkOk.f (k : Nat) (l0_0 : List (S96)) (a0_1 : Int) (l0_2 : List Int) : Option (Bool) := (spec_PlanOk.f l0_0).bind fun t110 => (if t110 = true then ((spec_l01In.f a0_1 0 (l0_0.length : Int)).bind fun t111 => (if t111 = true then (spec_WorkOk.j0 k ((l0_2.length : Int) != 12) l0_0 a0_1 l0_2) else (spec_WorkOk.j0 k true l0_0 a0_1 l0_2))) else (spec_WorkOk.j0 k true l0_0 a0_1 l0_2))
set_option maxHeartbeats 8000000 in
set_option maxRecDepth 100000 in
theorem spec_WorkOk.calls (k : Nat) (A0_0 : Option Addr) (c0_0 : Nat) (l0_0 : List (S96)) (a0_1 : Int) (A0_2 : Option Addr) (c0_2 : Nat) (l0_2 : List Int) (r : Bool) (w : World) (hr0_0 : Kd.C k96 w A0_0 l0_0.length l0_0) (hc0_0 : l0_0.length ≤ c0_0) (hr0_2 : Kd.C (Kd.int .i64) w A0_2 l0_2.length l0_2) (hc0_2 : l0_2.length ≤ c0_2) (h : spec_WorkOk.f k l0_0 a0_1 l0_2 = some r) :
    Calls Try.prog 60 #[.agg #[.slice A0_0 l0_0.length c0_0, .int .i64 a0_1, .slice A0_2 l0_2.length c0_2]] w fun e w' => e = .returned (.bool r) ∧ Below w.heap.size w w' := by
  have hu33 := Try.underlying33
  have HR0_0 := Aside0.mk hr0_0
  have HC0_0 := Aside0.mk hc0_0
  clear hr0_0 hc0_0
  have HR0_2 := Aside0.mk hr0_2
  have HC0_2 := Aside0.mk hc0_2
  clear hr0_2 hc0_2
  have HB := Aside0.mk (Below.refl w.heap.size w)
  have H : ((spec_PlanOk.f l0_0).bind fun t110 => (if t110 = true then ((spec_l01In.f a0_1 0 (l0_0.length : Int)).bind fun t111 => (if t111 = true then (spec_WorkOk.j0 k ((l0_2.length : Int) != 12) l0_0 a0_1 l0_2) else (spec_WorkOk.j0 k true l0_0 a0_1 l0_2))) else (spec_WorkOk.j0 k true l0_0 a0_1 l0_2))) = some r := h
  clear h
  have HC2 := Aside0.mk H
  clear H
  go_enter Try.func60, Try.ntmps60
  go_upto_region 1 with (first | ((with_reducible refine gate_dst (N := 1) rfl ?_); (try (refine gate_guard (by rfl) ?_; dsimp only)); refine box_event ?hg (N := 1) ?hd (cs := #[.slice A0_0 l0_0.length c0_0, .int .i64 a0_1, .slice A0_2 l0_2.length c0_2]) (t := 33) ?hr ?_; (case hd => rfl); (case hg => rfl); (case hr => first | (go_simp; done) | (go_simp; rfl)); intro gb109 hg w3 hbox hb; have n0_ := Aside0.mk (below_step (oB HB) hb); have n1_ := Aside0.mk (hbox); have n2_ := Aside0.mk ((by rw [hg]; exact (below_size (oB HB)) : w.heap.size ≤ gb109)); have n3_ := Aside0.mk ((by rw [hg]; exact (below_size (oB HB)) : w.heap.size ≤ gb109)); clear HB; have HB := n0_; have BK109 := n1_; have GW109 := n2_; have GE109 := n3_; clear n0_ n1_ n2_ n3_; clear hb hbox hg))
  (try simp only [Act.put, List.setIfInBounds_toArray, List.set_cons_zero, List.set_cons_succ])
  go_cut [24] (fun v24 wc => ∃ (kq : Nat) (x24_1 : Bool), v24 = .bool x24_1 ∧ Aside0 (spec_WorkOk.j0 kq x24_1 l0_0 a0_1 l0_2 = some r) ∧ Aside0 (kq ≤ k) ∧ Aside0 (wc.heap[gb109]? = some (.cells #[(.slice A0_0 l0_0.length c0_0), .int .i64 a0_1, (.slice A0_2 l0_2.length c0_2)] 33 (0, 0))) ∧ Aside0 (Below w.heap.size w wc))
  case first =>
    have H := HC2.out
    clear HC2
    replace H := Option.bind_eq_some_iff.mp H
    obtain ⟨t110, A40, H⟩ := H
    (try dsimp only at H)
    have A4 := Aside0.mk A40
    clear A40
    by_cases c5 : t110 = true
    · subst c5
      rw [if_pos rfl] at H
      replace H := Option.bind_eq_some_iff.mp H
      obtain ⟨t111, A60, H⟩ := H
      (try dsimp only at H)
      have A6 := Aside0.mk A60
      clear A60
      by_cases c7 : t111 = true
      · subst c7
        rw [if_pos rfl] at H
        have H' := Aside0.mk H
        clear H
        have hcz8_0 : w3.cell? ⟨gb109, 0, none⟩ = some (.slice A0_0 l0_0.length c0_0) := (blk_cell BK109.out 0).trans rfl
        have hcz8_1 : w3.cell? ⟨gb109, 1, none⟩ = some (.int .i64 a0_1) := (blk_cell BK109.out 1).trans rfl
        have hcz8_2 : w3.cell? ⟨gb109, 2, none⟩ = some (.slice A0_2 l0_2.length c0_2) := (blk_cell BK109.out 2).trans rfl
        have hfz8_0 := blk_frozen BK109.out 0
        have hfz8_1 := blk_frozen BK109.out 1
        have hfz8_2 := blk_frozen BK109.out 2
        go_wp2_with (first | ((with_reducible refine gate_callee (f := 101) rfl ?_); refine goesL_ (some 8) rfl rfl Try.func101 (by kernel_rfl) rfl #[.slice A0_0 l0_0.length c0_0] rfl (by (try simp only [List.map_toArray, List.map_cons, List.map_nil]); first | done | rfl | (simp only [List.length_drop, List.length_take]; rfl)) ?_; (with_reducible refine (spec_PlanOk.calls _ _ l0_0 true _ ?side1 ?side2 A4.out).mono ?_); (case side1 => exact oc_ HR0_0.out); (case side2 => exact HC0_0.out); rintro e w9 ⟨rfl, hb⟩; refine ⟨_, rfl, ?_⟩; have n0_ := Aside0.mk (blk_below (g := gb109) (o := .cells #[.slice A0_0 l0_0.length c0_0, .int .i64 a0_1, .slice A0_2 l0_2.length c0_2] 33 (0, 0)) (oK BK109) hb); have n1_ := Aside0.mk (below_step (oB HB) hb); clear BK109; clear HB; have BK109 := n0_; have HB := n1_; clear n0_ n1_; (try clear hb); (try clear hb2); (try clear hk); (try clear hi); have hcz10_0 : w9.cell? ⟨gb109, 0, none⟩ = some (.slice A0_0 l0_0.length c0_0) := (blk_cell BK109.out 0).trans rfl; have hcz10_1 : w9.cell? ⟨gb109, 1, none⟩ = some (.int .i64 a0_1) := (blk_cell BK109.out 1).trans rfl; have hcz10_2 : w9.cell? ⟨gb109, 2, none⟩ = some (.slice A0_2 l0_2.length c0_2) := (blk_cell BK109.out 2).trans rfl; have hfz10_0 := blk_frozen BK109.out 0; have hfz10_1 := blk_frozen BK109.out 1; have hfz10_2 := blk_frozen BK109.out 2) | (go_at_call 62; (with_reducible refine (spec_l01In.calls a0_1 0 (l0_0.length : Int) true _ A6.out).mono ?_); rintro e w' ⟨rfl, ⟨nd, rfl⟩⟩))
        go_meet
        case rel => exact ⟨_, (((l0_2.length : Int) != 12)), (by first | rfl | (simp; done) | (simp [*]; done)), H', ⟨by first | omega | exact Nat.le_refl _⟩, ⟨oK BK109⟩, ⟨oB HB⟩⟩
      · replace c7 := Bool.eq_false_iff.mpr c7
        subst c7
        rw [if_neg (show ¬ (false = true) by decide)] at H
        have H' := Aside0.mk H
        clear H
        have hcz11_0 : w3.cell? ⟨gb109, 0, none⟩ = some (.slice A0_0 l0_0.length c0_0) := (blk_cell BK109.out 0).trans rfl
        have hcz11_1 : w3.cell? ⟨gb109, 1, none⟩ = some (.int .i64 a0_1) := (blk_cell BK109.out 1).trans rfl
        have hcz11_2 : w3.cell? ⟨gb109, 2, none⟩ = some (.slice A0_2 l0_2.length c0_2) := (blk_cell BK109.out 2).trans rfl
        have hfz11_0 := blk_frozen BK109.out 0
        have hfz11_1 := blk_frozen BK109.out 1
        have hfz11_2 := blk_frozen BK109.out 2
        go_wp2_with (first | ((with_reducible refine gate_callee (f := 101) rfl ?_); refine goesL_ (some 8) rfl rfl Try.func101 (by kernel_rfl) rfl #[.slice A0_0 l0_0.length c0_0] rfl (by (try simp only [List.map_toArray, List.map_cons, List.map_nil]); first | done | rfl | (simp only [List.length_drop, List.length_take]; rfl)) ?_; (with_reducible refine (spec_PlanOk.calls _ _ l0_0 true _ ?side1 ?side2 A4.out).mono ?_); (case side1 => exact oc_ HR0_0.out); (case side2 => exact HC0_0.out); rintro e w12 ⟨rfl, hb⟩; refine ⟨_, rfl, ?_⟩; have n0_ := Aside0.mk (blk_below (g := gb109) (o := .cells #[.slice A0_0 l0_0.length c0_0, .int .i64 a0_1, .slice A0_2 l0_2.length c0_2] 33 (0, 0)) (oK BK109) hb); have n1_ := Aside0.mk (below_step (oB HB) hb); clear BK109; clear HB; have BK109 := n0_; have HB := n1_; clear n0_ n1_; (try clear hb); (try clear hb2); (try clear hk); (try clear hi); have hcz13_0 : w12.cell? ⟨gb109, 0, none⟩ = some (.slice A0_0 l0_0.length c0_0) := (blk_cell BK109.out 0).trans rfl; have hcz13_1 : w12.cell? ⟨gb109, 1, none⟩ = some (.int .i64 a0_1) := (blk_cell BK109.out 1).trans rfl; have hcz13_2 : w12.cell? ⟨gb109, 2, none⟩ = some (.slice A0_2 l0_2.length c0_2) := (blk_cell BK109.out 2).trans rfl; have hfz13_0 := blk_frozen BK109.out 0; have hfz13_1 := blk_frozen BK109.out 1; have hfz13_2 := blk_frozen BK109.out 2) | (go_at_call 62; (with_reducible refine (spec_l01In.calls a0_1 0 (l0_0.length : Int) false _ A6.out).mono ?_); rintro e w' ⟨rfl, ⟨nd, rfl⟩⟩))
        go_meet
        case rel => exact ⟨_, (true), (by first | rfl | (simp; done) | (simp [*]; done)), H', ⟨by first | omega | exact Nat.le_refl _⟩, ⟨oK BK109⟩, ⟨oB HB⟩⟩
    · replace c5 := Bool.eq_false_iff.mpr c5
      subst c5
      rw [if_neg (show ¬ (false = true) by decide)] at H
      have H' := Aside0.mk H
      clear H
      have hcz14_0 : w3.cell? ⟨gb109, 0, none⟩ = some (.slice A0_0 l0_0.length c0_0) := (blk_cell BK109.out 0).trans rfl
      have hcz14_1 : w3.cell? ⟨gb109, 1, none⟩ = some (.int .i64 a0_1) := (blk_cell BK109.out 1).trans rfl
      have hcz14_2 : w3.cell? ⟨gb109, 2, none⟩ = some (.slice A0_2 l0_2.length c0_2) := (blk_cell BK109.out 2).trans rfl
      have hfz14_0 := blk_frozen BK109.out 0
      have hfz14_1 := blk_frozen BK109.out 1
      have hfz14_2 := blk_frozen BK109.out 2
      go_wp2_with (first | ((with_reducible refine gate_callee (f := 101) rfl ?_); refine goesL_ (some 8) rfl rfl Try.func101 (by kernel_rfl) rfl #[.slice A0_0 l0_0.length c0_0] rfl (by (try simp only [List.map_toArray, List.map_cons, List.map_nil]); first | done | rfl | (simp only [List.length_drop, List.length_take]; rfl)) ?_; (with_reducible refine (spec_PlanOk.calls _ _ l0_0 false _ ?side1 ?side2 A4.out).mono ?_); (case side1 => exact oc_ HR0_0.out); (case side2 => exact HC0_0.out); rintro e w15 ⟨rfl, hb⟩; refine ⟨_, rfl, ?_⟩; have n0_ := Aside0.mk (blk_below (g := gb109) (o := .cells #[.slice A0_0 l0_0.length c0_0, .int .i64 a0_1, .slice A0_2 l0_2.length c0_2] 33 (0, 0)) (oK BK109) hb); have n1_ := Aside0.mk (below_step (oB HB) hb); clear BK109; clear HB; have BK109 := n0_; have HB := n1_; clear n0_ n1_; (try clear hb); (try clear hb2); (try clear hk); (try clear hi)))
      go_meet
      case rel => exact ⟨_, (true), (by first | rfl | (simp; done) | (simp [*]; done)), H', ⟨by first | omega | exact Nat.le_refl _⟩, ⟨oK BK109⟩, ⟨oB HB⟩⟩
  case rest =>
    clear HC2
    try clear c1
    try clear p2
    try clear c5
    try clear c6
    try clear c7
    try clear c10
    try clear hcz10_0
    try clear hcz10_1
    try clear hcz10_2
    try clear hcz11_0
    try clear hcz11_1
    try clear hcz11_2
    try clear hcz13_0
    try clear hcz13_1
    try clear hcz13_2
    try clear hcz14_0
    try clear hcz14_1
    try clear hcz14_2
    try clear hcz8_0
    try clear hcz8_1
    try clear hcz8_2
    try clear hfz10_0
    try clear hfz10_1
    try clear hfz10_2
    try clear hfz11_0
    try clear hfz11_1
    try clear hfz11_2
    try clear hfz13_0
    try clear hfz13_1
    try clear hfz13_2
    try clear hfz14_0
    try clear hfz14_1
    try clear hfz14_2
    try clear hfz8_0
    try clear hfz8_1
    try clear hfz8_2
    obtain ⟨kq, x24_1, rfl, HA, HJ1, BK109, HB⟩ := hcut
    cases kq with
    | zero => exact absurd HA.out (by simp [spec_WorkOk.j0])
    | succ kj1 =>
      have H := HA.out
      clear HA
      simp only [spec_WorkOk.j0] at H
      by_cases c16 : x24_1 = true
      · subst c16
        rw [if_pos rfl] at H
        obtain rfl := Option.some.inj H
        go_wp2
        go_ret
        exact ⟨by first | rfl | (simp [errW_none, errW_some] <;> rfl) | (simp [*, errW_none, errW_some] <;> rfl), oB HB⟩
      · replace c16 := Bool.eq_false_iff.mpr c16
        subst c16
        rw [if_neg (show ¬ (false = true) by decide)] at H
        have H' := Aside0.mk H
        clear H
        go_wp2
        go_loopg [3] kj1 (fun kq v3 w' => ∃ (x3_2 : Int), v3 = .int .i64 x3_2 ∧ Aside0 (spec_WorkOk.l0 kq x3_2 l0_0 a0_1 l0_2 = some r) ∧ Aside0 (kq ≤ kj1) ∧ Aside0 (w'.heap[gb109]? = some (.cells #[(.slice A0_0 l0_0.length c0_0), .int .i64 a0_1, (.slice A0_2 l0_2.length c0_2)] 33 (0, 0))) ∧ Aside0 (Below w.heap.size w w'))
        case atStart => exact ⟨(0), (by first | rfl | (simp; done) | (simp [*]; done)), H', ⟨Nat.le_refl _⟩, ⟨oK BK109⟩, ⟨oB HB⟩⟩
        case round =>
          clear H'
          try clear c1
          try clear p2
          try clear c5
          try clear c6
          try clear c7
          try clear c10
          try clear c16
          try clear hcz10_0
          try clear hcz10_1
          try clear hcz10_2
          try clear hcz11_0
          try clear hcz11_1
          try clear hcz11_2
          try clear hcz13_0
          try clear hcz13_1
          try clear hcz13_2
          try clear hcz14_0
          try clear hcz14_1
          try clear hcz14_2
          try clear hcz8_0
          try clear hcz8_1
          try clear hcz8_2
          try clear hfz10_0
          try clear hfz10_1
          try clear hfz10_2
          try clear hfz11_0
          try clear hfz11_1
          try clear hfz11_2
          try clear hfz13_0
          try clear hfz13_1
          try clear hfz13_2
          try clear hfz14_0
          try clear hfz14_1
          try clear hfz14_2
          try clear hfz8_0
          try clear hfz8_1
          try clear hfz8_2
          try clear p2
          obtain ⟨x3_2, rfl, HA, HK2, BK109, HB⟩ := hrel
          cases gk with
          | zero => exact absurd HA.out (by simp [spec_WorkOk.l0])
          | succ k2 =>
            have H := HA.out
            clear HA
            simp only [spec_WorkOk.l0] at H
            by_cases c17 : x3_2 < 12
            · rw [if_pos c17] at H
              have c17b0 : decide (x3_2 < 12) = true := decide_eq_true c17
              clear c17
              replace H := Option.bind_eq_some_iff.mp H
              obtain ⟨t112, A180, H⟩ := H
              (try dsimp only at H)
              have A18 := Aside0.mk A180
              clear A180
              by_cases c19 : x3_2 = 0
              · rw [if_pos c19] at H
                have c19b0 : (x3_2 == 0) = true := beq_iff_eq.mpr c19
                have c19b1 : (x3_2 != 0) = false := bne_eq_false_iff_eq.mpr c19
                clear c19
                by_cases c20 : 0 ≤ x3_2
                · rw [if_pos c20] at H
                  have c20b0 : decide (0 ≤ x3_2) = true := decide_eq_true c20
                  clear c20
                  by_cases c21 : x3_2 < (l0_2.length : Int)
                  · rw [if_pos c21] at H
                    have c21b0 : decide (x3_2 < (l0_2.length : Int)) = true := decide_eq_true c21
                    clear c21
                    replace H := Option.bind_eq_some_iff.mp H
                    obtain ⟨t114, A220, H⟩ := H
                    (try dsimp only at H)
                    have A22 := Aside0.mk A220
                    clear A220
                    by_cases c23 : t114 = true
                    · subst c23
                      rw [if_pos rfl] at H
                      have H' := Aside0.mk H
                      clear H
                      have hcz24_0 : wr.cell? ⟨gb109, 0, none⟩ = some (.slice A0_0 l0_0.length c0_0) := (blk_cell BK109.out 0).trans rfl
                      have hcz24_1 : wr.cell? ⟨gb109, 1, none⟩ = some (.int .i64 a0_1) := (blk_cell BK109.out 1).trans rfl
                      have hcz24_2 : wr.cell? ⟨gb109, 2, none⟩ = some (.slice A0_2 l0_2.length c0_2) := (blk_cell BK109.out 2).trans rfl
                      have hfz24_0 := blk_frozen BK109.out 0
                      have hfz24_1 := blk_frozen BK109.out 1
                      have hfz24_2 := blk_frozen BK109.out 2
                      go_wp2_with (first | ((with_reducible refine gate_callee (f := 102) rfl ?_); refine goesL_ (some 32) rfl rfl Try.func102 (by kernel_rfl) rfl #[.slice A0_0 l0_0.length c0_0, .int .i64 x3_2] rfl (by (try simp only [List.map_toArray, List.map_cons, List.map_nil]); first | done | rfl | (simp only [List.length_drop, List.length_take]; rfl)) ?_; (with_reducible refine (spec_l20Step.calls k2 _ _ l0_0 x3_2 t112 _ ?side1 ?side2 A18.out).mono ?_); (case side1 => exact oc_ HR0_0.out); (case side2 => exact HC0_0.out); rintro e w' ⟨rfl, ⟨nd, rfl⟩⟩; refine ⟨_, rfl, ?_⟩; have p113 : 0 ≤ (x3_2 : Int) := of_decide_eq_true (by first | (with_reducible assumption) | assumption); have q113 : x3_2 < (l0_2.length : Int) := of_decide_eq_true (by first | (with_reducible assumption) | assumption); obtain ⟨ad113, e113, hx113_0⟩ := Kd.at_int HR0_2.out x3_2 p113 q113; cases e113; replace hx113_0 := (HB.out.cell (World.block_lt_of_cell? w _ hx113_0)).trans hx113_0; replace p113 := eq_true p113; replace q113 := eq_true q113) | (go_at_call 103; (with_reducible refine (spec_l18Pitch.calls (rd l0_2 x3_2) true _ A22.out).mono ?_); rintro e w' ⟨rfl, ⟨nd, rfl⟩⟩))
                      go_roundg k2
                      case measure => have := HJ1.out; have := HK2.out; omega
                      case rel => exact ⟨(wrap64 (x3_2 + 1)), (by first | rfl | (simp; done) | (simp [*]; done)), H', ⟨by have := HJ1.out; have := HK2.out; omega⟩, ⟨oK BK109⟩, ⟨oB HB⟩⟩
                    · replace c23 := Bool.eq_false_iff.mpr c23
                      subst c23
                      rw [if_neg (show ¬ (false = true) by decide)] at H
                      obtain rfl := Option.some.inj H
                      have hcz25_0 : wr.cell? ⟨gb109, 0, none⟩ = some (.slice A0_0 l0_0.length c0_0) := (blk_cell BK109.out 0).trans rfl
                      have hcz25_1 : wr.cell? ⟨gb109, 1, none⟩ = some (.int .i64 a0_1) := (blk_cell BK109.out 1).trans rfl
                      have hcz25_2 : wr.cell? ⟨gb109, 2, none⟩ = some (.slice A0_2 l0_2.length c0_2) := (blk_cell BK109.out 2).trans rfl
                      have hfz25_0 := blk_frozen BK109.out 0
                      have hfz25_1 := blk_frozen BK109.out 1
                      have hfz25_2 := blk_frozen BK109.out 2
                      go_wp2_with (first | ((with_reducible refine gate_callee (f := 102) rfl ?_); refine goesL_ (some 32) rfl rfl Try.func102 (by kernel_rfl) rfl #[.slice A0_0 l0_0.length c0_0, .int .i64 x3_2] rfl (by (try simp only [List.map_toArray, List.map_cons, List.map_nil]); first | done | rfl | (simp only [List.length_drop, List.length_take]; rfl)) ?_; (with_reducible refine (spec_l20Step.calls k2 _ _ l0_0 x3_2 t112 _ ?side1 ?side2 A18.out).mono ?_); (case side1 => exact oc_ HR0_0.out); (case side2 => exact HC0_0.out); rintro e w' ⟨rfl, ⟨nd, rfl⟩⟩; refine ⟨_, rfl, ?_⟩; have p113 : 0 ≤ (x3_2 : Int) := of_decide_eq_true (by first | (with_reducible assumption) | assumption); have q113 : x3_2 < (l0_2.length : Int) := of_decide_eq_true (by first | (with_reducible assumption) | assumption); obtain ⟨ad113, e113, hx113_0⟩ := Kd.at_int HR0_2.out x3_2 p113 q113; cases e113; replace hx113_0 := (HB.out.cell (World.block_lt_of_cell? w _ hx113_0)).trans hx113_0; replace p113 := eq_true p113; replace q113 := eq_true q113) | (go_at_call 103; (with_reducible refine (spec_l18Pitch.calls (rd l0_2 x3_2) false _ A22.out).mono ?_); rintro e w' ⟨rfl, ⟨nd, rfl⟩⟩))
                      go_ret
                      exact ⟨by first | rfl | (simp [errW_none, errW_some] <;> rfl) | (simp [*, errW_none, errW_some] <;> rfl), oB HB⟩
                  · rw [if_neg c21] at H
                    exact absurd H (by simp)
                · rw [if_neg c20] at H
                  exact absurd H (by simp)
              · rw [if_neg c19] at H
                have c19b0 : (x3_2 == 0) = false := beq_eq_false_iff_ne.mpr c19
                have c19b1 : (x3_2 != 0) = true := bne_iff_ne.mpr c19
                by_cases c26 : t112 ≥ 0
                · rw [if_pos c26] at H
                  have c26b0 : decide (0 ≤ t112) = true := decide_eq_true c26
                  clear c26
                  by_cases c27 : t112 < a0_1
                  · rw [if_pos c27] at H
                    have c27b0 : decide (t112 < a0_1) = true := decide_eq_true c27
                    clear c27
                    by_cases c28 : 0 ≤ x3_2
                    · rw [if_pos c28] at H
                      have c28b0 : decide (0 ≤ x3_2) = true := decide_eq_true c28
                      clear c28
                      by_cases c29 : x3_2 < (l0_2.length : Int)
                      · rw [if_pos c29] at H
                        have c29b0 : decide (x3_2 < (l0_2.length : Int)) = true := decide_eq_true c29
                        clear c29
                        replace H := Option.bind_eq_some_iff.mp H
                        obtain ⟨t116, A300, H⟩ := H
                        (try dsimp only at H)
                        have A30 := Aside0.mk A300
                        clear A300
                        by_cases c31 : t116 = true
                        · subst c31
                          rw [if_pos rfl] at H
                          have H' := Aside0.mk H
                          clear H
                          have hcz32_0 : wr.cell? ⟨gb109, 0, none⟩ = some (.slice A0_0 l0_0.length c0_0) := (blk_cell BK109.out 0).trans rfl
                          have hcz32_1 : wr.cell? ⟨gb109, 1, none⟩ = some (.int .i64 a0_1) := (blk_cell BK109.out 1).trans rfl
                          have hcz32_2 : wr.cell? ⟨gb109, 2, none⟩ = some (.slice A0_2 l0_2.length c0_2) := (blk_cell BK109.out 2).trans rfl
                          have hfz32_0 := blk_frozen BK109.out 0
                          have hfz32_1 := blk_frozen BK109.out 1
                          have hfz32_2 := blk_frozen BK109.out 2
                          go_wp2_with (first | ((with_reducible refine gate_callee (f := 102) rfl ?_); refine goesL_ (some 32) rfl rfl Try.func102 (by kernel_rfl) rfl #[.slice A0_0 l0_0.length c0_0, .int .i64 x3_2] rfl (by (try simp only [List.map_toArray, List.map_cons, List.map_nil]); first | done | rfl | (simp only [List.length_drop, List.length_take]; rfl)) ?_; (with_reducible refine (spec_l20Step.calls k2 _ _ l0_0 x3_2 t112 _ ?side1 ?side2 A18.out).mono ?_); (case side1 => exact oc_ HR0_0.out); (case side2 => exact HC0_0.out); rintro e w' ⟨rfl, ⟨nd, rfl⟩⟩; refine ⟨_, rfl, ?_⟩; have p115 : 0 ≤ (x3_2 : Int) := of_decide_eq_true (by first | (with_reducible assumption) | assumption); have q115 : x3_2 < (l0_2.length : Int) := of_decide_eq_true (by first | (with_reducible assumption) | assumption); obtain ⟨ad115, e115, hx115_0⟩ := Kd.at_int HR0_2.out x3_2 p115 q115; cases e115; replace hx115_0 := (HB.out.cell (World.block_lt_of_cell? w _ hx115_0)).trans hx115_0; replace p115 := eq_true p115; replace q115 := eq_true q115) | (go_at_call 103; (with_reducible refine (spec_l18Pitch.calls (rd l0_2 x3_2) true _ A30.out).mono ?_); rintro e w' ⟨rfl, ⟨nd, rfl⟩⟩))
                          go_roundg k2
                          case measure => have := HJ1.out; have := HK2.out; omega
                          case rel => exact ⟨(wrap64 (x3_2 + 1)), (by first | rfl | (simp; done) | (simp [*]; done)), H', ⟨by have := HJ1.out; have := HK2.out; omega⟩, ⟨oK BK109⟩, ⟨oB HB⟩⟩
                        · replace c31 := Bool.eq_false_iff.mpr c31
                          subst c31
                          rw [if_neg (show ¬ (false = true) by decide)] at H
                          obtain rfl := Option.some.inj H
                          have hcz33_0 : wr.cell? ⟨gb109, 0, none⟩ = some (.slice A0_0 l0_0.length c0_0) := (blk_cell BK109.out 0).trans rfl
                          have hcz33_1 : wr.cell? ⟨gb109, 1, none⟩ = some (.int .i64 a0_1) := (blk_cell BK109.out 1).trans rfl
                          have hcz33_2 : wr.cell? ⟨gb109, 2, none⟩ = some (.slice A0_2 l0_2.length c0_2) := (blk_cell BK109.out 2).trans rfl
                          have hfz33_0 := blk_frozen BK109.out 0
                          have hfz33_1 := blk_frozen BK109.out 1
                          have hfz33_2 := blk_frozen BK109.out 2
                          go_wp2_with (first | ((with_reducible refine gate_callee (f := 102) rfl ?_); refine goesL_ (some 32) rfl rfl Try.func102 (by kernel_rfl) rfl #[.slice A0_0 l0_0.length c0_0, .int .i64 x3_2] rfl (by (try simp only [List.map_toArray, List.map_cons, List.map_nil]); first | done | rfl | (simp only [List.length_drop, List.length_take]; rfl)) ?_; (with_reducible refine (spec_l20Step.calls k2 _ _ l0_0 x3_2 t112 _ ?side1 ?side2 A18.out).mono ?_); (case side1 => exact oc_ HR0_0.out); (case side2 => exact HC0_0.out); rintro e w' ⟨rfl, ⟨nd, rfl⟩⟩; refine ⟨_, rfl, ?_⟩; have p115 : 0 ≤ (x3_2 : Int) := of_decide_eq_true (by first | (with_reducible assumption) | assumption); have q115 : x3_2 < (l0_2.length : Int) := of_decide_eq_true (by first | (with_reducible assumption) | assumption); obtain ⟨ad115, e115, hx115_0⟩ := Kd.at_int HR0_2.out x3_2 p115 q115; cases e115; replace hx115_0 := (HB.out.cell (World.block_lt_of_cell? w _ hx115_0)).trans hx115_0; replace p115 := eq_true p115; replace q115 := eq_true q115) | (go_at_call 103; (with_reducible refine (spec_l18Pitch.calls (rd l0_2 x3_2) false _ A30.out).mono ?_); rintro e w' ⟨rfl, ⟨nd, rfl⟩⟩))
                          go_ret
                          exact ⟨by first | rfl | (simp [errW_none, errW_some] <;> rfl) | (simp [*, errW_none, errW_some] <;> rfl), oB HB⟩
                      · rw [if_neg c29] at H
                        exact absurd H (by simp)
                    · rw [if_neg c28] at H
                      exact absurd H (by simp)
                  · rw [if_neg c27] at H
                    have c27b0 : decide (t112 < a0_1) = false := decide_eq_false c27
                    clear c27
                    by_cases c34 : 0 ≤ x3_2
                    · rw [if_pos c34] at H
                      have c34b0 : decide (0 ≤ x3_2) = true := decide_eq_true c34
                      clear c34
                      by_cases c35 : x3_2 < (l0_2.length : Int)
                      · rw [if_pos c35] at H
                        have c35b0 : decide (x3_2 < (l0_2.length : Int)) = true := decide_eq_true c35
                        clear c35
                        by_cases c36 : (rd l0_2 x3_2) = 0
                        · rw [if_pos c36] at H
                          have c36b0 : ((rd l0_2 x3_2) == 0) = true := beq_iff_eq.mpr c36
                          have c36b1 : ((rd l0_2 x3_2) != 0) = false := bne_eq_false_iff_eq.mpr c36
                          clear c36
                          have H' := Aside0.mk H
                          clear H
                          have hcz37_0 : wr.cell? ⟨gb109, 0, none⟩ = some (.slice A0_0 l0_0.length c0_0) := (blk_cell BK109.out 0).trans rfl
                          have hcz37_1 : wr.cell? ⟨gb109, 1, none⟩ = some (.int .i64 a0_1) := (blk_cell BK109.out 1).trans rfl
                          have hcz37_2 : wr.cell? ⟨gb109, 2, none⟩ = some (.slice A0_2 l0_2.length c0_2) := (blk_cell BK109.out 2).trans rfl
                          have hfz37_0 := blk_frozen BK109.out 0
                          have hfz37_1 := blk_frozen BK109.out 1
                          have hfz37_2 := blk_frozen BK109.out 2
                          go_wp2_with (first | ((with_reducible refine gate_callee (f := 102) rfl ?_); refine goesL_ (some 32) rfl rfl Try.func102 (by kernel_rfl) rfl #[.slice A0_0 l0_0.length c0_0, .int .i64 x3_2] rfl (by (try simp only [List.map_toArray, List.map_cons, List.map_nil]); first | done | rfl | (simp only [List.length_drop, List.length_take]; rfl)) ?_; (with_reducible refine (spec_l20Step.calls k2 _ _ l0_0 x3_2 t112 _ ?side1 ?side2 A18.out).mono ?_); (case side1 => exact oc_ HR0_0.out); (case side2 => exact HC0_0.out); rintro e w' ⟨rfl, ⟨nd, rfl⟩⟩; refine ⟨_, rfl, ?_⟩; have p117 : 0 ≤ (x3_2 : Int) := of_decide_eq_true (by first | (with_reducible assumption) | assumption); have q117 : x3_2 < (l0_2.length : Int) := of_decide_eq_true (by first | (with_reducible assumption) | assumption); obtain ⟨ad117, e117, hx117_0⟩ := Kd.at_int HR0_2.out x3_2 p117 q117; cases e117; replace hx117_0 := (HB.out.cell (World.block_lt_of_cell? w _ hx117_0)).trans hx117_0; replace p117 := eq_true p117; replace q117 := eq_true q117))
                          go_roundg k2
                          case measure => have := HJ1.out; have := HK2.out; omega
                          case rel => exact ⟨(wrap64 (x3_2 + 1)), (by first | rfl | (simp; done) | (simp [*]; done)), H', ⟨by have := HJ1.out; have := HK2.out; omega⟩, ⟨oK BK109⟩, ⟨oB HB⟩⟩
                        · rw [if_neg c36] at H
                          have c36b0 : ((rd l0_2 x3_2) == 0) = false := beq_eq_false_iff_ne.mpr c36
                          have c36b1 : ((rd l0_2 x3_2) != 0) = true := bne_iff_ne.mpr c36
                          obtain rfl := Option.some.inj H
                          have hcz38_0 : wr.cell? ⟨gb109, 0, none⟩ = some (.slice A0_0 l0_0.length c0_0) := (blk_cell BK109.out 0).trans rfl
                          have hcz38_1 : wr.cell? ⟨gb109, 1, none⟩ = some (.int .i64 a0_1) := (blk_cell BK109.out 1).trans rfl
                          have hcz38_2 : wr.cell? ⟨gb109, 2, none⟩ = some (.slice A0_2 l0_2.length c0_2) := (blk_cell BK109.out 2).trans rfl
                          have hfz38_0 := blk_frozen BK109.out 0
                          have hfz38_1 := blk_frozen BK109.out 1
                          have hfz38_2 := blk_frozen BK109.out 2
                          go_wp2_with (first | ((with_reducible refine gate_callee (f := 102) rfl ?_); refine goesL_ (some 32) rfl rfl Try.func102 (by kernel_rfl) rfl #[.slice A0_0 l0_0.length c0_0, .int .i64 x3_2] rfl (by (try simp only [List.map_toArray, List.map_cons, List.map_nil]); first | done | rfl | (simp only [List.length_drop, List.length_take]; rfl)) ?_; (with_reducible refine (spec_l20Step.calls k2 _ _ l0_0 x3_2 t112 _ ?side1 ?side2 A18.out).mono ?_); (case side1 => exact oc_ HR0_0.out); (case side2 => exact HC0_0.out); rintro e w' ⟨rfl, ⟨nd, rfl⟩⟩; refine ⟨_, rfl, ?_⟩; have p117 : 0 ≤ (x3_2 : Int) := of_decide_eq_true (by first | (with_reducible assumption) | assumption); have q117 : x3_2 < (l0_2.length : Int) := of_decide_eq_true (by first | (with_reducible assumption) | assumption); obtain ⟨ad117, e117, hx117_0⟩ := Kd.at_int HR0_2.out x3_2 p117 q117; cases e117; replace hx117_0 := (HB.out.cell (World.block_lt_of_cell? w _ hx117_0)).trans hx117_0; replace p117 := eq_true p117; replace q117 := eq_true q117))
                          go_ret
                          exact ⟨by first | rfl | (simp [errW_none, errW_some] <;> rfl) | (simp [*, errW_none, errW_some] <;> rfl), oB HB⟩
                      · rw [if_neg c35] at H
                        exact absurd H (by simp)
                    · rw [if_neg c34] at H
                      exact absurd H (by simp)
                · rw [if_neg c26] at H
                  have c26b0 : decide (0 ≤ t112) = false := decide_eq_false c26
                  clear c26
                  by_cases c39 : 0 ≤ x3_2
                  · rw [if_pos c39] at H
                    have c39b0 : decide (0 ≤ x3_2) = true := decide_eq_true c39
                    clear c39
                    by_cases c40 : x3_2 < (l0_2.length : Int)
                    · rw [if_pos c40] at H
                      have c40b0 : decide (x3_2 < (l0_2.length : Int)) = true := decide_eq_true c40
                      clear c40
                      by_cases c41 : (rd l0_2 x3_2) = 0
                      · rw [if_pos c41] at H
                        have c41b0 : ((rd l0_2 x3_2) == 0) = true := beq_iff_eq.mpr c41
                        have c41b1 : ((rd l0_2 x3_2) != 0) = false := bne_eq_false_iff_eq.mpr c41
                        clear c41
                        have H' := Aside0.mk H
                        clear H
                        have hcz42_0 : wr.cell? ⟨gb109, 0, none⟩ = some (.slice A0_0 l0_0.length c0_0) := (blk_cell BK109.out 0).trans rfl
                        have hcz42_1 : wr.cell? ⟨gb109, 1, none⟩ = some (.int .i64 a0_1) := (blk_cell BK109.out 1).trans rfl
                        have hcz42_2 : wr.cell? ⟨gb109, 2, none⟩ = some (.slice A0_2 l0_2.length c0_2) := (blk_cell BK109.out 2).trans rfl
                        have hfz42_0 := blk_frozen BK109.out 0
                        have hfz42_1 := blk_frozen BK109.out 1
                        have hfz42_2 := blk_frozen BK109.out 2
                        go_wp2_with (first | ((with_reducible refine gate_callee (f := 102) rfl ?_); refine goesL_ (some 32) rfl rfl Try.func102 (by kernel_rfl) rfl #[.slice A0_0 l0_0.length c0_0, .int .i64 x3_2] rfl (by (try simp only [List.map_toArray, List.map_cons, List.map_nil]); first | done | rfl | (simp only [List.length_drop, List.length_take]; rfl)) ?_; (with_reducible refine (spec_l20Step.calls k2 _ _ l0_0 x3_2 t112 _ ?side1 ?side2 A18.out).mono ?_); (case side1 => exact oc_ HR0_0.out); (case side2 => exact HC0_0.out); rintro e w' ⟨rfl, ⟨nd, rfl⟩⟩; refine ⟨_, rfl, ?_⟩; have p118 : 0 ≤ (x3_2 : Int) := of_decide_eq_true (by first | (with_reducible assumption) | assumption); have q118 : x3_2 < (l0_2.length : Int) := of_decide_eq_true (by first | (with_reducible assumption) | assumption); obtain ⟨ad118, e118, hx118_0⟩ := Kd.at_int HR0_2.out x3_2 p118 q118; cases e118; replace hx118_0 := (HB.out.cell (World.block_lt_of_cell? w _ hx118_0)).trans hx118_0; replace p118 := eq_true p118; replace q118 := eq_true q118))
                        go_roundg k2
                        case measure => have := HJ1.out; have := HK2.out; omega
                        case rel => exact ⟨(wrap64 (x3_2 + 1)), (by first | rfl | (simp; done) | (simp [*]; done)), H', ⟨by have := HJ1.out; have := HK2.out; omega⟩, ⟨oK BK109⟩, ⟨oB HB⟩⟩
                      · rw [if_neg c41] at H
                        have c41b0 : ((rd l0_2 x3_2) == 0) = false := beq_eq_false_iff_ne.mpr c41
                        have c41b1 : ((rd l0_2 x3_2) != 0) = true := bne_iff_ne.mpr c41
                        obtain rfl := Option.some.inj H
                        have hcz43_0 : wr.cell? ⟨gb109, 0, none⟩ = some (.slice A0_0 l0_0.length c0_0) := (blk_cell BK109.out 0).trans rfl
                        have hcz43_1 : wr.cell? ⟨gb109, 1, none⟩ = some (.int .i64 a0_1) := (blk_cell BK109.out 1).trans rfl
                        have hcz43_2 : wr.cell? ⟨gb109, 2, none⟩ = some (.slice A0_2 l0_2.length c0_2) := (blk_cell BK109.out 2).trans rfl
                        have hfz43_0 := blk_frozen BK109.out 0
                        have hfz43_1 := blk_frozen BK109.out 1
                        have hfz43_2 := blk_frozen BK109.out 2
                        go_wp2_with (first | ((with_reducible refine gate_callee (f := 102) rfl ?_); refine goesL_ (some 32) rfl rfl Try.func102 (by kernel_rfl) rfl #[.slice A0_0 l0_0.length c0_0, .int .i64 x3_2] rfl (by (try simp only [List.map_toArray, List.map_cons, List.map_nil]); first | done | rfl | (simp only [List.length_drop, List.length_take]; rfl)) ?_; (with_reducible refine (spec_l20Step.calls k2 _ _ l0_0 x3_2 t112 _ ?side1 ?side2 A18.out).mono ?_); (case side1 => exact oc_ HR0_0.out); (case side2 => exact HC0_0.out); rintro e w' ⟨rfl, ⟨nd, rfl⟩⟩; refine ⟨_, rfl, ?_⟩; have p118 : 0 ≤ (x3_2 : Int) := of_decide_eq_true (by first | (with_reducible assumption) | assumption); have q118 : x3_2 < (l0_2.length : Int) := of_decide_eq_true (by first | (with_reducible assumption) | assumption); obtain ⟨ad118, e118, hx118_0⟩ := Kd.at_int HR0_2.out x3_2 p118 q118; cases e118; replace hx118_0 := (HB.out.cell (World.block_lt_of_cell? w _ hx118_0)).trans hx118_0; replace p118 := eq_true p118; replace q118 := eq_true q118))
                        go_ret
                        exact ⟨by first | rfl | (simp [errW_none, errW_some] <;> rfl) | (simp [*, errW_none, errW_some] <;> rfl), oB HB⟩
                    · rw [if_neg c40] at H
                      exact absurd H (by simp)
                  · rw [if_neg c39] at H
                    exact absurd H (by simp)
            · rw [if_neg c17] at H
              have c17b0 : decide (x3_2 < 12) = false := decide_eq_false c17
              clear c17
              obtain rfl := Option.some.inj H
              go_wp2
              go_ret
              exact ⟨by first | rfl | (simp [errW_none, errW_some] <;> rfl) | (simp [*, errW_none, errW_some] <;> rfl), oB HB⟩
end Go.Proofs.Ytbkkpllejgedcaa.P


namespace Go.Proofs.Ytbkkpllejgedcaa.P
open Go.RowKit Go.Proofs.YtbkkpllejgedcaaW.PrintWords Go.Proofs.YtbkkpllejgedcaaW.PrintLast Go.Proofs.YtbkkpllejgedcaaW.PrintMore Go.Proofs.Ytbkkpllejgedcaa.V
attribute [local go_sem] cell_b frozen_b
attribute [local go_sem] max2_int min2_int max_two min_two max_three min_three max_four min_four
set_option linter.unusedVariables false
set_option linter.unusedSimpArgs false
def spec_LogOk.f (k : Nat) (l0 : List (S74)) : Option (Bool) := some (Q.logOk l0)
attribute [local go_sem] cellR_c
set_option maxHeartbeats 8000000 in
set_option maxRecDepth 100000 in
set_option synthInstance.maxHeartbeats 400000 in
set_option synthInstance.maxSize 100000 in
theorem spec_LogOk.calls (k : Nat) (A0 : Option Addr) (c0 : Nat) (l0 : List (S74)) (r : Bool) (w : World) (hr0 : Kd.C k74 w A0 l0.length l0) (hc0 : l0.length ≤ c0) (h : spec_LogOk.f k l0 = some r) :
    Calls Try.prog 61 #[.slice A0 l0.length c0] w fun e w' => e = .returned (.bool r) ∧ Below w.heap.size w w' := by
  have win : ∀ (a b c : Int) (d : Bool), decide (b ≤ a ∧ a ≤ c) = d → Aside0 (∀ W : World, Calls Try.prog 62 #[.int .i64 a, .int .i64 b, .int .i64 c] W fun e w' => e = .returned (.bool d) ∧ Drawn0 W w') := fun a b c d hd =>
    ⟨fun W => spec_l01In.calls a b c d W (by rw [← hd]; unfold spec_l01In.f; by_cases hh : a ≥ b <;> simp [hh] <;> omega)⟩
  have hm : l0.length ≤ 9223372036854775807 := Kd.C_max hr0
  have HQ : Aside0 ((Q.logGo (Q.prevM l0 0) (l0.drop 0) && decide (l0.length ≤ 30)) = r) := ⟨Option.some.inj h⟩
  have HR0 := Aside0.mk hr0
  have WIN := Aside0.mk win
  clear hr0 h win
  have hu := Try.underlying74
  go_enter Try.func61, Try.ntmps61
  go_wp2
  go_loopg [3] (l0.length + 1) (fun kq v3 w' => ∃ (i : Nat), v3 = .int .i64 (i : Int) ∧ Aside0 (i + kq = l0.length + 1) ∧ Aside0 (i ≤ l0.length) ∧ Aside0 ((Q.logGo (Q.prevM l0 i) (l0.drop i) && decide (l0.length ≤ 30)) = r) ∧ Aside0 (Below w.heap.size w w'))
  case atStart => exact ⟨0, rfl, ⟨by omega⟩, ⟨by omega⟩, HQ, ⟨by repeat (first | exact Below.refl _ _ | apply below_alloc | apply pw_below_drewN | apply below_drew1)⟩⟩
  case round =>
    clear HQ
    obtain ⟨i, rfl, HI1, HI2, HQ, HB⟩ := hrel
    have jf : From w wr := ⟨HB.out⟩
    have js : Sz w wr := ⟨HB.out.size⟩
    by_cases hlt : i < l0.length
    rotate_left
    · have hb3 : decide ((i : Int) < (l0.length : Int)) = false := decide_eq_false (by omega)
      have hb4 : decide (i < l0.length) = false := decide_eq_false (by omega)
      obtain rfl : i = l0.length := by have := HI2.out; omega
      have HX : Aside0 (decide (l0.length ≤ 30) = r) := ⟨by rw [← HQ.out, List.drop_eq_nil_of_le (Nat.le_refl _)]; simp [Q.logGo]⟩
      have hx1 : decide ((l0.length : Int) ≤ 30) = r := by rw [← HX.out]; exact decide_eq_decide.mpr (by omega)
      clear HQ HR0 WIN
      go_wp2
      go_ret
      exact ⟨by first | rfl | (simp [hx1]; done), HB.out⟩
    · have hb3 : decide ((i : Int) < (l0.length : Int)) = true := decide_eq_true (by omega)
      have hb4 : decide (i < l0.length) = true := decide_eq_true hlt
      obtain ⟨ad, e, hx0, hx1, hx2, hx3⟩ := at_T74 HR0.out (i : Int) (by omega) (by omega)
      cases e
      obtain ⟨x, hx⟩ : ∃ x, rd_T74 l0 (i : Int) = x := ⟨_, rfl⟩
      rw [hx] at hx0 hx1 hx2 hx3
      simp only [Int.toNat_natCast] at hx0 hx1 hx2 hx3
      have j0 : CelR wr _ _ := ⟨(HB.out.cell (World.block_lt_of_cell? w _ hx0)).trans hx0⟩
      have j1 : CelR wr _ _ := ⟨(HB.out.cell (World.block_lt_of_cell? w _ hx1)).trans hx1⟩
      have j2 : CelR wr _ _ := ⟨(HB.out.cell (World.block_lt_of_cell? w _ hx2)).trans hx2⟩
      have j3 : CelR wr _ _ := ⟨(HB.out.cell (World.block_lt_of_cell? w _ hx3)).trans hx3⟩
      have e0 : l0[i] = x := by rw [← hx]; simp [rd_T74, List.getD_eq_getElem?_getD, hlt]
      have HD := Aside0.mk (Q.logGo_at l0 i hlt)
      rw [e0] at HD
      obtain ⟨b1, hb1⟩ : ∃ b, decide (0 ≤ x.f0.f0 ∧ x.f0.f0 ≤ 3) = b := ⟨_, rfl⟩
      obtain ⟨b2, hb2⟩ : ∃ b, decide (0 ≤ x.f0.f1 ∧ x.f0.f1 ≤ 39) = b := ⟨_, rfl⟩
      obtain ⟨b3, hb3'⟩ : ∃ b, decide (0 ≤ x.f1 ∧ x.f1 ≤ 2) = b := ⟨_, rfl⟩
      obtain ⟨b4, hb4'⟩ : ∃ b, decide (0 ≤ x.f2 ∧ x.f2 ≤ 100000) = b := ⟨_, rfl⟩
      have W1 := WIN.out _ _ _ _ hb1
      have W2 := WIN.out _ _ _ _ hb2
      have W3 := WIN.out _ _ _ _ hb3'
      have W4 := WIN.out _ _ _ _ hb4'
      have HE : Aside0 (Q.entOk x = (b1 && (b2 && (b3 && b4)))) := ⟨by rw [← hb1, ← hb2, ← hb3', ← hb4']; rfl⟩
      have HP : Aside0 (0 < i → Q.prevM l0 i = (rd_T74 l0 ((i - 1 : Nat) : Int)).f2) := ⟨fun h0 => by rw [Q.prevM_pos l0 i h0 hlt]; simp [rd_T74, List.getD_eq_getElem?_getD, show i - 1 < l0.length by omega]⟩
      have HZ : Aside0 (b4 = true → i = 0 → Q.prevM l0 i ≤ x.f2) := ⟨fun h4 h0 => by subst h0; rw [h4, decide_eq_true_eq] at hb4'; exact hb4'.1⟩
      clear hx hx0 hx1 hx2 hx3 e0 WIN hb1 hb2 hb3' hb4'
      cases b1 with
      | false =>
        obtain rfl : false = r := by rw [← HQ.out, HD.out, HE.out]; rfl
        clear HR0 HQ HD HE HP HZ
        go_wp2_with (first         | ((with_reducible refine gate_dst (N := 4) rfl ?_); refine box_event rfl (N := 4) rfl (cs := #[.int .i64 0, .int .i64 0, .int .i64 0, .int .i64 0]) (t := 74) (by first | (go_simp; done) | (go_simp; rfl)) ?_; intro g hg w1 hk hb; have j1 := Born.mk hg; have j2 := Bel.mk hb; have j3 := Blk.mk hk; clear hg hb hk)         | (go_at_call 62; (first | (with_reducible refine (W1.out _).mono ?_) | (with_reducible refine (W2.out _).mono ?_) | (with_reducible refine (W3.out _).mono ?_) | (with_reducible refine (W4.out _).mono ?_)); rintro e w' ⟨rfl, ⟨nd, rfl⟩⟩))
        repeat (go_quiet (first | (go_at_call 62; (first | (with_reducible refine (W1.out _).mono ?_) | (with_reducible refine (W2.out _).mono ?_) | (with_reducible refine (W3.out _).mono ?_) | (with_reducible refine (W4.out _).mono ?_)); rintro e w' ⟨rfl, ⟨nd, rfl⟩⟩; exact ⟨rfl, _, World.drewN_drewN _ _ _⟩)); try go_wp2)
        go_ret
        exact ⟨rfl, From.out⟩
      | true =>
        cases b2 with
        | false =>
          obtain rfl : false = r := by rw [← HQ.out, HD.out, HE.out]; rfl
          clear HR0 HQ HD HE HP HZ
          go_wp2_with (first         | ((with_reducible refine gate_dst (N := 4) rfl ?_); refine box_event rfl (N := 4) rfl (cs := #[.int .i64 0, .int .i64 0, .int .i64 0, .int .i64 0]) (t := 74) (by first | (go_simp; done) | (go_simp; rfl)) ?_; intro g hg w1 hk hb; have j1 := Born.mk hg; have j2 := Bel.mk hb; have j3 := Blk.mk hk; clear hg hb hk)         | (go_at_call 62; (first | (with_reducible refine (W1.out _).mono ?_) | (with_reducible refine (W2.out _).mono ?_) | (with_reducible refine (W3.out _).mono ?_) | (with_reducible refine (W4.out _).mono ?_)); rintro e w' ⟨rfl, ⟨nd, rfl⟩⟩))
          repeat (go_quiet (first | (go_at_call 62; (first | (with_reducible refine (W1.out _).mono ?_) | (with_reducible refine (W2.out _).mono ?_) | (with_reducible refine (W3.out _).mono ?_) | (with_reducible refine (W4.out _).mono ?_)); rintro e w' ⟨rfl, ⟨nd, rfl⟩⟩; exact ⟨rfl, _, World.drewN_drewN _ _ _⟩)); try go_wp2)
          go_ret
          exact ⟨rfl, From.out⟩
        | true =>
          cases b3 with
          | false =>
            obtain rfl : false = r := by rw [← HQ.out, HD.out, HE.out]; rfl
            clear HR0 HQ HD HE HP HZ
            go_wp2_with (first         | ((with_reducible refine gate_dst (N := 4) rfl ?_); refine box_event rfl (N := 4) rfl (cs := #[.int .i64 0, .int .i64 0, .int .i64 0, .int .i64 0]) (t := 74) (by first | (go_simp; done) | (go_simp; rfl)) ?_; intro g hg w1 hk hb; have j1 := Born.mk hg; have j2 := Bel.mk hb; have j3 := Blk.mk hk; clear hg hb hk)         | (go_at_call 62; (first | (with_reducible refine (W1.out _).mono ?_) | (with_reducible refine (W2.out _).mono ?_) | (with_reducible refine (W3.out _).mono ?_) | (with_reducible refine (W4.out _).mono ?_)); rintro e w' ⟨rfl, ⟨nd, rfl⟩⟩))
            repeat (go_quiet (first | (go_at_call 62; (first | (with_reducible refine (W1.out _).mono ?_) | (with_reducible refine (W2.out _).mono ?_) | (with_reducible refine (W3.out _).mono ?_) | (with_reducible refine (W4.out _).mono ?_)); rintro e w' ⟨rfl, ⟨nd, rfl⟩⟩; exact ⟨rfl, _, World.drewN_drewN _ _ _⟩)); try go_wp2)
            go_ret
            exact ⟨rfl, From.out⟩
          | true =>
            cases b4 with
            | false =>
              obtain rfl : false = r := by rw [← HQ.out, HD.out, HE.out]; rfl
              clear HR0 HQ HD HE HP HZ
              go_wp2_with (first         | ((with_reducible refine gate_dst (N := 4) rfl ?_); refine box_event rfl (N := 4) rfl (cs := #[.int .i64 0, .int .i64 0, .int .i64 0, .int .i64 0]) (t := 74) (by first | (go_simp; done) | (go_simp; rfl)) ?_; intro g hg w1 hk hb; have j1 := Born.mk hg; have j2 := Bel.mk hb; have j3 := Blk.mk hk; clear hg hb hk)         | (go_at_call 62; (first | (with_reducible refine (W1.out _).mono ?_) | (with_reducible refine (W2.out _).mono ?_) | (with_reducible refine (W3.out _).mono ?_) | (with_reducible refine (W4.out _).mono ?_)); rintro e w' ⟨rfl, ⟨nd, rfl⟩⟩))
              repeat (go_quiet (first | (go_at_call 62; (first | (with_reducible refine (W1.out _).mono ?_) | (with_reducible refine (W2.out _).mono ?_) | (with_reducible refine (W3.out _).mono ?_) | (with_reducible refine (W4.out _).mono ?_)); rintro e w' ⟨rfl, ⟨nd, rfl⟩⟩; exact ⟨rfl, _, World.drewN_drewN _ _ _⟩)); try go_wp2)
              go_ret
              exact ⟨rfl, From.out⟩
            | true =>
              have hs : (i : Int) + 1 ≤ 9223372036854775807 := by omega
              by_cases hz : i = 0
              · have hz1 : decide ((i : Int) > 0) = false := decide_eq_false (by omega)
                have hz2 : decide ((0 : Int) < (i : Int)) = false := decide_eq_false (by omega)
                have hz3 : decide (0 < i) = false := decide_eq_false (by omega)
                have HN : Aside0 ((Q.logGo (Q.prevM l0 (i + 1)) (l0.drop (i + 1)) && decide (l0.length ≤ 30)) = r) := ⟨by rw [← HQ.out, HD.out, HE.out, show decide (Q.prevM l0 i ≤ x.f2) = true from decide_eq_true (HZ.out rfl hz)]; rfl⟩
                clear HQ HD HE HP HZ hz
                go_wp2_with (first         | ((with_reducible refine gate_dst (N := 4) rfl ?_); refine box_event rfl (N := 4) rfl (cs := #[.int .i64 0, .int .i64 0, .int .i64 0, .int .i64 0]) (t := 74) (by first | (go_simp; done) | (go_simp; rfl)) ?_; intro g hg w1 hk hb; have j1 := Born.mk hg; have j2 := Bel.mk hb; have j3 := Blk.mk hk; clear hg hb hk)         | (go_at_call 62; (first | (with_reducible refine (W1.out _).mono ?_) | (with_reducible refine (W2.out _).mono ?_) | (with_reducible refine (W3.out _).mono ?_) | (with_reducible refine (W4.out _).mono ?_)); rintro e w' ⟨rfl, ⟨nd, rfl⟩⟩))
                repeat (go_quiet (first | (go_at_call 62; (first | (with_reducible refine (W1.out _).mono ?_) | (with_reducible refine (W2.out _).mono ?_) | (with_reducible refine (W3.out _).mono ?_) | (with_reducible refine (W4.out _).mono ?_)); rintro e w' ⟨rfl, ⟨nd, rfl⟩⟩; exact ⟨rfl, _, World.drewN_drewN _ _ _⟩)); try go_wp2)
                go_roundg (l0.length - i)
                case measure => have := HI1.out; omega
                case rel => exact ⟨i + 1, by go_num, ⟨by omega⟩, ⟨by omega⟩, HN, ⟨From.out⟩⟩
              · obtain ⟨j, hj⟩ : ∃ j, j = i - 1 := ⟨_, rfl⟩
                have hz1 : decide ((i : Int) > 0) = true := decide_eq_true (by omega)
                have hz2 : decide ((0 : Int) < (i : Int)) = true := decide_eq_true (by omega)
                have hz3 : decide (0 < i) = true := decide_eq_true (by omega)
                have hw1 : wrap64 ((i : Int) - 1) = (j : Int) := by unfold wrap64; omega
                have hw2 : IntKind.i64.wrap ((i : Int) - 1) = (j : Int) := by rw [i64_w]; exact hw1
                have hj1 : (j : Int) < (l0.length : Int) := by omega
                have hj2 : j < l0.length := by omega
                have hl1 : decide ((j : Int) < (l0.length : Int)) = true := decide_eq_true (by omega)
                have hl2 : decide (j < l0.length) = true := decide_eq_true (by omega)
                obtain ⟨ad2, e2, _, _, _, hy3⟩ := at_T74 HR0.out (j : Int) (by omega) (by omega)
                cases e2
                obtain ⟨y, hy⟩ : ∃ y, rd_T74 l0 (j : Int) = y := ⟨_, rfl⟩
                have HP2 := Aside0.mk (HP.out (by omega))
                rw [← hj, hy] at HP2
                rw [hy] at hy3
                simp only [Int.toNat_natCast] at hy3
                have j4 : CelR wr _ _ := ⟨(HB.out.cell (World.block_lt_of_cell? w _ hy3)).trans hy3⟩
                clear hy hy3 HP hj
                by_cases h5 : y.f2 ≤ x.f2
                · have h51 : decide (y.f2 > x.f2) = false := decide_eq_false (by omega)
                  have h52 : decide (x.f2 < y.f2) = false := decide_eq_false (by omega)
                  have HN : Aside0 ((Q.logGo (Q.prevM l0 (i + 1)) (l0.drop (i + 1)) && decide (l0.length ≤ 30)) = r) := ⟨by rw [← HQ.out, HD.out, HE.out, show decide (Q.prevM l0 i ≤ x.f2) = true from decide_eq_true (by rw [HP2.out]; exact h5)]; rfl⟩
                  clear HQ HD HE HP2 HZ HR0
                  go_wp2_with (first         | ((with_reducible refine gate_dst (N := 4) rfl ?_); refine box_event rfl (N := 4) rfl (cs := #[.int .i64 0, .int .i64 0, .int .i64 0, .int .i64 0]) (t := 74) (by first | (go_simp; done) | (go_simp; rfl)) ?_; intro g hg w1 hk hb; have j1 := Born.mk hg; have j2 := Bel.mk hb; have j3 := Blk.mk hk; clear hg hb hk)         | (go_at_call 62; (first | (with_reducible refine (W1.out _).mono ?_) | (with_reducible refine (W2.out _).mono ?_) | (with_reducible refine (W3.out _).mono ?_) | (with_reducible refine (W4.out _).mono ?_)); rintro e w' ⟨rfl, ⟨nd, rfl⟩⟩))
                  repeat (go_quiet (first | (go_at_call 62; (first | (with_reducible refine (W1.out _).mono ?_) | (with_reducible refine (W2.out _).mono ?_) | (with_reducible refine (W3.out _).mono ?_) | (with_reducible refine (W4.out _).mono ?_)); rintro e w' ⟨rfl, ⟨nd, rfl⟩⟩; exact ⟨rfl, _, World.drewN_drewN _ _ _⟩)); try go_wp2)
                  go_roundg (l0.length - i)
                  case measure => have := HI1.out; omega
                  case rel => exact ⟨i + 1, by go_num, ⟨by omega⟩, ⟨by omega⟩, HN, ⟨From.out⟩⟩
                · have h51 : decide (y.f2 > x.f2) = true := decide_eq_true (by omega)
                  have h52 : decide (x.f2 < y.f2) = true := decide_eq_true (by omega)
                  obtain rfl : false = r := by rw [← HQ.out, HD.out, HE.out, show decide (Q.prevM l0 i ≤ x.f2) = false from decide_eq_false (by rw [HP2.out]; exact h5)]; rfl
                  clear HQ HD HE HP2 HZ HR0
                  go_wp2_with (first         | ((with_reducible refine gate_dst (N := 4) rfl ?_); refine box_event rfl (N := 4) rfl (cs := #[.int .i64 0, .int .i64 0, .int .i64 0, .int .i64 0]) (t := 74) (by first | (go_simp; done) | (go_simp; rfl)) ?_; intro g hg w1 hk hb; have j1 := Born.mk hg; have j2 := Bel.mk hb; have j3 := Blk.mk hk; clear hg hb hk)         | (go_at_call 62; (first | (with_reducible refine (W1.out _).mono ?_) | (with_reducible refine (W2.out _).mono ?_) | (with_reducible refine (W3.out _).mono ?_) | (with_reducible refine (W4.out _).mono ?_)); rintro e w' ⟨rfl, ⟨nd, rfl⟩⟩))
                  repeat (go_quiet (first | (go_at_call 62; (first | (with_reducible refine (W1.out _).mono ?_) | (with_reducible refine (W2.out _).mono ?_) | (with_reducible refine (W3.out _).mono ?_) | (with_reducible refine (W4.out _).mono ?_)); rintro e w' ⟨rfl, ⟨nd, rfl⟩⟩; exact ⟨rfl, _, World.drewN_drewN _ _ _⟩)); try go_wp2)
                  go_ret
                  exact ⟨rfl, From.out⟩
end Go.Proofs.Ytbkkpllejgedcaa.P


namespace Go.Proofs.Ytbkkpllejgedcaa.P
open Go.RowKit Go.Proofs.YtbkkpllejgedcaaW.PrintWords Go.Proofs.YtbkkpllejgedcaaW.PrintLast Go.Proofs.YtbkkpllejgedcaaW.PrintMore Go.Proofs.Ytbkkpllejgedcaa.V
attribute [local go_sem] cell_b frozen_b
attribute [local go_sem] max2_int min2_int max_two min_two max_three min_three max_four min_four
set_option linter.unusedVariables false
set_option linter.unusedSimpArgs false
def spec_ShopOk.f (k : Nat) (l0_0 : List (S96)) (a0_1 : Int) (l0_2 : List Int) (a0_3 : Int) (a0_4 : Int) (l0_5 : List (S74)) : Option (Bool) := (spec_WorkOk.f k l0_0 a0_1 l0_2).bind fun b => some (b && (Q.logOk l0_5 && (decide (-10 ≤ a0_3 ∧ a0_3 ≤ 40) && (decide (0 ≤ a0_4 ∧ a0_4 ≤ 100000) && decide (Q.lastOk l0_5 a0_4)))))
def spec_ShopOk.T2 : Bool × List (List Nat × List Nat) := (true, [([], []), ([0], [0]), ([1], [1]), ([2, 2], [2]), ([3], [3]), ([4, 3], [3, 4]), ([5, 3, 3], [3, 5]), ([3, 6], [3, 6]), ([7, 6], [7]), ([8], [8]), ([9, 8], [8, 9]), ([10, 8, 8], [8, 10]), ([8, 11], [8, 11]), ([12, 11], [12]), ([13], [13]), ([14, 13], [13, 14]), ([15, 13, 13], [13, 15]), ([13, 16], [13, 16]), ([17, 16], [17]), ([18], [18]), ([19, 18], [18, 19]), ([20, 18, 18], [18, 20]), ([21], [21]), ([22, 21], [21, 22]), ([21], [21]), ([24, 21], [21, 24]), ([23, 25, 21], [21, 23, 25]), ([26, 21], [21, 26]), ([27, 21], [21, 27]), ([21], [21]), ([29, 21], [21, 29]), ([28, 30, 21], [21, 28, 30]), ([21, 31, 18], [18, 21, 31]), ([18, 32], [18, 32]), ([33, 21, 0, 1, 2, 3, 4, 5, 6, 7, 8, 9, 10, 11, 12, 13, 14, 15, 16, 17, 18, 19, 20, 21, 22, 23, 24, 25, 26, 27, 28, 29, 30, 31, 32, 33], [33])])
def spec_ShopOk.B2 : List Nat := [0, 1, 3, 7, 15, 31, 63, 127, 255, 511, 1023, 2047, 4095, 8191, 16383, 32767, 65535, 131071, 262143, 524287, 1048575, 2097151, 4194303, 8388607, 4194303, 20971519, 67108863, 134217727, 268435455, 4194303, 541065215, 2147483647, 4294967295, 8589934591, 17179869183]
theorem spec_ShopOk.tab2 : rtab .any (opsOf Try.f16 2) = spec_ShopOk.T2 := by kernel_rfl
theorem spec_ShopOk.bits2 : waitsOk spec_ShopOk.T2.2 spec_ShopOk.B2 = true := by kernel_rfl
def spec_ShopOk.m (n : Nat) : Array Bool := ((List.range 35).map (fun j => decide (j < n))).toArray
attribute [local go_sem] cellR_c
set_option maxHeartbeats 4000000 in
set_option maxRecDepth 100000 in
set_option synthInstance.maxHeartbeats 400000 in
set_option synthInstance.maxSize 100000 in
theorem spec_ShopOk.calls (k : Nat) (A0_0 : Option Addr) (c0_0 : Nat) (l0_0 : List (S96)) (a0_1 : Int) (A0_2 : Option Addr) (c0_2 : Nat) (l0_2 : List Int) (a0_3 : Int) (a0_4 : Int) (A0_5 : Option Addr) (c0_5 : Nat) (l0_5 : List (S74)) (r : Bool) (w : World) (hr0_0 : Kd.C k96 w A0_0 l0_0.length l0_0) (hc0_0 : l0_0.length ≤ c0_0) (hr0_2 : Kd.C (Kd.int .i64) w A0_2 l0_2.length l0_2) (hc0_2 : l0_2.length ≤ c0_2) (hr0_5 : Kd.C k74 w A0_5 l0_5.length l0_5) (hc0_5 : l0_5.length ≤ c0_5) (h : spec_ShopOk.f k l0_0 a0_1 l0_2 a0_3 a0_4 l0_5 = some r) :
    Calls Try.prog 16 #[.agg #[.slice A0_0 l0_0.length c0_0, .int .i64 a0_1, .slice A0_2 l0_2.length c0_2, .int .i64 a0_3, .int .i64 a0_4, .slice A0_5 l0_5.length c0_5]] w fun e w' => e = .returned (.bool r) ∧ Below w.heap.size w w' := by
  obtain ⟨b1, hb1, h⟩ := Option.bind_eq_some_iff.mp h
  obtain ⟨b2, hb2⟩ : ∃ b, Q.logOk l0_5 = b := ⟨_, rfl⟩
  obtain ⟨b3, hb3⟩ : ∃ b, decide (-10 ≤ a0_3 ∧ a0_3 ≤ 40) = b := ⟨_, rfl⟩
  obtain ⟨b4, hb4⟩ : ∃ b, decide (0 ≤ a0_4 ∧ a0_4 ≤ 100000) = b := ⟨_, rfl⟩
  obtain ⟨b5, hb5⟩ : ∃ b, decide (Q.lastOk l0_5 a0_4) = b := ⟨_, rfl⟩
  have HQ : Aside0 ((b1 && (b2 && (b3 && (b4 && b5)))) = r) := ⟨by rw [← hb2, ← hb3, ← hb4, ← hb5]; exact Option.some.inj h⟩
  have A1 : Aside0 (spec_WorkOk.f k l0_0 a0_1 l0_2 = some b1) := ⟨hb1⟩
  have A2 : Aside0 (spec_LogOk.f k l0_5 = some b2) := ⟨by rw [← hb2]; rfl⟩
  have A3 : Aside0 (spec_l01In.f a0_3 (-10) 40 = some b3) := ⟨by rw [← hb3]; unfold spec_l01In.f; by_cases hh : a0_3 ≥ -10 <;> simp [hh] <;> omega⟩
  have A4 : Aside0 (spec_l01In.f a0_4 0 100000 = some b4) := ⟨by rw [← hb4]; unfold spec_l01In.f; by_cases hh : a0_4 ≥ 0 <;> simp [hh] <;> omega⟩
  have H5 := Aside0.mk hb5
  have HR := Aside0.mk hr0_5
  have HM := Aside0.mk (Kd.C_max hr0_5)
  have i0 := RdE.mk hr0_0
  have i1 := LeI.mk hc0_0
  have i2 := RdE.mk hr0_2
  have i3 := LeI.mk hc0_2
  have i4 := RdE.mk hr0_5
  have i5 := LeI.mk hc0_5
  have hu := Try.underlying36
  clear hr0_0 hc0_0 hr0_2 hc0_2 hr0_5 hc0_5 h hb1 hb2 hb3 hb4 hb5
  have hzz : l0_5.length = 0 ∨ ∃ (ad2 : Addr) (j : Nat) (y : S74), A0_5 = some ad2 ∧ ((l0_5.length : Int) == 0) = false ∧ ((l0_5.length : Int) != 0) = true ∧ wrap64 ((l0_5.length : Int) - 1) = (j : Int) ∧ IntKind.i64.wrap ((l0_5.length : Int) - 1) = (j : Int) ∧ (j : Int) < (l0_5.length : Int) ∧ j < l0_5.length ∧ CelR w ⟨(ad2.add (j * 4)).block, (ad2.add (j * 4)).off + 3, none⟩ (.int .i64 y.f2) ∧ decide (y.f2 ≤ a0_4) = b5 := by
    by_cases hz : l0_5.length = 0
    · exact .inl hz
    right
    obtain ⟨j, hj⟩ : ∃ j, j + 1 = l0_5.length := ⟨l0_5.length - 1, by omega⟩
    have hM := HM.out
    obtain ⟨ad2, e2, _, _, _, hy3⟩ := at_T74 HR.out (j : Int) (by omega) (by omega)
    have hw1 : wrap64 ((l0_5.length : Int) - 1) = (j : Int) := by unfold wrap64; omega
    simp only [Int.toNat_natCast] at hy3
    refine ⟨ad2, j, rd_T74 l0_5 (j : Int), e2, beq_eq_false_iff_ne.mpr (by omega), bne_iff_ne.mpr (by omega), hw1, by rw [i64_w]; exact hw1, by omega, by omega, ⟨hy3⟩, ?_⟩
    rw [← H5.out]
    refine decide_eq_decide.mpr ?_
    unfold Q.lastOk
    rw [show l0_5.length - 1 = j by omega]
    simp [rd_T74, hz]
  have hways : (b1 = false ∧ r = false) ∨ (b1 = true ∧ b2 = false ∧ r = false) ∨ (b1 = true ∧ b2 = true ∧ b3 = false ∧ r = false) ∨ (b1 = true ∧ b2 = true ∧ b3 = true ∧ b4 = false ∧ r = false) ∨ (b1 = true ∧ b2 = true ∧ b3 = true ∧ b4 = true ∧ b5 = r) := by
    have := HQ.out
    cases b1 <;> cases b2 <;> cases b3 <;> cases b4 <;> simp_all
  replace hzz := hzz.imp (fun hz => (⟨by rw [← H5.out]; exact (decide_eq_true (.inl hz)).symm, beq_iff_eq.mpr (by omega), bne_eq_false_iff_eq.mpr (by omega)⟩ : true = b5 ∧ ((l0_5.length : Int) == 0) = true ∧ ((l0_5.length : Int) != 0) = false)) id
  clear HQ H5 HR HM
  rcases hways with ⟨rfl, rfl⟩ | ⟨rfl, rfl, rfl⟩ | ⟨rfl, rfl, rfl, rfl⟩ | ⟨rfl, rfl, rfl, rfl, rfl⟩ | ⟨rfl, rfl, rfl, rfl, rfl⟩
  rotate_right
  rcases hzz with ⟨rfl, z1, z2⟩ | ⟨ad2, j, y, rfl, z1, z2, z3, z4, z5, z6, z7, z8⟩
  all_goals try clear hzz
  all_goals go_enter Try.func16, Try.ntmps16
  all_goals go_wp2_with (first | ((with_reducible refine gate_dst (N := 1) rfl ?_); (try (refine gate_guard (by rfl) ?_; dsimp only)); (first | refine box_event rfl (N := 1) rfl (cs := #[.slice A0_0 l0_0.length c0_0, .int .i64 a0_1, .slice A0_2 l0_2.length c0_2, .int .i64 a0_3, .int .i64 a0_4, .slice A0_5 l0_5.length c0_5]) (t := 36) (by first | (go_simp; done) | (go_simp; rfl)) ?_ | refine box_event rfl (N := 1) rfl (cs := #[.slice A0_0 l0_0.length c0_0, .int .i64 a0_1, .slice A0_2 l0_2.length c0_2, .int .i64 a0_3, .int .i64 a0_4, .slice (some ad2) l0_5.length c0_5]) (t := 36) (by first | (go_simp; done) | (go_simp; rfl)) ?_); intro g hg w1 hk hb; have j1 := Born.mk hg; have j2 := Bel.mk hb; have j3 := Blk.mk hk; clear hg hb hk))
  all_goals (refine start_ (n := 35) (S := fun w' => Below w1.heap.size w1 w') (ds := []) (spec_ShopOk.m 0) (by kernel_rfl) rfl (by kernel_rfl) From.out (fun hHeld => ?_); refine with_tabW spec_ShopOk.tab2 spec_ShopOk.bits2 (fun HT_ HW_ => ?_))
  all_goals first | (refine pure_ (i := 0) (N := some 7) (v := ?_) (a' := ?_) (spec_ShopOk.m 1) rfl rfl (any_of HT_.out (by kernel_rfl)) (fun _ _ _ h => h) (Or.inl ⟨by rfl, ?_⟩) ?_ ?_; rotate_left; (focus (intro w'; go_simp; with_reducible rfl)); rotate_left; (focus (simp only [Act.put, List.setIfInBounds_toArray, List.set_cons_zero, List.set_cons_succ, i64_w, i32_w]; rfl))) | (refine pure_ (i := 0) (N := some 7) (v := undef) (a' := ?_) (spec_ShopOk.m 1) rfl rfl (any_of HT_.out (by kernel_rfl)) (fun _ _ _ h => h) (Or.inr ⟨by rfl, rfl⟩) ?_ ?_; rotate_left; (focus (simp only [Act.put, List.setIfInBounds_toArray, List.set_cons_zero, List.set_cons_succ, i64_w, i32_w]; rfl)))
  all_goals first | (refine take_ (i := 1) (N := some 8) (v := ?_) (a' := ?_) (spec_ShopOk.m 2) rfl rfl (take_ofW HT_.out HW_.out (by kernel_rfl)) (fun _ _ _ h => h) (Or.inl ⟨by rfl, ?_⟩) hHeld ?_ ?_; rotate_left; (focus (intro w' hS; have jS : Sin w1 w' := ⟨hS⟩; go_simp; with_reducible rfl)); rotate_left; (focus (simp only [Act.put, List.setIfInBounds_toArray, List.set_cons_zero, List.set_cons_succ, i64_w, i32_w]; rfl))) | (refine pure_ (i := 1) (N := some 8) (v := undef) (a' := ?_) (spec_ShopOk.m 2) rfl rfl (any_of HT_.out (by kernel_rfl)) (fun _ _ _ h => h) (Or.inr ⟨by rfl, rfl⟩) ?_ ?_; rotate_left; (focus (simp only [Act.put, List.setIfInBounds_toArray, List.set_cons_zero, List.set_cons_succ, i64_w, i32_w]; rfl)))
  all_goals first | (refine one_ (i := 2) (N := some 9) (spec_ShopOk.m 3) rfl rfl (one_of HT_.out (by kernel_rfl)) (by decide) (fun K hK => ?_); refine goes_ Try.func60 (by kernel_rfl) rfl #[.agg #[.slice A0_0 l0_0.length c0_0, .int .i64 a0_1, .slice A0_2 l0_2.length c0_2]] (by rfl) rfl rfl (by (try simp only [List.map_toArray, List.map_cons, List.map_nil]); first | done | rfl) ?_; refine (spec_WorkOk.calls k _ _ _ _ _ _ _ _ _ Rd.out LeI.out Rd.out LeI.out A1.out).mono ?_; rintro e w2 ⟨rfl, hb⟩; have jb := Bel.mk hb; clear hb; refine ⟨_, rfl, ?_⟩; refine hK.out _ _ From.out (fun hHeld => ?_); clear hK K; refine norm_ (a' := ?_) ?_ ?_; rotate_left; (focus (show Act.put _ (some 9) _ = _; simp only [Act.put, List.setIfInBounds_toArray, List.set_cons_zero, List.set_cons_succ, i64_w, i32_w]; rfl))) | (refine pure_ (i := 2) (N := some 9) (v := undef) (a' := ?_) (spec_ShopOk.m 3) rfl rfl (any_of HT_.out (by kernel_rfl)) (fun _ _ _ h => h) (Or.inr ⟨by rfl, rfl⟩) ?_ ?_; rotate_left; (focus (simp only [Act.put, List.setIfInBounds_toArray, List.set_cons_zero, List.set_cons_succ, i64_w, i32_w]; rfl)))
  all_goals first | (refine pure_ (i := 3) (N := some 10) (v := ?_) (a' := ?_) (spec_ShopOk.m 4) rfl rfl (any_of HT_.out (by kernel_rfl)) (fun _ _ _ h => h) (Or.inl ⟨by rfl, ?_⟩) ?_ ?_; rotate_left; (focus (intro w'; go_simp; with_reducible rfl)); rotate_left; (focus (simp only [Act.put, List.setIfInBounds_toArray, List.set_cons_zero, List.set_cons_succ, i64_w, i32_w]; rfl))) | (refine pure_ (i := 3) (N := some 10) (v := undef) (a' := ?_) (spec_ShopOk.m 4) rfl rfl (any_of HT_.out (by kernel_rfl)) (fun _ _ _ h => h) (Or.inr ⟨by rfl, rfl⟩) ?_ ?_; rotate_left; (focus (simp only [Act.put, List.setIfInBounds_toArray, List.set_cons_zero, List.set_cons_succ, i64_w, i32_w]; rfl)))
  all_goals first | (refine pure_ (i := 4) (N := some 11) (v := ?_) (a' := ?_) (spec_ShopOk.m 5) rfl rfl (any_of HT_.out (by kernel_rfl)) (fun _ _ _ h => h) (Or.inl ⟨by rfl, ?_⟩) ?_ ?_; rotate_left; (focus (intro w'; go_simp; with_reducible rfl)); rotate_left; (focus (simp only [Act.put, List.setIfInBounds_toArray, List.set_cons_zero, List.set_cons_succ, i64_w, i32_w]; rfl))) | (refine pure_ (i := 4) (N := some 11) (v := undef) (a' := ?_) (spec_ShopOk.m 5) rfl rfl (any_of HT_.out (by kernel_rfl)) (fun _ _ _ h => h) (Or.inr ⟨by rfl, rfl⟩) ?_ ?_; rotate_left; (focus (simp only [Act.put, List.setIfInBounds_toArray, List.set_cons_zero, List.set_cons_succ, i64_w, i32_w]; rfl)))
  all_goals first | (refine take_ (i := 5) (N := some 12) (v := ?_) (a' := ?_) (spec_ShopOk.m 6) rfl rfl (take_ofW HT_.out HW_.out (by kernel_rfl)) (fun _ _ _ h => h) (Or.inl ⟨by rfl, ?_⟩) hHeld ?_ ?_; rotate_left; (focus (intro w' hS; have jS : Sin w1 w' := ⟨hS⟩; go_simp; with_reducible rfl)); rotate_left; (focus (simp only [Act.put, List.setIfInBounds_toArray, List.set_cons_zero, List.set_cons_succ, i64_w, i32_w]; rfl))) | (refine pure_ (i := 5) (N := some 12) (v := undef) (a' := ?_) (spec_ShopOk.m 6) rfl rfl (any_of HT_.out (by kernel_rfl)) (fun _ _ _ h => h) (Or.inr ⟨by rfl, rfl⟩) ?_ ?_; rotate_left; (focus (simp only [Act.put, List.setIfInBounds_toArray, List.set_cons_zero, List.set_cons_succ, i64_w, i32_w]; rfl)))
  all_goals first | (refine one_ (i := 6) (N := some 13) (spec_ShopOk.m 7) rfl rfl (one_of HT_.out (by kernel_rfl)) (by decide) (fun K hK => ?_); refine goes_ Try.func61 (by kernel_rfl) rfl #[.slice _ l0_5.length c0_5] (by rfl) rfl rfl (by (try simp only [List.map_toArray, List.map_cons, List.map_nil]); first | done | rfl) ?_; refine (spec_LogOk.calls k _ _ _ _ _ Rd.out LeI.out A2.out).mono ?_; rintro e w2 ⟨rfl, hb⟩; have jb := Bel.mk hb; clear hb; refine ⟨_, rfl, ?_⟩; refine hK.out _ _ From.out (fun hHeld => ?_); clear hK K; refine norm_ (a' := ?_) ?_ ?_; rotate_left; (focus (show Act.put _ (some 13) _ = _; simp only [Act.put, List.setIfInBounds_toArray, List.set_cons_zero, List.set_cons_succ, i64_w, i32_w]; rfl))) | (refine pure_ (i := 6) (N := some 13) (v := undef) (a' := ?_) (spec_ShopOk.m 7) rfl rfl (any_of HT_.out (by kernel_rfl)) (fun _ _ _ h => h) (Or.inr ⟨by rfl, rfl⟩) ?_ ?_; rotate_left; (focus (simp only [Act.put, List.setIfInBounds_toArray, List.set_cons_zero, List.set_cons_succ, i64_w, i32_w]; rfl)))
  all_goals first | (refine pure_ (i := 7) (N := some 14) (v := ?_) (a' := ?_) (spec_ShopOk.m 8) rfl rfl (any_of HT_.out (by kernel_rfl)) (fun _ _ _ h => h) (Or.inl ⟨by rfl, ?_⟩) ?_ ?_; rotate_left; (focus (intro w'; go_simp; with_reducible rfl)); rotate_left; (focus (simp only [Act.put, List.setIfInBounds_toArray, List.set_cons_zero, List.set_cons_succ, i64_w, i32_w]; rfl))) | (refine pure_ (i := 7) (N := some 14) (v := undef) (a' := ?_) (spec_ShopOk.m 8) rfl rfl (any_of HT_.out (by kernel_rfl)) (fun _ _ _ h => h) (Or.inr ⟨by rfl, rfl⟩) ?_ ?_; rotate_left; (focus (simp only [Act.put, List.setIfInBounds_toArray, List.set_cons_zero, List.set_cons_succ, i64_w, i32_w]; rfl)))
  all_goals first | (refine pure_ (i := 8) (N := some 15) (v := ?_) (a' := ?_) (spec_ShopOk.m 9) rfl rfl (any_of HT_.out (by kernel_rfl)) (fun _ _ _ h => h) (Or.inl ⟨by rfl, ?_⟩) ?_ ?_; rotate_left; (focus (intro w'; go_simp; with_reducible rfl)); rotate_left; (focus (simp only [Act.put, List.setIfInBounds_toArray, List.set_cons_zero, List.set_cons_succ, i64_w, i32_w]; rfl))) | (refine pure_ (i := 8) (N := some 15) (v := undef) (a' := ?_) (spec_ShopOk.m 9) rfl rfl (any_of HT_.out (by kernel_rfl)) (fun _ _ _ h => h) (Or.inr ⟨by rfl, rfl⟩) ?_ ?_; rotate_left; (focus (simp only [Act.put, List.setIfInBounds_toArray, List.set_cons_zero, List.set_cons_succ, i64_w, i32_w]; rfl)))
  all_goals first | (refine pure_ (i := 9) (N := some 16) (v := ?_) (a' := ?_) (spec_ShopOk.m 10) rfl rfl (any_of HT_.out (by kernel_rfl)) (fun _ _ _ h => h) (Or.inl ⟨by rfl, ?_⟩) ?_ ?_; rotate_left; (focus (intro w'; go_simp; with_reducible rfl)); rotate_left; (focus (simp only [Act.put, List.setIfInBounds_toArray, List.set_cons_zero, List.set_cons_succ, i64_w, i32_w]; rfl))) | (refine pure_ (i := 9) (N := some 16) (v := undef) (a' := ?_) (spec_ShopOk.m 10) rfl rfl (any_of HT_.out (by kernel_rfl)) (fun _ _ _ h => h) (Or.inr ⟨by rfl, rfl⟩) ?_ ?_; rotate_left; (focus (simp only [Act.put, List.setIfInBounds_toArray, List.set_cons_zero, List.set_cons_succ, i64_w, i32_w]; rfl)))
  all_goals first | (refine take_ (i := 10) (N := some 17) (v := ?_) (a' := ?_) (spec_ShopOk.m 11) rfl rfl (take_ofW HT_.out HW_.out (by kernel_rfl)) (fun _ _ _ h => h) (Or.inl ⟨by rfl, ?_⟩) hHeld ?_ ?_; rotate_left; (focus (intro w' hS; have jS : Sin w1 w' := ⟨hS⟩; go_simp; with_reducible rfl)); rotate_left; (focus (simp only [Act.put, List.setIfInBounds_toArray, List.set_cons_zero, List.set_cons_succ, i64_w, i32_w]; rfl))) | (refine pure_ (i := 10) (N := some 17) (v := undef) (a' := ?_) (spec_ShopOk.m 11) rfl rfl (any_of HT_.out (by kernel_rfl)) (fun _ _ _ h => h) (Or.inr ⟨by rfl, rfl⟩) ?_ ?_; rotate_left; (focus (simp only [Act.put, List.setIfInBounds_toArray, List.set_cons_zero, List.set_cons_succ, i64_w, i32_w]; rfl)))
  all_goals first | (refine one_ (i := 11) (N := some 18) (spec_ShopOk.m 12) rfl rfl (one_of HT_.out (by kernel_rfl)) (by decide) (fun K hK => ?_); refine goes_ Try.func62 (by kernel_rfl) rfl #[.int .i64 a0_3, .int .i64 (-10), .int .i64 40] (by rfl) rfl rfl (by (try simp only [List.map_toArray, List.map_cons, List.map_nil]); first | done | rfl) ?_; refine (spec_l01In.calls _ _ _ _ _ A3.out).mono ?_; rintro e w2 ⟨rfl, n, rfl⟩; refine ⟨_, rfl, ?_⟩; refine hK.out _ _ From.out (fun hHeld => ?_); clear hK K; refine norm_ (a' := ?_) ?_ ?_; rotate_left; (focus (show Act.put _ (some 18) _ = _; simp only [Act.put, List.setIfInBounds_toArray, List.set_cons_zero, List.set_cons_succ, i64_w, i32_w]; rfl))) | (refine pure_ (i := 11) (N := some 18) (v := undef) (a' := ?_) (spec_ShopOk.m 12) rfl rfl (any_of HT_.out (by kernel_rfl)) (fun _ _ _ h => h) (Or.inr ⟨by rfl, rfl⟩) ?_ ?_; rotate_left; (focus (simp only [Act.put, List.setIfInBounds_toArray, List.set_cons_zero, List.set_cons_succ, i64_w, i32_w]; rfl)))
  all_goals first | (refine pure_ (i := 12) (N := some 19) (v := ?_) (a' := ?_) (spec_ShopOk.m 13) rfl rfl (any_of HT_.out (by kernel_rfl)) (fun _ _ _ h => h) (Or.inl ⟨by rfl, ?_⟩) ?_ ?_; rotate_left; (focus (intro w'; go_simp; with_reducible rfl)); rotate_left; (focus (simp only [Act.put, List.setIfInBounds_toArray, List.set_cons_zero, List.set_cons_succ, i64_w, i32_w]; rfl))) | (refine pure_ (i := 12) (N := some 19) (v := undef) (a' := ?_) (spec_ShopOk.m 13) rfl rfl (any_of HT_.out (by kernel_rfl)) (fun _ _ _ h => h) (Or.inr ⟨by rfl, rfl⟩) ?_ ?_; rotate_left; (focus (simp only [Act.put, List.setIfInBounds_toArray, List.set_cons_zero, List.set_cons_succ, i64_w, i32_w]; rfl)))
  all_goals first | (refine pure_ (i := 13) (N := some 20) (v := ?_) (a' := ?_) (spec_ShopOk.m 14) rfl rfl (any_of HT_.out (by kernel_rfl)) (fun _ _ _ h => h) (Or.inl ⟨by rfl, ?_⟩) ?_ ?_; rotate_left; (focus (intro w'; go_simp; with_reducible rfl)); rotate_left; (focus (simp only [Act.put, List.setIfInBounds_toArray, List.set_cons_zero, List.set_cons_succ, i64_w, i32_w]; rfl))) | (refine pure_ (i := 13) (N := some 20) (v := undef) (a' := ?_) (spec_ShopOk.m 14) rfl rfl (any_of HT_.out (by kernel_rfl)) (fun _ _ _ h => h) (Or.inr ⟨by rfl, rfl⟩) ?_ ?_; rotate_left; (focus (simp only [Act.put, List.setIfInBounds_toArray, List.set_cons_zero, List.set_cons_succ, i64_w, i32_w]; rfl)))
  all_goals first | (refine pure_ (i := 14) (N := some 21) (v := ?_) (a' := ?_) (spec_ShopOk.m 15) rfl rfl (any_of HT_.out (by kernel_rfl)) (fun _ _ _ h => h) (Or.inl ⟨by rfl, ?_⟩) ?_ ?_; rotate_left; (focus (intro w'; go_simp; with_reducible rfl)); rotate_left; (focus (simp only [Act.put, List.setIfInBounds_toArray, List.set_cons_zero, List.set_cons_succ, i64_w, i32_w]; rfl))) | (refine pure_ (i := 14) (N := some 21) (v := undef) (a' := ?_) (spec_ShopOk.m 15) rfl rfl (any_of HT_.out (by kernel_rfl)) (fun _ _ _ h => h) (Or.inr ⟨by rfl, rfl⟩) ?_ ?_; rotate_left; (focus (simp only [Act.put, List.setIfInBounds_toArray, List.set_cons_zero, List.set_cons_succ, i64_w, i32_w]; rfl)))
  all_goals first | (refine take_ (i := 15) (N := some 22) (v := ?_) (a' := ?_) (spec_ShopOk.m 16) rfl rfl (take_ofW HT_.out HW_.out (by kernel_rfl)) (fun _ _ _ h => h) (Or.inl ⟨by rfl, ?_⟩) hHeld ?_ ?_; rotate_left; (focus (intro w' hS; have jS : Sin w1 w' := ⟨hS⟩; go_simp; with_reducible rfl)); rotate_left; (focus (simp only [Act.put, List.setIfInBounds_toArray, List.set_cons_zero, List.set_cons_succ, i64_w, i32_w]; rfl))) | (refine pure_ (i := 15) (N := some 22) (v := undef) (a' := ?_) (spec_ShopOk.m 16) rfl rfl (any_of HT_.out (by kernel_rfl)) (fun _ _ _ h => h) (Or.inr ⟨by rfl, rfl⟩) ?_ ?_; rotate_left; (focus (simp only [Act.put, List.setIfInBounds_toArray, List.set_cons_zero, List.set_cons_succ, i64_w, i32_w]; rfl)))
  all_goals first | (refine one_ (i := 16) (N := some 23) (spec_ShopOk.m 17) rfl rfl (one_of HT_.out (by kernel_rfl)) (by decide) (fun K hK => ?_); refine goes_ Try.func62 (by kernel_rfl) rfl #[.int .i64 a0_4, .int .i64 0, .int .i64 100000] (by rfl) rfl rfl (by (try simp only [List.map_toArray, List.map_cons, List.map_nil]); first | done | rfl) ?_; refine (spec_l01In.calls _ _ _ _ _ A4.out).mono ?_; rintro e w2 ⟨rfl, n, rfl⟩; refine ⟨_, rfl, ?_⟩; refine hK.out _ _ From.out (fun hHeld => ?_); clear hK K; refine norm_ (a' := ?_) ?_ ?_; rotate_left; (focus (show Act.put _ (some 23) _ = _; simp only [Act.put, List.setIfInBounds_toArray, List.set_cons_zero, List.set_cons_succ, i64_w, i32_w]; rfl))) | (refine pure_ (i := 16) (N := some 23) (v := undef) (a' := ?_) (spec_ShopOk.m 17) rfl rfl (any_of HT_.out (by kernel_rfl)) (fun _ _ _ h => h) (Or.inr ⟨by rfl, rfl⟩) ?_ ?_; rotate_left; (focus (simp only [Act.put, List.setIfInBounds_toArray, List.set_cons_zero, List.set_cons_succ, i64_w, i32_w]; rfl)))
  all_goals first | (refine pure_ (i := 17) (N := some 24) (v := ?_) (a' := ?_) (spec_ShopOk.m 18) rfl rfl (any_of HT_.out (by kernel_rfl)) (fun _ _ _ h => h) (Or.inl ⟨by rfl, ?_⟩) ?_ ?_; rotate_left; (focus (intro w'; go_simp; with_reducible rfl)); rotate_left; (focus (simp only [Act.put, List.setIfInBounds_toArray, List.set_cons_zero, List.set_cons_succ, i64_w, i32_w]; rfl))) | (refine pure_ (i := 17) (N := some 24) (v := undef) (a' := ?_) (spec_ShopOk.m 18) rfl rfl (any_of HT_.out (by kernel_rfl)) (fun _ _ _ h => h) (Or.inr ⟨by rfl, rfl⟩) ?_ ?_; rotate_left; (focus (simp only [Act.put, List.setIfInBounds_toArray, List.set_cons_zero, List.set_cons_succ, i64_w, i32_w]; rfl)))
  all_goals first | (refine pure_ (i := 18) (N := some 25) (v := ?_) (a' := ?_) (spec_ShopOk.m 19) rfl rfl (any_of HT_.out (by kernel_rfl)) (fun _ _ _ h => h) (Or.inl ⟨by rfl, ?_⟩) ?_ ?_; rotate_left; (focus (intro w'; go_simp; with_reducible rfl)); rotate_left; (focus (simp only [Act.put, List.setIfInBounds_toArray, List.set_cons_zero, List.set_cons_succ, i64_w, i32_w]; rfl))) | (refine pure_ (i := 18) (N := some 25) (v := undef) (a' := ?_) (spec_ShopOk.m 19) rfl rfl (any_of HT_.out (by kernel_rfl)) (fun _ _ _ h => h) (Or.inr ⟨by rfl, rfl⟩) ?_ ?_; rotate_left; (focus (simp only [Act.put, List.setIfInBounds_toArray, List.set_cons_zero, List.set_cons_succ, i64_w, i32_w]; rfl)))
  all_goals first | (refine pure_ (i := 19) (N := some 26) (v := ?_) (a' := ?_) (spec_ShopOk.m 20) rfl rfl (any_of HT_.out (by kernel_rfl)) (fun _ _ _ h => h) (Or.inl ⟨by rfl, ?_⟩) ?_ ?_; rotate_left; (focus (intro w'; go_simp; with_reducible rfl)); rotate_left; (focus (simp only [Act.put, List.setIfInBounds_toArray, List.set_cons_zero, List.set_cons_succ, i64_w, i32_w]; rfl))) | (refine pure_ (i := 19) (N := some 26) (v := undef) (a' := ?_) (spec_ShopOk.m 20) rfl rfl (any_of HT_.out (by kernel_rfl)) (fun _ _ _ h => h) (Or.inr ⟨by rfl, rfl⟩) ?_ ?_; rotate_left; (focus (simp only [Act.put, List.setIfInBounds_toArray, List.set_cons_zero, List.set_cons_succ, i64_w, i32_w]; rfl)))
  all_goals first | (refine pure_ (i := 20) (N := some 27) (v := ?_) (a' := ?_) (spec_ShopOk.m 21) rfl rfl (any_of HT_.out (by kernel_rfl)) (fun _ _ _ h => h) (Or.inl ⟨by rfl, ?_⟩) ?_ ?_; rotate_left; (focus (intro w'; go_simp; with_reducible rfl)); rotate_left; (focus (simp only [Act.put, List.setIfInBounds_toArray, List.set_cons_zero, List.set_cons_succ, i64_w, i32_w]; rfl))) | (refine pure_ (i := 20) (N := some 27) (v := undef) (a' := ?_) (spec_ShopOk.m 21) rfl rfl (any_of HT_.out (by kernel_rfl)) (fun _ _ _ h => h) (Or.inr ⟨by rfl, rfl⟩) ?_ ?_; rotate_left; (focus (simp only [Act.put, List.setIfInBounds_toArray, List.set_cons_zero, List.set_cons_succ, i64_w, i32_w]; rfl)))
  all_goals first | (refine pure_ (i := 21) (N := some 28) (v := ?_) (a' := ?_) (spec_ShopOk.m 22) rfl rfl (any_of HT_.out (by kernel_rfl)) (fun _ _ _ h => h) (Or.inl ⟨by rfl, ?_⟩) ?_ ?_; rotate_left; (focus (intro w'; go_simp; with_reducible rfl)); rotate_left; (focus (simp only [Act.put, List.setIfInBounds_toArray, List.set_cons_zero, List.set_cons_succ, i64_w, i32_w]; rfl))) | (refine pure_ (i := 21) (N := some 28) (v := undef) (a' := ?_) (spec_ShopOk.m 22) rfl rfl (any_of HT_.out (by kernel_rfl)) (fun _ _ _ h => h) (Or.inr ⟨by rfl, rfl⟩) ?_ ?_; rotate_left; (focus (simp only [Act.put, List.setIfInBounds_toArray, List.set_cons_zero, List.set_cons_succ, i64_w, i32_w]; rfl)))
  all_goals first | (refine pure_ (i := 22) (N := some 29) (v := ?_) (a' := ?_) (spec_ShopOk.m 23) rfl rfl (any_of HT_.out (by kernel_rfl)) (fun _ _ _ h => h) (Or.inl ⟨by rfl, ?_⟩) ?_ ?_; rotate_left; (focus (intro w'; go_simp; with_reducible rfl)); rotate_left; (focus (simp only [Act.put, List.setIfInBounds_toArray, List.set_cons_zero, List.set_cons_succ, i64_w, i32_w]; rfl))) | (refine pure_ (i := 22) (N := some 29) (v := undef) (a' := ?_) (spec_ShopOk.m 23) rfl rfl (any_of HT_.out (by kernel_rfl)) (fun _ _ _ h => h) (Or.inr ⟨by rfl, rfl⟩) ?_ ?_; rotate_left; (focus (simp only [Act.put, List.setIfInBounds_toArray, List.set_cons_zero, List.set_cons_succ, i64_w, i32_w]; rfl)))
  all_goals first | (refine take_ (i := 23) (N := some 30) (v := ?_) (a' := ?_) (spec_ShopOk.m 24) rfl rfl (take_ofW HT_.out HW_.out (by kernel_rfl)) (fun _ _ _ h => h) (Or.inl ⟨by rfl, ?_⟩) hHeld ?_ ?_; rotate_left; (focus (intro w' hS; have jS : Sin w1 w' := ⟨hS⟩; go_simp; with_reducible rfl)); rotate_left; (focus (simp only [Act.put, List.setIfInBounds_toArray, List.set_cons_zero, List.set_cons_succ, i64_w, i32_w]; rfl))) | (refine pure_ (i := 23) (N := some 30) (v := undef) (a' := ?_) (spec_ShopOk.m 24) rfl rfl (any_of HT_.out (by kernel_rfl)) (fun _ _ _ h => h) (Or.inr ⟨by rfl, rfl⟩) ?_ ?_; rotate_left; (focus (simp only [Act.put, List.setIfInBounds_toArray, List.set_cons_zero, List.set_cons_succ, i64_w, i32_w]; rfl)))
  all_goals first | (refine pure_ (i := 24) (N := some 31) (v := ?_) (a' := ?_) (spec_ShopOk.m 25) rfl rfl (any_of HT_.out (by kernel_rfl)) (fun _ _ _ h => h) (Or.inl ⟨by rfl, ?_⟩) ?_ ?_; rotate_left; (focus (intro w'; go_simp; with_reducible rfl)); rotate_left; (focus (simp only [Act.put, List.setIfInBounds_toArray, List.set_cons_zero, List.set_cons_succ, i64_w, i32_w]; rfl))) | (refine pure_ (i := 24) (N := some 31) (v := undef) (a' := ?_) (spec_ShopOk.m 25) rfl rfl (any_of HT_.out (by kernel_rfl)) (fun _ _ _ h => h) (Or.inr ⟨by rfl, rfl⟩) ?_ ?_; rotate_left; (focus (simp only [Act.put, List.setIfInBounds_toArray, List.set_cons_zero, List.set_cons_succ, i64_w, i32_w]; rfl)))
  all_goals first | (refine pure_ (i := 25) (N := some 32) (v := ?_) (a' := ?_) (spec_ShopOk.m 26) rfl rfl (any_of HT_.out (by kernel_rfl)) (fun _ _ _ h => h) (Or.inl ⟨by rfl, ?_⟩) ?_ ?_; rotate_left; (focus (intro w'; go_simp; with_reducible rfl)); rotate_left; (focus (simp only [Act.put, List.setIfInBounds_toArray, List.set_cons_zero, List.set_cons_succ, i64_w, i32_w]; rfl))) | (refine pure_ (i := 25) (N := some 32) (v := undef) (a' := ?_) (spec_ShopOk.m 26) rfl rfl (any_of HT_.out (by kernel_rfl)) (fun _ _ _ h => h) (Or.inr ⟨by rfl, rfl⟩) ?_ ?_; rotate_left; (focus (simp only [Act.put, List.setIfInBounds_toArray, List.set_cons_zero, List.set_cons_succ, i64_w, i32_w]; rfl)))
  all_goals first | (refine pure_ (i := 26) (N := some 33) (v := ?_) (a' := ?_) (spec_ShopOk.m 27) rfl rfl (any_of HT_.out (by kernel_rfl)) (fun _ _ _ h => h) (Or.inl ⟨by rfl, ?_⟩) ?_ ?_; rotate_left; (focus (intro w'; go_simp; with_reducible rfl)); rotate_left; (focus (simp only [Act.put, List.setIfInBounds_toArray, List.set_cons_zero, List.set_cons_succ, i64_w, i32_w]; rfl))) | (refine pure_ (i := 26) (N := some 33) (v := undef) (a' := ?_) (spec_ShopOk.m 27) rfl rfl (any_of HT_.out (by kernel_rfl)) (fun _ _ _ h => h) (Or.inr ⟨by rfl, rfl⟩) ?_ ?_; rotate_left; (focus (simp only [Act.put, List.setIfInBounds_toArray, List.set_cons_zero, List.set_cons_succ, i64_w, i32_w]; rfl)))
  all_goals first | (refine pure_ (i := 27) (N := some 34) (v := ?_) (a' := ?_) (spec_ShopOk.m 28) rfl rfl (any_of HT_.out (by kernel_rfl)) (fun _ _ _ h => h) (Or.inl ⟨by rfl, ?_⟩) ?_ ?_; rotate_left; (focus (intro w'; go_simp; with_reducible rfl)); rotate_left; (focus (simp only [Act.put, List.setIfInBounds_toArray, List.set_cons_zero, List.set_cons_succ, i64_w, i32_w]; rfl))) | (refine pure_ (i := 27) (N := some 34) (v := undef) (a' := ?_) (spec_ShopOk.m 28) rfl rfl (any_of HT_.out (by kernel_rfl)) (fun _ _ _ h => h) (Or.inr ⟨by rfl, rfl⟩) ?_ ?_; rotate_left; (focus (simp only [Act.put, List.setIfInBounds_toArray, List.set_cons_zero, List.set_cons_succ, i64_w, i32_w]; rfl)))
  all_goals first | (refine take_ (i := 28) (N := some 35) (v := ?_) (a' := ?_) (spec_ShopOk.m 29) rfl rfl (take_ofW HT_.out HW_.out (by kernel_rfl)) (fun _ _ _ h => h) (Or.inl ⟨by rfl, ?_⟩) hHeld ?_ ?_; rotate_left; (focus (intro w' hS; have jS : Sin w1 w' := ⟨hS⟩; go_simp; with_reducible rfl)); rotate_left; (focus (simp only [Act.put, List.setIfInBounds_toArray, List.set_cons_zero, List.set_cons_succ, i64_w, i32_w]; rfl))) | (refine pure_ (i := 28) (N := some 35) (v := undef) (a' := ?_) (spec_ShopOk.m 29) rfl rfl (any_of HT_.out (by kernel_rfl)) (fun _ _ _ h => h) (Or.inr ⟨by rfl, rfl⟩) ?_ ?_; rotate_left; (focus (simp only [Act.put, List.setIfInBounds_toArray, List.set_cons_zero, List.set_cons_succ, i64_w, i32_w]; rfl)))
  all_goals first | (refine pure_ (i := 29) (N := some 36) (v := ?_) (a' := ?_) (spec_ShopOk.m 30) rfl rfl (any_of HT_.out (by kernel_rfl)) (fun _ _ _ h => h) (Or.inl ⟨by rfl, ?_⟩) ?_ ?_; rotate_left; (focus (intro w'; go_simp; with_reducible rfl)); rotate_left; (focus (simp only [Act.put, List.setIfInBounds_toArray, List.set_cons_zero, List.set_cons_succ, i64_w, i32_w]; rfl))) | (refine pure_ (i := 29) (N := some 36) (v := undef) (a' := ?_) (spec_ShopOk.m 30) rfl rfl (any_of HT_.out (by kernel_rfl)) (fun _ _ _ h => h) (Or.inr ⟨by rfl, rfl⟩) ?_ ?_; rotate_left; (focus (simp only [Act.put, List.setIfInBounds_toArray, List.set_cons_zero, List.set_cons_succ, i64_w, i32_w]; rfl)))
  all_goals first | (refine take_ (i := 30) (N := some 37) (v := ?_) (a' := ?_) (spec_ShopOk.m 31) rfl rfl (take_ofW HT_.out HW_.out (by kernel_rfl)) (fun _ _ _ h => h) (Or.inl ⟨by rfl, ?_⟩) hHeld ?_ ?_; rotate_left; (focus (intro w' hS; have jS : Sin w1 w' := ⟨hS⟩; go_simp; with_reducible rfl)); rotate_left; (focus (simp only [Act.put, List.setIfInBounds_toArray, List.set_cons_zero, List.set_cons_succ, i64_w, i32_w]; rfl))) | (refine pure_ (i := 30) (N := some 37) (v := undef) (a' := ?_) (spec_ShopOk.m 31) rfl rfl (any_of HT_.out (by kernel_rfl)) (fun _ _ _ h => h) (Or.inr ⟨by rfl, rfl⟩) ?_ ?_; rotate_left; (focus (simp only [Act.put, List.setIfInBounds_toArray, List.set_cons_zero, List.set_cons_succ, i64_w, i32_w]; rfl)))
  all_goals first | (refine pure_ (i := 31) (N := some 38) (v := ?_) (a' := ?_) (spec_ShopOk.m 32) rfl rfl (any_of HT_.out (by kernel_rfl)) (fun _ _ _ h => h) (Or.inl ⟨by rfl, ?_⟩) ?_ ?_; rotate_left; (focus (intro w'; go_simp; with_reducible rfl)); rotate_left; (focus (simp only [Act.put, List.setIfInBounds_toArray, List.set_cons_zero, List.set_cons_succ, i64_w, i32_w]; rfl))) | (refine pure_ (i := 31) (N := some 38) (v := undef) (a' := ?_) (spec_ShopOk.m 32) rfl rfl (any_of HT_.out (by kernel_rfl)) (fun _ _ _ h => h) (Or.inr ⟨by rfl, rfl⟩) ?_ ?_; rotate_left; (focus (simp only [Act.put, List.setIfInBounds_toArray, List.set_cons_zero, List.set_cons_succ, i64_w, i32_w]; rfl)))
  all_goals first | (refine pure_ (i := 32) (N := some 39) (v := ?_) (a' := ?_) (spec_ShopOk.m 33) rfl rfl (any_of HT_.out (by kernel_rfl)) (fun _ _ _ h => h) (Or.inl ⟨by rfl, ?_⟩) ?_ ?_; rotate_left; (focus (intro w'; go_simp; with_reducible rfl)); rotate_left; (focus (simp only [Act.put, List.setIfInBounds_toArray, List.set_cons_zero, List.set_cons_succ, i64_w, i32_w]; rfl))) | (refine pure_ (i := 32) (N := some 39) (v := undef) (a' := ?_) (spec_ShopOk.m 33) rfl rfl (any_of HT_.out (by kernel_rfl)) (fun _ _ _ h => h) (Or.inr ⟨by rfl, rfl⟩) ?_ ?_; rotate_left; (focus (simp only [Act.put, List.setIfInBounds_toArray, List.set_cons_zero, List.set_cons_succ, i64_w, i32_w]; rfl)))
  all_goals first | (refine pure_ (i := 33) (N := some 40) (v := ?_) (a' := ?_) (spec_ShopOk.m 34) rfl rfl (any_of HT_.out (by kernel_rfl)) (fun _ _ _ h => h) (Or.inl ⟨by rfl, ?_⟩) ?_ ?_; rotate_left; (focus (intro w'; go_simp; with_reducible rfl)); rotate_left; (focus (simp only [Act.put, List.setIfInBounds_toArray, List.set_cons_zero, List.set_cons_succ, i64_w, i32_w]; rfl))) | (refine pure_ (i := 33) (N := some 40) (v := undef) (a' := ?_) (spec_ShopOk.m 34) rfl rfl (any_of HT_.out (by kernel_rfl)) (fun _ _ _ h => h) (Or.inr ⟨by rfl, rfl⟩) ?_ ?_; rotate_left; (focus (simp only [Act.put, List.setIfInBounds_toArray, List.set_cons_zero, List.set_cons_succ, i64_w, i32_w]; rfl)))
  all_goals first | (refine pure_ (i := 34) (N := some 2) (v := ?_) (a' := ?_) (spec_ShopOk.m 35) rfl rfl (any_of HT_.out (by kernel_rfl)) (fun _ _ _ h => h) (Or.inl ⟨by rfl, ?_⟩) ?_ ?_; rotate_left; (focus (intro w'; go_simp; with_reducible rfl)); rotate_left; (focus (simp only [Act.put, List.setIfInBounds_toArray, List.set_cons_zero, List.set_cons_succ, i64_w, i32_w]; rfl))) | (refine pure_ (i := 34) (N := some 2) (v := undef) (a' := ?_) (spec_ShopOk.m 35) rfl rfl (any_of HT_.out (by kernel_rfl)) (fun _ _ _ h => h) (Or.inr ⟨by rfl, rfl⟩) ?_ ?_; rotate_left; (focus (simp only [Act.put, List.setIfInBounds_toArray, List.set_cons_zero, List.set_cons_succ, i64_w, i32_w]; rfl)))
  all_goals refine done_ (done_of HT_.out (by kernel_rfl)) ?_
  all_goals try go_wp2
  all_goals go_ret
  all_goals exact ⟨by first | rfl | (simp [*]; done), From.out⟩
end Go.Proofs.Ytbkkpllejgedcaa.P


namespace Go.Proofs.Ytbkkpllejgedcaa.P
open Go.RowKit Go.Proofs.YtbkkpllejgedcaaW.PrintWords Go.Proofs.YtbkkpllejgedcaaW.PrintLast Go.Proofs.YtbkkpllejgedcaaW.PrintMore
attribute [local go_sem] max2_int min2_int max_two min_two max_three min_three max_four min_four
set_option linter.unusedVariables false
set_option linter.unusedSimpArgs false
def spec_l34Copy.f (l0 : List (S74)) : Option ((List (S74))) := (some (([] : List (S74)) : List (S74))).bind fun y712 => (if y712.length + l0.length < 4398046511104 then (some (y712 ++ l0)) else (none))
set_option maxHeartbeats 8000000 in
set_option maxRecDepth 100000 in
theorem spec_l34Copy.calls (A0 : Option Addr) (c0 : Nat) (l0 : List (S74)) (r : List (S74)) (w : World) (hr0 : Kd.C k74 w A0 l0.length l0) (hc0 : l0.length ≤ c0) (h : spec_l34Copy.f l0 = some r) :
    Calls Try.prog 93 #[.slice A0 l0.length c0] w fun e w' => ∃ v0_ : Value, e = .returned (v0_) ∧ Kd.R k74 74 w' w.heap.size (fun _ => True) v0_ r ∧ Below w.heap.size w w' := by
  have HR0 := Aside0.mk hr0
  have HC0 := Aside0.mk hc0
  clear hr0 hc0
  have HB := Aside0.mk (Below.refl w.heap.size w)
  have H : ((some (([] : List (S74)) : List (S74))).bind fun y712 => (if y712.length + l0.length < 4398046511104 then (some (y712 ++ l0)) else (none))) = some r := h
  clear h
  obtain ⟨y712, hy712⟩ : ∃ y_ : List (S74), y_ = (([] : List (S74))) := ⟨_, rfl⟩
  replace H : (if y712.length + l0.length < 4398046511104 then (some (y712 ++ l0)) else (none)) = some r := by first | (rw [hy712]; with_reducible exact H) | (have H2_ := (Option.bind_some _ _).symm.trans H; rw [hy712]; with_reducible exact H2_) | (have H2_ := (Option.bind_some _ _).symm.trans H; with_reducible exact H2_) | with_reducible exact H | (rw [hy712]; exact H) | exact H
  have Ny712 := Aside0.mk hy712
  clear hy712
  by_cases c2 : y712.length + l0.length < 4398046511104
  · rw [if_pos c2] at H
    have LMc2 := Aside0.mk c2
    clear c2
    obtain ⟨y715, hy715⟩ : ∃ y_ : List (S74), y_ = (y712 ++ l0) := ⟨_, rfl⟩
    replace H : (some y715) = some r := by first | (rw [hy715]; with_reducible exact H) | (have H2_ := (Option.bind_some _ _).symm.trans H; rw [hy715]; with_reducible exact H2_) | (have H2_ := (Option.bind_some _ _).symm.trans H; with_reducible exact H2_) | with_reducible exact H | (rw [hy715]; exact H) | exact H
    have Ny715 := Aside0.mk hy715
    clear hy715
    obtain rfl := Option.some.inj H
    go_enter Try.func93, Try.ntmps93
    go_wp2_with (first | ((with_reducible refine gate_dst (N := 3) rfl ?_); refine Kd.R_lit k74 _ 74 ?hg (N := 3) ?hd (xs := ([] : List (S74))) (inner := []) (ok := fun _ => True) (okp := fun _ => True) ?hr ?hp (fun _ hk => hk) trivial (Below.refl _ _) (Nat.le_refl _) (by simp) ?_; (case hd => rfl); (case hg => rfl); (case hr => first | (go_simp; done) | (go_simp; rfl)); (case hp => exact (Reps.none _ _)); intro v713 w3 ho4 hb hg_ hnew_; clear hg_ hnew_; (first | rw [← Ny712.out] at ho4 | (simp only [Int.reduceToNat] at ho4; rw [← Ny712.out] at ho4)); have n0_ := Aside0.mk (Kd.R_lower ho4 (below_size (oB HB))); have n1_ := Aside0.mk (below_step (oB HB) hb); clear HB; have HO714 := n0_; have HB := n1_; clear n0_ n1_; clear hb ho4) | ((with_reducible refine gate_builtin (b := .append) (xs := #[.tmp 3, .tmp 4]) rfl ?_); at_builtin; refine Kd.R_append_rows k74 (w0 := w) w.heap.size rfl (.tmp 3) (.tmp 4) 34 74 (.agg #[(.int .i64 0), (.int .i64 0), (.int .i64 0), (.int .i64 0)]) 32 rfl Try.underlying34 info74 rfl (by decide) (by omega) v713 y712 l0 _ _ _ (fun _ => True) (fun _ => False) rfl rfl ?aO ?aR (fun _ _ h => h) (fun _ h => h.elim) ?aF ?aB ?aS ?aL ?_; (case aR => exact oc_ HR0.out); (case aB => exact (oB HB)); (case aF => exact (fun _ _ => trivial)); (case aO => exact (oR HO714)); (case aS => exact (below_size (oB HB))); (case aL => have := LMc2.out; omega); intro v716 w5 ho hb hg hat; rw [← Ny715.out] at ho; have n0_ := Aside0.mk (hb); have n1_ := Aside0.mk (ho); clear HB; clear HO714; have HB := n0_; have HO717 := n1_; clear n0_ n1_; clear ho hb hg hat))
    go_ret
    exact ⟨_, by first | rfl | (simp [errW_none, errW_some] <;> rfl) | (simp [*, errW_none, errW_some] <;> rfl), oR HO717, oB HB⟩
  · rw [if_neg c2] at H
    exact absurd H (by simp)
end Go.Proofs.Ytbkkpllejgedcaa.P


namespace Go.Proofs.Ytbkkpllejgedcaa.P
open Go.RowKit Go.Proofs.YtbkkpllejgedcaaW.PrintWords Go.Proofs.YtbkkpllejgedcaaW.PrintLast Go.Proofs.YtbkkpllejgedcaaW.PrintMore
attribute [local go_sem] max2_int min2_int max_two min_two max_three min_three max_four min_four
set_option linter.unusedVariables false
set_option linter.unusedSimpArgs false
def spec_l19Copy.f (l0 : List (S96)) : Option ((List (S96))) := (some (([] : List (S96)) : List (S96))).bind fun y331 => (if y331.length + l0.length < 4398046511104 then (some (y331 ++ l0)) else (none))
set_option maxHeartbeats 8000000 in
set_option maxRecDepth 100000 in
theorem spec_l19Copy.calls (A0 : Option Addr) (c0 : Nat) (l0 : List (S96)) (r : List (S96)) (w : World) (hr0 : Kd.C k96 w A0 l0.length l0) (hc0 : l0.length ≤ c0) (h : spec_l19Copy.f l0 = some r) :
    Calls Try.prog 110 #[.slice A0 l0.length c0] w fun e w' => ∃ v0_ : Value, e = .returned (v0_) ∧ Kd.R k96 96 w' w.heap.size (fun _ => True) v0_ r ∧ Below w.heap.size w w' := by
  have HR0 := Aside0.mk hr0
  have HC0 := Aside0.mk hc0
  clear hr0 hc0
  have HB := Aside0.mk (Below.refl w.heap.size w)
  have H : ((some (([] : List (S96)) : List (S96))).bind fun y331 => (if y331.length + l0.length < 4398046511104 then (some (y331 ++ l0)) else (none))) = some r := h
  clear h
  obtain ⟨y331, hy331⟩ : ∃ y_ : List (S96), y_ = (([] : List (S96))) := ⟨_, rfl⟩
  replace H : (if y331.length + l0.length < 4398046511104 then (some (y331 ++ l0)) else (none)) = some r := by first | (rw [hy331]; with_reducible exact H) | (have H2_ := (Option.bind_some _ _).symm.trans H; rw [hy331]; with_reducible exact H2_) | (have H2_ := (Option.bind_some _ _).symm.trans H; with_reducible exact H2_) | with_reducible exact H | (rw [hy331]; exact H) | exact H
  have Ny331 := Aside0.mk hy331
  clear hy331
  by_cases c2 : y331.length + l0.length < 4398046511104
  · rw [if_pos c2] at H
    have LMc2 := Aside0.mk c2
    clear c2
    obtain ⟨y334, hy334⟩ : ∃ y_ : List (S96), y_ = (y331 ++ l0) := ⟨_, rfl⟩
    replace H : (some y334) = some r := by first | (rw [hy334]; with_reducible exact H) | (have H2_ := (Option.bind_some _ _).symm.trans H; rw [hy334]; with_reducible exact H2_) | (have H2_ := (Option.bind_some _ _).symm.trans H; with_reducible exact H2_) | with_reducible exact H | (rw [hy334]; exact H) | exact H
    have Ny334 := Aside0.mk hy334
    clear hy334
    obtain rfl := Option.some.inj H
    go_enter Try.func110, Try.ntmps110
    go_wp2_with (first | ((with_reducible refine gate_dst (N := 3) rfl ?_); refine Kd.R_lit k96 _ 96 ?hg (N := 3) ?hd (xs := ([] : List (S96))) (inner := []) (ok := fun _ => True) (okp := fun _ => True) ?hr ?hp (fun _ hk => hk) trivial (Below.refl _ _) (Nat.le_refl _) (by simp) ?_; (case hd => rfl); (case hg => rfl); (case hr => first | (go_simp; done) | (go_simp; rfl)); (case hp => exact (Reps.none _ _)); intro v332 w3 ho4 hb hg_ hnew_; clear hg_ hnew_; (first | rw [← Ny331.out] at ho4 | (simp only [Int.reduceToNat] at ho4; rw [← Ny331.out] at ho4)); have n0_ := Aside0.mk (Kd.R_lower ho4 (below_size (oB HB))); have n1_ := Aside0.mk (below_step (oB HB) hb); clear HB; have HO333 := n0_; have HB := n1_; clear n0_ n1_; clear hb ho4) | ((with_reducible refine gate_builtin (b := .append) (xs := #[.tmp 3, .tmp 4]) rfl ?_); at_builtin; refine Kd.R_append_rows k96 (w0 := w) w.heap.size rfl (.tmp 3) (.tmp 4) 31 96 (.agg #[(.int .i64 0), (.int .i64 0), (.int .i64 0), (.int .i64 0)]) 32 rfl Try.underlying31 info96 rfl (by decide) (by omega) v332 y331 l0 _ _ _ (fun _ => True) (fun _ => False) rfl rfl ?aO ?aR (fun _ _ h => h) (fun _ h => h.elim) ?aF ?aB ?aS ?aL ?_; (case aR => exact oc_ HR0.out); (case aB => exact (oB HB)); (case aF => exact (fun _ _ => trivial)); (case aO => exact (oR HO333)); (case aS => exact (below_size (oB HB))); (case aL => have := LMc2.out; omega); intro v335 w5 ho hb hg hat; rw [← Ny334.out] at ho; have n0_ := Aside0.mk (hb); have n1_ := Aside0.mk (ho); clear HB; clear HO333; have HB := n0_; have HO336 := n1_; clear n0_ n1_; clear ho hb hg hat))
    go_ret
    exact ⟨_, by first | rfl | (simp [errW_none, errW_some] <;> rfl) | (simp [*, errW_none, errW_some] <;> rfl), oR HO336, oB HB⟩
  · rw [if_neg c2] at H
    exact absurd H (by simp)
end Go.Proofs.Ytbkkpllejgedcaa.P


namespace Go.Proofs.Ytbkkpllejgedcaa.P
open Go.RowKit Go.Proofs.YtbkkpllejgedcaaW.PrintWords Go.Proofs.YtbkkpllejgedcaaW.PrintLast Go.Proofs.YtbkkpllejgedcaaW.PrintMore
attribute [local go_sem] max2_int min2_int max_two min_two max_three min_three max_four min_four
set_option linter.unusedVariables false
set_option linter.unusedSimpArgs false
def spec_l02Copy.f (l0 : List Int) : Option (List Int) := (some (([] : List Int) : List Int)).bind fun y718 => (if y718.length + l0.length < 17592186044416 then (some (y718 ++ l0)) else (none))
set_option maxHeartbeats 8000000 in
set_option maxRecDepth 100000 in
theorem spec_l02Copy.calls (A0 : Option Addr) (c0 : Nat) (l0 : List Int) (r : List Int) (w : World) (hr0 : Kd.C (Kd.int .i64) w A0 l0.length l0) (hc0 : l0.length ≤ c0) (h : spec_l02Copy.f l0 = some r) :
    Calls Try.prog 126 #[.slice A0 l0.length c0] w fun e w' => ∃ v0_ : Value, e = .returned (v0_) ∧ Kd.R (Kd.int .i64) 3 w' w.heap.size (fun _ => True) v0_ r ∧ Below w.heap.size w w' := by
  have HR0 := Aside0.mk hr0
  have HC0 := Aside0.mk hc0
  clear hr0 hc0
  have HB := Aside0.mk (Below.refl w.heap.size w)
  have H : ((some (([] : List Int) : List Int)).bind fun y718 => (if y718.length + l0.length < 17592186044416 then (some (y718 ++ l0)) else (none))) = some r := h
  clear h
  obtain ⟨y718, hy718⟩ : ∃ y_ : List Int, y_ = (([] : List Int)) := ⟨_, rfl⟩
  replace H : (if y718.length + l0.length < 17592186044416 then (some (y718 ++ l0)) else (none)) = some r := by first | (rw [hy718]; with_reducible exact H) | (have H2_ := (Option.bind_some _ _).symm.trans H; rw [hy718]; with_reducible exact H2_) | (have H2_ := (Option.bind_some _ _).symm.trans H; with_reducible exact H2_) | with_reducible exact H | (rw [hy718]; exact H) | exact H
  have Ny718 := Aside0.mk hy718
  clear hy718
  by_cases c2 : y718.length + l0.length < 17592186044416
  · rw [if_pos c2] at H
    have LMc2 := Aside0.mk c2
    clear c2
    obtain ⟨y721, hy721⟩ : ∃ y_ : List Int, y_ = (y718 ++ l0) := ⟨_, rfl⟩
    replace H : (some y721) = some r := by first | (rw [hy721]; with_reducible exact H) | (have H2_ := (Option.bind_some _ _).symm.trans H; rw [hy721]; with_reducible exact H2_) | (have H2_ := (Option.bind_some _ _).symm.trans H; with_reducible exact H2_) | with_reducible exact H | (rw [hy721]; exact H) | exact H
    have Ny721 := Aside0.mk hy721
    clear hy721
    obtain rfl := Option.some.inj H
    go_enter Try.func126, Try.ntmps126
    go_wp2_with (first | ((with_reducible refine gate_dst (N := 3) rfl ?_); refine Kd.R_lit (Kd.int .i64) _ 3 ?hg (N := 3) ?hd (xs := ([] : List Int)) (inner := []) (ok := fun _ => True) (okp := fun _ => True) ?hr ?hp (fun _ hk => hk) trivial (Below.refl _ _) (Nat.le_refl _) (by simp) ?_; (case hd => rfl); (case hg => rfl); (case hr => first | (go_simp; done) | (go_simp; rfl)); (case hp => exact (Reps.none _ _)); intro v719 w3 ho4 hb hg_ hnew_; clear hg_ hnew_; (first | rw [← Ny718.out] at ho4 | (simp only [Int.reduceToNat] at ho4; rw [← Ny718.out] at ho4)); have n0_ := Aside0.mk (Kd.R_lower ho4 (below_size (oB HB))); have n1_ := Aside0.mk (below_step (oB HB) hb); clear HB; have HO720 := n0_; have HB := n1_; clear n0_ n1_; clear hb ho4) | ((with_reducible refine gate_builtin (b := .append) (xs := #[.tmp 3, .tmp 4]) rfl ?_); at_builtin; refine Kd.R_append_rows (Kd.int .i64) (w0 := w) w.heap.size rfl (.tmp 3) (.tmp 4) 23 3 (.int .i64 0) 8 rfl Try.underlying23 info3 rfl (by decide) (by omega) v719 y718 l0 _ _ _ (fun _ => True) (fun _ => False) rfl rfl ?aO ?aR (fun _ _ h => h) (fun _ h => h.elim) ?aF ?aB ?aS ?aL ?_; (case aR => exact oc_ HR0.out); (case aB => exact (oB HB)); (case aF => exact (fun _ _ => trivial)); (case aO => exact (oR HO720)); (case aS => exact (below_size (oB HB))); (case aL => have := LMc2.out; omega); intro v722 w5 ho hb hg hat; rw [← Ny721.out] at ho; have n0_ := Aside0.mk (hb); have n1_ := Aside0.mk (ho); clear HB; clear HO720; have HB := n0_; have HO723 := n1_; clear n0_ n1_; clear ho hb hg hat))
    go_ret
    exact ⟨_, by first | rfl | (simp [errW_none, errW_some] <;> rfl) | (simp [*, errW_none, errW_some] <;> rfl), oR HO723, oB HB⟩
  · rw [if_neg c2] at H
    exact absurd H (by simp)
end Go.Proofs.Ytbkkpllejgedcaa.P


namespace Go.Proofs.Ytbkkpllejgedcaa.P
open Go.RowKit Go.Proofs.YtbkkpllejgedcaaW.PrintWords Go.Proofs.YtbkkpllejgedcaaW.PrintLast Go.Proofs.YtbkkpllejgedcaaW.PrintMore Go.Proofs.Ytbkkpllejgedcaa.V
attribute [local go_sem] cell_b frozen_b
attribute [local go_sem] max2_int min2_int max_two min_two max_three min_three max_four min_four
set_option linter.unusedVariables false
set_option linter.unusedSimpArgs false
def spec_l36Copy.f (l0_0 : List (S96)) (a0_1 : Int) (l0_2 : List Int) : Option ((List (S96)) × Int × List Int) := (spec_l19Copy.f l0_0).bind fun t726 => ((spec_l02Copy.f l0_2).bind fun t729 => (some (t726, a0_1, t729)))
set_option maxHeartbeats 8000000 in
set_option maxRecDepth 100000 in
set_option synthInstance.maxHeartbeats 400000 in
set_option synthInstance.maxSize 100000 in
theorem spec_l36Copy.calls (A0_0 : Option Addr) (c0_0 : Nat) (l0_0 : List (S96)) (a0_1 : Int) (A0_2 : Option Addr) (c0_2 : Nat) (l0_2 : List Int) (r1 : List (S96)) (r2 : Int) (r3 : List Int) (w : World) (hr0_0 : Kd.C k96 w A0_0 l0_0.length l0_0) (hc0_0 : l0_0.length ≤ c0_0) (hr0_2 : Kd.C (Kd.int .i64) w A0_2 l0_2.length l0_2) (hc0_2 : l0_2.length ≤ c0_2) (h : spec_l36Copy.f l0_0 a0_1 l0_2 = some (r1, r2, r3)) :
    Calls Try.prog 118 #[.agg #[.slice A0_0 l0_0.length c0_0, .int .i64 a0_1, .slice A0_2 l0_2.length c0_2]] w fun e w' => ∃ v0_ v2_ : Value, e = .returned (.agg #[v0_, .int .i64 r2, v2_]) ∧ Kd.R k96 96 w' w.heap.size (fun _ => True) v0_ r1 ∧ Kd.R (Kd.int .i64) 3 w' w.heap.size (fun _ => True) v2_ r3 ∧ Below w.heap.size w w' := by
  have ihr0_0 := RdE.mk hr0_0
  have ihc0_0 := LeI.mk hc0_0
  have ihr0_2 := RdE.mk hr0_2
  have ihc0_2 := LeI.mk hc0_2
  clear hr0_0 hc0_0 hr0_2 hc0_2
  unfold spec_l36Copy.f at h
  have hu33 := Try.underlying33
  (repeat' first | ((with_reducible replace h := ite_some h); rcases h with ⟨hc, h⟩ | ⟨hc, h⟩ <;> first | exact (none_some h).elim | exact absurd hc (by decide) | subst hc | (replace hc := Bool.eq_false_iff.mpr hc; subst hc) | (have hd := beq_iff_eq.mpr hc; have he := bne_eq_false_iff_eq.mpr hc; clear hc) | (have hd := beq_eq_false_iff_ne.mpr hc; have he := bne_iff_ne.mpr hc) | (have hd := decide_eq_false hc) | (have hd := decide_eq_true hc) | skip))
  all_goals go_enter Try.func118, Try.ntmps118
  all_goals go_wp2_with (first
    | ((with_reducible refine gate_dst (N := 1) rfl ?_); refine box_event rfl (N := 1) rfl (cs := #[.slice A0_0 l0_0.length c0_0, .int .i64 a0_1, .slice A0_2 l0_2.length c0_2]) (t := 33) (by first | (go_simp; done) | (go_simp; rfl)) ?_; intro g hg w1 hk hb; have j1 := Born.mk hg; have j2 := Bel.mk hb; have j3 := Blk.mk hk; clear hg hb hk)
    | ((with_reducible refine gate_dst (N := 2) rfl ?_); refine box_event rfl (N := 2) rfl (cs := #[.slice none 0 0, .int .i64 0, .slice none 0 0]) (t := 33) (by first | (go_simp; done) | (go_simp; rfl)) ?_; intro g hg w1 hk hb; have j1 := Born.mk hg; have j2 := Bel.mk hb; have j3 := Blk.mk hk; clear hg hb hk)
    | (go_at_call 110; replace h := Option.bind_eq_some_iff.mp h; obtain ⟨t, A, h⟩ := h; (try dsimp only at h); refine (spec_l19Copy.calls _ _ _ _ _ Rd.out LeI.out A).mono ?_; rintro e w2 ⟨v0, rfl, ho0, hb⟩; obtain ⟨B0, b0, rfl⟩ := Kd.R_slice ho0; have j0 := RowE.mk ho0; have q0 := LeI.mk (rowLe j0); have jb := Bel.mk hb; clear A ho0 hb; (repeat' first | ((with_reducible replace h := ite_some h); rcases h with ⟨hc, h⟩ | ⟨hc, h⟩ <;> first | exact (none_some h).elim | exact absurd hc (by decide) | subst hc | (replace hc := Bool.eq_false_iff.mpr hc; subst hc) | (have hd := beq_iff_eq.mpr hc; have he := bne_eq_false_iff_eq.mpr hc; clear hc) | (have hd := beq_eq_false_iff_ne.mpr hc; have he := bne_iff_ne.mpr hc) | (have hd := decide_eq_false hc) | (have hd := decide_eq_true hc) | skip)); (try have hn : decide (0 < t.length) = true := decide_eq_true (by omega)); (try have hn : decide (0 < t.length) = false := decide_eq_false (by omega)))
    | (go_at_call 126; replace h := Option.bind_eq_some_iff.mp h; obtain ⟨t, A, h⟩ := h; (try dsimp only at h); refine (spec_l02Copy.calls _ _ _ _ _ Rd.out LeI.out A).mono ?_; rintro e w2 ⟨v0, rfl, ho0, hb⟩; obtain ⟨B0, b0, rfl⟩ := Kd.R_slice ho0; have j0 := RowE.mk ho0; have q0 := LeI.mk (rowLe j0); have jb := Bel.mk hb; clear A ho0 hb; (repeat' first | ((with_reducible replace h := ite_some h); rcases h with ⟨hc, h⟩ | ⟨hc, h⟩ <;> first | exact (none_some h).elim | exact absurd hc (by decide) | subst hc | (replace hc := Bool.eq_false_iff.mpr hc; subst hc) | (have hd := beq_iff_eq.mpr hc; have he := bne_eq_false_iff_eq.mpr hc; clear hc) | (have hd := beq_eq_false_iff_ne.mpr hc; have he := bne_iff_ne.mpr hc) | (have hd := decide_eq_false hc) | (have hd := decide_eq_true hc) | skip)); (try have hn : decide (0 < t.length) = true := decide_eq_true (by omega)); (try have hn : decide (0 < t.length) = false := decide_eq_false (by omega)))
    | ((with_reducible refine region_at ?_); intro w3 jw; refine region_st 2 (by rfl) ?_; intro g hg w4 jv; subst hg; go_region_held3 (fun w' => SinB g w4 w') (first | exact ⟨FromB.out⟩ | skip) (first | (go_at_call 110; replace h := Option.bind_eq_some_iff.mp h; obtain ⟨t, A, h⟩ := h; (try dsimp only at h); refine (spec_l19Copy.calls _ _ _ _ _ Rd.out LeI.out A).mono ?_; rintro e w2 ⟨v0, rfl, ho0, hb⟩; obtain ⟨B0, b0, rfl⟩ := Kd.R_slice ho0; have j0 := RowE.mk ho0; have q0 := LeI.mk (rowLe j0); have jb := Bel.mk hb; clear A ho0 hb; (repeat' first | ((with_reducible replace h := ite_some h); rcases h with ⟨hc, h⟩ | ⟨hc, h⟩ <;> first | exact (none_some h).elim | exact absurd hc (by decide) | subst hc | (replace hc := Bool.eq_false_iff.mpr hc; subst hc) | (have hd := beq_iff_eq.mpr hc; have he := bne_eq_false_iff_eq.mpr hc; clear hc) | (have hd := beq_eq_false_iff_ne.mpr hc; have he := bne_iff_ne.mpr hc) | (have hd := decide_eq_false hc) | (have hd := decide_eq_true hc) | skip)); (try have hn : decide (0 < t.length) = true := decide_eq_true (by omega)); (try have hn : decide (0 < t.length) = false := decide_eq_false (by omega))) | (go_at_call 126; replace h := Option.bind_eq_some_iff.mp h; obtain ⟨t, A, h⟩ := h; (try dsimp only at h); refine (spec_l02Copy.calls _ _ _ _ _ Rd.out LeI.out A).mono ?_; rintro e w2 ⟨v0, rfl, ho0, hb⟩; obtain ⟨B0, b0, rfl⟩ := Kd.R_slice ho0; have j0 := RowE.mk ho0; have q0 := LeI.mk (rowLe j0); have jb := Bel.mk hb; clear A ho0 hb; (repeat' first | ((with_reducible replace h := ite_some h); rcases h with ⟨hc, h⟩ | ⟨hc, h⟩ <;> first | exact (none_some h).elim | exact absurd hc (by decide) | subst hc | (replace hc := Bool.eq_false_iff.mpr hc; subst hc) | (have hd := beq_iff_eq.mpr hc; have he := bne_eq_false_iff_eq.mpr hc; clear hc) | (have hd := beq_eq_false_iff_ne.mpr hc; have he := bne_iff_ne.mpr hc) | (have hd := decide_eq_false hc) | (have hd := decide_eq_true hc) | skip)); (try have hn : decide (0 < t.length) = true := decide_eq_true (by omega)); (try have hn : decide (0 < t.length) = false := decide_eq_false (by omega)))))
    | ((with_reducible refine region_at ?_); intro w3 jw; go_region_held3 (fun w' => Sin w3 w') (first | exact ⟨From.out⟩ | skip) (first | (go_at_call 110; replace h := Option.bind_eq_some_iff.mp h; obtain ⟨t, A, h⟩ := h; (try dsimp only at h); refine (spec_l19Copy.calls _ _ _ _ _ Rd.out LeI.out A).mono ?_; rintro e w2 ⟨v0, rfl, ho0, hb⟩; obtain ⟨B0, b0, rfl⟩ := Kd.R_slice ho0; have j0 := RowE.mk ho0; have q0 := LeI.mk (rowLe j0); have jb := Bel.mk hb; clear A ho0 hb; (repeat' first | ((with_reducible replace h := ite_some h); rcases h with ⟨hc, h⟩ | ⟨hc, h⟩ <;> first | exact (none_some h).elim | exact absurd hc (by decide) | subst hc | (replace hc := Bool.eq_false_iff.mpr hc; subst hc) | (have hd := beq_iff_eq.mpr hc; have he := bne_eq_false_iff_eq.mpr hc; clear hc) | (have hd := beq_eq_false_iff_ne.mpr hc; have he := bne_iff_ne.mpr hc) | (have hd := decide_eq_false hc) | (have hd := decide_eq_true hc) | skip)); (try have hn : decide (0 < t.length) = true := decide_eq_true (by omega)); (try have hn : decide (0 < t.length) = false := decide_eq_false (by omega))) | (go_at_call 126; replace h := Option.bind_eq_some_iff.mp h; obtain ⟨t, A, h⟩ := h; (try dsimp only at h); refine (spec_l02Copy.calls _ _ _ _ _ Rd.out LeI.out A).mono ?_; rintro e w2 ⟨v0, rfl, ho0, hb⟩; obtain ⟨B0, b0, rfl⟩ := Kd.R_slice ho0; have j0 := RowE.mk ho0; have q0 := LeI.mk (rowLe j0); have jb := Bel.mk hb; clear A ho0 hb; (repeat' first | ((with_reducible replace h := ite_some h); rcases h with ⟨hc, h⟩ | ⟨hc, h⟩ <;> first | exact (none_some h).elim | exact absurd hc (by decide) | subst hc | (replace hc := Bool.eq_false_iff.mpr hc; subst hc) | (have hd := beq_iff_eq.mpr hc; have he := bne_eq_false_iff_eq.mpr hc; clear hc) | (have hd := beq_eq_false_iff_ne.mpr hc; have he := bne_iff_ne.mpr hc) | (have hd := decide_eq_false hc) | (have hd := decide_eq_true hc) | skip)); (try have hn : decide (0 < t.length) = true := decide_eq_true (by omega)); (try have hn : decide (0 < t.length) = false := decide_eq_false (by omega))))))
  all_goals (repeat' first | ((with_reducible replace h := ite_some h); rcases h with ⟨hc, h⟩ | ⟨hc, h⟩ <;> first | exact (none_some h).elim | exact absurd hc (by decide) | subst hc | (replace hc := Bool.eq_false_iff.mpr hc; subst hc) | (have hd := beq_iff_eq.mpr hc; have he := bne_eq_false_iff_eq.mpr hc; clear hc) | (have hd := beq_eq_false_iff_ne.mpr hc; have he := bne_iff_ne.mpr hc) | (have hd := decide_eq_false hc) | (have hd := decide_eq_true hc) | skip))
  all_goals simp only [Option.some.injEq, Prod.mk.injEq] at h
  all_goals obtain ⟨rfl, rfl, rfl⟩ := h
  all_goals refine bodyPost_ret (results_cell_row rfl _ _ _ _ _ (0, 0) _ rfl Blk.out Try.underlying33 rfl (by kernel_rfl)) rfl ?_
  all_goals exact ⟨_, _, rfl, (by first | exact rowFin | exact Kd.R_nil _ _ _ _ _), (by first | exact rowFin | exact Kd.R_nil _ _ _ _ _), From.out⟩
end Go.Proofs.Ytbkkpllejgedcaa.P


namespace Go.Proofs.Ytbkkpllejgedcaa.P
open Go.RowKit Go.Proofs.YtbkkpllejgedcaaW.PrintWords Go.Proofs.YtbkkpllejgedcaaW.PrintLast Go.Proofs.YtbkkpllejgedcaaW.PrintMore Go.Proofs.Ytbkkpllejgedcaa.V
attribute [local go_sem] cell_b frozen_b
attribute [local go_sem] max2_int min2_int max_two min_two max_three min_three max_four min_four
set_option linter.unusedVariables false
set_option linter.unusedSimpArgs false
def spec_l38Copy.f (l0_0 : List (S96)) (a0_1 : Int) (l0_2 : List Int) (a0_3 : Int) (a0_4 : Int) (l0_5 : List (S74)) : Option ((List (S96)) × Int × List Int × Int × Int × (List (S74))) := (spec_l36Copy.f l0_0 a0_1 l0_2).bind fun bt734 => ((spec_l34Copy.f l0_5).bind fun t741 => (some (bt734.1, bt734.2.1, bt734.2.2, a0_3, a0_4, t741)))
set_option maxHeartbeats 8000000 in
set_option maxRecDepth 100000 in
set_option synthInstance.maxHeartbeats 400000 in
set_option synthInstance.maxSize 100000 in
theorem spec_l38Copy.calls (A0_0 : Option Addr) (c0_0 : Nat) (l0_0 : List (S96)) (a0_1 : Int) (A0_2 : Option Addr) (c0_2 : Nat) (l0_2 : List Int) (a0_3 : Int) (a0_4 : Int) (A0_5 : Option Addr) (c0_5 : Nat) (l0_5 : List (S74)) (r1 : List (S96)) (r2 : Int) (r3 : List Int) (r4 : Int) (r5 : Int) (r6 : List (S74)) (w : World) (hr0_0 : Kd.C k96 w A0_0 l0_0.length l0_0) (hc0_0 : l0_0.length ≤ c0_0) (hr0_2 : Kd.C (Kd.int .i64) w A0_2 l0_2.length l0_2) (hc0_2 : l0_2.length ≤ c0_2) (hr0_5 : Kd.C k74 w A0_5 l0_5.length l0_5) (hc0_5 : l0_5.length ≤ c0_5) (h : spec_l38Copy.f l0_0 a0_1 l0_2 a0_3 a0_4 l0_5 = some (r1, r2, r3, r4, r5, r6)) :
    Calls Try.prog 83 #[.agg #[.slice A0_0 l0_0.length c0_0, .int .i64 a0_1, .slice A0_2 l0_2.length c0_2, .int .i64 a0_3, .int .i64 a0_4, .slice A0_5 l0_5.length c0_5]] w fun e w' => ∃ v0_ v2_ v5_ : Value, e = .returned (.agg #[v0_, .int .i64 r2, v2_, .int .i64 r4, .int .i64 r5, v5_]) ∧ Kd.R k96 96 w' w.heap.size (fun _ => True) v0_ r1 ∧ Kd.R (Kd.int .i64) 3 w' w.heap.size (fun _ => True) v2_ r3 ∧ Kd.R k74 74 w' w.heap.size (fun _ => True) v5_ r6 ∧ Below w.heap.size w w' := by
  have ihr0_0 := RdE.mk hr0_0
  have ihc0_0 := LeI.mk hc0_0
  have ihr0_2 := RdE.mk hr0_2
  have ihc0_2 := LeI.mk hc0_2
  have ihr0_5 := RdE.mk hr0_5
  have ihc0_5 := LeI.mk hc0_5
  clear hr0_0 hc0_0 hr0_2 hc0_2 hr0_5 hc0_5
  unfold spec_l38Copy.f at h
  have hu36 := Try.underlying36
  (repeat' first | ((with_reducible replace h := ite_some h); rcases h with ⟨hc, h⟩ | ⟨hc, h⟩ <;> first | exact (none_some h).elim | exact absurd hc (by decide) | subst hc | (replace hc := Bool.eq_false_iff.mpr hc; subst hc) | (have hd := beq_iff_eq.mpr hc; have he := bne_eq_false_iff_eq.mpr hc; clear hc) | (have hd := beq_eq_false_iff_ne.mpr hc; have he := bne_iff_ne.mpr hc) | (have hd := decide_eq_false hc) | (have hd := decide_eq_true hc) | skip))
  all_goals go_enter Try.func83, Try.ntmps83
  all_goals go_wp2_with (first
    | ((with_reducible refine gate_dst (N := 1) rfl ?_); refine box_event rfl (N := 1) rfl (cs := #[.slice A0_0 l0_0.length c0_0, .int .i64 a0_1, .slice A0_2 l0_2.length c0_2, .int .i64 a0_3, .int .i64 a0_4, .slice A0_5 l0_5.length c0_5]) (t := 36) (by first | (go_simp; done) | (go_simp; rfl)) ?_; intro g hg w1 hk hb; have j1 := Born.mk hg; have j2 := Bel.mk hb; have j3 := Blk.mk hk; clear hg hb hk)
    | ((with_reducible refine gate_dst (N := 2) rfl ?_); refine box_event rfl (N := 2) rfl (cs := #[.slice none 0 0, .int .i64 0, .slice none 0 0, .int .i64 0, .int .i64 0, .slice none 0 0]) (t := 36) (by first | (go_simp; done) | (go_simp; rfl)) ?_; intro g hg w1 hk hb; have j1 := Born.mk hg; have j2 := Bel.mk hb; have j3 := Blk.mk hk; clear hg hb hk)
    | (go_at_call 118; replace h := Option.bind_eq_some_iff.mp h; obtain ⟨⟨t1, t2, t3⟩, A, h⟩ := h; (try dsimp only at h); refine (spec_l36Copy.calls _ _ _ _ _ _ _ _ _ _ _ Rd.out LeI.out Rd.out LeI.out A).mono ?_; rintro e w2 ⟨v0, v1, rfl, ho0, ho1, hb⟩; obtain ⟨B0, b0, rfl⟩ := Kd.R_slice ho0; have j0 := RowE.mk ho0; have q0 := LeI.mk (rowLe j0); obtain ⟨B1, b1, rfl⟩ := Kd.R_slice ho1; have j1 := RowE.mk ho1; have q1 := LeI.mk (rowLe j1); have jb := Bel.mk hb; clear A ho0 ho1 hb; (repeat' first | ((with_reducible replace h := ite_some h); rcases h with ⟨hc, h⟩ | ⟨hc, h⟩ <;> first | exact (none_some h).elim | exact absurd hc (by decide) | subst hc | (replace hc := Bool.eq_false_iff.mpr hc; subst hc) | (have hd := beq_iff_eq.mpr hc; have he := bne_eq_false_iff_eq.mpr hc; clear hc) | (have hd := beq_eq_false_iff_ne.mpr hc; have he := bne_iff_ne.mpr hc) | (have hd := decide_eq_false hc) | (have hd := decide_eq_true hc) | skip)))
    | (go_at_call 93; replace h := Option.bind_eq_some_iff.mp h; obtain ⟨t, A, h⟩ := h; (try dsimp only at h); refine (spec_l34Copy.calls _ _ _ _ _ Rd.out LeI.out A).mono ?_; rintro e w2 ⟨v0, rfl, ho0, hb⟩; obtain ⟨B0, b0, rfl⟩ := Kd.R_slice ho0; have j0 := RowE.mk ho0; have q0 := LeI.mk (rowLe j0); have jb := Bel.mk hb; clear A ho0 hb; (repeat' first | ((with_reducible replace h := ite_some h); rcases h with ⟨hc, h⟩ | ⟨hc, h⟩ <;> first | exact (none_some h).elim | exact absurd hc (by decide) | subst hc | (replace hc := Bool.eq_false_iff.mpr hc; subst hc) | (have hd := beq_iff_eq.mpr hc; have he := bne_eq_false_iff_eq.mpr hc; clear hc) | (have hd := beq_eq_false_iff_ne.mpr hc; have he := bne_iff_ne.mpr hc) | (have hd := decide_eq_false hc) | (have hd := decide_eq_true hc) | skip)); (try have hn : decide (0 < t.length) = true := decide_eq_true (by omega)); (try have hn : decide (0 < t.length) = false := decide_eq_false (by omega)))
    | ((with_reducible refine region_at ?_); intro w3 jw; refine region_st 2 (by rfl) ?_; intro g hg w4 jv; subst hg; go_region_held3 (fun w' => SinB g w4 w') (first | exact ⟨FromB.out⟩ | skip) (first | (go_at_call 118; replace h := Option.bind_eq_some_iff.mp h; obtain ⟨⟨t1, t2, t3⟩, A, h⟩ := h; (try dsimp only at h); refine (spec_l36Copy.calls _ _ _ _ _ _ _ _ _ _ _ Rd.out LeI.out Rd.out LeI.out A).mono ?_; rintro e w2 ⟨v0, v1, rfl, ho0, ho1, hb⟩; obtain ⟨B0, b0, rfl⟩ := Kd.R_slice ho0; have j0 := RowE.mk ho0; have q0 := LeI.mk (rowLe j0); obtain ⟨B1, b1, rfl⟩ := Kd.R_slice ho1; have j1 := RowE.mk ho1; have q1 := LeI.mk (rowLe j1); have jb := Bel.mk hb; clear A ho0 ho1 hb; (repeat' first | ((with_reducible replace h := ite_some h); rcases h with ⟨hc, h⟩ | ⟨hc, h⟩ <;> first | exact (none_some h).elim | exact absurd hc (by decide) | subst hc | (replace hc := Bool.eq_false_iff.mpr hc; subst hc) | (have hd := beq_iff_eq.mpr hc; have he := bne_eq_false_iff_eq.mpr hc; clear hc) | (have hd := beq_eq_false_iff_ne.mpr hc; have he := bne_iff_ne.mpr hc) | (have hd := decide_eq_false hc) | (have hd := decide_eq_true hc) | skip))) | (go_at_call 93; replace h := Option.bind_eq_some_iff.mp h; obtain ⟨t, A, h⟩ := h; (try dsimp only at h); refine (spec_l34Copy.calls _ _ _ _ _ Rd.out LeI.out A).mono ?_; rintro e w2 ⟨v0, rfl, ho0, hb⟩; obtain ⟨B0, b0, rfl⟩ := Kd.R_slice ho0; have j0 := RowE.mk ho0; have q0 := LeI.mk (rowLe j0); have jb := Bel.mk hb; clear A ho0 hb; (repeat' first | ((with_reducible replace h := ite_some h); rcases h with ⟨hc, h⟩ | ⟨hc, h⟩ <;> first | exact (none_some h).elim | exact absurd hc (by decide) | subst hc | (replace hc := Bool.eq_false_iff.mpr hc; subst hc) | (have hd := beq_iff_eq.mpr hc; have he := bne_eq_false_iff_eq.mpr hc; clear hc) | (have hd := beq_eq_false_iff_ne.mpr hc; have he := bne_iff_ne.mpr hc) | (have hd := decide_eq_false hc) | (have hd := decide_eq_true hc) | skip)); (try have hn : decide (0 < t.length) = true := decide_eq_true (by omega)); (try have hn : decide (0 < t.length) = false := decide_eq_false (by omega)))))
    | ((with_reducible refine region_at ?_); intro w3 jw; go_region_held3 (fun w' => Sin w3 w') (first | exact ⟨From.out⟩ | skip) (first | (go_at_call 118; replace h := Option.bind_eq_some_iff.mp h; obtain ⟨⟨t1, t2, t3⟩, A, h⟩ := h; (try dsimp only at h); refine (spec_l36Copy.calls _ _ _ _ _ _ _ _ _ _ _ Rd.out LeI.out Rd.out LeI.out A).mono ?_; rintro e w2 ⟨v0, v1, rfl, ho0, ho1, hb⟩; obtain ⟨B0, b0, rfl⟩ := Kd.R_slice ho0; have j0 := RowE.mk ho0; have q0 := LeI.mk (rowLe j0); obtain ⟨B1, b1, rfl⟩ := Kd.R_slice ho1; have j1 := RowE.mk ho1; have q1 := LeI.mk (rowLe j1); have jb := Bel.mk hb; clear A ho0 ho1 hb; (repeat' first | ((with_reducible replace h := ite_some h); rcases h with ⟨hc, h⟩ | ⟨hc, h⟩ <;> first | exact (none_some h).elim | exact absurd hc (by decide) | subst hc | (replace hc := Bool.eq_false_iff.mpr hc; subst hc) | (have hd := beq_iff_eq.mpr hc; have he := bne_eq_false_iff_eq.mpr hc; clear hc) | (have hd := beq_eq_false_iff_ne.mpr hc; have he := bne_iff_ne.mpr hc) | (have hd := decide_eq_false hc) | (have hd := decide_eq_true hc) | skip))) | (go_at_call 93; replace h := Option.bind_eq_some_iff.mp h; obtain ⟨t, A, h⟩ := h; (try dsimp only at h); refine (spec_l34Copy.calls _ _ _ _ _ Rd.out LeI.out A).mono ?_; rintro e w2 ⟨v0, rfl, ho0, hb⟩; obtain ⟨B0, b0, rfl⟩ := Kd.R_slice ho0; have j0 := RowE.mk ho0; have q0 := LeI.mk (rowLe j0); have jb := Bel.mk hb; clear A ho0 hb; (repeat' first | ((with_reducible replace h := ite_some h); rcases h with ⟨hc, h⟩ | ⟨hc, h⟩ <;> first | exact (none_some h).elim | exact absurd hc (by decide) | subst hc | (replace hc := Bool.eq_false_iff.mpr hc; subst hc) | (have hd := beq_iff_eq.mpr hc; have he := bne_eq_false_iff_eq.mpr hc; clear hc) | (have hd := beq_eq_false_iff_ne.mpr hc; have he := bne_iff_ne.mpr hc) | (have hd := decide_eq_false hc) | (have hd := decide_eq_true hc) | skip)); (try have hn : decide (0 < t.length) = true := decide_eq_true (by omega)); (try have hn : decide (0 < t.length) = false := decide_eq_false (by omega))))))
  all_goals (repeat' first | ((with_reducible replace h := ite_some h); rcases h with ⟨hc, h⟩ | ⟨hc, h⟩ <;> first | exact (none_some h).elim | exact absurd hc (by decide) | subst hc | (replace hc := Bool.eq_false_iff.mpr hc; subst hc) | (have hd := beq_iff_eq.mpr hc; have he := bne_eq_false_iff_eq.mpr hc; clear hc) | (have hd := beq_eq_false_iff_ne.mpr hc; have he := bne_iff_ne.mpr hc) | (have hd := decide_eq_false hc) | (have hd := decide_eq_true hc) | skip))
  all_goals simp only [Option.some.injEq, Prod.mk.injEq] at h
  all_goals obtain ⟨rfl, rfl, rfl, rfl, rfl, rfl⟩ := h
  all_goals refine bodyPost_ret (results_cell_row rfl _ _ _ _ _ (0, 0) _ rfl Blk.out Try.underlying36 rfl (by kernel_rfl)) rfl ?_
  all_goals exact ⟨_, _, _, rfl, (by first | exact rowFin | exact Kd.R_nil _ _ _ _ _), (by first | exact rowFin | exact Kd.R_nil _ _ _ _ _), (by first | exact rowFin | exact Kd.R_nil _ _ _ _ _), From.out⟩
end Go.Proofs.Ytbkkpllejgedcaa.P


namespace Go.Proofs.Ytbkkpllejgedcaa.P
open Go.RowKit Go.Proofs.YtbkkpllejgedcaaW.PrintWords Go.Proofs.YtbkkpllejgedcaaW.PrintLast Go.Proofs.YtbkkpllejgedcaaW.PrintMore
attribute [local go_sem] max2_int min2_int max_two min_two max_three min_three max_four min_four
set_option linter.unusedVariables false
set_option linter.unusedSimpArgs false
def spec_AddEntry.f (k : Nat) (l0 : List (S74)) (a1_0 : Int) (a1_1 : Int) (a1_2 : Int) (a1_3 : Int) : Option ((List (S74)) × Bool) := (spec_l34Copy.f l0).bind fun t975 => ((some (([(⟨(⟨a1_0, a1_1⟩ : S56), a1_2, a1_3⟩ : S74)] : List (S74)) : List (S74))).bind fun y978 => (if t975.length + y978.length < 4398046511104 then ((some (t975 ++ y978 : List (S74))).bind fun y981 => ((spec_LogOk.f k l0).bind fun t984 => (if t984 = true then ((spec_LogOk.f k y981).bind fun t985 => (if t985 = true then (some (y981, true)) else ((spec_l34Copy.f l0).bind fun t986 => (some (t986, false))))) else ((spec_l34Copy.f l0).bind fun t989 => (some (t989, false)))))) else (none)))
set_option maxHeartbeats 8000000 in
set_option maxRecDepth 100000 in
theorem spec_AddEntry.calls (k : Nat) (A0 : Option Addr) (c0 : Nat) (l0 : List (S74)) (a1_0 : Int) (a1_1 : Int) (a1_2 : Int) (a1_3 : Int) (r1 : List (S74)) (r2 : Bool) (w : World) (hr0 : Kd.C k74 w A0 l0.length l0) (hc0 : l0.length ≤ c0) (h : spec_AddEntry.f k l0 a1_0 a1_1 a1_2 a1_3 = some (r1, r2)) :
    Calls Try.prog 48 #[.slice A0 l0.length c0, .agg #[.int .i64 a1_0, .int .i64 a1_1, .int .i64 a1_2, .int .i64 a1_3]] w fun e w' => ∃ v0_ : Value, e = .returned (.tuple #[v0_, .bool r2]) ∧ Kd.R k74 74 w' w.heap.size (fun _ => True) v0_ r1 ∧ Below w.heap.size w w' := by
  have hu74 := Try.underlying74
  have HR0 := Aside0.mk hr0
  have HC0 := Aside0.mk hc0
  clear hr0 hc0
  have HB := Aside0.mk (Below.refl w.heap.size w)
  have H : ((spec_l34Copy.f l0).bind fun t975 => ((some (([(⟨(⟨a1_0, a1_1⟩ : S56), a1_2, a1_3⟩ : S74)] : List (S74)) : List (S74))).bind fun y978 => (if t975.length + y978.length < 4398046511104 then ((some (t975 ++ y978 : List (S74))).bind fun y981 => ((spec_LogOk.f k l0).bind fun t984 => (if t984 = true then ((spec_LogOk.f k y981).bind fun t985 => (if t985 = true then (some (y981, true)) else ((spec_l34Copy.f l0).bind fun t986 => (some (t986, false))))) else ((spec_l34Copy.f l0).bind fun t989 => (some (t989, false)))))) else (none)))) = some (r1, r2) := h
  clear h
  replace H := Option.bind_eq_some_iff.mp H
  obtain ⟨t975, A30, H⟩ := H
  (try dsimp only at H)
  have A3 := Aside0.mk A30
  clear A30
  obtain ⟨y978, hy978⟩ : ∃ y_ : List (S74), y_ = (([(⟨(⟨a1_0, a1_1⟩ : S56), a1_2, a1_3⟩ : S74)] : List (S74))) := ⟨_, rfl⟩
  replace H : (if t975.length + y978.length < 4398046511104 then ((some (t975 ++ y978 : List (S74))).bind fun y981 => ((spec_LogOk.f k l0).bind fun t984 => (if t984 = true then ((spec_LogOk.f k y981).bind fun t985 => (if t985 = true then (some (y981, true)) else ((spec_l34Copy.f l0).bind fun t986 => (some (t986, false))))) else ((spec_l34Copy.f l0).bind fun t989 => (some (t989, false)))))) else (none)) = some (r1, r2) := by first | (rw [hy978]; with_reducible exact H) | (have H2_ := (Option.bind_some _ _).symm.trans H; rw [hy978]; with_reducible exact H2_) | (have H2_ := (Option.bind_some _ _).symm.trans H; with_reducible exact H2_) | with_reducible exact H | (rw [hy978]; exact H) | exact H
  have Ny978 := Aside0.mk hy978
  clear hy978
  by_cases c4 : t975.length + y978.length < 4398046511104
  · rw [if_pos c4] at H
    have LMc4 := Aside0.mk c4
    clear c4
    obtain ⟨y981, hy981⟩ : ∃ y_ : List (S74), y_ = (t975 ++ y978) := ⟨_, rfl⟩
    replace H : ((spec_LogOk.f k l0).bind fun t984 => (if t984 = true then ((spec_LogOk.f k y981).bind fun t985 => (if t985 = true then (some (y981, true)) else ((spec_l34Copy.f l0).bind fun t986 => (some (t986, false))))) else ((spec_l34Copy.f l0).bind fun t989 => (some (t989, false))))) = some (r1, r2) := by first | (rw [hy981]; with_reducible exact H) | (have H2_ := (Option.bind_some _ _).symm.trans H; rw [hy981]; with_reducible exact H2_) | (have H2_ := (Option.bind_some _ _).symm.trans H; with_reducible exact H2_) | with_reducible exact H | (rw [hy981]; exact H) | exact H
    have Ny981 := Aside0.mk hy981
    clear hy981
    replace H := Option.bind_eq_some_iff.mp H
    obtain ⟨t984, A50, H⟩ := H
    (try dsimp only at H)
    have A5 := Aside0.mk A50
    clear A50
    by_cases c6 : t984 = true
    · subst c6
      rw [if_pos rfl] at H
      replace H := Option.bind_eq_some_iff.mp H
      obtain ⟨t985, A70, H⟩ := H
      (try dsimp only at H)
      have A7 := Aside0.mk A70
      clear A70
      by_cases c8 : t985 = true
      · subst c8
        rw [if_pos rfl] at H
        simp only [Option.some.injEq, Prod.mk.injEq] at H
        obtain ⟨rfl, rfl⟩ := H
        go_enter Try.func48, Try.ntmps48
        try go_wp2_with (first | ((with_reducible refine gate_dst (N := 3) rfl ?_); refine box_event ?hg (N := 3) ?hd (cs := #[.int .i64 a1_0, .int .i64 a1_1, .int .i64 a1_2, .int .i64 a1_3]) (t := 74) ?hr ?_; (case hd => rfl); (case hg => rfl); (case hr => first | (go_simp; done) | (go_simp; rfl)); intro gb974 hg w9 hbox hb; have n0_ := Aside0.mk (below_step (oB HB) hb); have n1_ := Aside0.mk (hbox); have n2_ := Aside0.mk ((by rw [hg]; exact (below_size (oB HB)) : w.heap.size ≤ gb974)); have n3_ := Aside0.mk ((by rw [hg]; exact (below_size (oB HB)) : w.heap.size ≤ gb974)); clear HB; have HB := n0_; have BK974 := n1_; have GW974 := n2_; have GE974 := n3_; clear n0_ n1_ n2_ n3_; clear hb hbox hg))
        have n0_ := Aside0.mk (blk_drew BK974.out)
        have n1_ := Aside0.mk (below_drew1 HB.out)
        clear BK974
        clear HB
        have BK974 := n0_
        have HB := n1_
        clear n0_ n1_
        refine start_ (n := 6) (S := fun w' => w'.cell? ⟨gb974, 0, none⟩ = some (.int .i64 a1_0) ∧ w'.cell? ⟨gb974, 1, none⟩ = some (.int .i64 a1_1) ∧ w'.cell? ⟨gb974, 2, none⟩ = some (.int .i64 a1_2) ∧ w'.cell? ⟨gb974, 3, none⟩ = some (.int .i64 a1_3)) (ds := []) #[false, false, false, false, false, false] (by kernel_rfl) rfl rfl ⟨(blk_cell BK974.out 0).trans rfl, (blk_cell BK974.out 1).trans rfl, (blk_cell BK974.out 2).trans rfl, (blk_cell BK974.out 3).trans rfl⟩ (fun hHeld => ?_)
        generalize w9.drew = w10 at BK974 HB hHeld ⊢
        refine pure_ (i := 0) (N := some 7) (v := ?_) (a' := ?_) #[true, false, false, false, false, false] rfl rfl (by kernel_rfl) (fun _ _ _ h => h) (Or.inl ⟨by rfl, ?_⟩) ?_ ?_
        rotate_left
        · intro w'
          go_simp
          with_reducible rfl
        rotate_left
        · simp only [Act.put, List.setIfInBounds_toArray, List.set_cons_zero, List.set_cons_succ, i64_w, i32_w]
          rfl
        refine take_ (i := 2) (N := some 9) (v := ?_) (a' := ?_) #[true, false, true, false, false, false] rfl rfl (by kernel_rfl) (fun _ _ _ h => h) (Or.inl ⟨by rfl, ?_⟩) hHeld ?_ ?_
        rotate_left
        · rintro w' ⟨s0, s1, s2, s3⟩
          go_simp
          with_reducible rfl
        rotate_left
        · simp only [Act.put, List.setIfInBounds_toArray, List.set_cons_zero, List.set_cons_succ, i64_w, i32_w]
          rfl
        refine join_ (σ := Value × Value) 2 #[true, true, true, true, false, false] (fun s_ => [(8, s_.1), (10, s_.2)]) (fun s_ w' => (w'.cell? ⟨gb974, 0, none⟩ = some (.int .i64 a1_0) ∧ w'.cell? ⟨gb974, 1, none⟩ = some (.int .i64 a1_1) ∧ w'.cell? ⟨gb974, 2, none⟩ = some (.int .i64 a1_2) ∧ w'.cell? ⟨gb974, 3, none⟩ = some (.int .i64 a1_3)) ∧ (Kd.R k74 74 w' w.heap.size (fun k_ => some k_ ≠ (s_.2 : Value).ownBlock ∧ k_ ≠ gb974) s_.1 t975) ∧ (Kd.R k74 74 w' w.heap.size (fun k_ => some k_ ≠ (s_.1 : Value).ownBlock ∧ k_ ≠ gb974) s_.2 y978) ∧ (w'.heap[gb974]? = some (.cells #[.int .i64 a1_0, .int .i64 a1_1, .int .i64 a1_2, .int .i64 a1_3] 74 (0, 0))) ∧ (Below w.heap.size w w')) ?_ ?_
        rotate_left
        · intro hCont
          refine two_ (i := 1) (j := 3) (Ni := some 8) (Nj := some 10) #[true, true, true, false, false, false] #[true, false, true, true, false, false] rfl rfl rfl rfl (by kernel_rfl) (by decide) (by decide) (fun K hK => ?_) (fun K hK => ?_)
          · skip
            refine goes_ Try.func93 (by kernel_rfl) rfl #[.slice A0 l0.length c0] (by rfl) rfl rfl (by (try simp only [List.map_toArray, List.map_cons, List.map_nil]); first | done | rfl | (simp only [List.length_drop, List.length_take]; rfl)) ?_
            with_reducible refine (spec_l34Copy.calls _ _ l0 t975 _ ?side1 ?side2 A3.out).mono ?_
            (case side1 => exact oc_ HR0.out)
            (case side2 => exact HC0.out)
            rintro e w11 ⟨v976, rfl, ho0, hb⟩
            refine ⟨_, rfl, ?_⟩
            have n0_ := Aside0.mk (Kd.R_lower (Kd.R_newB ho0 (g := gb974) (o := .cells #[.int .i64 a1_0, .int .i64 a1_1, .int .i64 a1_2, .int .i64 a1_3] 74 (0, 0)) (oK BK974)) (below_size (oB HB)))
            have n1_ := Aside0.mk (blk_below (g := gb974) (o := .cells #[.int .i64 a1_0, .int .i64 a1_1, .int .i64 a1_2, .int .i64 a1_3] 74 (0, 0)) (oK BK974) hb)
            have n2_ := Aside0.mk (below_step (oB HB) hb)
            clear BK974
            clear HB
            have HO977 := n0_
            have BK974 := n1_
            have HB := n2_
            clear n0_ n1_ n2_
            (try clear hb)
            (try clear hb2)
            (try clear hk)
            (try clear hi)
            (try clear ho0)
            refine hK.out _ _ ⟨(blk_cell BK974.out 0).trans rfl, (blk_cell BK974.out 1).trans rfl, (blk_cell BK974.out 2).trans rfl, (blk_cell BK974.out 3).trans rfl⟩ (fun hHeld => ?_)
            clear hK K
            refine norm_ (a' := ?_) ?_ ?_
            rotate_left
            · show Act.put _ (some 8) _ = _
              simp only [Act.put, List.setIfInBounds_toArray, List.set_cons_zero, List.set_cons_succ, i64_w, i32_w]
              rfl
            refine one_ (i := 3) (N := some 10) #[true, true, true, true, false, false] rfl rfl (by kernel_rfl) (by decide) (fun K hK => ?_)
            refine Kd.R_lit_step k74 _ 74 ?hg (N := 10) ?hd (xs := ([(⟨(⟨a1_0, a1_1⟩ : S56), a1_2, a1_3⟩ : S74)] : List (S74))) (inner := [.int .i64 a1_0, .int .i64 a1_1, .int .i64 a1_2, .int .i64 a1_3]) (ok := fun _ => True) (okp := fun _ => True) ?hr ?hp (fun _ hk => hk) trivial (Below.refl _ _) (Nat.le_refl _) (by simp) ?_; (case hd => rfl); (case hg => rfl); (case hr => first | (go_simp; done) | (go_simp; rfl)); (case hp => exact (Reps.c4 (show Kd.M k74 _ _ _ (⟨(⟨a1_0, a1_1⟩ : S56), a1_2, a1_3⟩ : S74) [.int .i64 a1_0, .int .i64 a1_1, .int .i64 a1_2, .int .i64 a1_3] from (k74_mkM _ _ _ (⟨(⟨a1_0, a1_1⟩ : S56), a1_2, a1_3⟩ : S74) )) (Reps.none _ _)))
            intro v979 w12 ho13 hb hg_ hnew_
            clear hg_ hnew_
            (first | rw [← Ny978.out] at ho13 | (simp only [Int.reduceToNat] at ho13; rw [← Ny978.out] at ho13))
            have n0_ := Aside0.mk (Kd.R_elder' (oR HO977) (Kd.R_base ho13) hb)
            have n1_ := Aside0.mk (Kd.R_lower (Kd.R_newB (Kd.R_new' ho13 (Kd.R_lt (oR HO977))) (g := gb974) (o := .cells #[.int .i64 a1_0, .int .i64 a1_1, .int .i64 a1_2, .int .i64 a1_3] 74 (0, 0)) (oK BK974)) (below_size (oB HB)))
            have n2_ := Aside0.mk (blk_below (g := gb974) (o := .cells #[.int .i64 a1_0, .int .i64 a1_1, .int .i64 a1_2, .int .i64 a1_3] 74 (0, 0)) (oK BK974) hb)
            have n3_ := Aside0.mk (below_step (oB HB) hb)
            clear HO977
            clear BK974
            clear HB
            have HO977 := n0_
            have HO980 := n1_
            have BK974 := n2_
            have HB := n3_
            clear n0_ n1_ n2_ n3_
            clear hb ho13
            refine hK.out _ _ ⟨(blk_cell BK974.out 0).trans rfl, (blk_cell BK974.out 1).trans rfl, (blk_cell BK974.out 2).trans rfl, (blk_cell BK974.out 3).trans rfl⟩ (fun hHeld => ?_)
            clear hK K
            refine norm_ (a' := ?_) ?_ ?_
            rotate_left
            · show Act.put _ (some 10) _ = _
              simp only [Act.put, List.setIfInBounds_toArray, List.set_cons_zero, List.set_cons_succ, i64_w, i32_w]
              rfl
            exact norm_ (by simp only [putAll, Act.put, List.setIfInBounds_toArray, List.set_cons_zero, List.set_cons_succ]) (hCont (v976, v979) _ ⟨hHeld, (by (with_reducible repeat (first | apply Kd.R_alloc | apply Kd.R_drewN | apply Kd.R_drew)); exact Kd.R_mono HO977.out (fun _ hk => ⟨hk.2, hk.1.2⟩)), (by (with_reducible repeat (first | apply Kd.R_alloc | apply Kd.R_drewN | apply Kd.R_drew)); exact Kd.R_mono HO980.out (fun _ hk => ⟨hk.1.2, hk.2⟩)), (oK BK974), (oB HB)⟩)
          · skip
            refine Kd.R_lit_step k74 _ 74 ?hg (N := 10) ?hd (xs := ([(⟨(⟨a1_0, a1_1⟩ : S56), a1_2, a1_3⟩ : S74)] : List (S74))) (inner := [.int .i64 a1_0, .int .i64 a1_1, .int .i64 a1_2, .int .i64 a1_3]) (ok := fun _ => True) (okp := fun _ => True) ?hr ?hp (fun _ hk => hk) trivial (Below.refl _ _) (Nat.le_refl _) (by simp) ?_; (case hd => rfl); (case hg => rfl); (case hr => first | (go_simp; done) | (go_simp; rfl)); (case hp => exact (Reps.c4 (show Kd.M k74 _ _ _ (⟨(⟨a1_0, a1_1⟩ : S56), a1_2, a1_3⟩ : S74) [.int .i64 a1_0, .int .i64 a1_1, .int .i64 a1_2, .int .i64 a1_3] from (k74_mkM _ _ _ (⟨(⟨a1_0, a1_1⟩ : S56), a1_2, a1_3⟩ : S74) )) (Reps.none _ _)))
            intro v979 w11 ho12 hb hg_ hnew_
            clear hg_ hnew_
            (first | rw [← Ny978.out] at ho12 | (simp only [Int.reduceToNat] at ho12; rw [← Ny978.out] at ho12))
            have n0_ := Aside0.mk (Kd.R_lower (Kd.R_newB ho12 (g := gb974) (o := .cells #[.int .i64 a1_0, .int .i64 a1_1, .int .i64 a1_2, .int .i64 a1_3] 74 (0, 0)) (oK BK974)) (below_size (oB HB)))
            have n1_ := Aside0.mk (blk_below (g := gb974) (o := .cells #[.int .i64 a1_0, .int .i64 a1_1, .int .i64 a1_2, .int .i64 a1_3] 74 (0, 0)) (oK BK974) hb)
            have n2_ := Aside0.mk (below_step (oB HB) hb)
            clear BK974
            clear HB
            have HO980 := n0_
            have BK974 := n1_
            have HB := n2_
            clear n0_ n1_ n2_
            clear hb ho12
            refine hK.out _ _ ⟨(blk_cell BK974.out 0).trans rfl, (blk_cell BK974.out 1).trans rfl, (blk_cell BK974.out 2).trans rfl, (blk_cell BK974.out 3).trans rfl⟩ (fun hHeld => ?_)
            clear hK K
            refine norm_ (a' := ?_) ?_ ?_
            rotate_left
            · show Act.put _ (some 10) _ = _
              simp only [Act.put, List.setIfInBounds_toArray, List.set_cons_zero, List.set_cons_succ, i64_w, i32_w]
              rfl
            refine one_ (i := 1) (N := some 8) #[true, true, true, true, false, false] rfl rfl (by kernel_rfl) (by decide) (fun K hK => ?_)
            refine goes_ Try.func93 (by kernel_rfl) rfl #[.slice A0 l0.length c0] (by rfl) rfl rfl (by (try simp only [List.map_toArray, List.map_cons, List.map_nil]); first | done | rfl | (simp only [List.length_drop, List.length_take]; rfl)) ?_
            with_reducible refine (spec_l34Copy.calls _ _ l0 t975 _ ?side1 ?side2 A3.out).mono ?_
            (case side1 => exact oc_ HR0.out)
            (case side2 => exact HC0.out)
            rintro e w13 ⟨v976, rfl, ho0, hb⟩
            refine ⟨_, rfl, ?_⟩
            have n0_ := Aside0.mk (Kd.R_elder' (oR HO980) (Kd.R_base ho0) hb)
            have n1_ := Aside0.mk (Kd.R_lower (Kd.R_newB (Kd.R_new' ho0 (Kd.R_lt (oR HO980))) (g := gb974) (o := .cells #[.int .i64 a1_0, .int .i64 a1_1, .int .i64 a1_2, .int .i64 a1_3] 74 (0, 0)) (oK BK974)) (below_size (oB HB)))
            have n2_ := Aside0.mk (blk_below (g := gb974) (o := .cells #[.int .i64 a1_0, .int .i64 a1_1, .int .i64 a1_2, .int .i64 a1_3] 74 (0, 0)) (oK BK974) hb)
            have n3_ := Aside0.mk (below_step (oB HB) hb)
            clear HO980
            clear BK974
            clear HB
            have HO980 := n0_
            have HO977 := n1_
            have BK974 := n2_
            have HB := n3_
            clear n0_ n1_ n2_ n3_
            (try clear hb)
            (try clear hb2)
            (try clear hk)
            (try clear hi)
            (try clear ho0)
            refine hK.out _ _ ⟨(blk_cell BK974.out 0).trans rfl, (blk_cell BK974.out 1).trans rfl, (blk_cell BK974.out 2).trans rfl, (blk_cell BK974.out 3).trans rfl⟩ (fun hHeld => ?_)
            clear hK K
            refine norm_ (a' := ?_) ?_ ?_
            rotate_left
            · show Act.put _ (some 8) _ = _
              simp only [Act.put, List.setIfInBounds_toArray, List.set_cons_zero, List.set_cons_succ, i64_w, i32_w]
              rfl
            exact norm_ (by simp only [putAll, Act.put, List.setIfInBounds_toArray, List.set_cons_zero, List.set_cons_succ]) (hCont (v976, v979) _ ⟨hHeld, (by (with_reducible repeat (first | apply Kd.R_alloc | apply Kd.R_drewN | apply Kd.R_drew)); exact Kd.R_mono HO977.out (fun _ hk => ⟨hk.1.2, hk.2⟩)), (by (with_reducible repeat (first | apply Kd.R_alloc | apply Kd.R_drewN | apply Kd.R_drew)); exact Kd.R_mono HO980.out (fun _ hk => ⟨hk.2, hk.1.2⟩)), (oK BK974), (oB HB)⟩)
        rintro ⟨v976, v979⟩ w14 ⟨hS_, h0_, h1_, h2_, h3_⟩
        have n0_ : Aside0 (Kd.R k74 74 w14 w.heap.size (fun k_ => some k_ ≠ (v979 : Value).ownBlock ∧ k_ ≠ gb974) v976 t975) := ⟨h0_⟩
        have n1_ : Aside0 (Kd.R k74 74 w14 w.heap.size (fun k_ => some k_ ≠ (v976 : Value).ownBlock ∧ k_ ≠ gb974) v979 y978) := ⟨h1_⟩
        have n2_ : Aside0 (w14.heap[gb974]? = some (.cells #[.int .i64 a1_0, .int .i64 a1_1, .int .i64 a1_2, .int .i64 a1_3] 74 (0, 0))) := ⟨h2_⟩
        have n3_ : Aside0 (Below w.heap.size w w14) := ⟨h3_⟩
        clear BK974
        clear HB
        clear h0_ h1_ h2_ h3_
        have HO977 := n0_
        have HO980 := n1_
        have BK974 := n2_
        have HB := n3_
        clear n0_ n1_ n2_ n3_
        have hHeld : w14.cell? ⟨gb974, 0, none⟩ = some (.int .i64 a1_0) ∧ w14.cell? ⟨gb974, 1, none⟩ = some (.int .i64 a1_1) ∧ w14.cell? ⟨gb974, 2, none⟩ = some (.int .i64 a1_2) ∧ w14.cell? ⟨gb974, 3, none⟩ = some (.int .i64 a1_3) := hS_
        obtain ⟨Ao16, co16, eo16⟩ := Kd.R_slice HO980.out
        (first | subst eo16 | (injection eo16 with f1_ f2_ f3_; have f4_ := f1_.symm; have f5_ := f3_.symm; clear f1_ f2_ f3_; subst f4_; subst f5_))
        refine norm_ (a' := ?_) ?_ ?_
        rotate_left
        · simp only [putAll, Act.put, List.setIfInBounds_toArray, List.set_cons_zero, List.set_cons_succ]
          rfl
        refine one_ (i := 4) (N := some 11) #[true, true, true, true, true, false] rfl rfl (by kernel_rfl) (by decide) (fun K hK => ?_)
        refine Kd.R_append_rows_step k74 (w0 := w) w.heap.size (by rfl) (.tmp 8) (.tmp 10) 34 74 (.agg #[(.int .i64 0), (.int .i64 0), (.int .i64 0), (.int .i64 0)]) 32 rfl Try.underlying34 info74 rfl (by decide) (by omega) v976 t975 y978 _ _ _ (fun k_ => some k_ ≠ (.slice Ao16 y978.length co16 : Value).ownBlock ∧ k_ ≠ gb974) (fun _ => False) rfl rfl ?aO ?aR (fun _ _ h => h) (fun _ h => h.elim) ?aF ?aB ?aS ?aL ?_
        (case aR => repeat (first | exact (Kd.R_reads' HO980.out).2.2 | (with_reducible refine Kd.C_alloc ?_ _) | (with_reducible refine Kd.C_drewN ?_ _) | (with_reducible refine Kd.C_drew ?_)))
        (case aB => exact (oB HB))
        (case aF => exact (fun k_ hk => ⟨Kd.fresh' (Kd.R_lt (oR HO980)) k_ hk, Kd.freshB (g := gb974) (o := .cells #[.int .i64 a1_0, .int .i64 a1_1, .int .i64 a1_2, .int .i64 a1_3] 74 (0, 0)) (oK BK974) k_ hk⟩))
        (case aO => exact (oR HO977))
        (case aS => exact (below_size (oB HB)))
        (case aL => have := LMc4.out; omega)
        intro v982 w15 ho hb hg hat
        rw [← Ny981.out] at ho
        have n0_ := Aside0.mk (blk_grown (g := gb974) (o := .cells #[.int .i64 a1_0, .int .i64 a1_1, .int .i64 a1_2, .int .i64 a1_3] 74 (0, 0)) (oK BK974) hg (Kd.R_away HO977.out (fun _ hk => hk.2)))
        have n1_ := Aside0.mk (Kd.R_after (ok := (fun k_ => k_ ≠ gb974)) (by (with_reducible repeat (first | apply Kd.R_alloc | apply Kd.R_drewN | apply Kd.R_drew)); exact Kd.R_mono HO980.out (fun _ hk => ⟨hk.2, hk.1⟩)) hg hat)
        have n2_ := Aside0.mk (hb)
        have n3_ := Aside0.mk (ho)
        clear BK974
        clear HO980
        clear HB
        clear HO977
        have BK974 := n0_
        have HO980 := n1_
        have HB := n2_
        have HO983 := n3_
        clear n0_ n1_ n2_ n3_
        clear ho hb hg hat
        refine hK.out _ _ ⟨(blk_cell BK974.out 0).trans rfl, (blk_cell BK974.out 1).trans rfl, (blk_cell BK974.out 2).trans rfl, (blk_cell BK974.out 3).trans rfl⟩ (fun hHeld => ?_)
        clear hK K
        refine norm_ (a' := ?_) ?_ ?_
        rotate_left
        · show Act.put _ (some 11) _ = _
          simp only [Act.put, List.setIfInBounds_toArray, List.set_cons_zero, List.set_cons_succ, i64_w, i32_w]
          rfl
        refine pure_ (i := 5) (N := some 6) (v := ?_) (a' := ?_) #[true, true, true, true, true, true] rfl rfl (by kernel_rfl) (fun _ _ _ h => h) (Or.inl ⟨by rfl, ?_⟩) ?_ ?_
        rotate_left
        · intro w'
          go_simp
          with_reducible rfl
        rotate_left
        · simp only [Act.put, List.setIfInBounds_toArray, List.set_cons_zero, List.set_cons_succ, i64_w, i32_w]
          rfl
        refine done_ (by kernel_rfl) ?_
        try go_wp2_with (first | ((with_reducible refine gate_callee (f := 61) rfl ?_); refine goesL_ (some 13) rfl rfl Try.func61 (by kernel_rfl) rfl #[.slice A0 l0.length c0] rfl (by (try simp only [List.map_toArray, List.map_cons, List.map_nil]); first | done | rfl | (simp only [List.length_drop, List.length_take]; rfl)) ?_; (with_reducible refine (spec_LogOk.calls k _ _ l0 true _ ?side1 ?side2 A5.out).mono ?_); (case side1 => exact oc_ HR0.out); (case side2 => exact HC0.out); rintro e w17 ⟨rfl, hb⟩; refine ⟨_, rfl, ?_⟩; have n0_ := Aside0.mk (Kd.R_below (oR HO980) hb); have n1_ := Aside0.mk (Kd.R_below (oR HO983) hb); have n2_ := Aside0.mk (blk_below (g := gb974) (o := .cells #[.int .i64 a1_0, .int .i64 a1_1, .int .i64 a1_2, .int .i64 a1_3] 74 (0, 0)) (oK BK974) hb); have n3_ := Aside0.mk (below_step (oB HB) hb); clear HO980; clear HO983; clear BK974; clear HB; have HO980 := n0_; have HO983 := n1_; have BK974 := n2_; have HB := n3_; clear n0_ n1_ n2_ n3_; (try clear hb); (try clear hb2); (try clear hk); (try clear hi); obtain ⟨Ao18, co18, eo18⟩ := Kd.R_slice HO983.out; subst eo18) | (go_at_call 61; (with_reducible refine (spec_LogOk.calls k _ _ y981 true _ ?side1 ?side2 A7.out).mono ?_); (case side1 => repeat (first | exact (Kd.R_reads' HO983.out).2.2 | (with_reducible refine Kd.C_alloc ?_ _) | (with_reducible refine Kd.C_drewN ?_ _) | (with_reducible refine Kd.C_drew ?_))); (case side2 => exact (Kd.R_reads' HO983.out).2.1); rintro e w19 ⟨rfl, hb⟩; have n0_ := Aside0.mk (Kd.R_below (oR HO980) hb); have n1_ := Aside0.mk (Kd.R_below (oR HO983) hb); have n2_ := Aside0.mk (blk_below (g := gb974) (o := .cells #[.int .i64 a1_0, .int .i64 a1_1, .int .i64 a1_2, .int .i64 a1_3] 74 (0, 0)) (oK BK974) hb); have n3_ := Aside0.mk (below_step (oB HB) hb); clear HO980; clear HO983; clear BK974; clear HB; have HO980 := n0_; have HO983 := n1_; have BK974 := n2_; have HB := n3_; clear n0_ n1_ n2_ n3_; (try clear hb); (try clear hb2); (try clear hk); (try clear hi)))
        go_ret2
        exact ⟨_, by first | rfl | (simp [errW_none, errW_some] <;> rfl) | (simp [*, errW_none, errW_some] <;> rfl), by (with_reducible repeat (first | apply Kd.R_alloc | apply Kd.R_drewN | apply Kd.R_drew)); exact Kd.R_mono HO983.out (fun _ hk => trivial), oB HB⟩
      · replace c8 := Bool.eq_false_iff.mpr c8
        subst c8
        rw [if_neg (show ¬ (false = true) by decide)] at H
        replace H := Option.bind_eq_some_iff.mp H
        obtain ⟨t986, A200, H⟩ := H
        (try dsimp only at H)
        have A20 := Aside0.mk A200
        clear A200
        simp only [Option.some.injEq, Prod.mk.injEq] at H
        obtain ⟨rfl, rfl⟩ := H
        go_enter Try.func48, Try.ntmps48
        try go_wp2_with (first | ((with_reducible refine gate_dst (N := 3) rfl ?_); refine box_event ?hg (N := 3) ?hd (cs := #[.int .i64 a1_0, .int .i64 a1_1, .int .i64 a1_2, .int .i64 a1_3]) (t := 74) ?hr ?_; (case hd => rfl); (case hg => rfl); (case hr => first | (go_simp; done) | (go_simp; rfl)); intro gb974 hg w21 hbox hb; have n0_ := Aside0.mk (below_step (oB HB) hb); have n1_ := Aside0.mk (hbox); have n2_ := Aside0.mk ((by rw [hg]; exact (below_size (oB HB)) : w.heap.size ≤ gb974)); have n3_ := Aside0.mk ((by rw [hg]; exact (below_size (oB HB)) : w.heap.size ≤ gb974)); clear HB; have HB := n0_; have BK974 := n1_; have GW974 := n2_; have GE974 := n3_; clear n0_ n1_ n2_ n3_; clear hb hbox hg))
        have n0_ := Aside0.mk (blk_drew BK974.out)
        have n1_ := Aside0.mk (below_drew1 HB.out)
        clear BK974
        clear HB
        have BK974 := n0_
        have HB := n1_
        clear n0_ n1_
        refine start_ (n := 6) (S := fun w' => w'.cell? ⟨gb974, 0, none⟩ = some (.int .i64 a1_0) ∧ w'.cell? ⟨gb974, 1, none⟩ = some (.int .i64 a1_1) ∧ w'.cell? ⟨gb974, 2, none⟩ = some (.int .i64 a1_2) ∧ w'.cell? ⟨gb974, 3, none⟩ = some (.int .i64 a1_3)) (ds := []) #[false, false, false, false, false, false] (by kernel_rfl) rfl rfl ⟨(blk_cell BK974.out 0).trans rfl, (blk_cell BK974.out 1).trans rfl, (blk_cell BK974.out 2).trans rfl, (blk_cell BK974.out 3).trans rfl⟩ (fun hHeld => ?_)
        generalize w21.drew = w22 at BK974 HB hHeld ⊢
        refine pure_ (i := 0) (N := some 7) (v := ?_) (a' := ?_) #[true, false, false, false, false, false] rfl rfl (by kernel_rfl) (fun _ _ _ h => h) (Or.inl ⟨by rfl, ?_⟩) ?_ ?_
        rotate_left
        · intro w'
          go_simp
          with_reducible rfl
        rotate_left
        · simp only [Act.put, List.setIfInBounds_toArray, List.set_cons_zero, List.set_cons_succ, i64_w, i32_w]
          rfl
        refine take_ (i := 2) (N := some 9) (v := ?_) (a' := ?_) #[true, false, true, false, false, false] rfl rfl (by kernel_rfl) (fun _ _ _ h => h) (Or.inl ⟨by rfl, ?_⟩) hHeld ?_ ?_
        rotate_left
        · rintro w' ⟨s0, s1, s2, s3⟩
          go_simp
          with_reducible rfl
        rotate_left
        · simp only [Act.put, List.setIfInBounds_toArray, List.set_cons_zero, List.set_cons_succ, i64_w, i32_w]
          rfl
        refine join_ (σ := Value × Value) 2 #[true, true, true, true, false, false] (fun s_ => [(8, s_.1), (10, s_.2)]) (fun s_ w' => (w'.cell? ⟨gb974, 0, none⟩ = some (.int .i64 a1_0) ∧ w'.cell? ⟨gb974, 1, none⟩ = some (.int .i64 a1_1) ∧ w'.cell? ⟨gb974, 2, none⟩ = some (.int .i64 a1_2) ∧ w'.cell? ⟨gb974, 3, none⟩ = some (.int .i64 a1_3)) ∧ (Kd.R k74 74 w' w.heap.size (fun k_ => some k_ ≠ (s_.2 : Value).ownBlock ∧ k_ ≠ gb974) s_.1 t975) ∧ (Kd.R k74 74 w' w.heap.size (fun k_ => some k_ ≠ (s_.1 : Value).ownBlock ∧ k_ ≠ gb974) s_.2 y978) ∧ (w'.heap[gb974]? = some (.cells #[.int .i64 a1_0, .int .i64 a1_1, .int .i64 a1_2, .int .i64 a1_3] 74 (0, 0))) ∧ (Below w.heap.size w w')) ?_ ?_
        rotate_left
        · intro hCont
          refine two_ (i := 1) (j := 3) (Ni := some 8) (Nj := some 10) #[true, true, true, false, false, false] #[true, false, true, true, false, false] rfl rfl rfl rfl (by kernel_rfl) (by decide) (by decide) (fun K hK => ?_) (fun K hK => ?_)
          · skip
            refine goes_ Try.func93 (by kernel_rfl) rfl #[.slice A0 l0.length c0] (by rfl) rfl rfl (by (try simp only [List.map_toArray, List.map_cons, List.map_nil]); first | done | rfl | (simp only [List.length_drop, List.length_take]; rfl)) ?_
            with_reducible refine (spec_l34Copy.calls _ _ l0 t975 _ ?side1 ?side2 A3.out).mono ?_
            (case side1 => exact oc_ HR0.out)
            (case side2 => exact HC0.out)
            rintro e w23 ⟨v976, rfl, ho0, hb⟩
            refine ⟨_, rfl, ?_⟩
            have n0_ := Aside0.mk (Kd.R_lower (Kd.R_newB ho0 (g := gb974) (o := .cells #[.int .i64 a1_0, .int .i64 a1_1, .int .i64 a1_2, .int .i64 a1_3] 74 (0, 0)) (oK BK974)) (below_size (oB HB)))
            have n1_ := Aside0.mk (blk_below (g := gb974) (o := .cells #[.int .i64 a1_0, .int .i64 a1_1, .int .i64 a1_2, .int .i64 a1_3] 74 (0, 0)) (oK BK974) hb)
            have n2_ := Aside0.mk (below_step (oB HB) hb)
            clear BK974
            clear HB
            have HO977 := n0_
            have BK974 := n1_
            have HB := n2_
            clear n0_ n1_ n2_
            (try clear hb)
            (try clear hb2)
            (try clear hk)
            (try clear hi)
            (try clear ho0)
            refine hK.out _ _ ⟨(blk_cell BK974.out 0).trans rfl, (blk_cell BK974.out 1).trans rfl, (blk_cell BK974.out 2).trans rfl, (blk_cell BK974.out 3).trans rfl⟩ (fun hHeld => ?_)
            clear hK K
            refine norm_ (a' := ?_) ?_ ?_
            rotate_left
            · show Act.put _ (some 8) _ = _
              simp only [Act.put, List.setIfInBounds_toArray, List.set_cons_zero, List.set_cons_succ, i64_w, i32_w]
              rfl
            refine one_ (i := 3) (N := some 10) #[true, true, true, true, false, false] rfl rfl (by kernel_rfl) (by decide) (fun K hK => ?_)
            refine Kd.R_lit_step k74 _ 74 ?hg (N := 10) ?hd (xs := ([(⟨(⟨a1_0, a1_1⟩ : S56), a1_2, a1_3⟩ : S74)] : List (S74))) (inner := [.int .i64 a1_0, .int .i64 a1_1, .int .i64 a1_2, .int .i64 a1_3]) (ok := fun _ => True) (okp := fun _ => True) ?hr ?hp (fun _ hk => hk) trivial (Below.refl _ _) (Nat.le_refl _) (by simp) ?_; (case hd => rfl); (case hg => rfl); (case hr => first | (go_simp; done) | (go_simp; rfl)); (case hp => exact (Reps.c4 (show Kd.M k74 _ _ _ (⟨(⟨a1_0, a1_1⟩ : S56), a1_2, a1_3⟩ : S74) [.int .i64 a1_0, .int .i64 a1_1, .int .i64 a1_2, .int .i64 a1_3] from (k74_mkM _ _ _ (⟨(⟨a1_0, a1_1⟩ : S56), a1_2, a1_3⟩ : S74) )) (Reps.none _ _)))
            intro v979 w24 ho25 hb hg_ hnew_
            clear hg_ hnew_
            (first | rw [← Ny978.out] at ho25 | (simp only [Int.reduceToNat] at ho25; rw [← Ny978.out] at ho25))
            have n0_ := Aside0.mk (Kd.R_elder' (oR HO977) (Kd.R_base ho25) hb)
            have n1_ := Aside0.mk (Kd.R_lower (Kd.R_newB (Kd.R_new' ho25 (Kd.R_lt (oR HO977))) (g := gb974) (o := .cells #[.int .i64 a1_0, .int .i64 a1_1, .int .i64 a1_2, .int .i64 a1_3] 74 (0, 0)) (oK BK974)) (below_size (oB HB)))
            have n2_ := Aside0.mk (blk_below (g := gb974) (o := .cells #[.int .i64 a1_0, .int .i64 a1_1, .int .i64 a1_2, .int .i64 a1_3] 74 (0, 0)) (oK BK974) hb)
            have n3_ := Aside0.mk (below_step (oB HB) hb)
            clear HO977
            clear BK974
            clear HB
            have HO977 := n0_
            have HO980 := n1_
            have BK974 := n2_
            have HB := n3_
            clear n0_ n1_ n2_ n3_
            clear hb ho25
            refine hK.out _ _ ⟨(blk_cell BK974.out 0).trans rfl, (blk_cell BK974.out 1).trans rfl, (blk_cell BK974.out 2).trans rfl, (blk_cell BK974.out 3).trans rfl⟩ (fun hHeld => ?_)
            clear hK K
            refine norm_ (a' := ?_) ?_ ?_
            rotate_left
            · show Act.put _ (some 10) _ = _
              simp only [Act.put, List.setIfInBounds_toArray, List.set_cons_zero, List.set_cons_succ, i64_w, i32_w]
              rfl
            exact norm_ (by simp only [putAll, Act.put, List.setIfInBounds_toArray, List.set_cons_zero, List.set_cons_succ]) (hCont (v976, v979) _ ⟨hHeld, (by (with_reducible repeat (first | apply Kd.R_alloc | apply Kd.R_drewN | apply Kd.R_drew)); exact Kd.R_mono HO977.out (fun _ hk => ⟨hk.2, hk.1.2⟩)), (by (with_reducible repeat (first | apply Kd.R_alloc | apply Kd.R_drewN | apply Kd.R_drew)); exact Kd.R_mono HO980.out (fun _ hk => ⟨hk.1.2, hk.2⟩)), (oK BK974), (oB HB)⟩)
          · skip
            refine Kd.R_lit_step k74 _ 74 ?hg (N := 10) ?hd (xs := ([(⟨(⟨a1_0, a1_1⟩ : S56), a1_2, a1_3⟩ : S74)] : List (S74))) (inner := [.int .i64 a1_0, .int .i64 a1_1, .int .i64 a1_2, .int .i64 a1_3]) (ok := fun _ => True) (okp := fun _ => True) ?hr ?hp (fun _ hk => hk) trivial (Below.refl _ _) (Nat.le_refl _) (by simp) ?_; (case hd => rfl); (case hg => rfl); (case hr => first | (go_simp; done) | (go_simp; rfl)); (case hp => exact (Reps.c4 (show Kd.M k74 _ _ _ (⟨(⟨a1_0, a1_1⟩ : S56), a1_2, a1_3⟩ : S74) [.int .i64 a1_0, .int .i64 a1_1, .int .i64 a1_2, .int .i64 a1_3] from (k74_mkM _ _ _ (⟨(⟨a1_0, a1_1⟩ : S56), a1_2, a1_3⟩ : S74) )) (Reps.none _ _)))
            intro v979 w23 ho24 hb hg_ hnew_
            clear hg_ hnew_
            (first | rw [← Ny978.out] at ho24 | (simp only [Int.reduceToNat] at ho24; rw [← Ny978.out] at ho24))
            have n0_ := Aside0.mk (Kd.R_lower (Kd.R_newB ho24 (g := gb974) (o := .cells #[.int .i64 a1_0, .int .i64 a1_1, .int .i64 a1_2, .int .i64 a1_3] 74 (0, 0)) (oK BK974)) (below_size (oB HB)))
            have n1_ := Aside0.mk (blk_below (g := gb974) (o := .cells #[.int .i64 a1_0, .int .i64 a1_1, .int .i64 a1_2, .int .i64 a1_3] 74 (0, 0)) (oK BK974) hb)
            have n2_ := Aside0.mk (below_step (oB HB) hb)
            clear BK974
            clear HB
            have HO980 := n0_
            have BK974 := n1_
            have HB := n2_
            clear n0_ n1_ n2_
            clear hb ho24
            refine hK.out _ _ ⟨(blk_cell BK974.out 0).trans rfl, (blk_cell BK974.out 1).trans rfl, (blk_cell BK974.out 2).trans rfl, (blk_cell BK974.out 3).trans rfl⟩ (fun hHeld => ?_)
            clear hK K
            refine norm_ (a' := ?_) ?_ ?_
            rotate_left
            · show Act.put _ (some 10) _ = _
              simp only [Act.put, List.setIfInBounds_toArray, List.set_cons_zero, List.set_cons_succ, i64_w, i32_w]
              rfl
            refine one_ (i := 1) (N := some 8) #[true, true, true, true, false, false] rfl rfl (by kernel_rfl) (by decide) (fun K hK => ?_)
            refine goes_ Try.func93 (by kernel_rfl) rfl #[.slice A0 l0.length c0] (by rfl) rfl rfl (by (try simp only [List.map_toArray, List.map_cons, List.map_nil]); first | done | rfl | (simp only [List.length_drop, List.length_take]; rfl)) ?_
            with_reducible refine (spec_l34Copy.calls _ _ l0 t975 _ ?side1 ?side2 A3.out).mono ?_
            (case side1 => exact oc_ HR0.out)
            (case side2 => exact HC0.out)
            rintro e w25 ⟨v976, rfl, ho0, hb⟩
            refine ⟨_, rfl, ?_⟩
            have n0_ := Aside0.mk (Kd.R_elder' (oR HO980) (Kd.R_base ho0) hb)
            have n1_ := Aside0.mk (Kd.R_lower (Kd.R_newB (Kd.R_new' ho0 (Kd.R_lt (oR HO980))) (g := gb974) (o := .cells #[.int .i64 a1_0, .int .i64 a1_1, .int .i64 a1_2, .int .i64 a1_3] 74 (0, 0)) (oK BK974)) (below_size (oB HB)))
            have n2_ := Aside0.mk (blk_below (g := gb974) (o := .cells #[.int .i64 a1_0, .int .i64 a1_1, .int .i64 a1_2, .int .i64 a1_3] 74 (0, 0)) (oK BK974) hb)
            have n3_ := Aside0.mk (below_step (oB HB) hb)
            clear HO980
            clear BK974
            clear HB
            have HO980 := n0_
            have HO977 := n1_
            have BK974 := n2_
            have HB := n3_
            clear n0_ n1_ n2_ n3_
            (try clear hb)
            (try clear hb2)
            (try clear hk)
            (try clear hi)
            (try clear ho0)
            refine hK.out _ _ ⟨(blk_cell BK974.out 0).trans rfl, (blk_cell BK974.out 1).trans rfl, (blk_cell BK974.out 2).trans rfl, (blk_cell BK974.out 3).trans rfl⟩ (fun hHeld => ?_)
            clear hK K
            refine norm_ (a' := ?_) ?_ ?_
            rotate_left
            · show Act.put _ (some 8) _ = _
              simp only [Act.put, List.setIfInBounds_toArray, List.set_cons_zero, List.set_cons_succ, i64_w, i32_w]
              rfl
            exact norm_ (by simp only [putAll, Act.put, List.setIfInBounds_toArray, List.set_cons_zero, List.set_cons_succ]) (hCont (v976, v979) _ ⟨hHeld, (by (with_reducible repeat (first | apply Kd.R_alloc | apply Kd.R_drewN | apply Kd.R_drew)); exact Kd.R_mono HO977.out (fun _ hk => ⟨hk.1.2, hk.2⟩)), (by (with_reducible repeat (first | apply Kd.R_alloc | apply Kd.R_drewN | apply Kd.R_drew)); exact Kd.R_mono HO980.out (fun _ hk => ⟨hk.2, hk.1.2⟩)), (oK BK974), (oB HB)⟩)
        rintro ⟨v976, v979⟩ w26 ⟨hS_, h0_, h1_, h2_, h3_⟩
        have n0_ : Aside0 (Kd.R k74 74 w26 w.heap.size (fun k_ => some k_ ≠ (v979 : Value).ownBlock ∧ k_ ≠ gb974) v976 t975) := ⟨h0_⟩
        have n1_ : Aside0 (Kd.R k74 74 w26 w.heap.size (fun k_ => some k_ ≠ (v976 : Value).ownBlock ∧ k_ ≠ gb974) v979 y978) := ⟨h1_⟩
        have n2_ : Aside0 (w26.heap[gb974]? = some (.cells #[.int .i64 a1_0, .int .i64 a1_1, .int .i64 a1_2, .int .i64 a1_3] 74 (0, 0))) := ⟨h2_⟩
        have n3_ : Aside0 (Below w.heap.size w w26) := ⟨h3_⟩
        clear BK974
        clear HB
        clear h0_ h1_ h2_ h3_
        have HO977 := n0_
        have HO980 := n1_
        have BK974 := n2_
        have HB := n3_
        clear n0_ n1_ n2_ n3_
        have hHeld : w26.cell? ⟨gb974, 0, none⟩ = some (.int .i64 a1_0) ∧ w26.cell? ⟨gb974, 1, none⟩ = some (.int .i64 a1_1) ∧ w26.cell? ⟨gb974, 2, none⟩ = some (.int .i64 a1_2) ∧ w26.cell? ⟨gb974, 3, none⟩ = some (.int .i64 a1_3) := hS_
        obtain ⟨Ao28, co28, eo28⟩ := Kd.R_slice HO980.out
        (first | subst eo28 | (injection eo28 with f1_ f2_ f3_; have f4_ := f1_.symm; have f5_ := f3_.symm; clear f1_ f2_ f3_; subst f4_; subst f5_))
        refine norm_ (a' := ?_) ?_ ?_
        rotate_left
        · simp only [putAll, Act.put, List.setIfInBounds_toArray, List.set_cons_zero, List.set_cons_succ]
          rfl
        refine one_ (i := 4) (N := some 11) #[true, true, true, true, true, false] rfl rfl (by kernel_rfl) (by decide) (fun K hK => ?_)
        refine Kd.R_append_rows_step k74 (w0 := w) w.heap.size (by rfl) (.tmp 8) (.tmp 10) 34 74 (.agg #[(.int .i64 0), (.int .i64 0), (.int .i64 0), (.int .i64 0)]) 32 rfl Try.underlying34 info74 rfl (by decide) (by omega) v976 t975 y978 _ _ _ (fun k_ => some k_ ≠ (.slice Ao28 y978.length co28 : Value).ownBlock ∧ k_ ≠ gb974) (fun _ => False) rfl rfl ?aO ?aR (fun _ _ h => h) (fun _ h => h.elim) ?aF ?aB ?aS ?aL ?_
        (case aR => repeat (first | exact (Kd.R_reads' HO980.out).2.2 | (with_reducible refine Kd.C_alloc ?_ _) | (with_reducible refine Kd.C_drewN ?_ _) | (with_reducible refine Kd.C_drew ?_)))
        (case aB => exact (oB HB))
        (case aF => exact (fun k_ hk => ⟨Kd.fresh' (Kd.R_lt (oR HO980)) k_ hk, Kd.freshB (g := gb974) (o := .cells #[.int .i64 a1_0, .int .i64 a1_1, .int .i64 a1_2, .int .i64 a1_3] 74 (0, 0)) (oK BK974) k_ hk⟩))
        (case aO => exact (oR HO977))
        (case aS => exact (below_size (oB HB)))
        (case aL => have := LMc4.out; omega)
        intro v982 w27 ho hb hg hat
        rw [← Ny981.out] at ho
        have n0_ := Aside0.mk (blk_grown (g := gb974) (o := .cells #[.int .i64 a1_0, .int .i64 a1_1, .int .i64 a1_2, .int .i64 a1_3] 74 (0, 0)) (oK BK974) hg (Kd.R_away HO977.out (fun _ hk => hk.2)))
        have n1_ := Aside0.mk (Kd.R_after (ok := (fun k_ => k_ ≠ gb974)) (by (with_reducible repeat (first | apply Kd.R_alloc | apply Kd.R_drewN | apply Kd.R_drew)); exact Kd.R_mono HO980.out (fun _ hk => ⟨hk.2, hk.1⟩)) hg hat)
        have n2_ := Aside0.mk (hb)
        have n3_ := Aside0.mk (ho)
        clear BK974
        clear HO980
        clear HB
        clear HO977
        have BK974 := n0_
        have HO980 := n1_
        have HB := n2_
        have HO983 := n3_
        clear n0_ n1_ n2_ n3_
        clear ho hb hg hat
        refine hK.out _ _ ⟨(blk_cell BK974.out 0).trans rfl, (blk_cell BK974.out 1).trans rfl, (blk_cell BK974.out 2).trans rfl, (blk_cell BK974.out 3).trans rfl⟩ (fun hHeld => ?_)
        clear hK K
        refine norm_ (a' := ?_) ?_ ?_
        rotate_left
        · show Act.put _ (some 11) _ = _
          simp only [Act.put, List.setIfInBounds_toArray, List.set_cons_zero, List.set_cons_succ, i64_w, i32_w]
          rfl
        refine pure_ (i := 5) (N := some 6) (v := ?_) (a' := ?_) #[true, true, true, true, true, true] rfl rfl (by kernel_rfl) (fun _ _ _ h => h) (Or.inl ⟨by rfl, ?_⟩) ?_ ?_
        rotate_left
        · intro w'
          go_simp
          with_reducible rfl
        rotate_left
        · simp only [Act.put, List.setIfInBounds_toArray, List.set_cons_zero, List.set_cons_succ, i64_w, i32_w]
          rfl
        refine done_ (by kernel_rfl) ?_
        try go_wp2_with (first | ((with_reducible refine gate_callee (f := 61) rfl ?_); refine goesL_ (some 13) rfl rfl Try.func61 (by kernel_rfl) rfl #[.slice A0 l0.length c0] rfl (by (try simp only [List.map_toArray, List.map_cons, List.map_nil]); first | done | rfl | (simp only [List.length_drop, List.length_take]; rfl)) ?_; (with_reducible refine (spec_LogOk.calls k _ _ l0 true _ ?side1 ?side2 A5.out).mono ?_); (case side1 => exact oc_ HR0.out); (case side2 => exact HC0.out); rintro e w29 ⟨rfl, hb⟩; refine ⟨_, rfl, ?_⟩; have n0_ := Aside0.mk (Kd.R_below (oR HO980) hb); have n1_ := Aside0.mk (Kd.R_below (oR HO983) hb); have n2_ := Aside0.mk (blk_below (g := gb974) (o := .cells #[.int .i64 a1_0, .int .i64 a1_1, .int .i64 a1_2, .int .i64 a1_3] 74 (0, 0)) (oK BK974) hb); have n3_ := Aside0.mk (below_step (oB HB) hb); clear HO980; clear HO983; clear BK974; clear HB; have HO980 := n0_; have HO983 := n1_; have BK974 := n2_; have HB := n3_; clear n0_ n1_ n2_ n3_; (try clear hb); (try clear hb2); (try clear hk); (try clear hi); obtain ⟨Ao30, co30, eo30⟩ := Kd.R_slice HO983.out; subst eo30) | (go_at_call 61; (with_reducible refine (spec_LogOk.calls k _ _ y981 false _ ?side1 ?side2 A7.out).mono ?_); (case side1 => repeat (first | exact (Kd.R_reads' HO983.out).2.2 | (with_reducible refine Kd.C_alloc ?_ _) | (with_reducible refine Kd.C_drewN ?_ _) | (with_reducible refine Kd.C_drew ?_))); (case side2 => exact (Kd.R_reads' HO983.out).2.1); rintro e w31 ⟨rfl, hb⟩; have n0_ := Aside0.mk (Kd.R_below (oR HO980) hb); have n1_ := Aside0.mk (Kd.R_below (oR HO983) hb); have n2_ := Aside0.mk (blk_below (g := gb974) (o := .cells #[.int .i64 a1_0, .int .i64 a1_1, .int .i64 a1_2, .int .i64 a1_3] 74 (0, 0)) (oK BK974) hb); have n3_ := Aside0.mk (below_step (oB HB) hb); clear HO980; clear HO983; clear BK974; clear HB; have HO980 := n0_; have HO983 := n1_; have BK974 := n2_; have HB := n3_; clear n0_ n1_ n2_ n3_; (try clear hb); (try clear hb2); (try clear hk); (try clear hi)) | ((with_reducible refine gate_callee (f := 93) rfl ?_); refine goesL_ (some 21) rfl rfl Try.func93 (by kernel_rfl) rfl #[.slice A0 l0.length c0] rfl (by (try simp only [List.map_toArray, List.map_cons, List.map_nil]); first | done | rfl | (simp only [List.length_drop, List.length_take]; rfl)) ?_; (with_reducible refine (spec_l34Copy.calls _ _ l0 t986 _ ?side1 ?side2 A20.out).mono ?_); (case side1 => exact oc_ HR0.out); (case side2 => exact HC0.out); rintro e w32 ⟨v987, rfl, ho0, hb⟩; refine ⟨_, rfl, ?_⟩; have n0_ := Aside0.mk (Kd.R_elder' (oR HO980) (Kd.R_base ho0) hb); have n1_ := Aside0.mk (Kd.R_elder' (oR HO983) (Kd.R_base ho0) hb); have n2_ := Aside0.mk (Kd.R_lower (Kd.R_newB (Kd.R_new' (Kd.R_new' ho0 (Kd.R_lt (oR HO980))) (Kd.R_lt (oR HO983))) (g := gb974) (o := .cells #[.int .i64 a1_0, .int .i64 a1_1, .int .i64 a1_2, .int .i64 a1_3] 74 (0, 0)) (oK BK974)) (below_size (oB HB))); have n3_ := Aside0.mk (blk_below (g := gb974) (o := .cells #[.int .i64 a1_0, .int .i64 a1_1, .int .i64 a1_2, .int .i64 a1_3] 74 (0, 0)) (oK BK974) hb); have n4_ := Aside0.mk (below_step (oB HB) hb); clear HO980; clear HO983; clear BK974; clear HB; have HO980 := n0_; have HO983 := n1_; have HO988 := n2_; have BK974 := n3_; have HB := n4_; clear n0_ n1_ n2_ n3_ n4_; (try clear hb); (try clear hb2); (try clear hk); (try clear hi); (try clear ho0)))
        go_ret2
        exact ⟨_, by first | rfl | (simp [errW_none, errW_some] <;> rfl) | (simp [*, errW_none, errW_some] <;> rfl), by (with_reducible repeat (first | apply Kd.R_alloc | apply Kd.R_drewN | apply Kd.R_drew)); exact Kd.R_mono HO988.out (fun _ hk => trivial), oB HB⟩
    · replace c6 := Bool.eq_false_iff.mpr c6
      subst c6
      rw [if_neg (show ¬ (false = true) by decide)] at H
      replace H := Option.bind_eq_some_iff.mp H
      obtain ⟨t989, A330, H⟩ := H
      (try dsimp only at H)
      have A33 := Aside0.mk A330
      clear A330
      simp only [Option.some.injEq, Prod.mk.injEq] at H
      obtain ⟨rfl, rfl⟩ := H
      go_enter Try.func48, Try.ntmps48
      try go_wp2_with (first | ((with_reducible refine gate_dst (N := 3) rfl ?_); refine box_event ?hg (N := 3) ?hd (cs := #[.int .i64 a1_0, .int .i64 a1_1, .int .i64 a1_2, .int .i64 a1_3]) (t := 74) ?hr ?_; (case hd => rfl); (case hg => rfl); (case hr => first | (go_simp; done) | (go_simp; rfl)); intro gb974 hg w34 hbox hb; have n0_ := Aside0.mk (below_step (oB HB) hb); have n1_ := Aside0.mk (hbox); have n2_ := Aside0.mk ((by rw [hg]; exact (below_size (oB HB)) : w.heap.size ≤ gb974)); have n3_ := Aside0.mk ((by rw [hg]; exact (below_size (oB HB)) : w.heap.size ≤ gb974)); clear HB; have HB := n0_; have BK974 := n1_; have GW974 := n2_; have GE974 := n3_; clear n0_ n1_ n2_ n3_; clear hb hbox hg))
      have n0_ := Aside0.mk (blk_drew BK974.out)
      have n1_ := Aside0.mk (below_drew1 HB.out)
      clear BK974
      clear HB
      have BK974 := n0_
      have HB := n1_
      clear n0_ n1_
      refine start_ (n := 6) (S := fun w' => w'.cell? ⟨gb974, 0, none⟩ = some (.int .i64 a1_0) ∧ w'.cell? ⟨gb974, 1, none⟩ = some (.int .i64 a1_1) ∧ w'.cell? ⟨gb974, 2, none⟩ = some (.int .i64 a1_2) ∧ w'.cell? ⟨gb974, 3, none⟩ = some (.int .i64 a1_3)) (ds := []) #[false, false, false, false, false, false] (by kernel_rfl) rfl rfl ⟨(blk_cell BK974.out 0).trans rfl, (blk_cell BK974.out 1).trans rfl, (blk_cell BK974.out 2).trans rfl, (blk_cell BK974.out 3).trans rfl⟩ (fun hHeld => ?_)
      generalize w34.drew = w35 at BK974 HB hHeld ⊢
      refine pure_ (i := 0) (N := some 7) (v := ?_) (a' := ?_) #[true, false, false, false, false, false] rfl rfl (by kernel_rfl) (fun _ _ _ h => h) (Or.inl ⟨by rfl, ?_⟩) ?_ ?_
      rotate_left
      · intro w'
        go_simp
        with_reducible rfl
      rotate_left
      · simp only [Act.put, List.setIfInBounds_toArray, List.set_cons_zero, List.set_cons_succ, i64_w, i32_w]
        rfl
      refine take_ (i := 2) (N := some 9) (v := ?_) (a' := ?_) #[true, false, true, false, false, false] rfl rfl (by kernel_rfl) (fun _ _ _ h => h) (Or.inl ⟨by rfl, ?_⟩) hHeld ?_ ?_
      rotate_left
      · rintro w' ⟨s0, s1, s2, s3⟩
        go_simp
        with_reducible rfl
      rotate_left
      · simp only [Act.put, List.setIfInBounds_toArray, List.set_cons_zero, List.set_cons_succ, i64_w, i32_w]
        rfl
      refine join_ (σ := Value × Value) 2 #[true, true, true, true, false, false] (fun s_ => [(8, s_.1), (10, s_.2)]) (fun s_ w' => (w'.cell? ⟨gb974, 0, none⟩ = some (.int .i64 a1_0) ∧ w'.cell? ⟨gb974, 1, none⟩ = some (.int .i64 a1_1) ∧ w'.cell? ⟨gb974, 2, none⟩ = some (.int .i64 a1_2) ∧ w'.cell? ⟨gb974, 3, none⟩ = some (.int .i64 a1_3)) ∧ (Kd.R k74 74 w' w.heap.size (fun k_ => some k_ ≠ (s_.2 : Value).ownBlock ∧ k_ ≠ gb974) s_.1 t975) ∧ (Kd.R k74 74 w' w.heap.size (fun k_ => some k_ ≠ (s_.1 : Value).ownBlock ∧ k_ ≠ gb974) s_.2 y978) ∧ (w'.heap[gb974]? = some (.cells #[.int .i64 a1_0, .int .i64 a1_1, .int .i64 a1_2, .int .i64 a1_3] 74 (0, 0))) ∧ (Below w.heap.size w w')) ?_ ?_
      rotate_left
      · intro hCont
        refine two_ (i := 1) (j := 3) (Ni := some 8) (Nj := some 10) #[true, true, true, false, false, false] #[true, false, true, true, false, false] rfl rfl rfl rfl (by kernel_rfl) (by decide) (by decide) (fun K hK => ?_) (fun K hK => ?_)
        · skip
          refine goes_ Try.func93 (by kernel_rfl) rfl #[.slice A0 l0.length c0] (by rfl) rfl rfl (by (try simp only [List.map_toArray, List.map_cons, List.map_nil]); first | done | rfl | (simp only [List.length_drop, List.length_take]; rfl)) ?_
          with_reducible refine (spec_l34Copy.calls _ _ l0 t975 _ ?side1 ?side2 A3.out).mono ?_
          (case side1 => exact oc_ HR0.out)
          (case side2 => exact HC0.out)
          rintro e w36 ⟨v976, rfl, ho0, hb⟩
          refine ⟨_, rfl, ?_⟩
          have n0_ := Aside0.mk (Kd.R_lower (Kd.R_newB ho0 (g := gb974) (o := .cells #[.int .i64 a1_0, .int .i64 a1_1, .int .i64 a1_2, .int .i64 a1_3] 74 (0, 0)) (oK BK974)) (below_size (oB HB)))
          have n1_ := Aside0.mk (blk_below (g := gb974) (o := .cells #[.int .i64 a1_0, .int .i64 a1_1, .int .i64 a1_2, .int .i64 a1_3] 74 (0, 0)) (oK BK974) hb)
          have n2_ := Aside0.mk (below_step (oB HB) hb)
          clear BK974
          clear HB
          have HO977 := n0_
          have BK974 := n1_
          have HB := n2_
          clear n0_ n1_ n2_
          (try clear hb)
          (try clear hb2)
          (try clear hk)
          (try clear hi)
          (try clear ho0)
          refine hK.out _ _ ⟨(blk_cell BK974.out 0).trans rfl, (blk_cell BK974.out 1).trans rfl, (blk_cell BK974.out 2).trans rfl, (blk_cell BK974.out 3).trans rfl⟩ (fun hHeld => ?_)
          clear hK K
          refine norm_ (a' := ?_) ?_ ?_
          rotate_left
          · show Act.put _ (some 8) _ = _
            simp only [Act.put, List.setIfInBounds_toArray, List.set_cons_zero, List.set_cons_succ, i64_w, i32_w]
            rfl
          refine one_ (i := 3) (N := some 10) #[true, true, true, true, false, false] rfl rfl (by kernel_rfl) (by decide) (fun K hK => ?_)
          refine Kd.R_lit_step k74 _ 74 ?hg (N := 10) ?hd (xs := ([(⟨(⟨a1_0, a1_1⟩ : S56), a1_2, a1_3⟩ : S74)] : List (S74))) (inner := [.int .i64 a1_0, .int .i64 a1_1, .int .i64 a1_2, .int .i64 a1_3]) (ok := fun _ => True) (okp := fun _ => True) ?hr ?hp (fun _ hk => hk) trivial (Below.refl _ _) (Nat.le_refl _) (by simp) ?_; (case hd => rfl); (case hg => rfl); (case hr => first | (go_simp; done) | (go_simp; rfl)); (case hp => exact (Reps.c4 (show Kd.M k74 _ _ _ (⟨(⟨a1_0, a1_1⟩ : S56), a1_2, a1_3⟩ : S74) [.int .i64 a1_0, .int .i64 a1_1, .int .i64 a1_2, .int .i64 a1_3] from (k74_mkM _ _ _ (⟨(⟨a1_0, a1_1⟩ : S56), a1_2, a1_3⟩ : S74) )) (Reps.none _ _)))
          intro v979 w37 ho38 hb hg_ hnew_
          clear hg_ hnew_
          (first | rw [← Ny978.out] at ho38 | (simp only [Int.reduceToNat] at ho38; rw [← Ny978.out] at ho38))
          have n0_ := Aside0.mk (Kd.R_elder' (oR HO977) (Kd.R_base ho38) hb)
          have n1_ := Aside0.mk (Kd.R_lower (Kd.R_newB (Kd.R_new' ho38 (Kd.R_lt (oR HO977))) (g := gb974) (o := .cells #[.int .i64 a1_0, .int .i64 a1_1, .int .i64 a1_2, .int .i64 a1_3] 74 (0, 0)) (oK BK974)) (below_size (oB HB)))
          have n2_ := Aside0.mk (blk_below (g := gb974) (o := .cells #[.int .i64 a1_0, .int .i64 a1_1, .int .i64 a1_2, .int .i64 a1_3] 74 (0, 0)) (oK BK974) hb)
          have n3_ := Aside0.mk (below_step (oB HB) hb)
          clear HO977
          clear BK974
          clear HB
          have HO977 := n0_
          have HO980 := n1_
          have BK974 := n2_
          have HB := n3_
          clear n0_ n1_ n2_ n3_
          clear hb ho38
          refine hK.out _ _ ⟨(blk_cell BK974.out 0).trans rfl, (blk_cell BK974.out 1).trans rfl, (blk_cell BK974.out 2).trans rfl, (blk_cell BK974.out 3).trans rfl⟩ (fun hHeld => ?_)
          clear hK K
          refine norm_ (a' := ?_) ?_ ?_
          rotate_left
          · show Act.put _ (some 10) _ = _
            simp only [Act.put, List.setIfInBounds_toArray, List.set_cons_zero, List.set_cons_succ, i64_w, i32_w]
            rfl
          exact norm_ (by simp only [putAll, Act.put, List.setIfInBounds_toArray, List.set_cons_zero, List.set_cons_succ]) (hCont (v976, v979) _ ⟨hHeld, (by (with_reducible repeat (first | apply Kd.R_alloc | apply Kd.R_drewN | apply Kd.R_drew)); exact Kd.R_mono HO977.out (fun _ hk => ⟨hk.2, hk.1.2⟩)), (by (with_reducible repeat (first | apply Kd.R_alloc | apply Kd.R_drewN | apply Kd.R_drew)); exact Kd.R_mono HO980.out (fun _ hk => ⟨hk.1.2, hk.2⟩)), (oK BK974), (oB HB)⟩)
        · skip
          refine Kd.R_lit_step k74 _ 74 ?hg (N := 10) ?hd (xs := ([(⟨(⟨a1_0, a1_1⟩ : S56), a1_2, a1_3⟩ : S74)] : List (S74))) (inner := [.int .i64 a1_0, .int .i64 a1_1, .int .i64 a1_2, .int .i64 a1_3]) (ok := fun _ => True) (okp := fun _ => True) ?hr ?hp (fun _ hk => hk) trivial (Below.refl _ _) (Nat.le_refl _) (by simp) ?_; (case hd => rfl); (case hg => rfl); (case hr => first | (go_simp; done) | (go_simp; rfl)); (case hp => exact (Reps.c4 (show Kd.M k74 _ _ _ (⟨(⟨a1_0, a1_1⟩ : S56), a1_2, a1_3⟩ : S74) [.int .i64 a1_0, .int .i64 a1_1, .int .i64 a1_2, .int .i64 a1_3] from (k74_mkM _ _ _ (⟨(⟨a1_0, a1_1⟩ : S56), a1_2, a1_3⟩ : S74) )) (Reps.none _ _)))
          intro v979 w36 ho37 hb hg_ hnew_
          clear hg_ hnew_
          (first | rw [← Ny978.out] at ho37 | (simp only [Int.reduceToNat] at ho37; rw [← Ny978.out] at ho37))
          have n0_ := Aside0.mk (Kd.R_lower (Kd.R_newB ho37 (g := gb974) (o := .cells #[.int .i64 a1_0, .int .i64 a1_1, .int .i64 a1_2, .int .i64 a1_3] 74 (0, 0)) (oK BK974)) (below_size (oB HB)))
          have n1_ := Aside0.mk (blk_below (g := gb974) (o := .cells #[.int .i64 a1_0, .int .i64 a1_1, .int .i64 a1_2, .int .i64 a1_3] 74 (0, 0)) (oK BK974) hb)
          have n2_ := Aside0.mk (below_step (oB HB) hb)
          clear BK974
          clear HB
          have HO980 := n0_
          have BK974 := n1_
          have HB := n2_
          clear n0_ n1_ n2_
          clear hb ho37
          refine hK.out _ _ ⟨(blk_cell BK974.out 0).trans rfl, (blk_cell BK974.out 1).trans rfl, (blk_cell BK974.out 2).trans rfl, (blk_cell BK974.out 3).trans rfl⟩ (fun hHeld => ?_)
          clear hK K
          refine norm_ (a' := ?_) ?_ ?_
          rotate_left
          · show Act.put _ (some 10) _ = _
            simp only [Act.put, List.setIfInBounds_toArray, List.set_cons_zero, List.set_cons_succ, i64_w, i32_w]
            rfl
          refine one_ (i := 1) (N := some 8) #[true, true, true, true, false, false] rfl rfl (by kernel_rfl) (by decide) (fun K hK => ?_)
          refine goes_ Try.func93 (by kernel_rfl) rfl #[.slice A0 l0.length c0] (by rfl) rfl rfl (by (try simp only [List.map_toArray, List.map_cons, List.map_nil]); first | done | rfl | (simp only [List.length_drop, List.length_take]; rfl)) ?_
          with_reducible refine (spec_l34Copy.calls _ _ l0 t975 _ ?side1 ?side2 A3.out).mono ?_
          (case side1 => exact oc_ HR0.out)
          (case side2 => exact HC0.out)
          rintro e w38 ⟨v976, rfl, ho0, hb⟩
          refine ⟨_, rfl, ?_⟩
          have n0_ := Aside0.mk (Kd.R_elder' (oR HO980) (Kd.R_base ho0) hb)
          have n1_ := Aside0.mk (Kd.R_lower (Kd.R_newB (Kd.R_new' ho0 (Kd.R_lt (oR HO980))) (g := gb974) (o := .cells #[.int .i64 a1_0, .int .i64 a1_1, .int .i64 a1_2, .int .i64 a1_3] 74 (0, 0)) (oK BK974)) (below_size (oB HB)))
          have n2_ := Aside0.mk (blk_below (g := gb974) (o := .cells #[.int .i64 a1_0, .int .i64 a1_1, .int .i64 a1_2, .int .i64 a1_3] 74 (0, 0)) (oK BK974) hb)
          have n3_ := Aside0.mk (below_step (oB HB) hb)
          clear HO980
          clear BK974
          clear HB
          have HO980 := n0_
          have HO977 := n1_
          have BK974 := n2_
          have HB := n3_
          clear n0_ n1_ n2_ n3_
          (try clear hb)
          (try clear hb2)
          (try clear hk)
          (try clear hi)
          (try clear ho0)
          refine hK.out _ _ ⟨(blk_cell BK974.out 0).trans rfl, (blk_cell BK974.out 1).trans rfl, (blk_cell BK974.out 2).trans rfl, (blk_cell BK974.out 3).trans rfl⟩ (fun hHeld => ?_)
          clear hK K
          refine norm_ (a' := ?_) ?_ ?_
          rotate_left
          · show Act.put _ (some 8) _ = _
            simp only [Act.put, List.setIfInBounds_toArray, List.set_cons_zero, List.set_cons_succ, i64_w, i32_w]
            rfl
          exact norm_ (by simp only [putAll, Act.put, List.setIfInBounds_toArray, List.set_cons_zero, List.set_cons_succ]) (hCont (v976, v979) _ ⟨hHeld, (by (with_reducible repeat (first | apply Kd.R_alloc | apply Kd.R_drewN | apply Kd.R_drew)); exact Kd.R_mono HO977.out (fun _ hk => ⟨hk.1.2, hk.2⟩)), (by (with_reducible repeat (first | apply Kd.R_alloc | apply Kd.R_drewN | apply Kd.R_drew)); exact Kd.R_mono HO980.out (fun _ hk => ⟨hk.2, hk.1.2⟩)), (oK BK974), (oB HB)⟩)
      rintro ⟨v976, v979⟩ w39 ⟨hS_, h0_, h1_, h2_, h3_⟩
      have n0_ : Aside0 (Kd.R k74 74 w39 w.heap.size (fun k_ => some k_ ≠ (v979 : Value).ownBlock ∧ k_ ≠ gb974) v976 t975) := ⟨h0_⟩
      have n1_ : Aside0 (Kd.R k74 74 w39 w.heap.size (fun k_ => some k_ ≠ (v976 : Value).ownBlock ∧ k_ ≠ gb974) v979 y978) := ⟨h1_⟩
      have n2_ : Aside0 (w39.heap[gb974]? = some (.cells #[.int .i64 a1_0, .int .i64 a1_1, .int .i64 a1_2, .int .i64 a1_3] 74 (0, 0))) := ⟨h2_⟩
      have n3_ : Aside0 (Below w.heap.size w w39) := ⟨h3_⟩
      clear BK974
      clear HB
      clear h0_ h1_ h2_ h3_
      have HO977 := n0_
      have HO980 := n1_
      have BK974 := n2_
      have HB := n3_
      clear n0_ n1_ n2_ n3_
      have hHeld : w39.cell? ⟨gb974, 0, none⟩ = some (.int .i64 a1_0) ∧ w39.cell? ⟨gb974, 1, none⟩ = some (.int .i64 a1_1) ∧ w39.cell? ⟨gb974, 2, none⟩ = some (.int .i64 a1_2) ∧ w39.cell? ⟨gb974, 3, none⟩ = some (.int .i64 a1_3) := hS_
      obtain ⟨Ao41, co41, eo41⟩ := Kd.R_slice HO980.out
      (first | subst eo41 | (injection eo41 with f1_ f2_ f3_; have f4_ := f1_.symm; have f5_ := f3_.symm; clear f1_ f2_ f3_; subst f4_; subst f5_))
      refine norm_ (a' := ?_) ?_ ?_
      rotate_left
      · simp only [putAll, Act.put, List.setIfInBounds_toArray, List.set_cons_zero, List.set_cons_succ]
        rfl
      refine one_ (i := 4) (N := some 11) #[true, true, true, true, true, false] rfl rfl (by kernel_rfl) (by decide) (fun K hK => ?_)
      refine Kd.R_append_rows_step k74 (w0 := w) w.heap.size (by rfl) (.tmp 8) (.tmp 10) 34 74 (.agg #[(.int .i64 0), (.int .i64 0), (.int .i64 0), (.int .i64 0)]) 32 rfl Try.underlying34 info74 rfl (by decide) (by omega) v976 t975 y978 _ _ _ (fun k_ => some k_ ≠ (.slice Ao41 y978.length co41 : Value).ownBlock ∧ k_ ≠ gb974) (fun _ => False) rfl rfl ?aO ?aR (fun _ _ h => h) (fun _ h => h.elim) ?aF ?aB ?aS ?aL ?_
      (case aR => repeat (first | exact (Kd.R_reads' HO980.out).2.2 | (with_reducible refine Kd.C_alloc ?_ _) | (with_reducible refine Kd.C_drewN ?_ _) | (with_reducible refine Kd.C_drew ?_)))
      (case aB => exact (oB HB))
      (case aF => exact (fun k_ hk => ⟨Kd.fresh' (Kd.R_lt (oR HO980)) k_ hk, Kd.freshB (g := gb974) (o := .cells #[.int .i64 a1_0, .int .i64 a1_1, .int .i64 a1_2, .int .i64 a1_3] 74 (0, 0)) (oK BK974) k_ hk⟩))
      (case aO => exact (oR HO977))
      (case aS => exact (below_size (oB HB)))
      (case aL => have := LMc4.out; omega)
      intro v982 w40 ho hb hg hat
      rw [← Ny981.out] at ho
      have n0_ := Aside0.mk (blk_grown (g := gb974) (o := .cells #[.int .i64 a1_0, .int .i64 a1_1, .int .i64 a1_2, .int .i64 a1_3] 74 (0, 0)) (oK BK974) hg (Kd.R_away HO977.out (fun _ hk => hk.2)))
      have n1_ := Aside0.mk (Kd.R_after (ok := (fun k_ => k_ ≠ gb974)) (by (with_reducible repeat (first | apply Kd.R_alloc | apply Kd.R_drewN | apply Kd.R_drew)); exact Kd.R_mono HO980.out (fun _ hk => ⟨hk.2, hk.1⟩)) hg hat)
      have n2_ := Aside0.mk (hb)
      have n3_ := Aside0.mk (ho)
      clear BK974
      clear HO980
      clear HB
      clear HO977
      have BK974 := n0_
      have HO980 := n1_
      have HB := n2_
      have HO983 := n3_
      clear n0_ n1_ n2_ n3_
      clear ho hb hg hat
      refine hK.out _ _ ⟨(blk_cell BK974.out 0).trans rfl, (blk_cell BK974.out 1).trans rfl, (blk_cell BK974.out 2).trans rfl, (blk_cell BK974.out 3).trans rfl⟩ (fun hHeld => ?_)
      clear hK K
      refine norm_ (a' := ?_) ?_ ?_
      rotate_left
      · show Act.put _ (some 11) _ = _
        simp only [Act.put, List.setIfInBounds_toArray, List.set_cons_zero, List.set_cons_succ, i64_w, i32_w]
        rfl
      refine pure_ (i := 5) (N := some 6) (v := ?_) (a' := ?_) #[true, true, true, true, true, true] rfl rfl (by kernel_rfl) (fun _ _ _ h => h) (Or.inl ⟨by rfl, ?_⟩) ?_ ?_
      rotate_left
      · intro w'
        go_simp
        with_reducible rfl
      rotate_left
      · simp only [Act.put, List.setIfInBounds_toArray, List.set_cons_zero, List.set_cons_succ, i64_w, i32_w]
        rfl
      refine done_ (by kernel_rfl) ?_
      try go_wp2_with (first | ((with_reducible refine gate_callee (f := 61) rfl ?_); refine goesL_ (some 13) rfl rfl Try.func61 (by kernel_rfl) rfl #[.slice A0 l0.length c0] rfl (by (try simp only [List.map_toArray, List.map_cons, List.map_nil]); first | done | rfl | (simp only [List.length_drop, List.length_take]; rfl)) ?_; (with_reducible refine (spec_LogOk.calls k _ _ l0 false _ ?side1 ?side2 A5.out).mono ?_); (case side1 => exact oc_ HR0.out); (case side2 => exact HC0.out); rintro e w42 ⟨rfl, hb⟩; refine ⟨_, rfl, ?_⟩; have n0_ := Aside0.mk (Kd.R_below (oR HO980) hb); have n1_ := Aside0.mk (Kd.R_below (oR HO983) hb); have n2_ := Aside0.mk (blk_below (g := gb974) (o := .cells #[.int .i64 a1_0, .int .i64 a1_1, .int .i64 a1_2, .int .i64 a1_3] 74 (0, 0)) (oK BK974) hb); have n3_ := Aside0.mk (below_step (oB HB) hb); clear HO980; clear HO983; clear BK974; clear HB; have HO980 := n0_; have HO983 := n1_; have BK974 := n2_; have HB := n3_; clear n0_ n1_ n2_ n3_; (try clear hb); (try clear hb2); (try clear hk); (try clear hi)) | ((with_reducible refine gate_callee (f := 93) rfl ?_); refine goesL_ (some 21) rfl rfl Try.func93 (by kernel_rfl) rfl #[.slice A0 l0.length c0] rfl (by (try simp only [List.map_toArray, List.map_cons, List.map_nil]); first | done | rfl | (simp only [List.length_drop, List.length_take]; rfl)) ?_; (with_reducible refine (spec_l34Copy.calls _ _ l0 t989 _ ?side1 ?side2 A33.out).mono ?_); (case side1 => exact oc_ HR0.out); (case side2 => exact HC0.out); rintro e w43 ⟨v990, rfl, ho0, hb⟩; refine ⟨_, rfl, ?_⟩; have n0_ := Aside0.mk (Kd.R_elder' (oR HO980) (Kd.R_base ho0) hb); have n1_ := Aside0.mk (Kd.R_elder' (oR HO983) (Kd.R_base ho0) hb); have n2_ := Aside0.mk (Kd.R_lower (Kd.R_newB (Kd.R_new' (Kd.R_new' ho0 (Kd.R_lt (oR HO980))) (Kd.R_lt (oR HO983))) (g := gb974) (o := .cells #[.int .i64 a1_0, .int .i64 a1_1, .int .i64 a1_2, .int .i64 a1_3] 74 (0, 0)) (oK BK974)) (below_size (oB HB))); have n3_ := Aside0.mk (blk_below (g := gb974) (o := .cells #[.int .i64 a1_0, .int .i64 a1_1, .int .i64 a1_2, .int .i64 a1_3] 74 (0, 0)) (oK BK974) hb); have n4_ := Aside0.mk (below_step (oB HB) hb); clear HO980; clear HO983; clear BK974; clear HB; have HO980 := n0_; have HO983 := n1_; have HO991 := n2_; have BK974 := n3_; have HB := n4_; clear n0_ n1_ n2_ n3_ n4_; (try clear hb); (try clear hb2); (try clear hk); (try clear hi); (try clear ho0)))
      go_ret2
      exact ⟨_, by first | rfl | (simp [errW_none, errW_some] <;> rfl) | (simp [*, errW_none, errW_some] <;> rfl), by (with_reducible repeat (first | apply Kd.R_alloc | apply Kd.R_drewN | apply Kd.R_drew)); exact Kd.R_mono HO991.out (fun _ hk => trivial), oB HB⟩
  · rw [if_neg c4] at H
    exact absurd H (by simp)
end Go.Proofs.Ytbkkpllejgedcaa.P

