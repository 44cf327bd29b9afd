/- What functions of the program come to (f), that their calls come to just this (calls), and the plain laws over lists and numbers, and the law FnExactFaultyPipes: for every argument it answers true. No condition but those of the given row. -/
import Derived.Test.YtnknnbpodpfljaaRows
import Derived.Test.YtnknnbpodpfljaaC2
import Derived.Deep.Slices
import Derived.ChangeArms
import Derived.ChangeSame
import Derived.KernelRfl
import Derived.WalkKit
import Derived.ProofKit
import Derived.OpenShut
import Derived.ShutString
import Derived.ChangeOld
import Derived.Below
import Derived.SizedLaws
namespace Go.Proofs.Ytnknnbpodpfljaa.P
open Go.RowKit Go.Proofs.YtnknnbpodpfljaaW.PrintWords Go.Proofs.YtnknnbpodpfljaaW.PrintLast Go.Proofs.YtnknnbpodpfljaaW.PrintMore
attribute [local go_sem] max2_int min2_int max_two min_two max_three min_three max_four min_four
set_option linter.unusedVariables false
set_option linter.unusedSimpArgs false
def laws_heldPipeS.l0 : Nat → List (S31) → Int → Int → Option (Int)
  | 0, _, _, _ => none
  | k + 1, x0, x1, x5 => if x5 < (x0.length : Int) then (if 0 ≤ x5 then (if ((rd_T31 x0 x5).f0) = x1 then (if ((rd_T31 x0 x5).f1) = (wrap64 (x1 + 1)) then (laws_heldPipeS.l0 k x0 (wrap64 ((wrap64 (x1 + 1)) + 1)) (wrap64 (x5 + 1))) else (some (-1))) else (some (-1))) else (none)) else (some x1)
def laws_heldPipeS.f (k : Nat) (l0 : List (S31)) (a1 : Int) : Option (Int) := laws_heldPipeS.l0 k l0 a1 0
set_option maxHeartbeats 8000000 in
set_option maxRecDepth 100000 in
theorem laws_heldPipeS.calls (k : Nat) (A0 : Option Addr) (c0 : Nat) (l0 : List (S31)) (a1 : Int) (r : Int) (w : World) (hr0 : Kd.C k31 w A0 l0.length l0) (hc0 : l0.length ≤ c0) (h : laws_heldPipeS.f k l0 a1 = some r) :
    Calls Try.prog 35 #[.slice A0 l0.length c0, .int .i64 a1] w fun e w' => e = .returned (.int .i64 r) ∧ Drawn0 w w' := by
  have HR0 := Aside0.mk hr0
  have HC0 := Aside0.mk hc0
  clear hr0 hc0
  have H : (laws_heldPipeS.l0 k l0 a1 0) = some r := h
  clear h
  have H' := Aside0.mk H
  clear H
  go_enter Try.func35, Try.ntmps35
  go_wp2
  go_loopg [1, 5] k (fun kq v1 v5 w' => ∃ (x1_1 : Int) (x5_1 : Int), v1 = .int .i64 x1_1 ∧ v5 = .int .i64 x5_1 ∧ Aside0 (laws_heldPipeS.l0 kq l0 x1_1 x5_1 = some r) ∧ Aside0 (kq ≤ k) ∧ Drawn0 w w')
  case atStart => exact ⟨(a1), (0), (by first | rfl | (simp; done) | (simp [*]; done)), (by first | rfl | (simp; done) | (simp [*]; done)), H', ⟨Nat.le_refl _⟩, by repeat (first | exact Drawn0.refl _ | apply Drawn0.step)⟩
  case round =>
    clear H'
    try clear p2
    obtain ⟨x1_1, x5_1, rfl, rfl, HA, HK1, ⟨m1, rfl⟩⟩ := hrel
    cases gk with
    | zero => exact absurd HA.out (by simp [laws_heldPipeS.l0])
    | succ k1 =>
      have H := HA.out
      clear HA
      simp only [laws_heldPipeS.l0] at H
      by_cases c3 : x5_1 < (l0.length : Int)
      · rw [if_pos c3] at H
        have c3b0 : decide (x5_1 < (l0.length : Int)) = true := decide_eq_true c3
        clear c3
        by_cases c4 : 0 ≤ x5_1
        · rw [if_pos c4] at H
          have c4b0 : decide (0 ≤ x5_1) = true := decide_eq_true c4
          clear c4
          by_cases c5 : ((rd_T31 l0 x5_1).f0) = x1_1
          · rw [if_pos c5] at H
            have c5b0 : (((rd_T31 l0 x5_1).f0) == x1_1) = true := beq_iff_eq.mpr c5
            have c5b1 : (((rd_T31 l0 x5_1).f0) != x1_1) = false := bne_eq_false_iff_eq.mpr c5
            clear c5
            by_cases c6 : ((rd_T31 l0 x5_1).f1) = (wrap64 (x1_1 + 1))
            · rw [if_pos c6] at H
              have c6b0 : (((rd_T31 l0 x5_1).f1) == (wrap64 (x1_1 + 1))) = true := beq_iff_eq.mpr c6
              have c6b1 : (((rd_T31 l0 x5_1).f1) != (wrap64 (x1_1 + 1))) = false := bne_eq_false_iff_eq.mpr c6
              clear c6
              have H' := Aside0.mk H
              clear H
              have p467 : 0 ≤ (x5_1 : Int) := of_decide_eq_true (by first | (with_reducible assumption) | assumption)
              have q467 : x5_1 < (l0.length : Int) := of_decide_eq_true (by first | (with_reducible assumption) | assumption)
              obtain ⟨ad467, e467, hx467_0, hx467_1⟩ := at_T31 HR0.out x5_1 p467 q467
              cases e467
              replace p467 := eq_true p467
              replace q467 := eq_true q467
              have p468 : 0 ≤ (x5_1 : Int) := of_decide_eq_true (by first | (with_reducible assumption) | assumption)
              have q468 : x5_1 < (l0.length : Int) := of_decide_eq_true (by first | (with_reducible assumption) | assumption)
              obtain ⟨ad468, e468, hx468_0, hx468_1⟩ := at_T31 HR0.out x5_1 p468 q468
              obtain rfl : ad467 = ad468 := (by injection e468)
              replace p468 := eq_true p468
              replace q468 := eq_true q468
              go_wp2
              go_roundg k1
              case measure => have := HK1.out; omega
              case rel => exact ⟨(wrap64 ((wrap64 (x1_1 + 1)) + 1)), (wrap64 (x5_1 + 1)), (by first | rfl | (simp; done) | (simp [*]; done)), (by first | rfl | (simp; done) | (simp [*]; done)), H', ⟨by have := HK1.out; omega⟩, by repeat (first | exact Drawn0.refl _ | apply Drawn0.step)⟩
            · rw [if_neg c6] at H
              have c6b0 : (((rd_T31 l0 x5_1).f1) == (wrap64 (x1_1 + 1))) = false := beq_eq_false_iff_ne.mpr c6
              have c6b1 : (((rd_T31 l0 x5_1).f1) != (wrap64 (x1_1 + 1))) = true := bne_iff_ne.mpr c6
              obtain rfl := Option.some.inj H
              have p467 : 0 ≤ (x5_1 : Int) := of_decide_eq_true (by first | (with_reducible assumption) | assumption)
              have q467 : x5_1 < (l0.length : Int) := of_decide_eq_true (by first | (with_reducible assumption) | assumption)
              obtain ⟨ad467, e467, hx467_0, hx467_1⟩ := at_T31 HR0.out x5_1 p467 q467
              cases e467
              replace p467 := eq_true p467
              replace q467 := eq_true q467
              have p468 : 0 ≤ (x5_1 : Int) := of_decide_eq_true (by first | (with_reducible assumption) | assumption)
              have q468 : x5_1 < (l0.length : Int) := of_decide_eq_true (by first | (with_reducible assumption) | assumption)
              obtain ⟨ad468, e468, hx468_0, hx468_1⟩ := at_T31 HR0.out x5_1 p468 q468
              obtain rfl : ad467 = ad468 := (by injection e468)
              replace p468 := eq_true p468
              replace q468 := eq_true q468
              go_wp2
              go_ret
              exact ⟨by first | rfl | (simp; done) | (simp [*]; done), by repeat (first | exact Drawn0.refl _ | apply Drawn0.step)⟩
          · rw [if_neg c5] at H
            have c5b0 : (((rd_T31 l0 x5_1).f0) == x1_1) = false := beq_eq_false_iff_ne.mpr c5
            have c5b1 : (((rd_T31 l0 x5_1).f0) != x1_1) = true := bne_iff_ne.mpr c5
            obtain rfl := Option.some.inj H
            have p467 : 0 ≤ (x5_1 : Int) := of_decide_eq_true (by first | (with_reducible assumption) | assumption)
            have q467 : x5_1 < (l0.length : Int) := of_decide_eq_true (by first | (with_reducible assumption) | assumption)
            obtain ⟨ad467, e467, hx467_0, hx467_1⟩ := at_T31 HR0.out x5_1 p467 q467
            cases e467
            replace p467 := eq_true p467
            replace q467 := eq_true q467
            go_wp2
            go_ret
            exact ⟨by first | rfl | (simp; done) | (simp [*]; done), by repeat (first | exact Drawn0.refl _ | apply Drawn0.step)⟩
        · rw [if_neg c4] at H
          exact absurd H (by simp)
      · rw [if_neg c3] at H
        have c3b0 : decide (x5_1 < (l0.length : Int)) = false := decide_eq_false c3
        clear c3
        obtain rfl := Option.some.inj H
        go_wp2
        go_ret
        exact ⟨by first | rfl | (simp; done) | (simp [*]; done), by repeat (first | exact Drawn0.refl _ | apply Drawn0.step)⟩
end Go.Proofs.Ytnknnbpodpfljaa.P


namespace Go.Proofs.Ytnknnbpodpfljaa.P
open Go.RowKit Go.Proofs.YtnknnbpodpfljaaW.PrintWords Go.Proofs.YtnknnbpodpfljaaW.PrintLast Go.Proofs.YtnknnbpodpfljaaW.PrintMore
attribute [local go_sem] max2_int min2_int max_two min_two max_three min_three max_four min_four
set_option linter.unusedVariables false
set_option linter.unusedSimpArgs false
def laws_FnExactFaultyPipes.j0 : Nat → List (S66) → Int → List (S31) → List (S31) → Bool → Option (Bool)
  | 0, _, _, _, _, _ => none
  | k + 1, x0, x1, x6, x8, x46 => if x46 = true then (some false) else ((laws_markPipeS.f k x8 1).bind fun bt490 => ((laws_heldPipeS.f k bt490.2 1).bind fun t492 => (if t492 < 0 then (some false) else (if t492 = bt490.1 then ((laws_toEntryS.f k x0).bind fun t493 => ((impl_FaultyPipes.f t493 x1).bind fun t496 => ((laws_eqPipeS.f k t496 x6).bind fun t499 => (if t499 = true then ((laws_heldPipeS.f k bt490.2 1).bind fun t500 => (if t500 < 0 then (some false) else (if t500 = bt490.1 then (some true) else (some false)))) else (some false))))) else (some false)))))
def laws_FnExactFaultyPipes.f (k : Nat) (l0 : List (S66)) (a1 : Int) : Option (Bool) := (laws_szEntryS.f l0 1048576).bind fun t469 => (if t469 < 0 then (some true) else ((laws_toEntryS.f k l0).bind fun t470 => ((spec_FaultyPipes.f k t470 a1).bind fun t473 => ((laws_toEntryS.f k l0).bind fun t476 => ((impl_FaultyPipes.f t476 a1).bind fun t479 => ((laws_eqPipeS.f k t479 t473).bind fun t482 => (if t482 = true then ((laws_toEntryS.f k l0).bind fun t483 => ((laws_eqEntryS.f k t476 t483).bind fun t486 => (if t486 = true then ((laws_markEntryS.f k t476 1).bind fun bt487 => (if bt487.1 < 0 then (laws_FnExactFaultyPipes.j0 k l0 a1 t473 t479 true) else ((laws_eqPipeS.f k t479 t473).bind fun t489 => (laws_FnExactFaultyPipes.j0 k l0 a1 t473 t479 (!t489))))) else (some false)))) else (some false))))))))
set_option maxHeartbeats 8000000 in
set_option maxRecDepth 100000 in
theorem laws_FnExactFaultyPipes.calls (k : Nat) (A0 : Option Addr) (c0 : Nat) (l0 : List (S66)) (a1 : Int) (r : Bool) (w : World) (hr0 : Kd.C k66 w A0 l0.length l0) (hc0 : l0.length ≤ c0) (h : laws_FnExactFaultyPipes.f k l0 a1 = some r) (hrt_ : Aside0 (r = true)) :
    Calls Try.prog 8 #[.slice A0 l0.length c0, .int .i64 a1] w fun e w' => e = .returned (.bool r) ∧ Below w.heap.size w w' := by
  have HR0 := Aside0.mk hr0
  have HC0 := Aside0.mk hc0
  clear hr0 hc0
  have HB := Aside0.mk (Below.refl w.heap.size w)
  have H : ((laws_szEntryS.f l0 1048576).bind fun t469 => (if t469 < 0 then (some true) else ((laws_toEntryS.f k l0).bind fun t470 => ((spec_FaultyPipes.f k t470 a1).bind fun t473 => ((laws_toEntryS.f k l0).bind fun t476 => ((impl_FaultyPipes.f t476 a1).bind fun t479 => ((laws_eqPipeS.f k t479 t473).bind fun t482 => (if t482 = true then ((laws_toEntryS.f k l0).bind fun t483 => ((laws_eqEntryS.f k t476 t483).bind fun t486 => (if t486 = true then ((laws_markEntryS.f k t476 1).bind fun bt487 => (if bt487.1 < 0 then (laws_FnExactFaultyPipes.j0 k l0 a1 t473 t479 true) else ((laws_eqPipeS.f k t479 t473).bind fun t489 => (laws_FnExactFaultyPipes.j0 k l0 a1 t473 t479 (!t489))))) else (some false)))) else (some false))))))))) = some r := h
  clear h
  replace H := Option.bind_eq_some_iff.mp H
  obtain ⟨t469, A30, H⟩ := H
  (try dsimp only at H)
  have A3 := Aside0.mk A30
  clear A30
  by_cases c4 : t469 < 0
  · rw [if_pos c4] at H
    have c4b0 : decide (t469 < 0) = true := decide_eq_true c4
    clear c4
    obtain rfl := Option.some.inj H
    go_enter Try.func8, Try.ntmps8
    go_wp2_with (first | ((with_reducible refine gate_callee (f := 19) rfl ?_); refine goesL_ (some 15) rfl rfl Try.func19 (by kernel_rfl) rfl #[.slice A0 l0.length c0, .int .i64 1048576] rfl (by (try simp only [List.map_toArray, List.map_cons, List.map_nil]); first | done | rfl | (simp only [List.length_drop, List.length_take]; rfl)) ?_; (with_reducible refine (laws_szEntryS.calls _ _ l0 1048576 t469 _ ?side1 ?side2 A3.out).mono ?_); (case side1 => repeat (first | exact HR0.out | (with_reducible refine Kd.C_alloc ?_ _) | (with_reducible refine Kd.C_drewN ?_ _) | (with_reducible refine Kd.C_drew ?_))); (case side2 => exact HC0.out); rintro e w' ⟨rfl, ⟨nd, rfl⟩⟩; refine ⟨_, rfl, ?_⟩))
    go_ret
    exact ⟨by first | rfl | (simp [errW_none, errW_some] <;> rfl) | (simp [*, errW_none, errW_some] <;> rfl), oB HB⟩
  · rw [if_neg c4] at H
    have c4b0 : decide (t469 < 0) = false := decide_eq_false c4
    clear c4
    replace H := Option.bind_eq_some_iff.mp H
    obtain ⟨t470, A50, H⟩ := H
    (try dsimp only at H)
    have A5 := Aside0.mk A50
    clear A50
    replace H := Option.bind_eq_some_iff.mp H
    obtain ⟨t473, A60, H⟩ := H
    (try dsimp only at H)
    have A6 := Aside0.mk A60
    clear A60
    replace H := Option.bind_eq_some_iff.mp H
    obtain ⟨t476, A70, H⟩ := H
    (try dsimp only at H)
    have A7 := Aside0.mk A70
    clear A70
    replace H := Option.bind_eq_some_iff.mp H
    obtain ⟨t479, A80, H⟩ := H
    (try dsimp only at H)
    have A8 := Aside0.mk A80
    clear A80
    replace H := Option.bind_eq_some_iff.mp H
    obtain ⟨t482, A90, H⟩ := H
    (try dsimp only at H)
    have A9 := Aside0.mk A90
    clear A90
    by_cases c10 : t482 = true
    · subst c10
      rw [if_pos rfl] at H
      replace H := Option.bind_eq_some_iff.mp H
      obtain ⟨t483, A110, H⟩ := H
      (try dsimp only at H)
      have A11 := Aside0.mk A110
      clear A110
      replace H := Option.bind_eq_some_iff.mp H
      obtain ⟨t486, A120, H⟩ := H
      (try dsimp only at H)
      have A12 := Aside0.mk A120
      clear A120
      by_cases c13 : t486 = true
      · subst c13
        rw [if_pos rfl] at H
        replace H := Option.bind_eq_some_iff.mp H
        obtain ⟨⟨t487, t488⟩, A140, H⟩ := H
        (try dsimp only at H)
        have A14 := Aside0.mk A140
        clear A140
        have HC15 := Aside0.mk H
        clear H
        go_enter Try.func8, Try.ntmps8
        go_upto_region 14 with (first | ((with_reducible refine gate_callee (f := 19) rfl ?_); refine goesL_ (some 15) rfl rfl Try.func19 (by kernel_rfl) rfl #[.slice A0 l0.length c0, .int .i64 1048576] rfl (by (try simp only [List.map_toArray, List.map_cons, List.map_nil]); first | done | rfl | (simp only [List.length_drop, List.length_take]; rfl)) ?_; (with_reducible refine (laws_szEntryS.calls _ _ l0 1048576 t469 _ ?side1 ?side2 A3.out).mono ?_); (case side1 => repeat (first | exact HR0.out | (with_reducible refine Kd.C_alloc ?_ _) | (with_reducible refine Kd.C_drewN ?_ _) | (with_reducible refine Kd.C_drew ?_))); (case side2 => exact HC0.out); rintro e w' ⟨rfl, ⟨nd, rfl⟩⟩; refine ⟨_, rfl, ?_⟩) | ((with_reducible refine gate_callee (f := 21) rfl ?_); refine goesL_ (some 19) rfl rfl Try.func21 (by kernel_rfl) rfl #[.slice A0 l0.length c0] rfl (by (try simp only [List.map_toArray, List.map_cons, List.map_nil]); first | done | rfl | (simp only [List.length_drop, List.length_take]; rfl)) ?_; (with_reducible refine (laws_toEntryS.calls k _ _ l0 t470 _ ?side1 ?side2 A5.out).mono ?_); (case side1 => repeat (first | exact HR0.out | (with_reducible refine Kd.C_alloc ?_ _) | (with_reducible refine Kd.C_drewN ?_ _) | (with_reducible refine Kd.C_drew ?_))); (case side2 => exact HC0.out); rintro e w16 ⟨v471, rfl, ho0, hb⟩; refine ⟨_, rfl, ?_⟩; have n0_ := Aside0.mk (Kd.R_lower ho0 (below_size (oB HB))); have n1_ := Aside0.mk (below_step (oB HB) hb); clear HB; have HO472 := n0_; have HB := n1_; clear n0_ n1_; (try clear hb); (try clear hb2); (try clear hk); (try clear hi); (try clear ho0); obtain ⟨Ao17, co17, eo17⟩ := Kd.R_slice HO472.out; subst eo17) | ((with_reducible refine gate_callee (f := 32) rfl ?_); refine goesL_ (some 21) rfl rfl Try.func32 (by kernel_rfl) rfl #[.slice Ao17 t470.length co17, .int .i64 a1] rfl (by (try simp only [List.map_toArray, List.map_cons, List.map_nil]); first | done | rfl | (simp only [List.length_drop, List.length_take]; rfl)) ?_; (with_reducible refine (spec_FaultyPipes.calls k _ _ t470 a1 t473 _ ?side1 ?side2 A6.out).mono ?_); (case side1 => repeat (first | exact (Kd.R_reads' HO472.out).2.2 | (with_reducible refine Kd.C_alloc ?_ _) | (with_reducible refine Kd.C_drewN ?_ _) | (with_reducible refine Kd.C_drew ?_))); (case side2 => exact (Kd.R_reads' HO472.out).2.1); rintro e w18 ⟨v474, rfl, ho0, hb⟩; refine ⟨_, rfl, ?_⟩; have n0_ := Aside0.mk (Kd.R_below (oR HO472) hb); have n1_ := Aside0.mk (Kd.R_lower ho0 (below_size (oB HB))); have n2_ := Aside0.mk (below_step (oB HB) hb); clear HO472; clear HB; have HO472 := n0_; have HO475 := n1_; have HB := n2_; clear n0_ n1_ n2_; (try clear hb); (try clear hb2); (try clear hk); (try clear hi); (try clear ho0)) | ((with_reducible refine gate_callee (f := 21) rfl ?_); refine goesL_ (some 23) rfl rfl Try.func21 (by kernel_rfl) rfl #[.slice A0 l0.length c0] rfl (by (try simp only [List.map_toArray, List.map_cons, List.map_nil]); first | done | rfl | (simp only [List.length_drop, List.length_take]; rfl)) ?_; (with_reducible refine (laws_toEntryS.calls k _ _ l0 t476 _ ?side1 ?side2 A7.out).mono ?_); (case side1 => exact oc_ HR0.out); (case side2 => exact HC0.out); rintro e w19 ⟨v477, rfl, ho0, hb⟩; refine ⟨_, rfl, ?_⟩; have n0_ := Aside0.mk (Kd.R_elder' (oR HO472) (Kd.R_base ho0) hb); have n1_ := Aside0.mk (Kd.R_below (oR HO475) hb); have n2_ := Aside0.mk (Kd.R_lower (Kd.R_new' ho0 (Kd.R_lt (oR HO472))) (below_size (oB HB))); have n3_ := Aside0.mk (below_step (oB HB) hb); clear HO472; clear HO475; clear HB; have HO472 := n0_; have HO475 := n1_; have HO478 := n2_; have HB := n3_; clear n0_ n1_ n2_ n3_; (try clear hb); (try clear hb2); (try clear hk); (try clear hi); (try clear ho0); obtain ⟨Ao20, co20, eo20⟩ := Kd.R_slice HO478.out; subst eo20) | ((with_reducible refine gate_callee (f := 17) rfl ?_); refine goesL_ (some 26) rfl rfl Try.func17 (by kernel_rfl) rfl #[.slice Ao20 t476.length co20, .int .i64 a1] rfl (by (try simp only [List.map_toArray, List.map_cons, List.map_nil]); first | done | rfl | (simp only [List.length_drop, List.length_take]; rfl)) ?_; (with_reducible refine (impl_FaultyPipes.calls _ _ t476 a1 t479 _ ?side1 ?side2 A8.out).mono ?_); (case side1 => repeat (first | exact (Kd.R_reads' HO478.out).2.2 | (with_reducible refine Kd.C_alloc ?_ _) | (with_reducible refine Kd.C_drewN ?_ _) | (with_reducible refine Kd.C_drew ?_))); (case side2 => exact (Kd.R_reads' HO478.out).2.1); rintro e w21 ⟨v480, rfl, ho0, hb⟩; refine ⟨_, rfl, ?_⟩; have n0_ := Aside0.mk (Kd.R_below (oR HO472) hb); have n1_ := Aside0.mk (Kd.R_elder' (oR HO475) (Kd.R_base ho0) hb); have n2_ := Aside0.mk (Kd.R_below (oR HO478) hb); have n3_ := Aside0.mk (Kd.R_lower (Kd.R_new' ho0 (Kd.R_lt (oR HO475))) (below_size (oB HB))); have n4_ := Aside0.mk (below_step (oB HB) hb); clear HO472; clear HO475; clear HO478; clear HB; have HO472 := n0_; have HO475 := n1_; have HO478 := n2_; have HO481 := n3_; have HB := n4_; clear n0_ n1_ n2_ n3_ n4_; (try clear hb); (try clear hb2); (try clear hk); (try clear hi); (try clear ho0); obtain ⟨Ao22, co22, eo22⟩ := Kd.R_slice HO481.out; subst eo22; obtain ⟨Ao23, co23, eo23⟩ := Kd.R_slice HO475.out; subst eo23) | ((with_reducible refine gate_callee (f := 33) rfl ?_); refine goesL_ (some 29) rfl rfl Try.func33 (by kernel_rfl) rfl #[.slice Ao22 t479.length co22, .slice Ao23 t473.length co23] rfl (by (try simp only [List.map_toArray, List.map_cons, List.map_nil]); first | done | rfl | (simp only [List.length_drop, List.length_take]; rfl)) ?_; (with_reducible refine (laws_eqPipeS.calls k _ _ t479 _ _ t473 true _ ?side1 ?side2 ?side3 ?side4 A9.out).mono ?_); (case side1 => repeat (first | exact (Kd.R_reads' HO481.out).2.2 | (with_reducible refine Kd.C_alloc ?_ _) | (with_reducible refine Kd.C_drewN ?_ _) | (with_reducible refine Kd.C_drew ?_))); (case side2 => exact (Kd.R_reads' HO481.out).2.1); (case side3 => repeat (first | exact (Kd.R_reads' HO475.out).2.2 | (with_reducible refine Kd.C_alloc ?_ _) | (with_reducible refine Kd.C_drewN ?_ _) | (with_reducible refine Kd.C_drew ?_))); (case side4 => exact (Kd.R_reads' HO475.out).2.1); rintro e w24 ⟨rfl, hb⟩; refine ⟨_, rfl, ?_⟩; have n0_ := Aside0.mk (Kd.R_below (oR HO472) hb); have n1_ := Aside0.mk (Kd.R_below (oR HO475) hb); have n2_ := Aside0.mk (Kd.R_below (oR HO478) hb); have n3_ := Aside0.mk (Kd.R_below (oR HO481) hb); have n4_ := Aside0.mk (below_step (oB HB) hb); clear HO472; clear HO475; clear HO478; clear HO481; clear HB; have HO472 := n0_; have HO475 := n1_; have HO478 := n2_; have HO481 := n3_; have HB := n4_; clear n0_ n1_ n2_ n3_ n4_; (try clear hb); (try clear hb2); (try clear hk); (try clear hi)) | ((with_reducible refine gate_callee (f := 21) rfl ?_); refine goesL_ (some 33) rfl rfl Try.func21 (by kernel_rfl) rfl #[.slice A0 l0.length c0] rfl (by (try simp only [List.map_toArray, List.map_cons, List.map_nil]); first | done | rfl | (simp only [List.length_drop, List.length_take]; rfl)) ?_; (with_reducible refine (laws_toEntryS.calls k _ _ l0 t483 _ ?side1 ?side2 A11.out).mono ?_); (case side1 => exact oc_ HR0.out); (case side2 => exact HC0.out); rintro e w25 ⟨v484, rfl, ho0, hb⟩; refine ⟨_, rfl, ?_⟩; have n0_ := Aside0.mk (Kd.R_elder' (oR HO472) (Kd.R_base ho0) hb); have n1_ := Aside0.mk (Kd.R_below (oR HO475) hb); have n2_ := Aside0.mk (Kd.R_elder' (oR HO478) (Kd.R_base ho0) hb); have n3_ := Aside0.mk (Kd.R_below (oR HO481) hb); have n4_ := Aside0.mk (Kd.R_lower (Kd.R_new' (Kd.R_new' ho0 (Kd.R_lt (oR HO472))) (Kd.R_lt (oR HO478))) (below_size (oB HB))); have n5_ := Aside0.mk (below_step (oB HB) hb); clear HO472; clear HO475; clear HO478; clear HO481; clear HB; have HO472 := n0_; have HO475 := n1_; have HO478 := n2_; have HO481 := n3_; have HO485 := n4_; have HB := n5_; clear n0_ n1_ n2_ n3_ n4_ n5_; (try clear hb); (try clear hb2); (try clear hk); (try clear hi); (try clear ho0); obtain ⟨Ao26, co26, eo26⟩ := Kd.R_slice HO485.out; subst eo26) | ((with_reducible refine gate_callee (f := 23) rfl ?_); refine goesL_ (some 34) rfl rfl Try.func23 (by kernel_rfl) rfl #[.slice Ao20 t476.length co20, .slice Ao26 t483.length co26] rfl (by (try simp only [List.map_toArray, List.map_cons, List.map_nil]); first | done | rfl | (simp only [List.length_drop, List.length_take]; rfl)) ?_; (with_reducible refine (laws_eqEntryS.calls k _ _ t476 _ _ t483 true _ ?side1 ?side2 ?side3 ?side4 A12.out).mono ?_); (case side1 => repeat (first | exact (Kd.R_reads' HO478.out).2.2 | (with_reducible refine Kd.C_alloc ?_ _) | (with_reducible refine Kd.C_drewN ?_ _) | (with_reducible refine Kd.C_drew ?_))); (case side2 => exact (Kd.R_reads' HO478.out).2.1); (case side3 => repeat (first | exact (Kd.R_reads' HO485.out).2.2 | (with_reducible refine Kd.C_alloc ?_ _) | (with_reducible refine Kd.C_drewN ?_ _) | (with_reducible refine Kd.C_drew ?_))); (case side4 => exact (Kd.R_reads' HO485.out).2.1); rintro e w27 ⟨rfl, hb⟩; refine ⟨_, rfl, ?_⟩; have n0_ := Aside0.mk (Kd.R_below (oR HO472) hb); have n1_ := Aside0.mk (Kd.R_below (oR HO475) hb); have n2_ := Aside0.mk (Kd.R_below (oR HO478) hb); have n3_ := Aside0.mk (Kd.R_below (oR HO481) hb); have n4_ := Aside0.mk (Kd.R_below (oR HO485) hb); have n5_ := Aside0.mk (below_step (oB HB) hb); clear HO472; clear HO475; clear HO478; clear HO481; clear HO485; clear HB; have HO472 := n0_; have HO475 := n1_; have HO478 := n2_; have HO481 := n3_; have HO485 := n4_; have HB := n5_; clear n0_ n1_ n2_ n3_ n4_ n5_; (try clear hb); (try clear hb2); (try clear hk); (try clear hi)) | ((with_reducible refine gate_callee (f := 30) rfl ?_); refine goesL_ (some 38) rfl rfl Try.func30 (by kernel_rfl) rfl #[.slice Ao20 t476.length co20, .int .i64 1] rfl (by (try simp only [List.map_toArray, List.map_cons, List.map_nil]); first | done | rfl | (simp only [List.length_drop, List.length_take]; rfl)) ?_; (with_reducible refine (laws_markEntryS.calls k (fun k_ => some k_ = (.slice Ao20 t476.length co20 : Value).ownBlock) (.slice Ao20 t476.length co20) t476 1 t487 t488 w _ ?side1 ?side2 A14.out).mono ?_); (case side1 => repeat (first | (with_reducible first | exact HB.out | apply below_alloc | apply pw_below_drewN | apply below_drew1) | exact HB.out)); (case side2 => exact Kd.R_tight rfl HO478.out); rintro e w28 ⟨rfl, hy0, hb, hkp⟩; refine ⟨_, rfl, ?_⟩; have n0_ := Aside0.mk (Kd.R_mono (ok' := fun k_ => some k_ ≠ (.slice Ao20 t476.length co20 : Value).ownBlock ∧ some k_ ≠ (.slice Ao26 t483.length co26 : Value).ownBlock) (Kd.R_keptB (HO472.out) hkp (fun k_ hk_ hs_ => (hk_.1.2) hs_)) (fun k_ hk_ => ⟨hk_.1.1.2, hk_.1.2⟩)); have n1_ := Aside0.mk (Kd.R_mono (ok' := fun k_ => some k_ ≠ (.slice Ao22 t479.length co22 : Value).ownBlock) (Kd.R_keptB ((Kd.R_apart' HO475.out (Kd.R_typed HO478.out) (by decide))) hkp (fun k_ hk_ hs_ => (hk_.2) hs_)) (fun k_ hk_ => hk_.1.1.2)); have n2_ := Aside0.mk (Kd.R_reok rfl hy0 (fun k_ e_ => HO478.out.1 k_ e_)); have n3_ := Aside0.mk (Kd.R_mono (ok' := fun k_ => some k_ ≠ (.slice Ao23 t473.length co23 : Value).ownBlock) (Kd.R_keptB ((Kd.R_apart' HO481.out (Kd.R_typed HO478.out) (by decide))) hkp (fun k_ hk_ hs_ => (hk_.2) hs_)) (fun k_ hk_ => hk_.1.1.2)); have n4_ := Aside0.mk (Kd.R_mono (ok' := fun k_ => some k_ ≠ (.slice Ao17 t470.length co17 : Value).ownBlock ∧ some k_ ≠ (.slice Ao20 t476.length co20 : Value).ownBlock) (Kd.R_keptB (HO485.out) hkp (fun k_ hk_ hs_ => (hk_.2) hs_)) (fun k_ hk_ => ⟨hk_.1.1.2, hk_.1.2⟩)); have n5_ := Aside0.mk (hb); clear HO472; clear HO475; clear HO478; clear HO481; clear HO485; clear HB; have HO472 := n0_; have HO475 := n1_; have HO478 := n2_; have HO481 := n3_; have HO485 := n4_; have HB := n5_; clear n0_ n1_ n2_ n3_ n4_ n5_; (try clear hb); (try clear hkp); (try clear hy0)))
        (try simp only [Act.put, List.setIfInBounds_toArray, List.set_cons_zero, List.set_cons_succ])
        go_cut [46] (fun v46 wc => ∃ (kq : Nat) (x46_14 : Bool), v46 = .bool x46_14 ∧ Aside0 (laws_FnExactFaultyPipes.j0 kq l0 a1 t473 t479 x46_14 = some r) ∧ Aside0 (kq ≤ k) ∧ Aside0 (Kd.R k31 31 wc w.heap.size (fun k_ => some k_ ≠ ((.slice Ao22 t479.length co22) : Value).ownBlock) (.slice Ao23 t473.length co23) t473) ∧ Aside0 (Kd.R k31 31 wc w.heap.size (fun k_ => some k_ ≠ ((.slice Ao23 t473.length co23) : Value).ownBlock) (.slice Ao22 t479.length co22) t479) ∧ Aside0 (Below w.heap.size w wc))
        case first =>
          have H := HC15.out
          clear HC15
          by_cases c29 : t487 < 0
          · rw [if_pos c29] at H
            have c29b0 : decide (t487 < 0) = true := decide_eq_true c29
            clear c29
            (first | rw [c29b0] | (simp only [i64_w, i32_w]; rw [c29b0]) | skip)
            have H' := Aside0.mk H
            clear H
            go_wp2
            go_meet
            case rel => exact ⟨_, (true), (by first | rfl | (simp; done) | (simp [*]; done)), H', ⟨by first | omega | exact Nat.le_refl _⟩, ⟨oR HO475⟩, ⟨oR HO481⟩, ⟨oB HB⟩⟩
          · rw [if_neg c29] at H
            have c29b0 : decide (t487 < 0) = false := decide_eq_false c29
            clear c29
            (first | rw [c29b0] | (simp only [i64_w, i32_w]; rw [c29b0]) | skip)
            replace H := Option.bind_eq_some_iff.mp H
            obtain ⟨t489, A300, H⟩ := H
            (try dsimp only at H)
            have A30 := Aside0.mk A300
            clear A300
            have H' := Aside0.mk H
            clear H
            go_wp2_with (first | (go_at_call 33; (with_reducible refine (laws_eqPipeS.calls k _ _ t479 _ _ t473 t489 _ ?side1 ?side2 ?side3 ?side4 A30.out).mono ?_); (case side1 => repeat (first | exact (Kd.R_reads' HO481.out).2.2 | (with_reducible refine Kd.C_alloc ?_ _) | (with_reducible refine Kd.C_drewN ?_ _) | (with_reducible refine Kd.C_drew ?_))); (case side2 => exact (Kd.R_reads' HO481.out).2.1); (case side3 => repeat (first | exact (Kd.R_reads' HO475.out).2.2 | (with_reducible refine Kd.C_alloc ?_ _) | (with_reducible refine Kd.C_drewN ?_ _) | (with_reducible refine Kd.C_drew ?_))); (case side4 => exact (Kd.R_reads' HO475.out).2.1); rintro e w31 ⟨rfl, hb⟩; have n0_ := Aside0.mk (Kd.R_below (oR HO472) hb); have n1_ := Aside0.mk (Kd.R_below (oR HO475) hb); have n2_ := Aside0.mk (Kd.R_below (oR HO478) hb); have n3_ := Aside0.mk (Kd.R_below (oR HO481) hb); have n4_ := Aside0.mk (Kd.R_below (oR HO485) hb); have n5_ := Aside0.mk (below_step (oB HB) hb); clear HO472; clear HO475; clear HO478; clear HO481; clear HO485; clear HB; have HO472 := n0_; have HO475 := n1_; have HO478 := n2_; have HO481 := n3_; have HO485 := n4_; have HB := n5_; clear n0_ n1_ n2_ n3_ n4_ n5_; (try clear hb); (try clear hb2); (try clear hk); (try clear hi)))
            go_meet
            case rel => exact ⟨_, (!t489), (by first | rfl | (simp; done) | (simp [*]; done)), H', ⟨by first | omega | exact Nat.le_refl _⟩, ⟨oR HO475⟩, ⟨oR HO481⟩, ⟨oB HB⟩⟩
        case rest =>
          clear HC15
          try clear c1
          try clear c2
          try clear p2
          try clear c3
          try clear c4
          try clear c4b0
          try clear c8
          try clear c10
          try clear c13
          try clear c17
          try clear c19
          try clear c21
          try clear c23
          try clear c29
          try clear c29b0
          try clear c30
          obtain ⟨kq, x46_14, rfl, HA, HJ14, HO_6, HO_8, HB⟩ := hcut
          cases kq with
          | zero => exact absurd HA.out (by simp [laws_FnExactFaultyPipes.j0])
          | succ kj14 =>
            have H := HA.out
            clear HA
            simp only [laws_FnExactFaultyPipes.j0] at H
            by_cases c32 : x46_14 = true
            · subst c32
              rw [if_pos rfl] at H
              exact absurd ((Option.some.inj H).trans hrt_.out) (by decide)
            · replace c32 := Bool.eq_false_iff.mpr c32
              subst c32
              rw [if_neg (show ¬ (false = true) by decide)] at H
              replace H := Option.bind_eq_some_iff.mp H
              obtain ⟨⟨t490, t491⟩, A330, H⟩ := H
              (try dsimp only at H)
              have A33 := Aside0.mk A330
              clear A330
              replace H := Option.bind_eq_some_iff.mp H
              obtain ⟨t492, A340, H⟩ := H
              (try dsimp only at H)
              have A34 := Aside0.mk A340
              clear A340
              by_cases c35 : t492 < 0
              · rw [if_pos c35] at H
                have c35b0 : decide (t492 < 0) = true := decide_eq_true c35
                clear c35
                exact absurd ((Option.some.inj H).trans hrt_.out) (by decide)
              · rw [if_neg c35] at H
                have c35b0 : decide (t492 < 0) = false := decide_eq_false c35
                clear c35
                by_cases c36 : t492 = t490
                · rw [if_pos c36] at H
                  have c36b0 : (t492 == t490) = true := beq_iff_eq.mpr c36
                  have c36b1 : (t492 != t490) = false := bne_eq_false_iff_eq.mpr c36
                  clear c36
                  replace H := Option.bind_eq_some_iff.mp H
                  obtain ⟨t493, A370, H⟩ := H
                  (try dsimp only at H)
                  have A37 := Aside0.mk A370
                  clear A370
                  replace H := Option.bind_eq_some_iff.mp H
                  obtain ⟨t496, A380, H⟩ := H
                  (try dsimp only at H)
                  have A38 := Aside0.mk A380
                  clear A380
                  replace H := Option.bind_eq_some_iff.mp H
                  obtain ⟨t499, A390, H⟩ := H
                  (try dsimp only at H)
                  have A39 := Aside0.mk A390
                  clear A390
                  by_cases c40 : t499 = true
                  · subst c40
                    rw [if_pos rfl] at H
                    replace H := Option.bind_eq_some_iff.mp H
                    obtain ⟨t500, A410, H⟩ := H
                    (try dsimp only at H)
                    have A41 := Aside0.mk A410
                    clear A410
                    by_cases c42 : t500 < 0
                    · rw [if_pos c42] at H
                      have c42b0 : decide (t500 < 0) = true := decide_eq_true c42
                      clear c42
                      exact absurd ((Option.some.inj H).trans hrt_.out) (by decide)
                    · rw [if_neg c42] at H
                      have c42b0 : decide (t500 < 0) = false := decide_eq_false c42
                      clear c42
                      by_cases c43 : t500 = t490
                      · rw [if_pos c43] at H
                        have c43b0 : (t500 == t490) = true := beq_iff_eq.mpr c43
                        have c43b1 : (t500 != t490) = false := bne_eq_false_iff_eq.mpr c43
                        clear c43
                        obtain rfl := Option.some.inj H
                        go_wp2_with (first | ((with_reducible refine gate_callee (f := 34) rfl ?_); refine goesL_ (some 49) rfl rfl Try.func34 (by kernel_rfl) rfl #[.slice Ao22 t479.length co22, .int .i64 1] rfl (by (try simp only [List.map_toArray, List.map_cons, List.map_nil]); first | done | rfl | (simp only [List.length_drop, List.length_take]; rfl)) ?_; (with_reducible refine (laws_markPipeS.calls kj14 (fun k_ => some k_ = (.slice Ao22 t479.length co22 : Value).ownBlock) (.slice Ao22 t479.length co22) t479 1 t490 t491 w _ ?side1 ?side2 A33.out).mono ?_); (case side1 => repeat (first | (with_reducible first | exact HB.out | apply below_alloc | apply pw_below_drewN | apply below_drew1) | exact HB.out)); (case side2 => exact Kd.R_tight rfl HO_8.out); rintro e w44 ⟨rfl, hy0, hb, hkp⟩; refine ⟨_, rfl, ?_⟩; have n0_ := Aside0.mk (Kd.R_mono (ok' := fun k_ => some k_ ≠ (.slice Ao22 t479.length co22 : Value).ownBlock) (Kd.R_keptB (HO_6.out) hkp (fun k_ hk_ hs_ => (hk_) hs_)) (fun k_ hk_ => hk_.1)); have n1_ := Aside0.mk (Kd.R_reok rfl hy0 (fun k_ e_ => HO_8.out.1 k_ e_)); have n2_ := Aside0.mk (hb); clear HO_6; clear HO_8; clear HB; have HO_6 := n0_; have HO_8 := n1_; have HB := n2_; clear n0_ n1_ n2_; (try clear hb); (try clear hkp); (try clear hy0)) | ((with_reducible refine gate_callee (f := 35) rfl ?_); refine goesL_ (some 52) rfl rfl Try.func35 (by kernel_rfl) rfl #[.slice Ao22 t491.length co22, .int .i64 1] rfl (by (try simp only [List.map_toArray, List.map_cons, List.map_nil]); first | done | (rw [show t491.length = t479.length from (Kd.R_reads' HO_8.out).1.symm] <;> rfl) | rfl | (simp only [List.length_drop, List.length_take]; rfl)) ?_; (with_reducible refine (laws_heldPipeS.calls kj14 _ _ t491 1 t492 _ ?side1 ?side2 A34.out).mono ?_); (case side1 => repeat (first | exact (Kd.R_reads' HO_8.out).2.2 | (with_reducible refine Kd.C_alloc ?_ _) | (with_reducible refine Kd.C_drewN ?_ _) | (with_reducible refine Kd.C_drew ?_))); (case side2 => rw [show t491.length = t479.length from (Kd.R_reads' HO_8.out).1.symm]; exact (Kd.R_reads' HO_8.out).2.1); rintro e w' ⟨rfl, ⟨nd, rfl⟩⟩; refine ⟨_, rfl, ?_⟩) | ((with_reducible refine gate_callee (f := 21) rfl ?_); refine goesL_ (some 59) rfl rfl Try.func21 (by kernel_rfl) rfl #[.slice A0 l0.length c0] rfl (by (try simp only [List.map_toArray, List.map_cons, List.map_nil]); first | done | rfl | (simp only [List.length_drop, List.length_take]; rfl)) ?_; (with_reducible refine (laws_toEntryS.calls kj14 _ _ l0 t493 _ ?side1 ?side2 A37.out).mono ?_); (case side1 => repeat (first | exact (Kd.C_below HR0.out (oB HB)) | (with_reducible refine Kd.C_alloc ?_ _) | (with_reducible refine Kd.C_drewN ?_ _) | (with_reducible refine Kd.C_drew ?_))); (case side2 => exact HC0.out); rintro e w45 ⟨v494, rfl, ho0, hb⟩; refine ⟨_, rfl, ?_⟩; have n0_ := Aside0.mk (Kd.R_below (oR HO_6) hb); have n1_ := Aside0.mk (Kd.R_below (oR HO_8) hb); have n2_ := Aside0.mk (Kd.R_lower ho0 (below_size (oB HB))); have n3_ := Aside0.mk (below_step (oB HB) hb); clear HO_6; clear HO_8; clear HB; have HO_6 := n0_; have HO_8 := n1_; have HO495 := n2_; have HB := n3_; clear n0_ n1_ n2_ n3_; (try clear hb); (try clear hb2); (try clear hk); (try clear hi); (try clear ho0); obtain ⟨Ao46, co46, eo46⟩ := Kd.R_slice HO495.out; subst eo46) | ((with_reducible refine gate_callee (f := 17) rfl ?_); refine goesL_ (some 61) rfl rfl Try.func17 (by kernel_rfl) rfl #[.slice Ao46 t493.length co46, .int .i64 a1] rfl (by (try simp only [List.map_toArray, List.map_cons, List.map_nil]); first | done | rfl | (simp only [List.length_drop, List.length_take]; rfl)) ?_; (with_reducible refine (impl_FaultyPipes.calls _ _ t493 a1 t496 _ ?side1 ?side2 A38.out).mono ?_); (case side1 => repeat (first | exact (Kd.R_reads' HO495.out).2.2 | (with_reducible refine Kd.C_alloc ?_ _) | (with_reducible refine Kd.C_drewN ?_ _) | (with_reducible refine Kd.C_drew ?_))); (case side2 => exact (Kd.R_reads' HO495.out).2.1); rintro e w47 ⟨v497, rfl, ho0, hb⟩; refine ⟨_, rfl, ?_⟩; have n0_ := Aside0.mk (Kd.R_elder' (oR HO_6) (Kd.R_base ho0) hb); have n1_ := Aside0.mk (Kd.R_elder' (oR HO_8) (Kd.R_base ho0) hb); have n2_ := Aside0.mk (Kd.R_below (oR HO495) hb); have n3_ := Aside0.mk (Kd.R_lower (Kd.R_new' (Kd.R_new' ho0 (Kd.R_lt (oR HO_6))) (Kd.R_lt (oR HO_8))) (below_size (oB HB))); have n4_ := Aside0.mk (below_step (oB HB) hb); clear HO_6; clear HO_8; clear HO495; clear HB; have HO_6 := n0_; have HO_8 := n1_; have HO495 := n2_; have HO498 := n3_; have HB := n4_; clear n0_ n1_ n2_ n3_ n4_; (try clear hb); (try clear hb2); (try clear hk); (try clear hi); (try clear ho0); obtain ⟨Ao48, co48, eo48⟩ := Kd.R_slice HO498.out; subst eo48) | ((with_reducible refine gate_callee (f := 33) rfl ?_); refine goesL_ (some 64) rfl rfl Try.func33 (by kernel_rfl) rfl #[.slice Ao48 t496.length co48, .slice Ao23 t473.length co23] rfl (by (try simp only [List.map_toArray, List.map_cons, List.map_nil]); first | done | rfl | (simp only [List.length_drop, List.length_take]; rfl)) ?_; (with_reducible refine (laws_eqPipeS.calls kj14 _ _ t496 _ _ t473 true _ ?side1 ?side2 ?side3 ?side4 A39.out).mono ?_); (case side1 => repeat (first | exact (Kd.R_reads' HO498.out).2.2 | (with_reducible refine Kd.C_alloc ?_ _) | (with_reducible refine Kd.C_drewN ?_ _) | (with_reducible refine Kd.C_drew ?_))); (case side2 => exact (Kd.R_reads' HO498.out).2.1); (case side3 => repeat (first | exact (Kd.R_reads' HO_6.out).2.2 | (with_reducible refine Kd.C_alloc ?_ _) | (with_reducible refine Kd.C_drewN ?_ _) | (with_reducible refine Kd.C_drew ?_))); (case side4 => exact (Kd.R_reads' HO_6.out).2.1); rintro e w49 ⟨rfl, hb⟩; refine ⟨_, rfl, ?_⟩; have n0_ := Aside0.mk (Kd.R_below (oR HO_6) hb); have n1_ := Aside0.mk (Kd.R_below (oR HO_8) hb); have n2_ := Aside0.mk (Kd.R_below (oR HO495) hb); have n3_ := Aside0.mk (Kd.R_below (oR HO498) hb); have n4_ := Aside0.mk (below_step (oB HB) hb); clear HO_6; clear HO_8; clear HO495; clear HO498; clear HB; have HO_6 := n0_; have HO_8 := n1_; have HO495 := n2_; have HO498 := n3_; have HB := n4_; clear n0_ n1_ n2_ n3_ n4_; (try clear hb); (try clear hb2); (try clear hk); (try clear hi)) | ((with_reducible refine gate_callee (f := 35) rfl ?_); refine goesL_ (some 68) rfl rfl Try.func35 (by kernel_rfl) rfl #[.slice Ao22 t491.length co22, .int .i64 1] rfl (by (try simp only [List.map_toArray, List.map_cons, List.map_nil]); first | done | (rw [show t491.length = t479.length from (Kd.R_reads' HO_8.out).1.symm] <;> rfl) | rfl | (simp only [List.length_drop, List.length_take]; rfl)) ?_; (with_reducible refine (laws_heldPipeS.calls kj14 _ _ t491 1 t500 _ ?side1 ?side2 A41.out).mono ?_); (case side1 => repeat (first | exact (Kd.R_reads' HO_8.out).2.2 | (with_reducible refine Kd.C_alloc ?_ _) | (with_reducible refine Kd.C_drewN ?_ _) | (with_reducible refine Kd.C_drew ?_))); (case side2 => rw [show t491.length = t479.length from (Kd.R_reads' HO_8.out).1.symm]; exact (Kd.R_reads' HO_8.out).2.1); rintro e w' ⟨rfl, ⟨nd, rfl⟩⟩; refine ⟨_, rfl, ?_⟩))
                        go_ret
                        exact ⟨by first | rfl | (simp [errW_none, errW_some] <;> rfl) | (simp [*, errW_none, errW_some] <;> rfl), oB HB⟩
                      · rw [if_neg c43] at H
                        have c43b0 : (t500 == t490) = false := beq_eq_false_iff_ne.mpr c43
                        have c43b1 : (t500 != t490) = true := bne_iff_ne.mpr c43
                        exact absurd ((Option.some.inj H).trans hrt_.out) (by decide)
                  · replace c40 := Bool.eq_false_iff.mpr c40
                    subst c40
                    rw [if_neg (show ¬ (false = true) by decide)] at H
                    exact absurd ((Option.some.inj H).trans hrt_.out) (by decide)
                · rw [if_neg c36] at H
                  have c36b0 : (t492 == t490) = false := beq_eq_false_iff_ne.mpr c36
                  have c36b1 : (t492 != t490) = true := bne_iff_ne.mpr c36
                  exact absurd ((Option.some.inj H).trans hrt_.out) (by decide)
      · replace c13 := Bool.eq_false_iff.mpr c13
        subst c13
        rw [if_neg (show ¬ (false = true) by decide)] at H
        exact absurd ((Option.some.inj H).trans hrt_.out) (by decide)
    · replace c10 := Bool.eq_false_iff.mpr c10
      subst c10
      rw [if_neg (show ¬ (false = true) by decide)] at H
      exact absurd ((Option.some.inj H).trans hrt_.out) (by decide)
end Go.Proofs.Ytnknnbpodpfljaa.P


namespace Go.Proofs.Ytnknnbpodpfljaa.Q
set_option linter.unusedVariables false
set_option linter.unusedSimpArgs false
open Go.RowKit Go.Proofs.Ytnknnbpodpfljaa.P Go.Proofs.YtnknnbpodpfljaaW.PrintWords Go.Proofs.YtnknnbpodpfljaaW.PrintMore
theorem faultOf_snoc (l : List S36) (x : S36) (p : S31) : faultOf (l ++ [x]) p = if p = x.f0 then x.f1 else faultOf l p := by
  unfold faultOf
  rw [lastMap_snoc]
  by_cases h : p = x.f0 <;> simp [h]
theorem pipe_eq {p q : S31} : p = q ↔ p.f0 = q.f0 ∧ p.f1 = q.f1 := by
  obtain ⟨a, b⟩ := p
  obtain ⟨c, d⟩ := q
  simp
theorem fault_spec (l : List S36) (a b : Int) (hl : l.length ≤ 1048577) : Ev (fun k => spec_FaultOf.f k l a b) (if logOk l = true then faultOf l ⟨a, b⟩ else 0) := by
  have HL := logOk_spec l hl
  by_cases h0 : logOk l = true
  rotate_left
  · rw [if_neg h0]
    replace h0 := Bool.eq_false_iff.mpr h0
    rw [h0] at HL
    unfold spec_FaultOf.f
    by_cases hz : l.length = 0
    · have : l = [] := List.length_eq_zero_iff.mp hz
      subst this
      exact absurd h0 (by decide)
    refine Ev.step (fun k => by rw [spec_FaultOf.l0]) (evp (by omega) (Ev.bind HL ?_))
    exact Ev.step (fun k => by rw [spec_FaultOf.j1]) (evn (by decide) (evs rfl))
  rw [if_pos h0]
  rw [h0] at HL
  have key : ∀ i, i ≤ l.length → Ev (fun k => spec_FaultOf.l0 k l (faultOf (l.take i) ⟨a, b⟩) (i : Int) a b) (faultOf l ⟨a, b⟩) := by
    refine down (n := l.length) ?_ ?_
    · refine Ev.step (fun k => by rw [spec_FaultOf.l0]) (evn (by omega) ?_)
      exact Ev.step (fun k => by rw [spec_FaultOf.j1]) (evn (by decide) (evs (by rw [List.take_length])))
    · intro i hi ih
      refine Ev.step (fun k => by rw [spec_FaultOf.l0]) (evp (by omega) (Ev.bind HL ?_))
      refine Ev.step (fun k => by rw [spec_FaultOf.j1]) (evp rfl (evp (by omega) (evp (by omega) ?_)))
      rw [rdE l i hi, w64 (n := (i : Int) + 1) (by omega) (by omega)]
      rw [List.take_succ_eq_append_getElem hi, faultOf_snoc] at ih
      by_cases he : (⟨a, b⟩ : S31) = l[i].f0
      · rw [if_pos he] at ih
        obtain ⟨e1, e2⟩ := pipe_eq.mp he
        simp only at e1 e2
        exact evp (by simp [← e1, ← e2]) ih
      · rw [if_neg he] at ih
        refine evn ?_ ih
        intro hh
        simp only [Bool.and_eq_true, beq_iff_eq] at hh
        exact he (pipe_eq.mpr ⟨hh.1.symm, hh.2.symm⟩)
  exact key 0 (Nat.zero_le _)
end Go.Proofs.Ytnknnbpodpfljaa.Q


namespace Go.Proofs.Ytnknnbpodpfljaa.Q
set_option linter.unusedVariables false
set_option linter.unusedSimpArgs false
open Go.RowKit Go.Proofs.Ytnknnbpodpfljaa.P Go.Proofs.YtnknnbpodpfljaaW.PrintWords Go.Proofs.YtnknnbpodpfljaaW.PrintMore
def lineF (l : List S36) (f r : Int) : Nat → List S31
  | 0 => []
  | m + 1 => (if faultOf l ⟨r, 39 - (m : Int)⟩ = f then [(⟨r, 39 - (m : Int)⟩ : S31)] else []) ++ lineF l f r m
def rowsF (l : List S36) (f : Int) : Nat → List S31
  | 0 => []
  | m + 1 => lineF l f (3 - (m : Int)) 40 ++ rowsF l f m
theorem mem_lineF (l : List S36) (f r : Int) (p : S31) : ∀ m : Nat, p ∈ lineF l f r m ↔ p.f0 = r ∧ 40 - (m : Int) ≤ p.f1 ∧ p.f1 < 40 ∧ faultOf l p = f
  | 0 => by simp [lineF]; omega
  | m + 1 => by
    unfold lineF
    rw [List.mem_append, mem_lineF l f r p m]
    by_cases h : faultOf l ⟨r, 39 - (m : Int)⟩ = f
    · rw [if_pos h, List.mem_singleton]
      constructor
      · rintro (rfl | ⟨h1, h2, h3, h4⟩)
        · exact ⟨rfl, by simp only; omega, by simp only; omega, h⟩
        · exact ⟨h1, by omega, h3, h4⟩
      · rintro ⟨h1, h2, h3, h4⟩
        by_cases he : p.f1 = 39 - (m : Int)
        · exact .inl (pipe_ext h1 he)
        · exact .inr ⟨h1, by omega, h3, h4⟩
    · rw [if_neg h]
      constructor
      · rintro (h0 | ⟨h1, h2, h3, h4⟩)
        · cases h0
        · exact ⟨h1, by omega, h3, h4⟩
      · rintro ⟨h1, h2, h3, h4⟩
        by_cases he : p.f1 = 39 - (m : Int)
        · have : p = ⟨r, 39 - (m : Int)⟩ := pipe_ext h1 he
          rw [this] at h4
          exact absurd h4 h
        · exact .inr ⟨h1, by omega, h3, h4⟩
theorem sorted_lineF (l : List S36) (f r : Int) : ∀ m : Nat, (lineF l f r m).Pairwise (fun a b => beforeP a b = true)
  | 0 => List.Pairwise.nil
  | m + 1 => by
    unfold lineF
    refine List.pairwise_append.2 ⟨by split <;> simp, sorted_lineF l f r m, fun a ha b hb => ?_⟩
    obtain ⟨h1, h2, h3, h4⟩ := (mem_lineF l f r b m).mp hb
    split at ha
    · rw [List.mem_singleton] at ha
      subst ha
      rw [beforeP_iff]
      simp only
      omega
    · cases ha
theorem lineF_len (l : List S36) (f r : Int) : ∀ m : Nat, (lineF l f r m).length ≤ m
  | 0 => Nat.le_refl _
  | m + 1 => by
    have := lineF_len l f r m
    unfold lineF
    rw [List.length_append]
    split <;> simp <;> omega
theorem mem_rowsF (l : List S36) (f : Int) (p : S31) : ∀ m : Nat, p ∈ rowsF l f m ↔ 4 - (m : Int) ≤ p.f0 ∧ p.f0 < 4 ∧ 0 ≤ p.f1 ∧ p.f1 < 40 ∧ faultOf l p = f
  | 0 => by simp [rowsF]; omega
  | m + 1 => by
    unfold rowsF
    rw [List.mem_append, mem_rowsF l f p m, mem_lineF]
    constructor
    · rintro (⟨h1, h2, h3, h4⟩ | ⟨h1, h2, h3, h4, h5⟩)
      · exact ⟨by omega, by omega, by omega, by omega, h4⟩
      · exact ⟨by omega, by omega, by omega, by omega, h5⟩
    · rintro ⟨h1, h2, h3, h4, h5⟩
      by_cases he : p.f0 = 3 - (m : Int)
      · exact .inl ⟨he, by omega, by omega, h5⟩
      · exact .inr ⟨by omega, by omega, by omega, by omega, h5⟩
theorem sorted_rowsF (l : List S36) (f : Int) : ∀ m : Nat, (rowsF l f m).Pairwise (fun a b => beforeP a b = true)
  | 0 => List.Pairwise.nil
  | m + 1 => by
    unfold rowsF
    refine List.pairwise_append.2 ⟨sorted_lineF _ _ _ _, sorted_rowsF l f m, fun a ha b hb => ?_⟩
    obtain ⟨h1, h2, h3, h4⟩ := (mem_lineF l f _ a 40).mp ha
    obtain ⟨g1, g2, g3, g4, g5⟩ := (mem_rowsF l f b m).mp hb
    rw [beforeP_iff]
    omega
theorem entOk_mem : ∀ (l : List S36) (p : Int), logGo p l = true → ∀ x ∈ l, 0 ≤ x.f0.f0 ∧ x.f0.f0 ≤ 3 ∧ 0 ≤ x.f0.f1 ∧ x.f0.f1 ≤ 39
  | [], _, _, x, hx => by cases hx
  | e :: r, p, h, x, hx => by
    simp only [logGo, Bool.and_eq_true] at h
    rcases List.mem_cons.1 hx with rfl | hx
    · have := h.1
      simp [entOk] at this
      omega
    · exact entOk_mem r _ h.2.2 x hx
theorem faultOf_mem {l : List S36} {p : S31} : faultOf l p ≠ 0 → ∃ e ∈ l, e.f0 = p := by
  intro h
  have key : ∀ (l : List S36), faultOf l p ≠ 0 → ∃ e ∈ l, e.f0 = p := by
    intro l
    obtain ⟨n, hn⟩ : ∃ n, l.length = n := ⟨_, rfl⟩
    induction n generalizing l with
    | zero =>
      intro h
      obtain rfl := List.length_eq_zero_iff.mp hn
      exact absurd rfl h
    | succ n ih =>
      intro h
      rcases List.eq_nil_or_concat l with rfl | ⟨r, x, rfl⟩
      · simp at hn
      · rw [List.concat_eq_append] at h hn ⊢
        rw [faultOf_snoc] at h
        by_cases hp : p = x.f0
        · exact ⟨x, by simp, hp.symm⟩
        · rw [if_neg hp] at h
          obtain ⟨e, he, h2⟩ := ih r (by simpa using hn) h
          exact ⟨e, by simp [he], h2⟩
  exact key l h
theorem pipesUp_eq (l : List S36) (f : Int) (hl : logOk l = true) (hf : f = 1 ∨ f = 2) : pipesUp l f = rowsF l f 4 := by
  refine sortedP_ext (sorted_pipesIn _) (sorted_rowsF l f 4) fun p => ?_
  show p ∈ pipesUp l f ↔ _
  rw [mem_pipesUp, mem_rowsF]
  have h2 : logGo 0 l = true := by simp [logOk] at hl; exact hl.1
  constructor
  · rintro ⟨⟨e, he, rfl⟩, h⟩
    have := entOk_mem l 0 h2 e he
    exact ⟨by omega, by omega, by omega, by omega, h⟩
  · rintro ⟨_, _, _, _, h⟩
    exact ⟨faultOf_mem (by omega), h⟩
theorem rowsF_len (l : List S36) (f : Int) : (rowsF l f 4).length ≤ 160 := by
  have h1 := fun r => lineF_len l f r 40
  have a := h1 (3 - ((3 : Nat) : Int))
  have b := h1 (3 - ((2 : Nat) : Int))
  have c := h1 (3 - ((1 : Nat) : Int))
  have d := h1 (3 - ((0 : Nat) : Int))
  simp only [rowsF, List.length_append, List.length_nil]
  omega
def faultyP (l : List S36) (f : Int) : List S31 := if logOk l = true ∧ (f = 1 ∨ f = 2) then pipesUp l f else []
theorem faultyP_len (l : List S36) (f : Int) : (faultyP l f).length ≤ 160 := by
  unfold faultyP
  split
  · rename_i h
    rw [pipesUp_eq l f h.1 h.2]
    exact rowsF_len l f
  · simp
theorem faulty_impl (l : List S36) (f : Int) (hl : l.length ≤ 1048577) : impl_FaultyPipes.f l f = some (faultyP l f) := by
  unfold impl_FaultyPipes.f
  rw [if_pos hl]
  rfl
theorem faulty_spec (l : List S36) (f : Int) (hl : l.length ≤ 1048577) : Ev (fun k => spec_FaultyPipes.f k l f) (faultyP l f) := by
  have HL := logOk_spec l hl
  unfold faultyP spec_FaultyPipes.f
  by_cases h0 : logOk l = true
  rotate_left
  · refine rneg (fun h => h0 h.1) ?_
    rw [Bool.eq_false_iff.mpr h0] at HL
    refine Ev.step (fun k => by rw [spec_FaultyPipes.l0]) (evp (by decide) (Ev.bind HL (evn (c := false = true) (by decide) ?_)))
    exact Ev.step (fun k => by rw [spec_FaultyPipes.j1]) (evn (by decide) (Ev.now _))
  rw [h0] at HL
  by_cases hf : f = 1 ∨ f = 2
  rotate_left
  · refine rneg (fun h => hf h.2) ?_
    refine Ev.step (fun k => by rw [spec_FaultyPipes.l0]) (evp (by decide) (Ev.bind HL (evp rfl (evb (l01In_eq _ _ _) ?_))))
    exact Ev.step (fun k => by rw [spec_FaultyPipes.j1]) (evn (by simp; omega) (Ev.now _))
  refine rpos ⟨h0, hf⟩ ?_
  rw [pipesUp_eq l f h0 hf]
  have F : ∀ a b : Int, Ev (fun k => spec_FaultOf.f k l a b) (faultOf l ⟨a, b⟩) := fun a b => by
    have := fault_spec l a b hl
    rwa [if_pos h0] at this
  have line : ∀ (r : Int) (R : List S31) (m : Nat), m ≤ 40 → ∀ acc : List S31, acc.length + m ≤ 1000 → Ev (fun k => spec_FaultyPipes.l0 k l f (acc ++ lineF l f r m) (wrap64 (r + 1))) R → Ev (fun k => spec_FaultyPipes.l1 k l f acc r (40 - (m : Int))) R := by
    intro r R m
    induction m with
    | zero =>
      intro _ acc _ h
      refine Ev.step (fun k => by rw [spec_FaultyPipes.l1]) (evn (by simp) ?_)
      simpa [lineF] using h
    | succ m ih =>
      intro hm acc ha h
      refine Ev.step (fun k => by rw [spec_FaultyPipes.l1]) (evp (by omega) (Ev.bind (F _ _) ?_))
      have e1 : (40 : Int) - ((m + 1 : Nat) : Int) = 39 - (m : Int) := by omega
      have e2 : wrap64 ((39 : Int) - (m : Int) + 1) = 40 - (m : Int) := by rw [w64 (by omega) (by omega)]; omega
      rw [e1, e2]
      unfold lineF at h
      by_cases hc : faultOf l ⟨r, 39 - (m : Int)⟩ = f
      · rw [if_pos hc] at h
        refine evp hc (evp (by omega) ?_)
        refine ih (by omega) (acc ++ [⟨r, 39 - (m : Int)⟩]) (by simp; omega) ?_
        simpa using h
      · rw [if_neg hc] at h
        refine evn hc ?_
        exact ih (by omega) acc (by omega) (by simpa using h)
  have rows : ∀ m : Nat, m ≤ 4 → ∀ acc : List S31, acc.length + 40 * m ≤ 400 → Ev (fun k => spec_FaultyPipes.l0 k l f acc (4 - (m : Int))) (acc ++ rowsF l f m) := by
    intro m
    induction m with
    | zero =>
      intro _ acc _
      refine Ev.step (fun k => by rw [spec_FaultyPipes.l0]) (evn (by simp) ?_)
      refine Ev.step (fun k => by rw [spec_FaultyPipes.j1]) (evn (by decide) (evs (by simp [rowsF])))
    | succ m ih =>
      intro hm acc ha
      refine Ev.step (fun k => by rw [spec_FaultyPipes.l0]) (evp (by omega) (Ev.bind HL (evp rfl (evb (l01In_eq _ _ _) ?_))))
      refine Ev.step (fun k => by rw [spec_FaultyPipes.j1]) (evp (by simp; omega) ?_)
      have e1 : (4 : Int) - ((m + 1 : Nat) : Int) = 3 - (m : Int) := by omega
      rw [e1]
      have hlen := lineF_len l f (3 - (m : Int)) 40
      have := line (3 - (m : Int)) (acc ++ rowsF l f (m + 1)) 40 (Nat.le_refl _) acc (by omega) (by
        rw [w64 (by omega) (by omega)]
        have h9 := ih (by omega) (acc ++ lineF l f (3 - (m : Int)) 40) (by rw [List.length_append]; omega)
        rw [show (3 : Int) - (m : Int) + 1 = 4 - (m : Int) by omega]
        unfold rowsF
        rw [← List.append_assoc]
        exact h9)
      simpa using this
  have := rows 4 (Nat.le_refl _) [] (by simp)
  simpa using this
end Go.Proofs.Ytnknnbpodpfljaa.Q


namespace Go.Proofs.Ytnknnbpodpfljaa.Q
set_option linter.unusedVariables false
set_option linter.unusedSimpArgs false
open Go.RowKit Go.Proofs.Ytnknnbpodpfljaa.P Go.Proofs.YtnknnbpodpfljaaW.PrintWords Go.Proofs.YtnknnbpodpfljaaW.PrintMore
def runsE (m : Int) (n : Nat) : List S36 := (List.range n).map (fun (j : Nat) => ⟨⟨m + 4 * j, m + 4 * j + 1⟩, m + 4 * j + 2, m + 4 * j + 3⟩)
theorem rdE_set_self (l : List S36) (i : Nat) (v : S36) (h : i < l.length) : rd_T36 (l.set i v) (i : Int) = v := by
  rw [rdE _ _ (by simpa using h)]; simp
theorem markEntryS_ev (l : List S36) (m : Int) (h0 : 0 ≤ m) (hm : m + 4 * l.length ≤ 4000000000000000000) : Ev (fun k => laws_markEntryS.f k l m) (m + 4 * l.length, runsE m l.length) := by
  have key : ∀ i, i ≤ l.length → ∀ acc : List S36, acc.length = l.length → acc.take i = runsE m i → Ev (fun k => laws_markEntryS.l0 k acc (m + 4 * i) (i : Int)) (m + 4 * l.length, runsE m l.length) := by
    refine down (n := l.length) ?_ ?_
    · intro acc ha ht
      refine Ev.step (fun k => by rw [laws_markEntryS.l0]) (evn (by omega) (evs ?_))
      rw [← ht, List.take_of_length_le (by omega)]
    · intro i hi ih acc ha ht
      refine Ev.step (fun k => by rw [laws_markEntryS.l0]) ?_
      refine evp (by omega) (evp (by omega) ?_)
      simp only [Option.bind_some]
      rw [w64 (n := m + 4 * i + 1) (by omega) (by omega), w64 (n := m + 4 * i + 1 + 1) (by omega) (by omega), w64 (n := m + 4 * i + 1 + 1 + 1) (by omega) (by omega), w64 (n := m + 4 * i + 1 + 1 + 1 + 1) (by omega) (by omega), w64 (n := (i : Int) + 1) (by omega) (by omega), Int.toNat_natCast]
      have := ih (acc.set i ⟨⟨m + 4 * i, m + 4 * i + 1⟩, m + 4 * i + 2, m + 4 * i + 3⟩) (by simpa using ha) (by
        rw [set_take _ _ _ (by omega), ht]
        simp [runsE, List.range_succ])
      have rs : ∀ (L : List S36) (v : S36), L.length = l.length → rd_T36 (L.set i v) (i : Int) = v := fun L v hL => rdE_set_self L i v (by omega)
      simp only [rs _ _ ha, List.set_set]
      rw [show m + 4 * (i : Int) + 1 + 1 = m + 4 * i + 2 by omega, show m + 4 * (i : Int) + 2 + 1 = m + 4 * i + 3 by omega, show m + 4 * (i : Int) + 3 + 1 = m + 4 * ((i + 1 : Nat) : Int) by omega]
      exact this
  have := key 0 (Nat.zero_le _) l rfl (by simp [runsE])
  unfold laws_markEntryS.f
  simpa using this
end Go.Proofs.Ytnknnbpodpfljaa.Q


namespace Go.Proofs.Ytnknnbpodpfljaa.Q
set_option linter.unusedVariables false
set_option linter.unusedSimpArgs false
open Go.RowKit Go.Proofs.Ytnknnbpodpfljaa.P Go.Proofs.YtnknnbpodpfljaaW.PrintWords Go.Proofs.YtnknnbpodpfljaaW.PrintMore
theorem rdP (l : List S31) (i : Nat) (h : i < l.length) : rd_T31 l (i : Int) = l[i] := by
  unfold rd_T31; simp [List.getD_eq_getElem?_getD, h]
theorem eqPipeS_ev (l : List S31) (hl : l.length ≤ 9000000000000000000) : Ev (fun k => laws_eqPipeS.f k l l) true := by
  have key : ∀ i, i ≤ l.length → Ev (fun k => laws_eqPipeS.l0 k l l (i : Int)) true := by
    refine down (n := l.length) ?_ ?_
    · refine Ev.step (fun k => by rw [laws_eqPipeS.l0]) (evn (by omega) ?_)
      exact Ev.now _
    · intro i hi ih
      refine Ev.step (fun k => by rw [laws_eqPipeS.l0]) (evp (by omega) (evp (by omega) (evp (by omega) ?_)))
      refine evb (eqPipe_self _ _) (evp rfl ?_)
      rw [w64 (by omega) (by omega)]
      exact ih
  unfold laws_eqPipeS.f
  refine evp rfl ?_
  exact key 0 (Nat.zero_le _)
def runsP (m : Int) (n : Nat) : List S31 := (List.range n).map (fun (j : Nat) => ⟨m + 2 * j, m + 2 * j + 1⟩)
theorem runsP_len (m : Int) (n : Nat) : (runsP m n).length = n := by simp [runsP]
theorem rdP_set_self (l : List S31) (i : Nat) (v : S31) (h : i < l.length) : rd_T31 (l.set i v) (i : Int) = v := by
  rw [rdP _ _ (by simpa using h)]; simp
theorem markPipeS_ev (l : List S31) (m : Int) (h0 : 0 ≤ m) (hm : m + 2 * l.length ≤ 4000000000000000000) : Ev (fun k => laws_markPipeS.f k l m) (m + 2 * l.length, runsP m l.length) := by
  have key : ∀ i, i ≤ l.length → ∀ acc : List S31, acc.length = l.length → acc.take i = runsP m i → Ev (fun k => laws_markPipeS.l0 k acc (m + 2 * i) (i : Int)) (m + 2 * l.length, runsP m l.length) := by
    refine down (n := l.length) ?_ ?_
    · intro acc ha ht
      refine Ev.step (fun k => by rw [laws_markPipeS.l0]) (evn (by omega) (evs ?_))
      rw [← ht, List.take_of_length_le (by omega)]
    · intro i hi ih acc ha ht
      refine Ev.step (fun k => by rw [laws_markPipeS.l0]) ?_
      refine evp (by omega) (evp (by omega) ?_)
      simp only [Option.bind_some]
      rw [w64 (n := m + 2 * i + 1) (by omega) (by omega), w64 (n := m + 2 * i + 1 + 1) (by omega) (by omega), w64 (n := (i : Int) + 1) (by omega) (by omega), Int.toNat_natCast]
      have := ih (acc.set i ⟨m + 2 * i, m + 2 * i + 1⟩) (by simpa using ha) (by
        rw [set_take _ _ _ (by omega), ht]
        simp [runsP, List.range_succ])
      have rs : ∀ (L : List S31) (v : S31), L.length = l.length → rd_T31 (L.set i v) (i : Int) = v := fun L v hL => rdP_set_self L i v (by omega)
      simp only [rs _ _ ha, List.set_set]
      rw [show m + 2 * (i : Int) + 1 + 1 = m + 2 * ((i + 1 : Nat) : Int) by omega]
      exact this
  have := key 0 (Nat.zero_le _) l rfl (by simp [runsP])
  unfold laws_markPipeS.f
  simpa using this
theorem heldPipeS_ev (n : Nat) (m : Int) (h0 : 0 ≤ m) (hm : m + 2 * n ≤ 4000000000000000000) : Ev (fun k => laws_heldPipeS.f k (runsP m n) m) (m + 2 * n) := by
  have key : ∀ i, i ≤ n → Ev (fun k => laws_heldPipeS.l0 k (runsP m n) (m + 2 * i) (i : Int)) (m + 2 * n) := by
    refine down (n := n) ?_ ?_
    · exact Ev.step (fun k => by rw [laws_heldPipeS.l0]) (evn (by rw [runsP_len]; omega) (evs rfl))
    · intro i hi ih
      refine Ev.step (fun k => by rw [laws_heldPipeS.l0]) (evp (by rw [runsP_len]; omega) (evp (by omega) ?_))
      rw [rdP _ _ (by rw [runsP_len]; exact hi), show (runsP m n)[i]'(by rw [runsP_len]; exact hi) = ⟨m + 2 * i, m + 2 * i + 1⟩ by simp [runsP]]
      rw [w64 (n := m + 2 * i + 1) (by omega) (by omega), w64 (n := m + 2 * i + 1 + 1) (by omega) (by omega), w64 (n := (i : Int) + 1) (by omega) (by omega)]
      refine evp rfl (evp rfl ?_)
      rw [show m + 2 * (i : Int) + 1 + 1 = m + 2 * ((i + 1 : Nat) : Int) by omega]
      exact ih
  have := key 0 (Nat.zero_le _)
  unfold laws_heldPipeS.f
  simpa using this
end Go.Proofs.Ytnknnbpodpfljaa.Q


namespace Go.Proofs.Ytnknnbpodpfljaa.Q
set_option linter.unusedVariables false
set_option linter.unusedSimpArgs false
open Go.RowKit Go.Deep Go.ChangeShapes Go.WideShapes Go.Proofs.YtnknnbpodpfljaaW.PrintWords
def Opens {α : Type} (P : Program) (w : World) (d : Kd α) (T : TypeId) (G : α → Prop) : Prop :=
  ∀ (H : Type) (enc : TypeId × Value → H) (base : Nat) (spare : Nat → Bool) (held : Bool) (fuel : Nat) (cs : List Value) (x : DataW H × List MemPlace),
    DataW.trod enc P w base spare held fuel T cs = some x → ∃ v, d.K w v cs ∧ G v
def OpensFs {α : Type} (P : Program) (w : World) (d : Kd α) (off : Nat) (fs : Array Field) (i : Nat) (G : α → Prop) : Prop :=
  ∀ (H : Type) (enc : TypeId × Value → H) (base : Nat) (spare : Nat → Bool) (held : Bool) (fuel : Nat) (cs : List Value), cs.length = off + d.sz →
    (∀ j f, i ≤ j → fs[j]? = some f → ∃ y : DataW H × List MemPlace, DataW.trod enc P w base spare held fuel f.type ((cs.drop f.offset).take (P.cellsOf f.type)) = some y) → ∃ v, d.K w v (cs.drop off) ∧ G v
section
variable {P : Program} {w : World}
theorem Opens.mono {α : Type} {d : Kd α} {T : TypeId} {G G' : α → Prop} (h : Opens P w d T G) (hg : ∀ x, G x → G' x) : Opens P w d T G' := by
  intro H enc base spare held fuel cs x hx
  obtain ⟨v, hv, g⟩ := h H enc base spare held fuel cs x hx
  exact ⟨v, hv, hg v g⟩
theorem Opens.int {k : IntKind} {T : TypeId} (ht : P.underlying T = some (.int k)) : Opens P w (Kd.int k) T (fun n => (Lit.int k n).wf = true) := by
  intro H enc base spare held fuel cs x hx
  obtain ⟨n, rfl, _, hw⟩ := DataW.trod_int ht hx
  exact ⟨n, rfl, hw⟩
theorem Opens.slice {α : Type} (z : α) {d : Kd α} {E T : TypeId} {G : α → Prop} (ht : P.underlying T = some (.slice E)) (hC : P.cellsOf E = d.sz) (h : Opens P w d E G) :
    Opens P w (Kd.slice E d) T (fun l => l.length ≤ 9223372036854775807 ∧ ∀ x ∈ l, G x) := by
  haveI : Inhabited α := ⟨z⟩
  intro H enc base spare held fuel cs x hx
  rcases open_slice ht hx with ⟨rfl, _⟩ | ⟨a, len, cap, m, n, D, Pl, rfl, hb, hl, hm, hmm, _, hi⟩
  · exact ⟨[], ⟨none, 0, rfl, Nat.le_refl _, rfl, by simp, fun h => absurd h (by simp)⟩, by simp, by simp⟩
  · have hlm : len ≤ m := by rw [hmm]; split <;> omega
    obtain ⟨V, hV⟩ := choose_lt (α := α) (n := len) (p := fun i v => G v ∧ ∃ c, c.length = d.sz ∧ d.K w v c ∧ ∀ j u, c[j]? = some u → w.cell? (a.add (i * d.sz + j)) = some u) (fun i hil => by
      obtain ⟨cs', h1, h2⟩ := hi i (by omega)
      obtain ⟨v, hv, g⟩ := h H enc base spare held n cs' _ h2
      obtain ⟨_, hcl, hat⟩ := World.cells?_some h1
      refine ⟨v, g, cs', by rw [hcl, hC], hv, fun j u hu => ?_⟩
      have hj : j < P.cellsOf E := by rw [← hcl]; exact (List.getElem?_eq_some_iff.1 hu).1
      have := hat j hj
      rw [hC, Go.Deep.add_add] at this
      rw [this, hu])
    refine ⟨(List.range len).map V, ⟨some a, cap, by simp, by simpa using hl, by simp, by have := hm; unfold maxLen at this; simp; omega, fun _ => ⟨a, rfl, fun j p hj => ?_⟩⟩, ?_⟩
    · have hj' : j < len := by have := (List.getElem?_eq_some_iff.1 hj).1; simpa using this
      obtain rfl : V j = p := by simpa [hj'] using hj
      exact (hV j hj').2
    · refine ⟨by have := hm; unfold maxLen at this; simp; omega, fun x hx => ?_⟩
      obtain ⟨i, hi, rfl⟩ := List.mem_map.1 hx
      exact (hV i (List.mem_range.1 hi)).1
theorem OpensFs.one {α : Type} {d : Kd α} {off i : Nat} {fs : Array Field} {f : Field} {G : α → Prop} (hf : fs[i]? = some f) (h : Opens P w d f.type G) (ho : f.offset = off) (hc : P.cellsOf f.type = d.sz) : OpensFs P w d off fs i G := by
  intro H enc base spare held fuel cs hlen hfs
  obtain ⟨y, hy⟩ := hfs i f (Nat.le_refl _) hf
  rw [ho, hc, List.take_of_length_le (by simp [hlen])] at hy
  exact h H enc base spare held fuel _ _ hy
theorem OpensFs.more {α β : Type} {d : Kd α} {d2 : Kd β} {off i : Nat} {fs : Array Field} {f : Field} {G : α → Prop} {G2 : β → Prop} (hf : fs[i]? = some f) (h : Opens P w d f.type G) (ho : f.offset = off) (hc : P.cellsOf f.type = d.sz)
    (h2 : OpensFs P w d2 (off + d.sz) fs (i + 1) G2) : OpensFs P w (Kd.pair d d2) off fs i (fun x => G x.1 ∧ G2 x.2) := by
  intro H enc base spare held fuel cs hlen hfs
  have hlen' : cs.length = off + (d.sz + d2.sz) := hlen
  obtain ⟨y, hy⟩ := hfs i f (Nat.le_refl _) hf
  rw [ho, hc] at hy
  obtain ⟨v, hv, g⟩ := h H enc base spare held fuel _ _ hy
  obtain ⟨v2, hv2, g2⟩ := h2 H enc base spare held fuel cs (by omega) (fun j f' hj hf' => hfs j f' (by omega) hf')
  refine ⟨(v, v2), ⟨_, _, ?_, hv, hv2⟩, g, g2⟩
  rw [← List.drop_drop, List.take_append_drop]
theorem Opens.pairs {α : Type} {d : Kd α} {T : TypeId} {fs : Array Field} {G : α → Prop} (ht : P.underlying T = some (.struct fs)) (hC : P.cellsOf T = d.sz) (h : OpensFs P w d 0 fs 0 G) : Opens P w d T G := by
  intro H enc base spare held fuel cs x hx
  obtain ⟨xs, n, _, _, hlen, hxl, hat⟩ := DataW.trod_struct ht hx
  exact h H enc base spare held n cs (by rw [hlen, hC, Nat.zero_add]) (fun j f' _ hf' => by
    have hi' : j < fs.size := (Array.getElem?_eq_some_iff.1 hf').1
    have e := hat j f' hf'
    rw [List.getElem?_eq_getElem (by omega)] at e
    exact ⟨_, e⟩)
theorem Opens.struct {α β : Type} {d : Kd α} {T : TypeId} {fs : Array Field} {f : β → α} {G0 : α → Prop} {G : β → Prop} (g : α → β) (ht : P.underlying T = some (.struct fs)) (hC : P.cellsOf T = d.sz) (hfg : ∀ x, f (g x) = x)
    (h : OpensFs P w d 0 fs 0 G0) (hg : ∀ x, G0 x → G (g x)) : Opens P w (Kd.iso d f) T G := by
  intro H enc base spare held fuel cs x hx
  obtain ⟨v, hv, g0⟩ := Opens.pairs ht hC h H enc base spare held fuel cs x hx
  refine ⟨g v, ?_, hg v g0⟩
  show d.K w (f (g v)) cs
  rw [hfg]
  exact hv
end
end Go.Proofs.Ytnknnbpodpfljaa.Q


namespace Go.Proofs.Ytnknnbpodpfljaa.Q
open Go.RowKit Go.Proofs.Ytnknnbpodpfljaa.P Go.Proofs.YtnknnbpodpfljaaW.PrintWords
def good64 (x : S64) : Prop := ((Lit.int .i64 x.f0).wf = true ∧ (Lit.int .i64 x.f1).wf = true)
theorem op64 {w : World} : Opens Try.prog w k64 64 good64 := (Opens.struct (fun x => (⟨x.1, x.2⟩ : S64)) (G := good64) Try.underlying64 (by kernel_rfl) (fun _ => rfl) (OpensFs.more rfl (Opens.int Try.underlying3) rfl (by kernel_rfl) (OpensFs.one rfl (Opens.int Try.underlying3) rfl (by kernel_rfl))) (fun _ h => h))
def good66 (x : S66) : Prop := (((Lit.int .i64 x.f0.f0).wf = true ∧ (Lit.int .i64 x.f0.f1).wf = true) ∧ (Lit.int .i64 x.f1).wf = true ∧ (Lit.int .i64 x.f2).wf = true)
theorem op66 {w : World} : Opens Try.prog w k66 66 good66 := (Opens.struct (fun x => (⟨x.1, x.2.1, x.2.2⟩ : S66)) (G := good66) Try.underlying66 (by kernel_rfl) (fun _ => rfl) (OpensFs.more rfl op64 rfl (by kernel_rfl) (OpensFs.more rfl (Opens.int Try.underlying3) rfl (by kernel_rfl) (OpensFs.one rfl (Opens.int Try.underlying3) rfl (by kernel_rfl)))) (fun _ h => h))
end Go.Proofs.Ytnknnbpodpfljaa.Q


namespace Go.Proofs.Ytnknnbpodpfljaa.Pure
set_option linter.unusedVariables false
set_option linter.unusedSimpArgs false
open Go.RowKit Go.Proofs.Ytnknnbpodpfljaa.P Go.Proofs.Ytnknnbpodpfljaa.Q Go.Proofs.YtnknnbpodpfljaaW.PrintWords Go.Proofs.YtnknnbpodpfljaaW.PrintLast
theorem FnExactFaultyPipes (l : List S66) (f : Int) (h0 : l.length ≤ 9223372036854775807 ∧ ∀ y ∈ l, good66 y) (h1 : (Lit.int .i64 f).wf = true) : ∃ k, laws_FnExactFaultyPipes.f k l f = some true := by
  refine Ev.rounds ?_
  unfold laws_FnExactFaultyPipes.f
  refine evb (szEntryS_eq l 1048576 (by omega) (by omega) h0.1) ?_
  by_cases h : (1048576 : Int) < l.length
  · rw [if_pos h]; exact evp (by omega) (Ev.now _)
  rw [if_neg h]
  refine evn (by omega) ?_
  have ll : (l.map cEntry).length ≤ 1048576 := by simp; omega
  have T := toEntryS_ev l (by omega)
  have E := eqEntryS_ev (l.map cEntry) (by omega)
  have M := markEntryS_ev (l.map cEntry) 1 (by omega) (by omega)
  obtain ⟨R, hR⟩ : ∃ R, faultyP (l.map cEntry) f = R := ⟨_, rfl⟩
  have A := faulty_spec (l.map cEntry) f (by omega)
  have B := faulty_impl (l.map cEntry) f (by omega)
  rw [hR] at A B
  have L := faultyP_len (l.map cEntry) f
  rw [hR] at L
  have F := eqPipeS_ev R (by omega)
  have G := markPipeS_ev R 1 (by omega) (by omega)
  have H := heldPipeS_ev R.length 1 (by omega) (by omega)
  repeat' first
    | exact Ev.now _
    | refine Ev.bind T ?_
    | refine Ev.bind E ?_
    | refine Ev.bind M ?_
    | refine Ev.bind A ?_
    | refine evb B ?_
    | refine Ev.bind F ?_
    | refine Ev.bind G ?_
    | refine Ev.bind H ?_
    | refine evp rfl ?_
    | refine evn (by first | decide | (dsimp only; omega) | simp) ?_
    | refine Ev.step (fun k => by rw [laws_FnExactFaultyPipes.j0]) ?_
end Go.Proofs.Ytnknnbpodpfljaa.Pure


namespace Go.Proofs.Ytnknnbpodpfljaa.fnExactFaultyPipes
open Go.ChangeShapes Go.WideShapes Go.ChangeAt Go.RowKit Go.Proofs.Ytnknnbpodpfljaa.P Go.Proofs.Ytnknnbpodpfljaa.Q Go.Proofs.YtnknnbpodpfljaaW.PrintWords
open Go.ChangeMaps (open_string shut_string)
set_option linter.unusedVariables false
set_option linter.unusedSimpArgs false
theorem own : ownKnob Try.prog.godebug = none := by kernel_rfl
theorem laidOut : laidOutB Try.prog = true := by kernel_rfl
set_option maxRecDepth 100000 in
theorem lifted (os : Os) (started : os.Started) (H : Type) (enc : TypeId × Value → H) :
    ReturnsInHanded {} Try.checked os 8 .any (Rows.fnExactFaultyPipesSpec.pre6 enc Try.prog Try.f8 Rows.fnExactFaultyPipesRow.domain false) (Rows.fnExactFaultyPipesSpec.post enc Try.prog Try.f8 false true false false) := by
  refine returnsInHanded_of_change_sized (C := Try.checked) own started (by kernel_rfl) Try.func8
    (ChangeSpec.witness6 (enc := enc) (C := Try.checked) false ⟨#[], #[.slice none 0 0, .int .i64 0], []⟩ 8 (by kernel_rfl) (by kernel_rfl) (by kernel_rfl) (by kernel_rfl)) ?_
  intro W base args ds gs before hval0 hW hcnd hsz0 _
  have hval : ∀ (j : Nat) t v, Try.f8.params[j]? = some t → args[j]? = some v → Value.okWide Try.prog W .any base t v := hval0
  have hW' := hW
  obtain ⟨p, q, hA0, hV, rfl, hfz, hnd⟩ := hW
  have hA : DataW.TrodAll enc Try.prog W 0 (fun _ => true) true Try.f8.params.toList args.toList ds p := hA0
  rw [Try.params8] at hA hval
  obtain ⟨v0, vs0, d0, ds0, p0, q0, hargs, rfl, rfl, h0, r0⟩ := trodAll_cons hA
  obtain ⟨v1, vs1, d1, ds1, p1, q1, rfl, rfl, rfl, h1, r1⟩ := trodAll_cons r0
  obtain ⟨rfl, rfl, rfl⟩ := trodAll_nil r1
  obtain rfl : args = #[v0, v1] := by cases args; simp_all
  obtain ⟨rfl, rfl⟩ := trodVars_none hV
  have k0 := h0
  have lt0 : ∀ x ∈ p0, x.block < W.heap.size := by obtain ⟨m, hm⟩ := k0; exact DataW.trod_lt m _ _ _ hm
  obtain ⟨fuel0, f0⟩ := h0
  obtain ⟨x0, K0, G0⟩ := (show Opens Try.prog W (Kd.slice 66 k66) 39 _ from Opens.slice z66 Try.underlying39 (by kernel_rfl) op66) H enc 0 _ _ fuel0 _ _ f0
  obtain ⟨len0, cap0, adr0, rfl⟩ : ∃ l c a, v0 = .slice a l c := by obtain ⟨a, l, c, e⟩ := okWide_slice Try.underlying39 (hval 0 39 v0 rfl rfl); exact ⟨l, c, a, e⟩
  obtain ⟨A0, c0, e0, hc0, hr0⟩ := K0
  simp [Value.cells] at e0
  obtain ⟨rfl, rfl, rfl⟩ := e0
  have k1 := h1
  have lt1 : ∀ x ∈ p1, x.block < W.heap.size := by obtain ⟨m, hm⟩ := k1; exact DataW.trod_lt m _ _ _ hm
  obtain ⟨a1, rfl, rfl, rfl, w1⟩ := open_int Try.underlying3 (hval 1 3 v1 rfl rfl) h1
  obtain ⟨k, hP⟩ := Pure.FnExactFaultyPipes x0 a1 G0 w1
  refine (P.laws_FnExactFaultyPipes.calls k _ _ x0 a1 true W hr0 hc0 hP ⟨rfl⟩).mono fun e W' ⟨he, bel0⟩ => ?_
  have bel : Below W.heap.size W W' := bel0
  subst he
  exact ⟨_, rfl, _, _, _, [], _, [], hW', trodAll_mk1 (shut_bool Try.underlying4 _), (trodAll_cons_mk (Below.trod laidOut (by kernel_rfl) (of_decide_eq_true (by kernel_rfl)) k0 bel lt0) (trodAll_cons_mk (Below.trod laidOut (by kernel_rfl) (of_decide_eq_true (by kernel_rfl)) k1 bel lt1) trodAll_mk0)), rfl, bel.frame _, fun h => by cases h⟩
theorem over : Rows.fnExactFaultyPipesRow.holds Try.pinned (OpenSpec.ofChange Rows.fnExactFaultyPipesSpec) :=
  OpenClaim.holds_of_wide 8 Try.f8 rfl rfl rfl rfl rfl rfl rfl ⟨rfl, rfl, rfl, rfl, rfl⟩ rfl rfl rfl rfl rfl (by kernel_rfl) Try.func8 (by kernel_rfl)
    (of_decide_eq_true (by kernel_rfl)) (by unfold Func.isWrapper; first | (rw [if_pos (by decide +kernel)]; kernel_rfl) | (rw [if_neg (by decide +kernel)]; exact ⟨rfl, rfl⟩))
    (fun os started H enc _ => lifted os started H enc)
theorem proved : Rows.FnExactFaultyPipesSaid := over
#print axioms proved
end Go.Proofs.Ytnknnbpodpfljaa.fnExactFaultyPipes
namespace Go.Proofs.Ytnknnbpodpfljaa
theorem fnExactFaultyPipes_holds : Rows.FnExactFaultyPipesSaid := fnExactFaultyPipes.proved
end Go.Proofs.Ytnknnbpodpfljaa

