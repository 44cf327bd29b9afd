/- What functions of the program come to (f), that their calls come to just this (calls), and the plain laws over lists and numbers. No condition but those of the given row. -/
import Derived.Test.YtojiighpkppckaaGreatDoorC2
namespace Go.Proofs.YtojiighpkppckaaGreatDoor.P
open Go.RowKit Go.Proofs.YtojiighpkppckaaGreatDoorW.PrintWords Go.Proofs.YtojiighpkppckaaGreatDoorW.PrintLast Go.Proofs.YtojiighpkppckaaGreatDoorW.PrintMore
attribute [local go_sem] max2_int min2_int max_two min_two max_three min_three max_four min_four
set_option linter.unusedVariables false
set_option linter.unusedSimpArgs false
def spec_WrongSteps.l0 : Nat → List Int → Int → List (S95) → Int → List Int → Option (List Int)
  | 0, _, _, _, _, _ => none
  | k + 1, x3, x4, x427000, x427001, x427002 => if x4 < x427001 then (if 0 ≤ x4 then (if x4 < (x427000.length : Int) then (if 0 ≤ ((rd_T95 x427000 x4).f1) then (if ((rd_T95 x427000 x4).f1) < (x427002.length : Int) then (if 0 ≤ ((rd_T95 x427000 x4).f0) then (if ((rd_T95 x427000 x4).f0) < (x427002.length : Int) then ((spec_TunedPitch.f k (rd x427002 ((rd_T95 x427000 x4).f0)) ((rd_T95 x427000 x4).f2) ((rd_T95 x427000 x4).f3)).bind fun t435 => (if (rd x427002 ((rd_T95 x427000 x4).f1)) = t435 then (spec_WrongSteps.l0 k x3 (wrap64 (x4 + 1)) x427000 x427001 x427002) else (if x3.length < 17592186044416 then (spec_WrongSteps.l0 k (x3 ++ [x4]) (wrap64 (x4 + 1)) x427000 x427001 x427002) else (none)))) else (none)) else (none)) else (none)) else (none)) else (none)) else (none)) else (some x3)
def spec_WrongSteps.f (k : Nat) (l0_0 : List (S95)) (a0_1 : Int) (l0_2 : List Int) : Option (List Int) := (some (([] : List Int) : List Int)).bind fun y427 => ((spec_WorkOk.f k l0_0 a0_1 l0_2).bind fun t430 => (if t430 = true then (spec_WrongSteps.l0 k y427 0 l0_0 a0_1 l0_2) else (some y427)))
def spec_WrongSteps.T8 : Bool × List (List Nat × List Nat) := (true, [([], []), ([0], [0]), ([], []), ([2], [2]), ([1, 3], [1, 3]), ([4], [4]), ([], []), ([6], [6]), ([], []), ([8], [8]), ([7, 9], [7, 9]), ([10], [10]), ([], []), ([12], [12]), ([], []), ([14], [14]), ([11, 13, 15], [11, 13, 15]), ([5, 16], [5, 16])])
def spec_WrongSteps.B8 : List Nat := [0, 1, 0, 4, 15, 31, 0, 64, 0, 256, 960, 1984, 0, 4096, 0, 16384, 65472, 131071]
theorem spec_WrongSteps.tab8 : rtab .any (opsOf Tryz.f55 8) = spec_WrongSteps.T8 := by kernel_rfl
theorem spec_WrongSteps.bits8 : waitsOk spec_WrongSteps.T8.2 spec_WrongSteps.B8 = true := by kernel_rfl
set_option maxHeartbeats 8000000 in
set_option maxRecDepth 100000 in
theorem spec_WrongSteps.calls (k : Nat) (A0_0 : Option Addr) (c0_0 : Nat) (l0_0 : List (S95)) (a0_1 : Int) (A0_2 : Option Addr) (c0_2 : Nat) (l0_2 : List Int) (r : List Int) (w : World) (hr0_0 : Kd.C k95 w A0_0 l0_0.length l0_0) (hc0_0 : l0_0.length ≤ c0_0) (hr0_2 : Kd.C (Kd.int .i64) w A0_2 l0_2.length l0_2) (hc0_2 : l0_2.length ≤ c0_2) (h : spec_WrongSteps.f k l0_0 a0_1 l0_2 = some r) :
    Calls Tryz.prog 55 #[.agg #[.slice A0_0 l0_0.length c0_0, .int .i64 a0_1, .slice A0_2 l0_2.length c0_2]] w fun e w' => ∃ v0_ : Value, e = .returned (v0_) ∧ Kd.R (Kd.int .i64) 3 w' w.heap.size (fun _ => True) v0_ r ∧ Below w.heap.size w w' := by
  have hu27 := Tryz.underlying27
  have hu95 := Tryz.underlying95
  have HR0_0 := A_ hr0_0
  have HC0_0 := A_ hc0_0
  clear hr0_0 hc0_0
  have HR0_2 := A_ hr0_2
  have HC0_2 := A_ hc0_2
  clear hr0_2 hc0_2
  have HB := A_ (Below.refl w.heap.size w)
  have H : ((some (([] : List Int) : List Int)).bind fun y427 => ((spec_WorkOk.f k l0_0 a0_1 l0_2).bind fun t430 => (if t430 = true then (spec_WrongSteps.l0 k y427 0 l0_0 a0_1 l0_2) else (some y427)))) = some r := h
  clear h
  obtain ⟨y427, hy427⟩ : ∃ y_ : List Int, y_ = (([] : List Int)) := ⟨_, rfl⟩
  replace H : ((spec_WorkOk.f k l0_0 a0_1 l0_2).bind fun t430 => (if t430 = true then (spec_WrongSteps.l0 k y427 0 l0_0 a0_1 l0_2) else (some y427))) = some r := by first | (rw [hy427]; with_reducible exact H) | (have H2_ := (Option.bind_some _ _).symm.trans H; rw [hy427]; with_reducible exact H2_) | (have H2_ := (Option.bind_some _ _).symm.trans H; with_reducible exact H2_) | with_reducible exact H | (rw [hy427]; exact H) | exact H
  have Ny427 := A_ hy427
  clear hy427
  replace H := Option.bind_eq_some_iff.mp H
  obtain ⟨t430, A20, H⟩ := H
  (try dsimp only at H)
  have A2 := A_ A20
  clear A20
  by_cases c3 : t430 = true
  · subst c3
    rw [if_pos rfl] at H
    have H' := A_ H
    clear H
    go_enter Tryz.func55, Tryz.ntmps55
    go_wp2_with (first | ((with_reducible refine gate_dst (N := 1) rfl ?_); refine bX (N := 1) (cs := #[.slice A0_0 l0_0.length c0_0, .int .i64 a0_1, .slice A0_2 l0_2.length c0_2]) (t := 27) ?_; intro gb426 hg w4 hbox hb; have n0_ := A_ (below_step (oB HB) hb); have n1_ := A_ (hbox); have n2_ := A_ ((by rw [hg]; exact (below_size (oB HB)) : w.heap.size ≤ gb426)); have n3_ := A_ ((by rw [hg]; exact (below_size (oB HB)) : w.heap.size ≤ gb426)); clear HB; have HB := n0_; have BK426 := n1_; have GW426 := n2_; have GE426 := n3_; clear n0_ n1_ n2_ n3_; clear hb hbox hg) | ((with_reducible refine gate_dst (N := 6) rfl ?_); refine Kd.R_lit (Kd.int .i64) _ 3 ?hg (N := 6) ?hd (xs := ([] : List Int)) (inner := []) (ok := fun _ => True) (okp := fun _ => True) ?hr ?hp (fun _ hk => hk) trivial (Below.refl _ _) (Nat.le_refl _) (by simp) ?_; (case hd => rfl); (case hg => rfl); (case hr => first | (go_simp; done) | (go_simp; rfl)); (case hp => exact (Reps.none _ _)); intro v428 w5 ho6 hb hg_ hnew_; clear hg_ hnew_; (first | rw [← Ny427.out] at ho6 | (simp only [Int.reduceToNat] at ho6; rw [← Ny427.out] at ho6)); have n0_ := A_ (Kd.R_lower ho6 (below_size (oB HB))); have n1_ := A_ (bb BK426 hb); have n2_ := A_ (below_step (oB HB) hb); clear BK426; clear HB; have HO429 := n0_; have BK426 := n1_; have HB := n2_; clear n0_ n1_ n2_; clear hb ho6; have hcz7_0 := cz BK426 0; have hcz7_1 := cz BK426 1; have hcz7_2 := cz BK426 2; have hfz7_0 := blk_frozen BK426.out 0; have hfz7_1 := blk_frozen BK426.out 1; have hfz7_2 := blk_frozen BK426.out 2) | ((with_reducible refine gate_callee (f := 71) rfl ?_); refine gL (some 8) Tryz.func71 #[.agg #[.slice A0_0 l0_0.length c0_0, .int .i64 a0_1, .slice A0_2 l0_2.length c0_2]] ?_; (with_reducible refine (spec_WorkOk.calls k _ _ l0_0 a0_1 _ _ l0_2 true _ ?side1 ?side2 ?side3 ?side4 A2.out).mono ?_); (case side1 => exact oc_ HR0_0.out); (case side2 => exact HC0_0.out); (case side3 => exact oc_ HR0_2.out); (case side4 => exact HC0_2.out); rintro e w8 ⟨rfl, hb⟩; refine ⟨_, rfl, ?_⟩; have n0_ := A_ (Kd.R_below (oR HO429) hb); have n1_ := A_ (bb BK426 hb); have n2_ := A_ (below_step (oB HB) hb); clear HO429; clear BK426; clear HB; have HO429 := n0_; have BK426 := n1_; have HB := n2_; clear n0_ n1_ n2_; (try clear hb); (try clear hb2); (try clear hk); (try clear hi)))
    go_loopg [3, 4] k (fun kq v3 v4 w' => ∃ (x3_1 : List Int) (x4_1 : Int), v4 = .int .i64 x4_1 ∧ Aside0 (spec_WrongSteps.l0 kq x3_1 x4_1 l0_0 a0_1 l0_2 = some r) ∧ Aside0 (kq ≤ k) ∧ Aside0 (Kd.R (Kd.int .i64) 3 w' w.heap.size (fun _ => True) v3 x3_1) ∧ Aside0 (w'.heap[gb426]? = some (.cells #[(.slice A0_0 l0_0.length c0_0), .int .i64 a0_1, (.slice A0_2 l0_2.length c0_2)] 27 (0, 0))) ∧ Aside0 (Below w.heap.size w w'))
    case atStart => exact ⟨(y427), (0), (by first | rfl | (simp; done) | (simp [*]; done)), H', ⟨Nat.le_refl _⟩, ⟨oR HO429⟩, ⟨oK BK426⟩, ⟨oB HB⟩⟩
    case round =>
      clear H'
      try clear p2
      try clear c3
      try clear c5
      try clear c7
      try clear hcz7_0
      try clear hcz7_1
      try clear hcz7_2
      try clear hfz7_0
      try clear hfz7_1
      try clear hfz7_2
      obtain ⟨x3_1, x4_1, rfl, HA, HK1, HO_3, BK426, HB⟩ := hrel
      cases gk with
      | zero => exact absurd HA.out (by simp [spec_WrongSteps.l0])
      | succ k1 =>
        have H := HA.out
        clear HA
        simp only [spec_WrongSteps.l0] at H
        by_cases c9 : x4_1 < a0_1
        · rw [if_pos c9] at H
          have c9b0 : decide (x4_1 < a0_1) = true := decide_eq_true c9
          clear c9
          by_cases c10 : 0 ≤ x4_1
          · rw [if_pos c10] at H
            have c10b0 : decide (0 ≤ x4_1) = true := decide_eq_true c10
            clear c10
            by_cases c11 : x4_1 < (l0_0.length : Int)
            · rw [if_pos c11] at H
              have c11b0 : decide (x4_1 < (l0_0.length : Int)) = true := decide_eq_true c11
              clear c11
              by_cases c12 : 0 ≤ ((rd_T95 l0_0 x4_1).f1)
              · rw [if_pos c12] at H
                have c12b0 : decide (0 ≤ ((rd_T95 l0_0 x4_1).f1)) = true := decide_eq_true c12
                clear c12
                by_cases c13 : ((rd_T95 l0_0 x4_1).f1) < (l0_2.length : Int)
                · rw [if_pos c13] at H
                  have c13b0 : decide (((rd_T95 l0_0 x4_1).f1) < (l0_2.length : Int)) = true := decide_eq_true c13
                  clear c13
                  by_cases c14 : 0 ≤ ((rd_T95 l0_0 x4_1).f0)
                  · rw [if_pos c14] at H
                    have c14b0 : decide (0 ≤ ((rd_T95 l0_0 x4_1).f0)) = true := decide_eq_true c14
                    clear c14
                    by_cases c15 : ((rd_T95 l0_0 x4_1).f0) < (l0_2.length : Int)
                    · rw [if_pos c15] at H
                      have c15b0 : decide (((rd_T95 l0_0 x4_1).f0) < (l0_2.length : Int)) = true := decide_eq_true c15
                      clear c15
                      replace H := Option.bind_eq_some_iff.mp H
                      obtain ⟨t435, A160, H⟩ := H
                      (try dsimp only at H)
                      have A16 := A_ A160
                      clear A160
                      by_cases c17 : (rd l0_2 ((rd_T95 l0_0 x4_1).f1)) = t435
                      · rw [if_pos c17] at H
                        have c17b0 : ((rd l0_2 ((rd_T95 l0_0 x4_1).f1)) == t435) = true := beq_iff_eq.mpr c17
                        have c17b1 : ((rd l0_2 ((rd_T95 l0_0 x4_1).f1)) != t435) = false := bne_eq_false_iff_eq.mpr c17
                        clear c17
                        have H' := A_ H
                        clear H
                        have hcz18_0 := cz BK426 0
                        have hcz18_1 := cz BK426 1
                        have hcz18_2 := cz BK426 2
                        have hfz18_0 := blk_frozen BK426.out 0
                        have hfz18_1 := blk_frozen BK426.out 1
                        have hfz18_2 := blk_frozen BK426.out 2
                        have p431 : 0 ≤ (x4_1 : Int) := of_decide_eq_true (by first | (with_reducible assumption) | assumption)
                        have q431 : x4_1 < (l0_0.length : Int) := of_decide_eq_true (by first | (with_reducible assumption) | assumption)
                        obtain ⟨ad431, e431, hx431_0, hx431_1, hx431_2, hx431_3⟩ := at_T95 HR0_0.out x4_1 p431 q431
                        cases e431
                        replace hx431_0 := (HB.out.cell (World.block_lt_of_cell? w _ hx431_0)).trans hx431_0
                        replace hx431_1 := (HB.out.cell (World.block_lt_of_cell? w _ hx431_1)).trans hx431_1
                        replace hx431_2 := (HB.out.cell (World.block_lt_of_cell? w _ hx431_2)).trans hx431_2
                        replace hx431_3 := (HB.out.cell (World.block_lt_of_cell? w _ hx431_3)).trans hx431_3
                        replace p431 := eq_true p431
                        replace q431 := eq_true q431
                        try go_wp2_with (first | ((with_reducible refine gate_dst (N := 5) rfl ?_); refine bX (N := 5) (cs := #[.int .i64 0, .int .i64 0, .int .i64 0, .int .i64 0]) (t := 95) ?_; intro gb432 hg w19 hbox hb; have n0_ := A_ (Kd.R_below (oR HO_3) hb); have n1_ := A_ (bb BK426 hb); have n2_ := A_ (below_step (oB HB) hb); have n3_ := A_ (hbox); have n4_ := A_ ((by rw [hg]; exact (below_size (oB HB)) : w.heap.size ≤ gb432)); have n5_ := A_ ((by rw [hg]; exact (below_size (oB HB)) : w.heap.size ≤ gb432)); have n6_ := A_ (nL BK426 hg); have n7_ := A_ (nG BK426 hg); clear HO_3; clear BK426; clear HB; have HO_3 := n0_; have BK426 := n1_; have HB := n2_; have BK432 := n3_; have GW432 := n4_; have GE432 := n5_; have NB426_432 := n6_; have NB432_426 := n7_; clear n0_ n1_ n2_ n3_ n4_ n5_ n6_ n7_; clear hb hbox hg; have hnb20 := NB432_426.out; have hnc20 := NB426_432.out; have hcz21_0 := cz BK432 0; have hcz21_1 := cz BK432 1; have hcz21_2 := cz BK432 2; have hcz21_3 := cz BK432 3; have hfz21_0 := blk_frozen BK432.out 0; have hfz21_1 := blk_frozen BK432.out 1; have hfz21_2 := blk_frozen BK432.out 2; have hfz21_3 := blk_frozen BK432.out 3))
                        have n0_ : Aside0 (Kd.R (Kd.int .i64) 3 ((((w19.setCell ⟨gb432, 0, none⟩ (.int .i64 ((rd_T95 l0_0 x4_1).f0))).setCell ⟨gb432, 1, none⟩ (.int .i64 ((rd_T95 l0_0 x4_1).f1))).setCell ⟨gb432, 2, none⟩ (.int .i64 ((rd_T95 l0_0 x4_1).f2))).setCell ⟨gb432, 3, none⟩ (.int .i64 ((rd_T95 l0_0 x4_1).f3))) w.heap.size (fun _ => True) u3 x3_1) := ⟨by (with_reducible repeat (first | apply Kd.R_alloc | apply Kd.R_drewN | apply Kd.R_drew)); exact Kd.R_mono (Kd.R_far (p := ⟨gb432, 3, none⟩) (Kd.R_far (p := ⟨gb432, 2, none⟩) (Kd.R_far (p := ⟨gb432, 1, none⟩) (Kd.R_far (p := ⟨gb432, 0, none⟩) (Kd.R_types HO_3.out BK432.out (by decide)) (fun _ hk => hk.2) (.int .i64 ((rd_T95 l0_0 x4_1).f0))) (fun _ hk => hk.2) (.int .i64 ((rd_T95 l0_0 x4_1).f1))) (fun _ hk => hk.2) (.int .i64 ((rd_T95 l0_0 x4_1).f2))) (fun _ hk => hk.2) (.int .i64 ((rd_T95 l0_0 x4_1).f3))) (fun _ hk => trivial)⟩
                        have n1_ : Aside0 (((((w19.setCell ⟨gb432, 0, none⟩ (.int .i64 ((rd_T95 l0_0 x4_1).f0))).setCell ⟨gb432, 1, none⟩ (.int .i64 ((rd_T95 l0_0 x4_1).f1))).setCell ⟨gb432, 2, none⟩ (.int .i64 ((rd_T95 l0_0 x4_1).f2))).setCell ⟨gb432, 3, none⟩ (.int .i64 ((rd_T95 l0_0 x4_1).f3))).heap[gb426]? = some (.cells #[.slice (some ad431) l0_0.length c0_0, .int .i64 a0_1, .slice A0_2 l0_2.length c0_2] 27 (0, 0))) := ⟨by (with_reducible repeat (first | refine blk_drewN ?_ _ | refine blk_drew ?_ | refine blk_alloc ?_ _)); refine blk_far ?_ NB426_432.out _; (with_reducible repeat (first | refine blk_drewN ?_ _ | refine blk_drew ?_ | refine blk_alloc ?_ _)); refine blk_far ?_ NB426_432.out _; (with_reducible repeat (first | refine blk_drewN ?_ _ | refine blk_drew ?_ | refine blk_alloc ?_ _)); refine blk_far ?_ NB426_432.out _; (with_reducible repeat (first | refine blk_drewN ?_ _ | refine blk_drew ?_ | refine blk_alloc ?_ _)); refine blk_far ?_ NB426_432.out _; (with_reducible repeat (first | refine blk_drewN ?_ _ | refine blk_drew ?_ | refine blk_alloc ?_ _)); exact BK426.out⟩
                        have n2_ : Aside0 (((((w19.setCell ⟨gb432, 0, none⟩ (.int .i64 ((rd_T95 l0_0 x4_1).f0))).setCell ⟨gb432, 1, none⟩ (.int .i64 ((rd_T95 l0_0 x4_1).f1))).setCell ⟨gb432, 2, none⟩ (.int .i64 ((rd_T95 l0_0 x4_1).f2))).setCell ⟨gb432, 3, none⟩ (.int .i64 ((rd_T95 l0_0 x4_1).f3))).heap[gb432]? = some (.cells #[.int .i64 ((rd_T95 l0_0 x4_1).f0), .int .i64 ((rd_T95 l0_0 x4_1).f1), .int .i64 ((rd_T95 l0_0 x4_1).f2), .int .i64 ((rd_T95 l0_0 x4_1).f3)] 95 (0, 0))) := ⟨by (with_reducible repeat (first | refine blk_drewN ?_ _ | refine blk_drew ?_ | refine blk_alloc ?_ _)); refine blk_put (cs := #[.int .i64 ((rd_T95 l0_0 x4_1).f0), .int .i64 ((rd_T95 l0_0 x4_1).f1), .int .i64 ((rd_T95 l0_0 x4_1).f2), .int .i64 0]) ?_ 3 _ rfl; (with_reducible repeat (first | refine blk_drewN ?_ _ | refine blk_drew ?_ | refine blk_alloc ?_ _)); refine blk_put (cs := #[.int .i64 ((rd_T95 l0_0 x4_1).f0), .int .i64 ((rd_T95 l0_0 x4_1).f1), .int .i64 0, .int .i64 0]) ?_ 2 _ rfl; (with_reducible repeat (first | refine blk_drewN ?_ _ | refine blk_drew ?_ | refine blk_alloc ?_ _)); refine blk_put (cs := #[.int .i64 ((rd_T95 l0_0 x4_1).f0), .int .i64 0, .int .i64 0, .int .i64 0]) ?_ 1 _ rfl; (with_reducible repeat (first | refine blk_drewN ?_ _ | refine blk_drew ?_ | refine blk_alloc ?_ _)); refine blk_put (cs := #[.int .i64 0, .int .i64 0, .int .i64 0, .int .i64 0]) ?_ 0 _ rfl; (with_reducible repeat (first | refine blk_drewN ?_ _ | refine blk_drew ?_ | refine blk_alloc ?_ _)); exact BK432.out⟩
                        have n3_ : Aside0 (Below w.heap.size w ((((w19.setCell ⟨gb432, 0, none⟩ (.int .i64 ((rd_T95 l0_0 x4_1).f0))).setCell ⟨gb432, 1, none⟩ (.int .i64 ((rd_T95 l0_0 x4_1).f1))).setCell ⟨gb432, 2, none⟩ (.int .i64 ((rd_T95 l0_0 x4_1).f2))).setCell ⟨gb432, 3, none⟩ (.int .i64 ((rd_T95 l0_0 x4_1).f3)))) := ⟨oB HB⟩
                        (try clear HO_3)
                        (try clear BK426)
                        (try clear BK432)
                        (try clear HB)
                        generalize ((((w19.setCell ⟨gb432, 0, none⟩ (.int .i64 ((rd_T95 l0_0 x4_1).f0))).setCell ⟨gb432, 1, none⟩ (.int .i64 ((rd_T95 l0_0 x4_1).f1))).setCell ⟨gb432, 2, none⟩ (.int .i64 ((rd_T95 l0_0 x4_1).f2))).setCell ⟨gb432, 3, none⟩ (.int .i64 ((rd_T95 l0_0 x4_1).f3))) = w22 at n0_ n1_ n2_ n3_ ⊢
                        have HO_3 := n0_
                        have BK426 := n1_
                        have BK432 := n2_
                        have HB := n3_
                        clear n0_ n1_ n2_ n3_
                        have n0_ := A_ (Kd.R_drew HO_3.out)
                        have n1_ := A_ (blk_drew BK426.out)
                        have n2_ := A_ (blk_drew BK432.out)
                        have n3_ := A_ (below_drew1 HB.out)
                        clear HO_3
                        clear BK426
                        clear BK432
                        clear HB
                        have HO_3 := n0_
                        have BK426 := n1_
                        have BK432 := n2_
                        have HB := n3_
                        clear n0_ n1_ n2_ n3_
                        have p433 : 0 ≤ (((rd_T95 l0_0 x4_1).f1) : Int) := of_decide_eq_true (by first | (with_reducible assumption) | assumption)
                        have q433 : ((rd_T95 l0_0 x4_1).f1) < (l0_2.length : Int) := of_decide_eq_true (by first | (with_reducible assumption) | assumption)
                        obtain ⟨ad433, e433, hx433_0⟩ := Kd.at_int HR0_2.out ((rd_T95 l0_0 x4_1).f1) p433 q433
                        have hw433_0 := hx433_0
                        cases e433
                        replace hx433_0 := (HB.out.cell (World.block_lt_of_cell? w _ hx433_0)).trans hx433_0
                        replace p433 := eq_true p433
                        replace q433 := eq_true q433
                        have p434 : 0 ≤ (((rd_T95 l0_0 x4_1).f0) : Int) := of_decide_eq_true (by first | (with_reducible assumption) | assumption)
                        have q434 : ((rd_T95 l0_0 x4_1).f0) < (l0_2.length : Int) := of_decide_eq_true (by first | (with_reducible assumption) | assumption)
                        obtain ⟨ad434, e434, hx434_0⟩ := Kd.at_int HR0_2.out ((rd_T95 l0_0 x4_1).f0) p434 q434
                        have hw434_0 := hx434_0
                        obtain rfl : ad433 = ad434 := (by injection e434)
                        replace hx434_0 := (HB.out.cell (World.block_lt_of_cell? w _ hx434_0)).trans hx434_0
                        replace p434 := eq_true p434
                        replace q434 := eq_true q434
                        refine start_ (n := 18) (S := fun w' => w'.cell? ⟨gb426, 0, none⟩ = some (.slice (some ad431) l0_0.length c0_0) ∧ w'.cell? ⟨gb426, 1, none⟩ = some (.int .i64 a0_1) ∧ w'.cell? ⟨gb426, 2, none⟩ = some (.slice (some ad433) l0_2.length c0_2) ∧ w'.cell? ⟨gb432, 0, none⟩ = some (.int .i64 ((rd_T95 l0_0 x4_1).f0)) ∧ w'.cell? ⟨gb432, 1, none⟩ = some (.int .i64 ((rd_T95 l0_0 x4_1).f1)) ∧ w'.cell? ⟨gb432, 2, none⟩ = some (.int .i64 ((rd_T95 l0_0 x4_1).f2)) ∧ w'.cell? ⟨gb432, 3, none⟩ = some (.int .i64 ((rd_T95 l0_0 x4_1).f3)) ∧ w'.cell? (ad433.add (((rd_T95 l0_0 x4_1).f1)).toNat) = some (.int .i64 (rd l0_2 ((rd_T95 l0_0 x4_1).f1))) ∧ w'.cell? (ad433.add (((rd_T95 l0_0 x4_1).f0)).toNat) = some (.int .i64 (rd l0_2 ((rd_T95 l0_0 x4_1).f0)))) (ds := []) #[false, false, false, false, false, false, false, false, false, false, false, false, false, false, false, false, false, false] (by kernel_rfl) rfl rfl ⟨cz BK426 0, cz BK426 1, cz BK426 2, cz BK432 0, cz BK432 1, cz BK432 2, cz BK432 3, ((HB.out.cell (World.block_lt_of_cell? w _ hw433_0)).trans hw433_0), ((HB.out.cell (World.block_lt_of_cell? w _ hw434_0)).trans hw434_0)⟩ (fun hHeld => ?_); refine with_tabW spec_WrongSteps.tab8 spec_WrongSteps.bits8 (fun HT_ HW_ => ?_)
                        generalize w22.drew = w23 at HO_3 BK426 BK432 HB hx433_0 hx434_0 hHeld ⊢
                        refine pA 0 (some 22) HT_.out ?_
                        refine pA 2 (some 24) HT_.out ?_
                        refine pA 6 (some 28) HT_.out ?_
                        refine pA 8 (some 30) HT_.out ?_
                        refine pA 12 (some 34) HT_.out ?_
                        refine pA 14 (some 36) HT_.out ?_
                        refine pT 1 (some 23) HT_.out HW_.out hHeld ?_
                        refine pT 3 (some 25) HT_.out HW_.out hHeld ?_
                        refine pA 4 (some 26) HT_.out ?_
                        refine pT 5 (some 27) HT_.out HW_.out hHeld ?_
                        refine pT 7 (some 29) HT_.out HW_.out hHeld ?_
                        refine pT 9 (some 31) HT_.out HW_.out hHeld ?_
                        refine pA 10 (some 32) HT_.out ?_
                        refine pT 11 (some 33) HT_.out HW_.out hHeld ?_
                        refine pT 13 (some 35) HT_.out HW_.out hHeld ?_
                        refine pT 15 (some 37) HT_.out HW_.out hHeld ?_
                        refine one_ (i := 16) (N := some 38) #[true, true, true, true, true, true, true, true, true, true, true, true, true, true, true, true, true, false] rfl rfl (one_of HT_.out (by kernel_rfl)) (by decide) (fun K hK => ?_)
                        refine goes_ Tryz.func73 (by kernel_rfl) rfl #[.int .i64 (rd l0_2 ((rd_T95 l0_0 x4_1).f0)), .int .i64 ((rd_T95 l0_0 x4_1).f2), .int .i64 ((rd_T95 l0_0 x4_1).f3)] (by rfl) rfl rfl (by (try simp only [List.map_toArray, List.map_cons, List.map_nil]); first | done | rfl | (simp only [List.length_drop, List.length_take]; rfl)) ?_
                        with_reducible refine (spec_TunedPitch.calls k1 (rd l0_2 ((rd_T95 l0_0 x4_1).f0)) ((rd_T95 l0_0 x4_1).f2) ((rd_T95 l0_0 x4_1).f3) t435 _ A16.out).mono ?_
                        rintro e w24 ⟨rfl, hb⟩
                        refine ⟨_, rfl, ?_⟩
                        have n0_ := A_ (Kd.R_below (oR HO_3) hb)
                        have n1_ := A_ (bb BK426 hb)
                        have n2_ := A_ (bb BK432 hb)
                        have n3_ := A_ (below_step (oB HB) hb)
                        clear HO_3
                        clear BK426
                        clear BK432
                        clear HB
                        have HO_3 := n0_
                        have BK426 := n1_
                        have BK432 := n2_
                        have HB := n3_
                        clear n0_ n1_ n2_ n3_
                        (try clear hb)
                        (try clear hb2)
                        (try clear hk)
                        (try clear hi)
                        refine hK.out _ _ ⟨cz BK426 0, cz BK426 1, cz BK426 2, cz BK432 0, cz BK432 1, cz BK432 2, cz BK432 3, ((HB.out.cell (World.block_lt_of_cell? w _ hw433_0)).trans hw433_0), ((HB.out.cell (World.block_lt_of_cell? w _ hw434_0)).trans hw434_0)⟩ (fun hHeld => ?_)
                        clear hK K
                        refine norm_ (a' := ?_) ?_ ?_
                        rotate_left
                        · show Act.put _ (some 38) _ = _
                          simp only [Act.put, List.setIfInBounds_toArray, List.set_cons_zero, List.set_cons_succ, i64_w, i32_w]
                          rfl
                        refine pA 17 (some 39) HT_.out ?_
                        refine done_ (done_of HT_.out (by kernel_rfl)) ?_
                        try go_wp2
                        go_roundg k1
                        case measure => have := HK1.out; omega
                        case rel => exact ⟨(x3_1), (wrap64 (x4_1 + 1)), (by first | rfl | (simp; done) | (simp [*]; done)), H', ⟨by have := HK1.out; omega⟩, ⟨oR HO_3⟩, ⟨oK BK426⟩, ⟨oB HB⟩⟩
                      · rw [if_neg c17] at H
                        have c17b0 : ((rd l0_2 ((rd_T95 l0_0 x4_1).f1)) == t435) = false := beq_eq_false_iff_ne.mpr c17
                        have c17b1 : ((rd l0_2 ((rd_T95 l0_0 x4_1).f1)) != t435) = true := bne_iff_ne.mpr c17
                        by_cases c25 : x3_1.length < 17592186044416
                        · rw [if_pos c25] at H
                          have LMc25 := A_ c25
                          clear c25
                          obtain ⟨y436, hy436⟩ : ∃ y_ : List Int, y_ = (x3_1 ++ [x4_1]) := ⟨_, rfl⟩
                          replace H : (spec_WrongSteps.l0 k1 y436 (wrap64 (x4_1 + 1)) l0_0 a0_1 l0_2) = some r := by first | (rw [hy436]; with_reducible exact H) | (have H2_ := (Option.bind_some _ _).symm.trans H; rw [hy436]; with_reducible exact H2_) | (have H2_ := (Option.bind_some _ _).symm.trans H; with_reducible exact H2_) | with_reducible exact H | (rw [hy436]; exact H) | exact H
                          have Ny436 := A_ hy436
                          clear hy436
                          have H' := A_ H
                          clear H
                          have hcz26_0 := cz BK426 0
                          have hcz26_1 := cz BK426 1
                          have hcz26_2 := cz BK426 2
                          have hfz26_0 := blk_frozen BK426.out 0
                          have hfz26_1 := blk_frozen BK426.out 1
                          have hfz26_2 := blk_frozen BK426.out 2
                          have p431 : 0 ≤ (x4_1 : Int) := of_decide_eq_true (by first | (with_reducible assumption) | assumption)
                          have q431 : x4_1 < (l0_0.length : Int) := of_decide_eq_true (by first | (with_reducible assumption) | assumption)
                          obtain ⟨ad431, e431, hx431_0, hx431_1, hx431_2, hx431_3⟩ := at_T95 HR0_0.out x4_1 p431 q431
                          cases e431
                          replace hx431_0 := (HB.out.cell (World.block_lt_of_cell? w _ hx431_0)).trans hx431_0
                          replace hx431_1 := (HB.out.cell (World.block_lt_of_cell? w _ hx431_1)).trans hx431_1
                          replace hx431_2 := (HB.out.cell (World.block_lt_of_cell? w _ hx431_2)).trans hx431_2
                          replace hx431_3 := (HB.out.cell (World.block_lt_of_cell? w _ hx431_3)).trans hx431_3
                          replace p431 := eq_true p431
                          replace q431 := eq_true q431
                          try go_wp2_with (first | ((with_reducible refine gate_dst (N := 5) rfl ?_); refine bX (N := 5) (cs := #[.int .i64 0, .int .i64 0, .int .i64 0, .int .i64 0]) (t := 95) ?_; intro gb432 hg w27 hbox hb; have n0_ := A_ (Kd.R_below (oR HO_3) hb); have n1_ := A_ (bb BK426 hb); have n2_ := A_ (below_step (oB HB) hb); have n3_ := A_ (hbox); have n4_ := A_ ((by rw [hg]; exact (below_size (oB HB)) : w.heap.size ≤ gb432)); have n5_ := A_ ((by rw [hg]; exact (below_size (oB HB)) : w.heap.size ≤ gb432)); have n6_ := A_ (nL BK426 hg); have n7_ := A_ (nG BK426 hg); clear HO_3; clear BK426; clear HB; have HO_3 := n0_; have BK426 := n1_; have HB := n2_; have BK432 := n3_; have GW432 := n4_; have GE432 := n5_; have NB426_432 := n6_; have NB432_426 := n7_; clear n0_ n1_ n2_ n3_ n4_ n5_ n6_ n7_; clear hb hbox hg; have hnb28 := NB432_426.out; have hnc28 := NB426_432.out; have hcz29_0 := cz BK432 0; have hcz29_1 := cz BK432 1; have hcz29_2 := cz BK432 2; have hcz29_3 := cz BK432 3; have hfz29_0 := blk_frozen BK432.out 0; have hfz29_1 := blk_frozen BK432.out 1; have hfz29_2 := blk_frozen BK432.out 2; have hfz29_3 := blk_frozen BK432.out 3))
                          have n0_ : Aside0 (Kd.R (Kd.int .i64) 3 ((((w27.setCell ⟨gb432, 0, none⟩ (.int .i64 ((rd_T95 l0_0 x4_1).f0))).setCell ⟨gb432, 1, none⟩ (.int .i64 ((rd_T95 l0_0 x4_1).f1))).setCell ⟨gb432, 2, none⟩ (.int .i64 ((rd_T95 l0_0 x4_1).f2))).setCell ⟨gb432, 3, none⟩ (.int .i64 ((rd_T95 l0_0 x4_1).f3))) w.heap.size (fun _ => True) u3 x3_1) := ⟨by (with_reducible repeat (first | apply Kd.R_alloc | apply Kd.R_drewN | apply Kd.R_drew)); exact Kd.R_mono (Kd.R_far (p := ⟨gb432, 3, none⟩) (Kd.R_far (p := ⟨gb432, 2, none⟩) (Kd.R_far (p := ⟨gb432, 1, none⟩) (Kd.R_far (p := ⟨gb432, 0, none⟩) (Kd.R_types HO_3.out BK432.out (by decide)) (fun _ hk => hk.2) (.int .i64 ((rd_T95 l0_0 x4_1).f0))) (fun _ hk => hk.2) (.int .i64 ((rd_T95 l0_0 x4_1).f1))) (fun _ hk => hk.2) (.int .i64 ((rd_T95 l0_0 x4_1).f2))) (fun _ hk => hk.2) (.int .i64 ((rd_T95 l0_0 x4_1).f3))) (fun _ hk => trivial)⟩
                          have n1_ : Aside0 (((((w27.setCell ⟨gb432, 0, none⟩ (.int .i64 ((rd_T95 l0_0 x4_1).f0))).setCell ⟨gb432, 1, none⟩ (.int .i64 ((rd_T95 l0_0 x4_1).f1))).setCell ⟨gb432, 2, none⟩ (.int .i64 ((rd_T95 l0_0 x4_1).f2))).setCell ⟨gb432, 3, none⟩ (.int .i64 ((rd_T95 l0_0 x4_1).f3))).heap[gb426]? = some (.cells #[.slice (some ad431) l0_0.length c0_0, .int .i64 a0_1, .slice A0_2 l0_2.length c0_2] 27 (0, 0))) := ⟨by (with_reducible repeat (first | refine blk_drewN ?_ _ | refine blk_drew ?_ | refine blk_alloc ?_ _)); refine blk_far ?_ NB426_432.out _; (with_reducible repeat (first | refine blk_drewN ?_ _ | refine blk_drew ?_ | refine blk_alloc ?_ _)); refine blk_far ?_ NB426_432.out _; (with_reducible repeat (first | refine blk_drewN ?_ _ | refine blk_drew ?_ | refine blk_alloc ?_ _)); refine blk_far ?_ NB426_432.out _; (with_reducible repeat (first | refine blk_drewN ?_ _ | refine blk_drew ?_ | refine blk_alloc ?_ _)); refine blk_far ?_ NB426_432.out _; (with_reducible repeat (first | refine blk_drewN ?_ _ | refine blk_drew ?_ | refine blk_alloc ?_ _)); exact BK426.out⟩
                          have n2_ : Aside0 (((((w27.setCell ⟨gb432, 0, none⟩ (.int .i64 ((rd_T95 l0_0 x4_1).f0))).setCell ⟨gb432, 1, none⟩ (.int .i64 ((rd_T95 l0_0 x4_1).f1))).setCell ⟨gb432, 2, none⟩ (.int .i64 ((rd_T95 l0_0 x4_1).f2))).setCell ⟨gb432, 3, none⟩ (.int .i64 ((rd_T95 l0_0 x4_1).f3))).heap[gb432]? = some (.cells #[.int .i64 ((rd_T95 l0_0 x4_1).f0), .int .i64 ((rd_T95 l0_0 x4_1).f1), .int .i64 ((rd_T95 l0_0 x4_1).f2), .int .i64 ((rd_T95 l0_0 x4_1).f3)] 95 (0, 0))) := ⟨by (with_reducible repeat (first | refine blk_drewN ?_ _ | refine blk_drew ?_ | refine blk_alloc ?_ _)); refine blk_put (cs := #[.int .i64 ((rd_T95 l0_0 x4_1).f0), .int .i64 ((rd_T95 l0_0 x4_1).f1), .int .i64 ((rd_T95 l0_0 x4_1).f2), .int .i64 0]) ?_ 3 _ rfl; (with_reducible repeat (first | refine blk_drewN ?_ _ | refine blk_drew ?_ | refine blk_alloc ?_ _)); refine blk_put (cs := #[.int .i64 ((rd_T95 l0_0 x4_1).f0), .int .i64 ((rd_T95 l0_0 x4_1).f1), .int .i64 0, .int .i64 0]) ?_ 2 _ rfl; (with_reducible repeat (first | refine blk_drewN ?_ _ | refine blk_drew ?_ | refine blk_alloc ?_ _)); refine blk_put (cs := #[.int .i64 ((rd_T95 l0_0 x4_1).f0), .int .i64 0, .int .i64 0, .int .i64 0]) ?_ 1 _ rfl; (with_reducible repeat (first | refine blk_drewN ?_ _ | refine blk_drew ?_ | refine blk_alloc ?_ _)); refine blk_put (cs := #[.int .i64 0, .int .i64 0, .int .i64 0, .int .i64 0]) ?_ 0 _ rfl; (with_reducible repeat (first | refine blk_drewN ?_ _ | refine blk_drew ?_ | refine blk_alloc ?_ _)); exact BK432.out⟩
                          have n3_ : Aside0 (Below w.heap.size w ((((w27.setCell ⟨gb432, 0, none⟩ (.int .i64 ((rd_T95 l0_0 x4_1).f0))).setCell ⟨gb432, 1, none⟩ (.int .i64 ((rd_T95 l0_0 x4_1).f1))).setCell ⟨gb432, 2, none⟩ (.int .i64 ((rd_T95 l0_0 x4_1).f2))).setCell ⟨gb432, 3, none⟩ (.int .i64 ((rd_T95 l0_0 x4_1).f3)))) := ⟨oB HB⟩
                          (try clear HO_3)
                          (try clear BK426)
                          (try clear BK432)
                          (try clear HB)
                          generalize ((((w27.setCell ⟨gb432, 0, none⟩ (.int .i64 ((rd_T95 l0_0 x4_1).f0))).setCell ⟨gb432, 1, none⟩ (.int .i64 ((rd_T95 l0_0 x4_1).f1))).setCell ⟨gb432, 2, none⟩ (.int .i64 ((rd_T95 l0_0 x4_1).f2))).setCell ⟨gb432, 3, none⟩ (.int .i64 ((rd_T95 l0_0 x4_1).f3))) = w30 at n0_ n1_ n2_ n3_ ⊢
                          have HO_3 := n0_
                          have BK426 := n1_
                          have BK432 := n2_
                          have HB := n3_
                          clear n0_ n1_ n2_ n3_
                          have n0_ := A_ (Kd.R_drew HO_3.out)
                          have n1_ := A_ (blk_drew BK426.out)
                          have n2_ := A_ (blk_drew BK432.out)
                          have n3_ := A_ (below_drew1 HB.out)
                          clear HO_3
                          clear BK426
                          clear BK432
                          clear HB
                          have HO_3 := n0_
                          have BK426 := n1_
                          have BK432 := n2_
                          have HB := n3_
                          clear n0_ n1_ n2_ n3_
                          have p433 : 0 ≤ (((rd_T95 l0_0 x4_1).f1) : Int) := of_decide_eq_true (by first | (with_reducible assumption) | assumption)
                          have q433 : ((rd_T95 l0_0 x4_1).f1) < (l0_2.length : Int) := of_decide_eq_true (by first | (with_reducible assumption) | assumption)
                          obtain ⟨ad433, e433, hx433_0⟩ := Kd.at_int HR0_2.out ((rd_T95 l0_0 x4_1).f1) p433 q433
                          have hw433_0 := hx433_0
                          cases e433
                          replace hx433_0 := (HB.out.cell (World.block_lt_of_cell? w _ hx433_0)).trans hx433_0
                          replace p433 := eq_true p433
                          replace q433 := eq_true q433
                          have p434 : 0 ≤ (((rd_T95 l0_0 x4_1).f0) : Int) := of_decide_eq_true (by first | (with_reducible assumption) | assumption)
                          have q434 : ((rd_T95 l0_0 x4_1).f0) < (l0_2.length : Int) := of_decide_eq_true (by first | (with_reducible assumption) | assumption)
                          obtain ⟨ad434, e434, hx434_0⟩ := Kd.at_int HR0_2.out ((rd_T95 l0_0 x4_1).f0) p434 q434
                          have hw434_0 := hx434_0
                          obtain rfl : ad433 = ad434 := (by injection e434)
                          replace hx434_0 := (HB.out.cell (World.block_lt_of_cell? w _ hx434_0)).trans hx434_0
                          replace p434 := eq_true p434
                          replace q434 := eq_true q434
                          refine start_ (n := 18) (S := fun w' => w'.cell? ⟨gb426, 0, none⟩ = some (.slice (some ad431) l0_0.length c0_0) ∧ w'.cell? ⟨gb426, 1, none⟩ = some (.int .i64 a0_1) ∧ w'.cell? ⟨gb426, 2, none⟩ = some (.slice (some ad433) l0_2.length c0_2) ∧ w'.cell? ⟨gb432, 0, none⟩ = some (.int .i64 ((rd_T95 l0_0 x4_1).f0)) ∧ w'.cell? ⟨gb432, 1, none⟩ = some (.int .i64 ((rd_T95 l0_0 x4_1).f1)) ∧ w'.cell? ⟨gb432, 2, none⟩ = some (.int .i64 ((rd_T95 l0_0 x4_1).f2)) ∧ w'.cell? ⟨gb432, 3, none⟩ = some (.int .i64 ((rd_T95 l0_0 x4_1).f3)) ∧ w'.cell? (ad433.add (((rd_T95 l0_0 x4_1).f1)).toNat) = some (.int .i64 (rd l0_2 ((rd_T95 l0_0 x4_1).f1))) ∧ w'.cell? (ad433.add (((rd_T95 l0_0 x4_1).f0)).toNat) = some (.int .i64 (rd l0_2 ((rd_T95 l0_0 x4_1).f0)))) (ds := []) #[false, false, false, false, false, false, false, false, false, false, false, false, false, false, false, false, false, false] (by kernel_rfl) rfl rfl ⟨cz BK426 0, cz BK426 1, cz BK426 2, cz BK432 0, cz BK432 1, cz BK432 2, cz BK432 3, ((HB.out.cell (World.block_lt_of_cell? w _ hw433_0)).trans hw433_0), ((HB.out.cell (World.block_lt_of_cell? w _ hw434_0)).trans hw434_0)⟩ (fun hHeld => ?_); refine with_tabW spec_WrongSteps.tab8 spec_WrongSteps.bits8 (fun HT_ HW_ => ?_)
                          generalize w30.drew = w31 at HO_3 BK426 BK432 HB hx433_0 hx434_0 hHeld ⊢
                          refine pA 0 (some 22) HT_.out ?_
                          refine pA 2 (some 24) HT_.out ?_
                          refine pA 6 (some 28) HT_.out ?_
                          refine pA 8 (some 30) HT_.out ?_
                          refine pA 12 (some 34) HT_.out ?_
                          refine pA 14 (some 36) HT_.out ?_
                          refine pT 1 (some 23) HT_.out HW_.out hHeld ?_
                          refine pT 3 (some 25) HT_.out HW_.out hHeld ?_
                          refine pA 4 (some 26) HT_.out ?_
                          refine pT 5 (some 27) HT_.out HW_.out hHeld ?_
                          refine pT 7 (some 29) HT_.out HW_.out hHeld ?_
                          refine pT 9 (some 31) HT_.out HW_.out hHeld ?_
                          refine pA 10 (some 32) HT_.out ?_
                          refine pT 11 (some 33) HT_.out HW_.out hHeld ?_
                          refine pT 13 (some 35) HT_.out HW_.out hHeld ?_
                          refine pT 15 (some 37) HT_.out HW_.out hHeld ?_
                          refine one_ (i := 16) (N := some 38) #[true, true, true, true, true, true, true, true, true, true, true, true, true, true, true, true, true, false] rfl rfl (one_of HT_.out (by kernel_rfl)) (by decide) (fun K hK => ?_)
                          refine goes_ Tryz.func73 (by kernel_rfl) rfl #[.int .i64 (rd l0_2 ((rd_T95 l0_0 x4_1).f0)), .int .i64 ((rd_T95 l0_0 x4_1).f2), .int .i64 ((rd_T95 l0_0 x4_1).f3)] (by rfl) rfl rfl (by (try simp only [List.map_toArray, List.map_cons, List.map_nil]); first | done | rfl | (simp only [List.length_drop, List.length_take]; rfl)) ?_
                          with_reducible refine (spec_TunedPitch.calls k1 (rd l0_2 ((rd_T95 l0_0 x4_1).f0)) ((rd_T95 l0_0 x4_1).f2) ((rd_T95 l0_0 x4_1).f3) t435 _ A16.out).mono ?_
                          rintro e w32 ⟨rfl, hb⟩
                          refine ⟨_, rfl, ?_⟩
                          have n0_ := A_ (Kd.R_below (oR HO_3) hb)
                          have n1_ := A_ (bb BK426 hb)
                          have n2_ := A_ (bb BK432 hb)
                          have n3_ := A_ (below_step (oB HB) hb)
                          clear HO_3
                          clear BK426
                          clear BK432
                          clear HB
                          have HO_3 := n0_
                          have BK426 := n1_
                          have BK432 := n2_
                          have HB := n3_
                          clear n0_ n1_ n2_ n3_
                          (try clear hb)
                          (try clear hb2)
                          (try clear hk)
                          (try clear hi)
                          refine hK.out _ _ ⟨cz BK426 0, cz BK426 1, cz BK426 2, cz BK432 0, cz BK432 1, cz BK432 2, cz BK432 3, ((HB.out.cell (World.block_lt_of_cell? w _ hw433_0)).trans hw433_0), ((HB.out.cell (World.block_lt_of_cell? w _ hw434_0)).trans hw434_0)⟩ (fun hHeld => ?_)
                          clear hK K
                          refine norm_ (a' := ?_) ?_ ?_
                          rotate_left
                          · show Act.put _ (some 38) _ = _
                            simp only [Act.put, List.setIfInBounds_toArray, List.set_cons_zero, List.set_cons_succ, i64_w, i32_w]
                            rfl
                          refine pA 17 (some 39) HT_.out ?_
                          refine done_ (done_of HT_.out (by kernel_rfl)) ?_
                          try go_wp2_with (first | ((with_reducible refine gate_builtin (b := .append) (xs := #[.tmp 40, .tmp 42]) rfl ?_); at_builtin; refine Kd.R_append (Kd.int .i64) (w0 := w) w.heap.size rfl (.tmp 40) (.tmp 42) 25 3 (.int .i64 0) 8 rfl Tryz.underlying25 info3 rfl (by decide) (by omega) u3 x3_1 x4_1 [.int .i64 x4_1] (fun _ => True) (fun _ => False) rfl rfl ?aP (fun _ hk => hk.elim) ?aF ?aO ?aB ?aS ?aL ?_; (case aP => exact rfl); (case aB => exact (oB HB)); (case aF => exact (fun _ _ => trivial)); (case aO => exact (oR HO_3)); (case aS => exact (below_size (oB HB))); (case aL => have := LMc25.out; omega); intro v437 w33 ho hb hg hat; rw [← Ny436.out] at ho; have n0_ := A_ (bg BK426 hg (Kd.R_ne HO_3.out BK426.out (by decide))); have n1_ := A_ (bg BK432 hg (Kd.R_ne HO_3.out BK432.out (by decide))); have n2_ := A_ (hb); have n3_ := A_ (ho); clear BK426; clear BK432; clear HB; clear HO_3; have BK426 := n0_; have BK432 := n1_; have HB := n2_; have HO438 := n3_; clear n0_ n1_ n2_ n3_; clear ho hb hg hat))
                          go_roundg k1
                          case measure => have := HK1.out; omega
                          case rel => exact ⟨(y436), (wrap64 (x4_1 + 1)), (by first | rfl | (simp; done) | (simp [*]; done)), H', ⟨by have := HK1.out; omega⟩, ⟨oR HO438⟩, ⟨oK BK426⟩, ⟨oB HB⟩⟩
                        · rw [if_neg c25] at H
                          exact absurd H (by simp)
                    · rw [if_neg c15] at H
                      exact absurd H (by simp)
                  · rw [if_neg c14] at H
                    exact absurd H (by simp)
                · rw [if_neg c13] at H
                  exact absurd H (by simp)
              · rw [if_neg c12] at H
                exact absurd H (by simp)
            · rw [if_neg c11] at H
              exact absurd H (by simp)
          · rw [if_neg c10] at H
            exact absurd H (by simp)
        · rw [if_neg c9] at H
          have c9b0 : decide (x4_1 < a0_1) = false := decide_eq_false c9
          clear c9
          obtain rfl := Option.some.inj H
          have hcz34_0 := cz BK426 0
          have hcz34_1 := cz BK426 1
          have hcz34_2 := cz BK426 2
          have hfz34_0 := blk_frozen BK426.out 0
          have hfz34_1 := blk_frozen BK426.out 1
          have hfz34_2 := blk_frozen BK426.out 2
          go_wp2
          go_ret
          exact ⟨_, eR, oR HO_3, oB HB⟩
  · replace c3 := Bool.eq_false_iff.mpr c3
    subst c3
    rw [if_neg (show ¬ (false = true) by decide)] at H
    obtain rfl := Option.some.inj H
    go_enter Tryz.func55, Tryz.ntmps55
    go_wp2_with (first | ((with_reducible refine gate_dst (N := 1) rfl ?_); refine bX (N := 1) (cs := #[.slice A0_0 l0_0.length c0_0, .int .i64 a0_1, .slice A0_2 l0_2.length c0_2]) (t := 27) ?_; intro gb426 hg w35 hbox hb; have n0_ := A_ (below_step (oB HB) hb); have n1_ := A_ (hbox); have n2_ := A_ ((by rw [hg]; exact (below_size (oB HB)) : w.heap.size ≤ gb426)); have n3_ := A_ ((by rw [hg]; exact (below_size (oB HB)) : w.heap.size ≤ gb426)); clear HB; have HB := n0_; have BK426 := n1_; have GW426 := n2_; have GE426 := n3_; clear n0_ n1_ n2_ n3_; clear hb hbox hg) | ((with_reducible refine gate_dst (N := 6) rfl ?_); refine Kd.R_lit (Kd.int .i64) _ 3 ?hg (N := 6) ?hd (xs := ([] : List Int)) (inner := []) (ok := fun _ => True) (okp := fun _ => True) ?hr ?hp (fun _ hk => hk) trivial (Below.refl _ _) (Nat.le_refl _) (by simp) ?_; (case hd => rfl); (case hg => rfl); (case hr => first | (go_simp; done) | (go_simp; rfl)); (case hp => exact (Reps.none _ _)); intro v428 w36 ho37 hb hg_ hnew_; clear hg_ hnew_; (first | rw [← Ny427.out] at ho37 | (simp only [Int.reduceToNat] at ho37; rw [← Ny427.out] at ho37)); have n0_ := A_ (Kd.R_lower ho37 (below_size (oB HB))); have n1_ := A_ (bb BK426 hb); have n2_ := A_ (below_step (oB HB) hb); clear BK426; clear HB; have HO429 := n0_; have BK426 := n1_; have HB := n2_; clear n0_ n1_ n2_; clear hb ho37; have hcz38_0 := cz BK426 0; have hcz38_1 := cz BK426 1; have hcz38_2 := cz BK426 2; have hfz38_0 := blk_frozen BK426.out 0; have hfz38_1 := blk_frozen BK426.out 1; have hfz38_2 := blk_frozen BK426.out 2) | ((with_reducible refine gate_callee (f := 71) rfl ?_); refine gL (some 8) Tryz.func71 #[.agg #[.slice A0_0 l0_0.length c0_0, .int .i64 a0_1, .slice A0_2 l0_2.length c0_2]] ?_; (with_reducible refine (spec_WorkOk.calls k _ _ l0_0 a0_1 _ _ l0_2 false _ ?side1 ?side2 ?side3 ?side4 A2.out).mono ?_); (case side1 => exact oc_ HR0_0.out); (case side2 => exact HC0_0.out); (case side3 => exact oc_ HR0_2.out); (case side4 => exact HC0_2.out); rintro e w39 ⟨rfl, hb⟩; refine ⟨_, rfl, ?_⟩; have n0_ := A_ (Kd.R_below (oR HO429) hb); have n1_ := A_ (bb BK426 hb); have n2_ := A_ (below_step (oB HB) hb); clear HO429; clear BK426; clear HB; have HO429 := n0_; have BK426 := n1_; have HB := n2_; clear n0_ n1_ n2_; (try clear hb); (try clear hb2); (try clear hk); (try clear hi)))
    go_ret
    exact ⟨_, eR, oR HO429, oB HB⟩
end Go.Proofs.YtojiighpkppckaaGreatDoor.P


namespace Go.Proofs.YtojiighpkppckaaGreatDoor.P
open Go.RowKit Go.Proofs.YtojiighpkppckaaGreatDoorW.PrintWords Go.Proofs.YtojiighpkppckaaGreatDoorW.PrintLast Go.Proofs.YtojiighpkppckaaGreatDoorW.PrintMore Go.Proofs.YtojiighpkppckaaGreatDoor.V
attribute [local go_sem] cell_b frozen_b cellR_c cell_r frozen_r cell_r0 frozen_r0
attribute [local go_sem] max2_int min2_int max_two min_two max_three min_three max_four min_four
set_option linter.unusedVariables false
set_option linter.unusedSimpArgs false
def spec_MendStep.f (k : Nat) (l0_0 : List (S95)) (a0_1 : Int) (l0_2 : List Int) : Option ((List (S95)) × Int × List Int × Bool) := (spec_l36Copy.f l0_0 a0_1 l0_2).bind fun bt441 => ((spec_WrongSteps.f k l0_0 a0_1 l0_2).bind fun t449 => (if (t449.length : Int) = 0 then (some (bt441.1, bt441.2.1, bt441.2.2, false)) else (if 0 < (t449.length : Int) then (if 0 ≤ (rd t449 0) then (if (rd t449 0) < (l0_0.length : Int) then (if 0 ≤ ((rd_T95 l0_0 (rd t449 0)).f0) then (if ((rd_T95 l0_0 (rd t449 0)).f0) < (l0_2.length : Int) then ((spec_TunedPitch.f k (rd l0_2 ((rd_T95 l0_0 (rd t449 0)).f0)) ((rd_T95 l0_0 (rd t449 0)).f2) ((rd_T95 l0_0 (rd t449 0)).f3)).bind fun t456 => (if t456 = 0 then (some (bt441.1, bt441.2.1, bt441.2.2, false)) else (if 0 ≤ ((rd_T95 l0_0 (rd t449 0)).f1) then (if ((rd_T95 l0_0 (rd t449 0)).f1) < (bt441.2.2.length : Int) then (some (bt441.1, bt441.2.1, (bt441.2.2.set (((rd_T95 l0_0 (rd t449 0)).f1) : Int).toNat t456), true)) else (none)) else (none)))) else (none)) else (none)) else (none)) else (none)) else (none))))
def spec_MendStep.T5 : Bool × List (List Nat × List Nat) := (true, [([], []), ([0], [0]), ([], []), ([2], [2]), ([3], [3]), ([1, 4], [1, 4]), ([5], [5]), ([], []), ([7, 6, 0, 1, 2, 3, 4, 5, 6, 7], [6, 7])])
def spec_MendStep.B5 : List Nat := [0, 1, 0, 4, 12, 31, 63, 0, 255]
theorem spec_MendStep.tab5 : rtab .any (opsOf Tryz.f56 5) = spec_MendStep.T5 := by kernel_rfl
theorem spec_MendStep.bits5 : waitsOk spec_MendStep.T5.2 spec_MendStep.B5 = true := by kernel_rfl
def spec_MendStep.T6 : Bool × List (List Nat × List Nat) := (true, [([], []), ([0], [0]), ([], []), ([2], [2]), ([1, 3], [1, 3]), ([4], [4]), ([], []), ([6], [6]), ([], []), ([8], [8]), ([5, 7, 9], [5, 7, 9]), ([10, 10, 0, 1, 2, 3, 4, 5, 6, 7, 8, 9, 10], [10])])
def spec_MendStep.B6 : List Nat := [0, 1, 0, 4, 15, 31, 0, 64, 0, 256, 1023, 2047]
theorem spec_MendStep.tab6 : rtab .any (opsOf Tryz.f56 6) = spec_MendStep.T6 := by kernel_rfl
theorem spec_MendStep.bits6 : waitsOk spec_MendStep.T6.2 spec_MendStep.B6 = true := by kernel_rfl
set_option maxHeartbeats 8000000 in
set_option maxRecDepth 100000 in
set_option synthInstance.maxHeartbeats 400000 in
set_option synthInstance.maxSize 100000 in
theorem spec_MendStep.calls (k : Nat) (A0_0 : Option Addr) (c0_0 : Nat) (l0_0 : List (S95)) (a0_1 : Int) (A0_2 : Option Addr) (c0_2 : Nat) (l0_2 : List Int) (r1 : List (S95)) (r2 : Int) (r3 : List Int) (r4 : Bool) (w : World) (hr0_0 : Kd.C k95 w A0_0 l0_0.length l0_0) (hc0_0 : l0_0.length ≤ c0_0) (hr0_2 : Kd.C (Kd.int .i64) w A0_2 l0_2.length l0_2) (hc0_2 : l0_2.length ≤ c0_2) (h : spec_MendStep.f k l0_0 a0_1 l0_2 = some (r1, r2, r3, r4)) :
    Calls Tryz.prog 56 #[.agg #[.slice A0_0 l0_0.length c0_0, .int .i64 a0_1, .slice A0_2 l0_2.length c0_2]] w fun e w' => ∃ v0_ v2_ : Value, e = .returned (.tuple #[.agg #[v0_, .int .i64 r2, v2_], .bool r4]) ∧ Kd.R k95 95 w' w.heap.size (fun _ => True) v0_ r1 ∧ Kd.R (Kd.int .i64) 3 w' w.heap.size (fun _ => True) v2_ r3 ∧ Below w.heap.size w w' := by
  have ihr0_0 := RdE.mk hr0_0
  have ihc0_0 := LeI.mk hc0_0
  have ihr0_2 := RdE.mk hr0_2
  have ihc0_2 := LeI.mk hc0_2
  clear hr0_0 hc0_0 hr0_2 hc0_2
  have nt95_3 := NeT.mk (d := k95) (e := 95) (t := 3) (by decide)
  have nt95_27 := NeT.mk (d := k95) (e := 95) (t := 27) (by decide)
  unfold spec_MendStep.f at h
  have hu27 := Tryz.underlying27
  have hu95 := Tryz.underlying95
  (repeat' first | ((with_reducible replace h := ite_some h); rcases h with ⟨hc, h⟩ | ⟨hc, h⟩ <;> first | exact (none_some h).elim | exact absurd hc (by decide) | subst hc | (replace hc := Bool.eq_false_iff.mpr hc; subst hc) | (have hd : (_ == _) = true := hc) | (have hd : (_ == _) = false := Bool.eq_false_iff.mpr hc) | (have hd := beq_iff_eq.mpr hc; have he := bne_eq_false_iff_eq.mpr hc; clear hc) | (have hd := beq_eq_false_iff_ne.mpr hc; have he := bne_iff_ne.mpr hc) | (have hd := decide_eq_false hc) | (have hd := decide_eq_true hc; (try (have hn := Int.natCast_pos.mp hc; have hm := decide_eq_true hn; replace hn := eq_true hn)); first | (obtain ⟨g_, e_, i_⟩ := form_ (by assumption) (by first | assumption | decide) hc; cases e_) | (obtain ⟨a_, e_, c_⟩ := atI_ (by assumption) (by first | assumption | decide) hc; cases e_) | (obtain ⟨a_, e_, c0_, c1_, c2_, c3_⟩ := at_T95 (RdE.out (self := by assumption)) _ (by first | assumption | decide) hc; cases e_; replace c0_ := CelE.mk c0_; replace c1_ := CelE.mk c1_; replace c2_ := CelE.mk c2_; replace c3_ := CelE.mk c3_)) | (have hd := decide_eq_true hc) | skip) | ((with_reducible replace h := bind_set_ h); obtain ⟨hl_, h⟩ := h; replace hl_ := A_ hl_; (try dsimp only at h)))
  all_goals go_enter Tryz.func56, Tryz.ntmps56
  all_goals go_wp2_with (first
    | ((with_reducible refine gate_dst (N := 1) rfl ?_); refine box_event rfl (N := 1) rfl (cs := #[.slice A0_0 l0_0.length c0_0, .int .i64 a0_1, .slice A0_2 l0_2.length c0_2]) (t := 27) (by first | (go_simp; done) | (go_simp; rfl)) ?_; intro g hg w1 hk hb; have j1 := Born.mk hg; have j2 := Bel.mk hb; have j3 := Blk.mk hk; clear hg hb hk)
    | ((with_reducible refine gate_dst (N := 2) rfl ?_); refine box_event rfl (N := 2) rfl (cs := #[.slice none 0 0, .int .i64 0, .slice none 0 0]) (t := 27) (by first | (go_simp; done) | (go_simp; rfl)) ?_; intro g hg w1 hk hb; have j1 := Born.mk hg; have j2 := Bel.mk hb; have j3 := Blk.mk hk; clear hg hb hk)
    | ((with_reducible refine gate_dst (N := 4) rfl ?_); refine box_event rfl (N := 4) rfl (cs := #[.slice none 0 0, .int .i64 0, .slice none 0 0]) (t := 27) (by first | (go_simp; done) | (go_simp; rfl)) ?_; intro g hg w1 hk hb; have j1 := Born.mk hg; have j2 := Bel.mk hb; have j3 := Blk.mk hk; clear hg hb hk)
    | (go_at_call 69; (try rw [hl_.out]); replace h := Option.bind_eq_some_iff.mp h; obtain ⟨⟨t1, t2, t3⟩, A, h⟩ := h; (try dsimp only at h); refine (spec_l36Copy.calls _ _ _ _ _ _ _ _ _ _ _ Rd.out LeI.out Rd.out LeI.out A).mono ?_; rintro e w2 ⟨v0, v1, rfl, ho0, ho1, hb⟩; obtain ⟨B0, b0, rfl⟩ := Kd.R_slice ho0; have j0 := RowE.mk ho0; have q0 := LeI.mk (rowLe j0); obtain ⟨B1, b1, rfl⟩ := Kd.R_slice ho1; have j1 := RowE.mk ho1; have q1 := LeI.mk (rowLe j1); have jb := Bel.mk hb; clear A ho0 ho1 hb; (repeat' first | ((with_reducible replace h := ite_some h); rcases h with ⟨hc, h⟩ | ⟨hc, h⟩ <;> first | exact (none_some h).elim | exact absurd hc (by decide) | subst hc | (replace hc := Bool.eq_false_iff.mpr hc; subst hc) | (have hd : (_ == _) = true := hc) | (have hd : (_ == _) = false := Bool.eq_false_iff.mpr hc) | (have hd := beq_iff_eq.mpr hc; have he := bne_eq_false_iff_eq.mpr hc; clear hc) | (have hd := beq_eq_false_iff_ne.mpr hc; have he := bne_iff_ne.mpr hc) | (have hd := decide_eq_false hc) | (have hd := decide_eq_true hc; (try (have hn := Int.natCast_pos.mp hc; have hm := decide_eq_true hn; replace hn := eq_true hn)); first | (obtain ⟨g_, e_, i_⟩ := form_ (by assumption) (by first | assumption | decide) hc; cases e_) | (obtain ⟨a_, e_, c_⟩ := atI_ (by assumption) (by first | assumption | decide) hc; cases e_) | (obtain ⟨a_, e_, c0_, c1_, c2_, c3_⟩ := at_T95 (RdE.out (self := by assumption)) _ (by first | assumption | decide) hc; cases e_; replace c0_ := CelE.mk c0_; replace c1_ := CelE.mk c1_; replace c2_ := CelE.mk c2_; replace c3_ := CelE.mk c3_)) | (have hd := decide_eq_true hc) | skip) | ((with_reducible replace h := bind_set_ h); obtain ⟨hl_, h⟩ := h; replace hl_ := A_ hl_; (try dsimp only at h))))
    | (go_at_call 55; (try rw [hl_.out]); replace h := Option.bind_eq_some_iff.mp h; obtain ⟨t, A, h⟩ := h; (try dsimp only at h); refine (spec_WrongSteps.calls _ _ _ _ _ _ _ _ _ _ Rd.out LeI.out Rd.out LeI.out A).mono ?_; rintro e w2 ⟨v0, rfl, ho0, hb⟩; obtain ⟨B0, b0, rfl⟩ := Kd.R_slice ho0; have j0 := RowE.mk ho0; have q0 := LeI.mk (rowLe j0); have jb := Bel.mk hb; clear A ho0 hb; (repeat' first | ((with_reducible replace h := ite_some h); rcases h with ⟨hc, h⟩ | ⟨hc, h⟩ <;> first | exact (none_some h).elim | exact absurd hc (by decide) | subst hc | (replace hc := Bool.eq_false_iff.mpr hc; subst hc) | (have hd : (_ == _) = true := hc) | (have hd : (_ == _) = false := Bool.eq_false_iff.mpr hc) | (have hd := beq_iff_eq.mpr hc; have he := bne_eq_false_iff_eq.mpr hc; clear hc) | (have hd := beq_eq_false_iff_ne.mpr hc; have he := bne_iff_ne.mpr hc) | (have hd := decide_eq_false hc) | (have hd := decide_eq_true hc; (try (have hn := Int.natCast_pos.mp hc; have hm := decide_eq_true hn; replace hn := eq_true hn)); first | (obtain ⟨g_, e_, i_⟩ := form_ (by assumption) (by first | assumption | decide) hc; cases e_) | (obtain ⟨a_, e_, c_⟩ := atI_ (by assumption) (by first | assumption | decide) hc; cases e_) | (obtain ⟨a_, e_, c0_, c1_, c2_, c3_⟩ := at_T95 (RdE.out (self := by assumption)) _ (by first | assumption | decide) hc; cases e_; replace c0_ := CelE.mk c0_; replace c1_ := CelE.mk c1_; replace c2_ := CelE.mk c2_; replace c3_ := CelE.mk c3_)) | (have hd := decide_eq_true hc) | skip) | ((with_reducible replace h := bind_set_ h); obtain ⟨hl_, h⟩ := h; replace hl_ := A_ hl_; (try dsimp only at h))); (try have hn : decide (0 < t.length) = true := decide_eq_true (by omega)); (try have hn : decide (0 < t.length) = false := decide_eq_false (by omega)))
    | (refine qR (id := 5) (ds := []) (l := #[false, false, false, false, false, false, false, false, false]) spec_MendStep.tab5 spec_MendStep.bits5 ?_; intro HT_ HW_ w3 jw u0 iu hHeld; refine qA 0 (some 16) HT_ ?_; refine qA 2 (some 18) HT_ ?_; refine qA 3 (some 19) HT_ ?_; refine qT 1 (some 17) HT_ HW_ hHeld ?_; refine qT 4 (some 20) HT_ HW_ hHeld ?_; refine qA 5 (some 21) HT_ ?_; refine qT 6 (some 22) HT_ HW_ hHeld ?_; refine qB 7 6 #[.int .i64 0, .int .i64 0, .int .i64 0, .int .i64 0] 95 HT_ hHeld fun gx jb1 wx jb2 jb3 hHeld => ?_; refine qS 8 HT_ fun hHeld => ?_; refine qD HT_ ?_)
    | (refine qR (id := 6) (ds := []) (l := #[false, false, false, false, false, false, false, false, false, false, false, false]) spec_MendStep.tab6 spec_MendStep.bits6 ?_; intro HT_ HW_ w3 jw u0 iu hHeld; refine qA 0 (some 23) HT_ ?_; refine qA 2 (some 25) HT_ ?_; refine qA 6 (some 29) HT_ ?_; refine qA 8 (some 31) HT_ ?_; refine qT 1 (some 24) HT_ HW_ hHeld ?_; refine qT 3 (some 26) HT_ HW_ hHeld ?_; refine qA 4 (some 27) HT_ ?_; refine qT 5 (some 28) HT_ HW_ hHeld ?_; refine qT 7 (some 30) HT_ HW_ hHeld ?_; refine qT 9 (some 32) HT_ HW_ hHeld ?_; replace h := Option.bind_eq_some_iff.mp h; obtain ⟨t, A, h⟩ := h; (try dsimp only at h); refine qC 10 33 Tryz.func73 HT_ fun K hK => ?_; refine (spec_TunedPitch.calls _ _ _ _ _ _ A).mono ?_; rintro e w2 ⟨rfl, hb⟩; have jb := Bel.mk hb; clear A hb; refine ⟨_, rfl, hK _ _ From.out fun hHeld => ?_⟩; clear hK K; refine qN ?_; refine qA 11 (some 7) HT_ ?_; refine qD HT_ ?_; (repeat' first | ((with_reducible replace h := ite_some h); rcases h with ⟨hc, h⟩ | ⟨hc, h⟩ <;> first | exact (none_some h).elim | exact absurd hc (by decide) | subst hc | (replace hc := Bool.eq_false_iff.mpr hc; subst hc) | (have hd : (_ == _) = true := hc) | (have hd : (_ == _) = false := Bool.eq_false_iff.mpr hc) | (have hd := beq_iff_eq.mpr hc; have he := bne_eq_false_iff_eq.mpr hc; clear hc) | (have hd := beq_eq_false_iff_ne.mpr hc; have he := bne_iff_ne.mpr hc) | (have hd := decide_eq_false hc) | (have hd := decide_eq_true hc; (try (have hn := Int.natCast_pos.mp hc; have hm := decide_eq_true hn; replace hn := eq_true hn)); first | (obtain ⟨g_, e_, i_⟩ := form_ (by assumption) (by first | assumption | decide) hc; cases e_) | (obtain ⟨a_, e_, c_⟩ := atI_ (by assumption) (by first | assumption | decide) hc; cases e_) | (obtain ⟨a_, e_, c0_, c1_, c2_, c3_⟩ := at_T95 (RdE.out (self := by assumption)) _ (by first | assumption | decide) hc; cases e_; replace c0_ := CelE.mk c0_; replace c1_ := CelE.mk c1_; replace c2_ := CelE.mk c2_; replace c3_ := CelE.mk c3_)) | (have hd := decide_eq_true hc) | skip) | ((with_reducible replace h := bind_set_ h); obtain ⟨hl_, h⟩ := h; replace hl_ := A_ hl_; (try dsimp only at h)))))
  all_goals (repeat' first | ((with_reducible replace h := ite_some h); rcases h with ⟨hc, h⟩ | ⟨hc, h⟩ <;> first | exact (none_some h).elim | exact absurd hc (by decide) | subst hc | (replace hc := Bool.eq_false_iff.mpr hc; subst hc) | (have hd : (_ == _) = true := hc) | (have hd : (_ == _) = false := Bool.eq_false_iff.mpr hc) | (have hd := beq_iff_eq.mpr hc; have he := bne_eq_false_iff_eq.mpr hc; clear hc) | (have hd := beq_eq_false_iff_ne.mpr hc; have he := bne_iff_ne.mpr hc) | (have hd := decide_eq_false hc) | (have hd := decide_eq_true hc; (try (have hn := Int.natCast_pos.mp hc; have hm := decide_eq_true hn; replace hn := eq_true hn)); first | (obtain ⟨g_, e_, i_⟩ := form_ (by assumption) (by first | assumption | decide) hc; cases e_) | (obtain ⟨a_, e_, c_⟩ := atI_ (by assumption) (by first | assumption | decide) hc; cases e_) | (obtain ⟨a_, e_, c0_, c1_, c2_, c3_⟩ := at_T95 (RdE.out (self := by assumption)) _ (by first | assumption | decide) hc; cases e_; replace c0_ := CelE.mk c0_; replace c1_ := CelE.mk c1_; replace c2_ := CelE.mk c2_; replace c3_ := CelE.mk c3_)) | (have hd := decide_eq_true hc) | skip) | ((with_reducible replace h := bind_set_ h); obtain ⟨hl_, h⟩ := h; replace hl_ := A_ hl_; (try dsimp only at h)))
  all_goals simp only [Option.some.injEq, Prod.mk.injEq] at h
  all_goals obtain ⟨rfl, rfl, rfl, rfl⟩ := h
  all_goals refine bodyPost_ret (results_ct rfl _ _ _ _ _ (0, 0) _ rfl Blk.out Tryz.underlying27 rfl (by kernel_rfl)) rfl ?_
  all_goals exact ⟨_, _, rfl, (by first | exact rowFin | exact Kd.R_nil _ _ _ _ _ | exact atFin | exact irowFin' (by simp)), (by first | exact rowFin | exact Kd.R_nil _ _ _ _ _ | exact atFin | exact irowFin' (by simp)), From.out⟩
end Go.Proofs.YtojiighpkppckaaGreatDoor.P


namespace Go.Proofs.YtojiighpkppckaaGreatDoor.P
open Go.RowKit Go.Proofs.YtojiighpkppckaaGreatDoorW.PrintWords Go.Proofs.YtojiighpkppckaaGreatDoorW.PrintLast Go.Proofs.YtojiighpkppckaaGreatDoorW.PrintMore Go.Proofs.YtojiighpkppckaaGreatDoor.V
attribute [local go_sem] cell_b frozen_b cellR_c cell_r frozen_r cell_r0 frozen_r0
attribute [local go_sem] max2_int min2_int max_two min_two max_three min_three max_four min_four
set_option linter.unusedVariables false
set_option linter.unusedSimpArgs false
def spec_WorkStep.j0 : Nat → Bool → List (S95) → Int → List Int → List (S95) → Int → List Int → Option ((List (S95)) × Int × List Int × Bool)
  | 0, _, _, _, _, _, _, _ => none
  | k + 1, x19, x459000, x459001, x459002, x468000, x468001, x468002 => if x19 = true then (some (x468000, x468001, x468002, false)) else (if 0 ≤ x459001 then (if x459001 < (x459000.length : Int) then (if 0 ≤ ((rd_T95 x459000 x459001).f0) then (if ((rd_T95 x459000 x459001).f0) < (x459002.length : Int) then ((spec_TunedPitch.f k (rd x459002 ((rd_T95 x459000 x459001).f0)) ((rd_T95 x459000 x459001).f2) ((rd_T95 x459000 x459001).f3)).bind fun t472 => (if t472 = 0 then (some (x468000, x468001, x468002, false)) else (if 0 ≤ ((rd_T95 x459000 x459001).f1) then (if ((rd_T95 x459000 x459001).f1) < (x468002.length : Int) then (some (x468000, wrap64 (x459001 + 1), (x468002.set (((rd_T95 x459000 x459001).f1) : Int).toNat t472), true)) else (none)) else (none)))) else (none)) else (none)) else (none)) else (none))
def spec_WorkStep.f (k : Nat) (l0_0 : List (S95)) (a0_1 : Int) (l0_2 : List Int) : Option ((List (S95)) × Int × List Int × Bool) := (spec_l36Copy.f l0_0 a0_1 l0_2).bind fun bt460 => ((spec_WorkOk.f k l0_0 a0_1 l0_2).bind fun t468 => (if t468 = true then (spec_WorkStep.j0 k (a0_1 == (l0_0.length : Int)) l0_0 a0_1 l0_2 bt460.1 bt460.2.1 bt460.2.2) else (spec_WorkStep.j0 k true l0_0 a0_1 l0_2 bt460.1 bt460.2.1 bt460.2.2)))
def spec_WorkStep.T5 : Bool × List (List Nat × List Nat) := (true, [([], []), ([0], [0]), ([], []), ([2], [2]), ([1, 3], [1, 3]), ([4], [4]), ([], []), ([6], [6]), ([], []), ([8], [8]), ([5, 7, 9], [5, 7, 9]), ([10, 10, 0, 1, 2, 3, 4, 5, 6, 7, 8, 9, 10], [10])])
def spec_WorkStep.B5 : List Nat := [0, 1, 0, 4, 15, 31, 0, 64, 0, 256, 1023, 2047]
theorem spec_WorkStep.tab5 : rtab .any (opsOf Tryz.f57 5) = spec_WorkStep.T5 := by kernel_rfl
theorem spec_WorkStep.bits5 : waitsOk spec_WorkStep.T5.2 spec_WorkStep.B5 = true := by kernel_rfl
set_option maxHeartbeats 8000000 in
set_option maxRecDepth 100000 in
set_option synthInstance.maxHeartbeats 400000 in
set_option synthInstance.maxSize 100000 in
theorem spec_WorkStep.calls (k : Nat) (A0_0 : Option Addr) (c0_0 : Nat) (l0_0 : List (S95)) (a0_1 : Int) (A0_2 : Option Addr) (c0_2 : Nat) (l0_2 : List Int) (r1 : List (S95)) (r2 : Int) (r3 : List Int) (r4 : Bool) (w : World) (hr0_0 : Kd.C k95 w A0_0 l0_0.length l0_0) (hc0_0 : l0_0.length ≤ c0_0) (hr0_2 : Kd.C (Kd.int .i64) w A0_2 l0_2.length l0_2) (hc0_2 : l0_2.length ≤ c0_2) (h : spec_WorkStep.f k l0_0 a0_1 l0_2 = some (r1, r2, r3, r4)) :
    Calls Tryz.prog 57 #[.agg #[.slice A0_0 l0_0.length c0_0, .int .i64 a0_1, .slice A0_2 l0_2.length c0_2]] w fun e w' => ∃ v0_ v2_ : Value, e = .returned (.tuple #[.agg #[v0_, .int .i64 r2, v2_], .bool r4]) ∧ Kd.R k95 95 w' w.heap.size (fun _ => True) v0_ r1 ∧ Kd.R (Kd.int .i64) 3 w' w.heap.size (fun _ => True) v2_ r3 ∧ Below w.heap.size w w' := by
  have ihr0_0 := RdE.mk hr0_0
  have ihc0_0 := LeI.mk hc0_0
  have ihr0_2 := RdE.mk hr0_2
  have ihc0_2 := LeI.mk hc0_2
  clear hr0_0 hc0_0 hr0_2 hc0_2
  have nt95_3 := NeT.mk (d := k95) (e := 95) (t := 3) (by decide)
  have nt95_27 := NeT.mk (d := k95) (e := 95) (t := 27) (by decide)
  unfold spec_WorkStep.f at h
  have hu27 := Tryz.underlying27
  have hu95 := Tryz.underlying95
  (repeat' first | ((with_reducible replace h := ite_some h); rcases h with ⟨hc, h⟩ | ⟨hc, h⟩ <;> first | exact (none_some h).elim | exact absurd hc (by decide) | subst hc | (replace hc := Bool.eq_false_iff.mpr hc; subst hc) | (have hd : (_ == _) = true := hc) | (have hd : (_ == _) = false := Bool.eq_false_iff.mpr hc) | (have hd := beq_iff_eq.mpr hc; have he := bne_eq_false_iff_eq.mpr hc; clear hc) | (have hd := beq_eq_false_iff_ne.mpr hc; have he := bne_iff_ne.mpr hc) | (have hd := decide_eq_false hc) | (have hd := decide_eq_true hc; (try (have hn := Int.natCast_pos.mp hc; have hm := decide_eq_true hn; replace hn := eq_true hn)); first | (obtain ⟨g_, e_, i_⟩ := form_ (by assumption) (by first | assumption | decide) hc; cases e_) | (obtain ⟨a_, e_, c_⟩ := atI_ (by assumption) (by first | assumption | decide) hc; cases e_) | (obtain ⟨a_, e_, c0_, c1_, c2_, c3_⟩ := at_T95 (RdE.out (self := by assumption)) _ (by first | assumption | decide) hc; cases e_; replace c0_ := CelE.mk c0_; replace c1_ := CelE.mk c1_; replace c2_ := CelE.mk c2_; replace c3_ := CelE.mk c3_)) | (have hd := decide_eq_true hc) | skip) | ((with_reducible have hj : spec_WorkStep.j0 k _ _ _ _ _ _ _ = _ := h); clear hj; rcases k with _ | k <;> rw [spec_WorkStep.j0] at h <;> first | exact (none_some h).elim | skip) | ((with_reducible replace h := bind_set_ h); obtain ⟨hl_, h⟩ := h; replace hl_ := A_ hl_; (try dsimp only at h)))
  all_goals go_enter Tryz.func57, Tryz.ntmps57
  all_goals go_wp2_with (first
    | ((with_reducible refine gate_dst (N := 1) rfl ?_); refine box_event rfl (N := 1) rfl (cs := #[.slice A0_0 l0_0.length c0_0, .int .i64 a0_1, .slice A0_2 l0_2.length c0_2]) (t := 27) (by first | (go_simp; done) | (go_simp; rfl)) ?_; intro g hg w1 hk hb; have j1 := Born.mk hg; have j2 := Bel.mk hb; have j3 := Blk.mk hk; clear hg hb hk)
    | ((with_reducible refine gate_dst (N := 2) rfl ?_); refine box_event rfl (N := 2) rfl (cs := #[.slice none 0 0, .int .i64 0, .slice none 0 0]) (t := 27) (by first | (go_simp; done) | (go_simp; rfl)) ?_; intro g hg w1 hk hb; have j1 := Born.mk hg; have j2 := Bel.mk hb; have j3 := Blk.mk hk; clear hg hb hk)
    | ((with_reducible refine gate_dst (N := 4) rfl ?_); refine box_event rfl (N := 4) rfl (cs := #[.slice none 0 0, .int .i64 0, .slice none 0 0]) (t := 27) (by first | (go_simp; done) | (go_simp; rfl)) ?_; intro g hg w1 hk hb; have j1 := Born.mk hg; have j2 := Bel.mk hb; have j3 := Blk.mk hk; clear hg hb hk)
    | ((with_reducible refine gate_dst (N := 5) rfl ?_); refine box_event rfl (N := 5) rfl (cs := #[.int .i64 0, .int .i64 0, .int .i64 0, .int .i64 0]) (t := 95) (by first | (go_simp; done) | (go_simp; rfl)) ?_; intro g hg w1 hk hb; have j1 := Born.mk hg; have j2 := Bel.mk hb; have j3 := Blk.mk hk; clear hg hb hk)
    | (go_at_call 69; (try rw [hl_.out]); replace h := Option.bind_eq_some_iff.mp h; obtain ⟨⟨t1, t2, t3⟩, A, h⟩ := h; (try dsimp only at h); refine (spec_l36Copy.calls _ _ _ _ _ _ _ _ _ _ _ Rd.out LeI.out Rd.out LeI.out A).mono ?_; rintro e w2 ⟨v0, v1, rfl, ho0, ho1, hb⟩; obtain ⟨B0, b0, rfl⟩ := Kd.R_slice ho0; have j0 := RowE.mk ho0; have q0 := LeI.mk (rowLe j0); obtain ⟨B1, b1, rfl⟩ := Kd.R_slice ho1; have j1 := RowE.mk ho1; have q1 := LeI.mk (rowLe j1); have jb := Bel.mk hb; clear A ho0 ho1 hb; (repeat' first | ((with_reducible replace h := ite_some h); rcases h with ⟨hc, h⟩ | ⟨hc, h⟩ <;> first | exact (none_some h).elim | exact absurd hc (by decide) | subst hc | (replace hc := Bool.eq_false_iff.mpr hc; subst hc) | (have hd : (_ == _) = true := hc) | (have hd : (_ == _) = false := Bool.eq_false_iff.mpr hc) | (have hd := beq_iff_eq.mpr hc; have he := bne_eq_false_iff_eq.mpr hc; clear hc) | (have hd := beq_eq_false_iff_ne.mpr hc; have he := bne_iff_ne.mpr hc) | (have hd := decide_eq_false hc) | (have hd := decide_eq_true hc; (try (have hn := Int.natCast_pos.mp hc; have hm := decide_eq_true hn; replace hn := eq_true hn)); first | (obtain ⟨g_, e_, i_⟩ := form_ (by assumption) (by first | assumption | decide) hc; cases e_) | (obtain ⟨a_, e_, c_⟩ := atI_ (by assumption) (by first | assumption | decide) hc; cases e_) | (obtain ⟨a_, e_, c0_, c1_, c2_, c3_⟩ := at_T95 (RdE.out (self := by assumption)) _ (by first | assumption | decide) hc; cases e_; replace c0_ := CelE.mk c0_; replace c1_ := CelE.mk c1_; replace c2_ := CelE.mk c2_; replace c3_ := CelE.mk c3_)) | (have hd := decide_eq_true hc) | skip) | ((with_reducible have hj : spec_WorkStep.j0 k _ _ _ _ _ _ _ = _ := h); clear hj; rcases k with _ | k <;> rw [spec_WorkStep.j0] at h <;> first | exact (none_some h).elim | skip) | ((with_reducible replace h := bind_set_ h); obtain ⟨hl_, h⟩ := h; replace hl_ := A_ hl_; (try dsimp only at h))))
    | (go_at_call 71; (try rw [hl_.out]); replace h := Option.bind_eq_some_iff.mp h; obtain ⟨t, A, h⟩ := h; (try dsimp only at h); refine (spec_WorkOk.calls _ _ _ _ _ _ _ _ _ _ Rd.out LeI.out Rd.out LeI.out A).mono ?_; rintro e w2 ⟨rfl, hb⟩; have jb := Bel.mk hb; clear A hb; (repeat' first | ((with_reducible replace h := ite_some h); rcases h with ⟨hc, h⟩ | ⟨hc, h⟩ <;> first | exact (none_some h).elim | exact absurd hc (by decide) | subst hc | (replace hc := Bool.eq_false_iff.mpr hc; subst hc) | (have hd : (_ == _) = true := hc) | (have hd : (_ == _) = false := Bool.eq_false_iff.mpr hc) | (have hd := beq_iff_eq.mpr hc; have he := bne_eq_false_iff_eq.mpr hc; clear hc) | (have hd := beq_eq_false_iff_ne.mpr hc; have he := bne_iff_ne.mpr hc) | (have hd := decide_eq_false hc) | (have hd := decide_eq_true hc; (try (have hn := Int.natCast_pos.mp hc; have hm := decide_eq_true hn; replace hn := eq_true hn)); first | (obtain ⟨g_, e_, i_⟩ := form_ (by assumption) (by first | assumption | decide) hc; cases e_) | (obtain ⟨a_, e_, c_⟩ := atI_ (by assumption) (by first | assumption | decide) hc; cases e_) | (obtain ⟨a_, e_, c0_, c1_, c2_, c3_⟩ := at_T95 (RdE.out (self := by assumption)) _ (by first | assumption | decide) hc; cases e_; replace c0_ := CelE.mk c0_; replace c1_ := CelE.mk c1_; replace c2_ := CelE.mk c2_; replace c3_ := CelE.mk c3_)) | (have hd := decide_eq_true hc) | skip) | ((with_reducible have hj : spec_WorkStep.j0 k _ _ _ _ _ _ _ = _ := h); clear hj; rcases k with _ | k <;> rw [spec_WorkStep.j0] at h <;> first | exact (none_some h).elim | skip) | ((with_reducible replace h := bind_set_ h); obtain ⟨hl_, h⟩ := h; replace hl_ := A_ hl_; (try dsimp only at h))))
    | (refine qR (id := 5) (ds := []) (l := #[false, false, false, false, false, false, false, false, false, false, false, false]) spec_WorkStep.tab5 spec_WorkStep.bits5 ?_; intro HT_ HW_ w3 jw u0 iu hHeld; refine qA 0 (some 27) HT_ ?_; refine qA 2 (some 29) HT_ ?_; refine qA 6 (some 33) HT_ ?_; refine qA 8 (some 35) HT_ ?_; refine qT 1 (some 28) HT_ HW_ hHeld ?_; refine qT 3 (some 30) HT_ HW_ hHeld ?_; refine qA 4 (some 31) HT_ ?_; refine qT 5 (some 32) HT_ HW_ hHeld ?_; refine qT 7 (some 34) HT_ HW_ hHeld ?_; refine qT 9 (some 36) HT_ HW_ hHeld ?_; replace h := Option.bind_eq_some_iff.mp h; obtain ⟨t, A, h⟩ := h; (try dsimp only at h); refine qC 10 37 Tryz.func73 HT_ fun K hK => ?_; refine (spec_TunedPitch.calls _ _ _ _ _ _ A).mono ?_; rintro e w2 ⟨rfl, hb⟩; have jb := Bel.mk hb; clear A hb; refine ⟨_, rfl, hK _ _ From.out fun hHeld => ?_⟩; clear hK K; refine qN ?_; refine qA 11 (some 6) HT_ ?_; refine qD HT_ ?_; (repeat' first | ((with_reducible replace h := ite_some h); rcases h with ⟨hc, h⟩ | ⟨hc, h⟩ <;> first | exact (none_some h).elim | exact absurd hc (by decide) | subst hc | (replace hc := Bool.eq_false_iff.mpr hc; subst hc) | (have hd : (_ == _) = true := hc) | (have hd : (_ == _) = false := Bool.eq_false_iff.mpr hc) | (have hd := beq_iff_eq.mpr hc; have he := bne_eq_false_iff_eq.mpr hc; clear hc) | (have hd := beq_eq_false_iff_ne.mpr hc; have he := bne_iff_ne.mpr hc) | (have hd := decide_eq_false hc) | (have hd := decide_eq_true hc; (try (have hn := Int.natCast_pos.mp hc; have hm := decide_eq_true hn; replace hn := eq_true hn)); first | (obtain ⟨g_, e_, i_⟩ := form_ (by assumption) (by first | assumption | decide) hc; cases e_) | (obtain ⟨a_, e_, c_⟩ := atI_ (by assumption) (by first | assumption | decide) hc; cases e_) | (obtain ⟨a_, e_, c0_, c1_, c2_, c3_⟩ := at_T95 (RdE.out (self := by assumption)) _ (by first | assumption | decide) hc; cases e_; replace c0_ := CelE.mk c0_; replace c1_ := CelE.mk c1_; replace c2_ := CelE.mk c2_; replace c3_ := CelE.mk c3_)) | (have hd := decide_eq_true hc) | skip) | ((with_reducible have hj : spec_WorkStep.j0 k _ _ _ _ _ _ _ = _ := h); clear hj; rcases k with _ | k <;> rw [spec_WorkStep.j0] at h <;> first | exact (none_some h).elim | skip) | ((with_reducible replace h := bind_set_ h); obtain ⟨hl_, h⟩ := h; replace hl_ := A_ hl_; (try dsimp only at h)))))
  all_goals (repeat' first | ((with_reducible replace h := ite_some h); rcases h with ⟨hc, h⟩ | ⟨hc, h⟩ <;> first | exact (none_some h).elim | exact absurd hc (by decide) | subst hc | (replace hc := Bool.eq_false_iff.mpr hc; subst hc) | (have hd : (_ == _) = true := hc) | (have hd : (_ == _) = false := Bool.eq_false_iff.mpr hc) | (have hd := beq_iff_eq.mpr hc; have he := bne_eq_false_iff_eq.mpr hc; clear hc) | (have hd := beq_eq_false_iff_ne.mpr hc; have he := bne_iff_ne.mpr hc) | (have hd := decide_eq_false hc) | (have hd := decide_eq_true hc; (try (have hn := Int.natCast_pos.mp hc; have hm := decide_eq_true hn; replace hn := eq_true hn)); first | (obtain ⟨g_, e_, i_⟩ := form_ (by assumption) (by first | assumption | decide) hc; cases e_) | (obtain ⟨a_, e_, c_⟩ := atI_ (by assumption) (by first | assumption | decide) hc; cases e_) | (obtain ⟨a_, e_, c0_, c1_, c2_, c3_⟩ := at_T95 (RdE.out (self := by assumption)) _ (by first | assumption | decide) hc; cases e_; replace c0_ := CelE.mk c0_; replace c1_ := CelE.mk c1_; replace c2_ := CelE.mk c2_; replace c3_ := CelE.mk c3_)) | (have hd := decide_eq_true hc) | skip) | ((with_reducible have hj : spec_WorkStep.j0 k _ _ _ _ _ _ _ = _ := h); clear hj; rcases k with _ | k <;> rw [spec_WorkStep.j0] at h <;> first | exact (none_some h).elim | skip) | ((with_reducible replace h := bind_set_ h); obtain ⟨hl_, h⟩ := h; replace hl_ := A_ hl_; (try dsimp only at h)))
  all_goals simp only [Option.some.injEq, Prod.mk.injEq] at h
  all_goals obtain ⟨rfl, rfl, rfl, rfl⟩ := h
  all_goals refine bodyPost_ret (results_ct rfl _ _ _ _ _ (0, 0) _ rfl Blk.out Tryz.underlying27 rfl (by kernel_rfl)) rfl ?_
  all_goals exact ⟨_, _, rfl, (by first | exact rowFin | exact Kd.R_nil _ _ _ _ _ | exact atFin | exact irowFin' (by simp)), (by first | exact rowFin | exact Kd.R_nil _ _ _ _ _ | exact atFin | exact irowFin' (by simp)), From.out⟩
end Go.Proofs.YtojiighpkppckaaGreatDoor.P


namespace Go.Proofs.YtojiighpkppckaaGreatDoor.P
open Go.RowKit Go.Proofs.YtojiighpkppckaaGreatDoorW.PrintWords Go.Proofs.YtojiighpkppckaaGreatDoorW.PrintLast Go.Proofs.YtojiighpkppckaaGreatDoorW.PrintMore Go.Proofs.YtojiighpkppckaaGreatDoor.V
attribute [local go_sem] cell_b frozen_b
attribute [local go_sem] max2_int min2_int max_two min_two max_three min_three max_four min_four
set_option linter.unusedVariables false
set_option linter.unusedSimpArgs false
def spec_ShopTune.f (k : Nat) (l0_0 : List (S95)) (a0_1 : Int) (l0_2 : List Int) (a0_3 : Int) (a0_4 : Int) (l0_5 : List (S101)) : Option ((List (S95)) × Int × List Int × Int × Int × (List (S101)) × Bool) := (spec_l38Copy.f l0_0 a0_1 l0_2 a0_3 a0_4 l0_5).bind fun bt476 => ((spec_ShopOk.f k l0_0 a0_1 l0_2 a0_3 a0_4 l0_5).bind fun t489 => (if t489 = true then ((spec_WrongSteps.f k l0_0 a0_1 l0_2).bind fun t490 => (if (t490.length : Int) > 0 then ((spec_MendStep.f k l0_0 a0_1 l0_2).bind fun bt493 => (some (bt493.1, bt493.2.1, bt493.2.2.1, bt476.2.2.2.1, bt476.2.2.2.2.1, bt476.2.2.2.2.2, bt493.2.2.2))) else ((spec_WorkStep.f k l0_0 a0_1 l0_2).bind fun bt501 => (some (bt501.1, bt501.2.1, bt501.2.2.1, bt476.2.2.2.1, bt476.2.2.2.2.1, bt476.2.2.2.2.2, bt501.2.2.2))))) else (some (bt476.1, bt476.2.1, bt476.2.2.1, bt476.2.2.2.1, bt476.2.2.2.2.1, bt476.2.2.2.2.2, false))))
set_option maxHeartbeats 8000000 in
set_option maxRecDepth 100000 in
set_option synthInstance.maxHeartbeats 400000 in
set_option synthInstance.maxSize 100000 in
theorem spec_ShopTune.calls (k : Nat) (A0_0 : Option Addr) (c0_0 : Nat) (l0_0 : List (S95)) (a0_1 : Int) (A0_2 : Option Addr) (c0_2 : Nat) (l0_2 : List Int) (a0_3 : Int) (a0_4 : Int) (A0_5 : Option Addr) (c0_5 : Nat) (l0_5 : List (S101)) (r1 : List (S95)) (r2 : Int) (r3 : List Int) (r4 : Int) (r5 : Int) (r6 : List (S101)) (r7 : Bool) (w : World) (hr0_0 : Kd.C k95 w A0_0 l0_0.length l0_0) (hc0_0 : l0_0.length ≤ c0_0) (hr0_2 : Kd.C (Kd.int .i64) w A0_2 l0_2.length l0_2) (hc0_2 : l0_2.length ≤ c0_2) (hr0_5 : Kd.C k101 w A0_5 l0_5.length l0_5) (hc0_5 : l0_5.length ≤ c0_5) (h : spec_ShopTune.f k l0_0 a0_1 l0_2 a0_3 a0_4 l0_5 = some (r1, r2, r3, r4, r5, r6, r7)) :
    Calls Tryz.prog 37 #[.agg #[.slice A0_0 l0_0.length c0_0, .int .i64 a0_1, .slice A0_2 l0_2.length c0_2, .int .i64 a0_3, .int .i64 a0_4, .slice A0_5 l0_5.length c0_5]] w fun e w' => ∃ v0_ v2_ v5_ : Value, e = .returned (.tuple #[.agg #[v0_, .int .i64 r2, v2_, .int .i64 r4, .int .i64 r5, v5_], .bool r7]) ∧ Kd.R k95 95 w' w.heap.size (fun _ => True) v0_ r1 ∧ Kd.R (Kd.int .i64) 3 w' w.heap.size (fun _ => True) v2_ r3 ∧ Kd.R k101 101 w' w.heap.size (fun _ => True) v5_ r6 ∧ Below w.heap.size w w' := by
  have ihr0_0 := RdE.mk hr0_0
  have ihc0_0 := LeI.mk hc0_0
  have ihr0_2 := RdE.mk hr0_2
  have ihc0_2 := LeI.mk hc0_2
  have ihr0_5 := RdE.mk hr0_5
  have ihc0_5 := LeI.mk hc0_5
  clear hr0_0 hc0_0 hr0_2 hc0_2 hr0_5 hc0_5
  unfold spec_ShopTune.f at h
  have hu30 := Tryz.underlying30
  (repeat' first | ((with_reducible replace h := ite_some h); rcases h with ⟨hc, h⟩ | ⟨hc, h⟩ <;> first | exact (none_some h).elim | exact absurd hc (by decide) | subst hc | (replace hc := Bool.eq_false_iff.mpr hc; subst hc) | (have hd := beq_iff_eq.mpr hc; have he := bne_eq_false_iff_eq.mpr hc; clear hc) | (have hd := beq_eq_false_iff_ne.mpr hc; have he := bne_iff_ne.mpr hc) | (have hd := decide_eq_false hc) | (have hd := decide_eq_true hc) | skip))
  all_goals go_enter Tryz.func37, Tryz.ntmps37
  all_goals go_wp2_with (first
    | ((with_reducible refine gate_dst (N := 1) rfl ?_); refine box_event rfl (N := 1) rfl (cs := #[.slice A0_0 l0_0.length c0_0, .int .i64 a0_1, .slice A0_2 l0_2.length c0_2, .int .i64 a0_3, .int .i64 a0_4, .slice A0_5 l0_5.length c0_5]) (t := 30) (by first | (go_simp; done) | (go_simp; rfl)) ?_; intro g hg w1 hk hb; have j1 := Born.mk hg; have j2 := Bel.mk hb; have j3 := Blk.mk hk; clear hg hb hk)
    | ((with_reducible refine gate_dst (N := 2) rfl ?_); refine box_event rfl (N := 2) rfl (cs := #[.slice none 0 0, .int .i64 0, .slice none 0 0, .int .i64 0, .int .i64 0, .slice none 0 0]) (t := 30) (by first | (go_simp; done) | (go_simp; rfl)) ?_; intro g hg w1 hk hb; have j1 := Born.mk hg; have j2 := Bel.mk hb; have j3 := Blk.mk hk; clear hg hb hk)
    | ((with_reducible refine gate_dst (N := 4) rfl ?_); refine box_event rfl (N := 4) rfl (cs := #[.slice none 0 0, .int .i64 0, .slice none 0 0, .int .i64 0, .int .i64 0, .slice none 0 0]) (t := 30) (by first | (go_simp; done) | (go_simp; rfl)) ?_; intro g hg w1 hk hb; have j1 := Born.mk hg; have j2 := Bel.mk hb; have j3 := Blk.mk hk; clear hg hb hk)
    | (go_at_call 51; replace h := Option.bind_eq_some_iff.mp h; obtain ⟨⟨t1, t2, t3, t4, t5, t6⟩, A, h⟩ := h; (try dsimp only at h); refine (spec_l38Copy.calls _ _ _ _ _ _ _ _ _ _ _ _ _ _ _ _ _ _ _ Rd.out LeI.out Rd.out LeI.out Rd.out LeI.out A).mono ?_; rintro e w2 ⟨v0, v1, v2, rfl, ho0, ho1, ho2, hb⟩; obtain ⟨B0, b0, rfl⟩ := Kd.R_slice ho0; have j0 := RowE.mk ho0; have q0 := LeI.mk (rowLe j0); obtain ⟨B1, b1, rfl⟩ := Kd.R_slice ho1; have j1 := RowE.mk ho1; have q1 := LeI.mk (rowLe j1); obtain ⟨B2, b2, rfl⟩ := Kd.R_slice ho2; have j2 := RowE.mk ho2; have q2 := LeI.mk (rowLe j2); have jb := Bel.mk hb; clear A ho0 ho1 ho2 hb; (repeat' first | ((with_reducible replace h := ite_some h); rcases h with ⟨hc, h⟩ | ⟨hc, h⟩ <;> first | exact (none_some h).elim | exact absurd hc (by decide) | subst hc | (replace hc := Bool.eq_false_iff.mpr hc; subst hc) | (have hd := beq_iff_eq.mpr hc; have he := bne_eq_false_iff_eq.mpr hc; clear hc) | (have hd := beq_eq_false_iff_ne.mpr hc; have he := bne_iff_ne.mpr hc) | (have hd := decide_eq_false hc) | (have hd := decide_eq_true hc) | skip)))
    | (go_at_call 52; replace h := Option.bind_eq_some_iff.mp h; obtain ⟨t, A, h⟩ := h; (try dsimp only at h); refine (spec_ShopOk.calls _ _ _ _ _ _ _ _ _ _ _ _ _ _ _ Rd.out LeI.out Rd.out LeI.out Rd.out LeI.out A).mono ?_; rintro e w2 ⟨rfl, hb⟩; have jb := Bel.mk hb; clear A hb; (repeat' first | ((with_reducible replace h := ite_some h); rcases h with ⟨hc, h⟩ | ⟨hc, h⟩ <;> first | exact (none_some h).elim | exact absurd hc (by decide) | subst hc | (replace hc := Bool.eq_false_iff.mpr hc; subst hc) | (have hd := beq_iff_eq.mpr hc; have he := bne_eq_false_iff_eq.mpr hc; clear hc) | (have hd := beq_eq_false_iff_ne.mpr hc; have he := bne_iff_ne.mpr hc) | (have hd := decide_eq_false hc) | (have hd := decide_eq_true hc) | skip)))
    | (go_at_call 55; replace h := Option.bind_eq_some_iff.mp h; obtain ⟨t, A, h⟩ := h; (try dsimp only at h); refine (spec_WrongSteps.calls _ _ _ _ _ _ _ _ _ _ Rd.out LeI.out Rd.out LeI.out A).mono ?_; rintro e w2 ⟨v0, rfl, ho0, hb⟩; obtain ⟨B0, b0, rfl⟩ := Kd.R_slice ho0; have j0 := RowE.mk ho0; have q0 := LeI.mk (rowLe j0); have jb := Bel.mk hb; clear A ho0 hb; (repeat' first | ((with_reducible replace h := ite_some h); rcases h with ⟨hc, h⟩ | ⟨hc, h⟩ <;> first | exact (none_some h).elim | exact absurd hc (by decide) | subst hc | (replace hc := Bool.eq_false_iff.mpr hc; subst hc) | (have hd := beq_iff_eq.mpr hc; have he := bne_eq_false_iff_eq.mpr hc; clear hc) | (have hd := beq_eq_false_iff_ne.mpr hc; have he := bne_iff_ne.mpr hc) | (have hd := decide_eq_false hc) | (have hd := decide_eq_true hc) | skip)); (try have hn : decide (0 < t.length) = true := decide_eq_true (by omega)); (try have hn : decide (0 < t.length) = false := decide_eq_false (by omega)))
    | (go_at_call 56; replace h := Option.bind_eq_some_iff.mp h; obtain ⟨⟨t1, t2, t3, t4⟩, A, h⟩ := h; (try dsimp only at h); refine (spec_MendStep.calls _ _ _ _ _ _ _ _ _ _ _ _ _ Rd.out LeI.out Rd.out LeI.out A).mono ?_; rintro e w2 ⟨v0, v1, rfl, ho0, ho1, hb⟩; obtain ⟨B0, b0, rfl⟩ := Kd.R_slice ho0; have j0 := RowE.mk ho0; have q0 := LeI.mk (rowLe j0); obtain ⟨B1, b1, rfl⟩ := Kd.R_slice ho1; have j1 := RowE.mk ho1; have q1 := LeI.mk (rowLe j1); have jb := Bel.mk hb; clear A ho0 ho1 hb; (repeat' first | ((with_reducible replace h := ite_some h); rcases h with ⟨hc, h⟩ | ⟨hc, h⟩ <;> first | exact (none_some h).elim | exact absurd hc (by decide) | subst hc | (replace hc := Bool.eq_false_iff.mpr hc; subst hc) | (have hd := beq_iff_eq.mpr hc; have he := bne_eq_false_iff_eq.mpr hc; clear hc) | (have hd := beq_eq_false_iff_ne.mpr hc; have he := bne_iff_ne.mpr hc) | (have hd := decide_eq_false hc) | (have hd := decide_eq_true hc) | skip)))
    | (go_at_call 57; replace h := Option.bind_eq_some_iff.mp h; obtain ⟨⟨t1, t2, t3, t4⟩, A, h⟩ := h; (try dsimp only at h); refine (spec_WorkStep.calls _ _ _ _ _ _ _ _ _ _ _ _ _ Rd.out LeI.out Rd.out LeI.out A).mono ?_; rintro e w2 ⟨v0, v1, rfl, ho0, ho1, hb⟩; obtain ⟨B0, b0, rfl⟩ := Kd.R_slice ho0; have j0 := RowE.mk ho0; have q0 := LeI.mk (rowLe j0); obtain ⟨B1, b1, rfl⟩ := Kd.R_slice ho1; have j1 := RowE.mk ho1; have q1 := LeI.mk (rowLe j1); have jb := Bel.mk hb; clear A ho0 ho1 hb; (repeat' first | ((with_reducible replace h := ite_some h); rcases h with ⟨hc, h⟩ | ⟨hc, h⟩ <;> first | exact (none_some h).elim | exact absurd hc (by decide) | subst hc | (replace hc := Bool.eq_false_iff.mpr hc; subst hc) | (have hd := beq_iff_eq.mpr hc; have he := bne_eq_false_iff_eq.mpr hc; clear hc) | (have hd := beq_eq_false_iff_ne.mpr hc; have he := bne_iff_ne.mpr hc) | (have hd := decide_eq_false hc) | (have hd := decide_eq_true hc) | skip))))
  all_goals (repeat' first | ((with_reducible replace h := ite_some h); rcases h with ⟨hc, h⟩ | ⟨hc, h⟩ <;> first | exact (none_some h).elim | exact absurd hc (by decide) | subst hc | (replace hc := Bool.eq_false_iff.mpr hc; subst hc) | (have hd := beq_iff_eq.mpr hc; have he := bne_eq_false_iff_eq.mpr hc; clear hc) | (have hd := beq_eq_false_iff_ne.mpr hc; have he := bne_iff_ne.mpr hc) | (have hd := decide_eq_false hc) | (have hd := decide_eq_true hc) | skip))
  all_goals simp only [Option.some.injEq, Prod.mk.injEq] at h
  all_goals obtain ⟨rfl, rfl, rfl, rfl, rfl, rfl, rfl⟩ := h
  all_goals refine bodyPost_ret (results_ct rfl _ _ _ _ _ (0, 0) _ rfl Blk.out Tryz.underlying30 rfl (by kernel_rfl)) rfl ?_
  all_goals exact ⟨_, _, _, rfl, (by first | exact rowFin | exact Kd.R_nil _ _ _ _ _), (by first | exact rowFin | exact Kd.R_nil _ _ _ _ _), (by first | exact rowFin | exact Kd.R_nil _ _ _ _ _), From.out⟩
end Go.Proofs.YtojiighpkppckaaGreatDoor.P


namespace Go.Proofs.YtojiighpkppckaaGreatDoor.P
open Go.RowKit Go.Proofs.YtojiighpkppckaaGreatDoorW.PrintWords Go.Proofs.YtojiighpkppckaaGreatDoorW.PrintLast Go.Proofs.YtojiighpkppckaaGreatDoorW.PrintMore
attribute [local go_sem] max2_int min2_int max_two min_two max_three min_three max_four min_four
set_option linter.unusedVariables false
set_option linter.unusedSimpArgs false
def spec_l38Shop.l0 : Nat → Int → Int → List Int → Int → Int → List (S95) → Int → List Int → Int → Int → List (S101) → Option ((List (S95)) × Int × List Int × Int × Int × (List (S101)) × Int × Int)
  | 0, _, _, _, _, _, _, _, _, _, _, _ => none
  | k + 1, x5, x6, x1000, x1001, x1002, x532000, x532001, x532002, x532003, x532004, x532005 => if x6 < x5 then ((spec_l01Below.f x1000 x1001 x1002 8).bind fun bt535 => (if bt535.1 = 0 then ((spec_l01Below.f x1000 bt535.2.1 bt535.2.2 30).bind fun bt538 => ((spec_ShopWarm.f k x532000 x532001 x532002 x532003 x532004 x532005 bt538.1).bind fun bt541 => (spec_l38Shop.l0 k x5 (wrap64 (x6 + 1)) x1000 bt538.2.1 bt538.2.2 bt541.1 bt541.2.1 bt541.2.2.1 bt541.2.2.2.1 bt541.2.2.2.2.1 bt541.2.2.2.2.2.1))) else (if bt535.1 = 1 then ((spec_l34Pipe.f x1000 bt535.2.1 bt535.2.2).bind fun bt554 => ((spec_l01Below.f x1000 bt554.2.2.1 bt554.2.2.2 3).bind fun bt559 => ((spec_ShopFault.f k x532000 x532001 x532002 x532003 x532004 x532005 bt554.1 bt554.2.1 bt559.1).bind fun bt562 => (spec_l38Shop.l0 k x5 (wrap64 (x6 + 1)) x1000 bt559.2.1 bt559.2.2 bt562.1 bt562.2.1 bt562.2.2.1 bt562.2.2.2.1 bt562.2.2.2.2.1 bt562.2.2.2.2.2.1)))) else (if bt535.1 = 2 then ((spec_l01Below.f x1000 bt535.2.1 bt535.2.2 12).bind fun bt575 => ((spec_l01Below.f x1000 bt575.2.1 bt575.2.2 2001).bind fun bt578 => ((spec_ShopKnock.f k x532000 x532001 x532002 x532003 x532004 x532005 bt575.1 (wrap64 (bt578.1 - 1000))).bind fun bt581 => (spec_l38Shop.l0 k x5 (wrap64 (x6 + 1)) x1000 bt578.2.1 bt578.2.2 bt581.1 bt581.2.1 bt581.2.2.1 bt581.2.2.2.1 bt581.2.2.2.2.1 bt581.2.2.2.2.2.1)))) else ((spec_ShopTune.f k x532000 x532001 x532002 x532003 x532004 x532005).bind fun bt594 => (spec_l38Shop.l0 k x5 (wrap64 (x6 + 1)) x1000 bt535.2.1 bt535.2.2 bt594.1 bt594.2.1 bt594.2.2.1 bt594.2.2.2.1 bt594.2.2.2.2.1 bt594.2.2.2.2.2.1)))))) else (some (x532000, x532001, x532002, x532003, x532004, x532005, x1001, x1002))
def spec_l38Shop.f (k : Nat) (s0_0 : List Int) (s0_1 : Int) (s0_2 : Int) : Option ((List (S95)) × Int × List Int × Int × Int × (List (S101)) × Int × Int) := (spec_l01Below.f s0_0 s0_1 s0_2 100000).bind fun bt510 => ((spec_l19Plan.f k s0_0 bt510.2.1 bt510.2.2).bind fun bt513 => ((spec_NewShop.f k (wrap64 (200000 + bt510.1)) bt513.1).bind fun bt518 => ((spec_l01Below.f s0_0 bt513.2.1 bt513.2.2 20).bind fun bt532 => (spec_l38Shop.l0 k bt532.1 0 s0_0 bt532.2.1 bt532.2.2 bt518.1 bt518.2.1 bt518.2.2.1 bt518.2.2.2.1 bt518.2.2.2.2.1 bt518.2.2.2.2.2.1))))
def spec_l38Shop.T9 : Bool × List (List Nat × List Nat) := (true, [([], []), ([], []), ([1], [1]), ([0, 2, 2], [0, 2]), ([3], [3]), ([4], [4]), ([4], [4]), ([5, 3, 0, 1, 2, 3, 4, 5], [5])])
def spec_l38Shop.B9 : List Nat := [0, 0, 2, 7, 15, 31, 31, 63]
theorem spec_l38Shop.tab9 : rtab .any (opsOf Tryz.f18 9) = spec_l38Shop.T9 := by kernel_rfl
theorem spec_l38Shop.bits9 : waitsOk spec_l38Shop.T9.2 spec_l38Shop.B9 = true := by kernel_rfl
def spec_l38Shop.T12 : Bool × List (List Nat × List Nat) := (true, [([], []), ([], []), ([], []), ([2], [2]), ([0, 1, 3, 3], [0, 1, 3]), ([4], [4]), ([5], [5]), ([5], [5]), ([6, 4, 0, 1, 2, 3, 4, 5, 6], [6])])
def spec_l38Shop.B12 : List Nat := [0, 0, 0, 4, 15, 31, 63, 63, 127]
theorem spec_l38Shop.tab12 : rtab .any (opsOf Tryz.f18 12) = spec_l38Shop.T12 := by kernel_rfl
theorem spec_l38Shop.bits12 : waitsOk spec_l38Shop.T12.2 spec_l38Shop.B12 = true := by kernel_rfl
def spec_l38Shop.T15 : Bool × List (List Nat × List Nat) := (true, [([], []), ([], []), ([], []), ([2], [2]), ([3], [3]), ([0, 1, 4, 3], [0, 1, 4]), ([5], [5]), ([6], [6]), ([6], [6]), ([7, 5, 0, 1, 2, 3, 4, 5, 6, 7], [7])])
def spec_l38Shop.B15 : List Nat := [0, 0, 0, 4, 12, 31, 63, 127, 127, 255]
theorem spec_l38Shop.tab15 : rtab .any (opsOf Tryz.f18 15) = spec_l38Shop.T15 := by kernel_rfl
theorem spec_l38Shop.bits15 : waitsOk spec_l38Shop.T15.2 spec_l38Shop.B15 = true := by kernel_rfl
set_option maxHeartbeats 8000000 in
set_option maxRecDepth 100000 in
theorem spec_l38Shop.calls (k : Nat) (g : Nat) (s0_0 : List Int) (s0_1 : Int) (s0_2 : Int) (r1 : List (S95)) (r2 : Int) (r3 : List Int) (r4 : Int) (r5 : Int) (r6 : List (S101)) (r7 : Int) (r8 : Int) (w0 w : World) (hI : IsS56 w0 w g s0_0 s0_1 s0_2) (hB : Below w0.heap.size w0 w) (h : spec_l38Shop.f k s0_0 s0_1 s0_2 = some (r1, r2, r3, r4, r5, r6, r7, r8)) :
    Calls Tryz.prog 18 #[.pointer (some ⟨g, 0, none⟩)] w fun e w' => ∃ v0_ v2_ v5_ : Value, e = .returned (.agg #[v0_, .int .i64 r2, v2_, .int .i64 r4, .int .i64 r5, v5_]) ∧ Kd.R k95 95 w' w.heap.size (fun _ => True) v0_ r1 ∧ Kd.R (Kd.int .i64) 3 w' w.heap.size (fun _ => True) v2_ r3 ∧ Kd.R k101 101 w' w.heap.size (fun _ => True) v5_ r6 ∧ IsS56 w0 w' g s0_0 r7 r8 ∧ Below w0.heap.size w0 w' ∧ KeepBut w w' g none := by
  have hu30 := Tryz.underlying30
  have hu77 := Tryz.underlying77
  have HI0 := A_ hI
  have HK := A_ (KeepBut.refl w g none)
  have HL := A_ hB.size
  clear hI
  have HW0 := A_ hB.size
  have HB := A_ hB
  clear hB
  have H : ((spec_l01Below.f s0_0 s0_1 s0_2 100000).bind fun bt510 => ((spec_l19Plan.f k s0_0 bt510.2.1 bt510.2.2).bind fun bt513 => ((spec_NewShop.f k (wrap64 (200000 + bt510.1)) bt513.1).bind fun bt518 => ((spec_l01Below.f s0_0 bt513.2.1 bt513.2.2 20).bind fun bt532 => (spec_l38Shop.l0 k bt532.1 0 s0_0 bt532.2.1 bt532.2.2 bt518.1 bt518.2.1 bt518.2.2.1 bt518.2.2.2.1 bt518.2.2.2.2.1 bt518.2.2.2.2.2.1))))) = some (r1, r2, r3, r4, r5, r6, r7, r8) := h
  clear h
  replace H := Option.bind_eq_some_iff.mp H
  obtain ⟨⟨t510, t511, t512⟩, A20, H⟩ := H
  (try dsimp only at H)
  have A2 := A_ A20
  clear A20
  replace H := Option.bind_eq_some_iff.mp H
  obtain ⟨⟨t513, t516, t517⟩, A30, H⟩ := H
  (try dsimp only at H)
  have A3 := A_ A30
  clear A30
  replace H := Option.bind_eq_some_iff.mp H
  obtain ⟨⟨t518, t521, t522, t525, t526, t527, t530⟩, A40, H⟩ := H
  (try dsimp only at H)
  have A4 := A_ A40
  clear A40
  replace H := Option.bind_eq_some_iff.mp H
  obtain ⟨⟨t532, t533, t534⟩, A50, H⟩ := H
  (try dsimp only at H)
  have A5 := A_ A50
  clear A50
  have H' := A_ H
  clear H
  go_enter Tryz.func18, Tryz.ntmps18
  go_wp2_with (first | ((with_reducible refine gate_dst (N := 2) rfl ?_); refine bX (N := 2) (cs := #[.slice none 0 0, .int .i64 0, .slice none 0 0, .int .i64 0, .int .i64 0, .slice none 0 0]) (t := 30) ?_; intro gb509 hg w6 hbox hb; have n0_ := A_ (IsS56.below (oI56 HI0) hb); have n1_ := A_ (KeepBut.trans (oKe HK) (KeepBut.of_below hb g none) (.inl rfl)); have n2_ := A_ (below_step (oB56 HB) hb); have n3_ := A_ (hbox); have n4_ := A_ ((by rw [hg]; exact (keep_size (w := w) (g := g) (row := none) (by repeat (first | (with_reducible first | exact HK.out | apply KeepBut.set_ | apply keep_drewN | apply keep_drew | apply keep_alloc) | exact HK.out))) : w.heap.size ≤ gb509)); have n5_ := A_ ((Nat.le_trans HW0.out (by rw [hg]; exact (keep_size (w := w) (g := g) (row := none) (by repeat (first | (with_reducible first | exact HK.out | apply KeepBut.set_ | apply keep_drewN | apply keep_drew | apply keep_alloc) | exact HK.out))) : w.heap.size ≤ gb509) : w0.heap.size ≤ gb509)); have n6_ := A_ ((by rw [hg]; exact Nat.ne_of_lt (IsS56.lt (show IsS56 w0 _ g s0_0 s0_1 s0_2 from oI56 HI0)) : g ≠ gb509)); have n7_ := A_ ((by rw [hg]; exact Nat.ne_of_gt (IsS56.lt (show IsS56 w0 _ g s0_0 s0_1 s0_2 from oI56 HI0)) : gb509 ≠ g)); clear HI0; clear HK; clear HB; have HI0 := n0_; have HK := n1_; have HB := n2_; have BK509 := n3_; have GW509 := n4_; have GE509 := n5_; have NB0_509 := n6_; have NB509_0 := n7_; clear n0_ n1_ n2_ n3_ n4_ n5_ n6_ n7_; clear hb hbox hg) | ((with_reducible refine gate_callee (f := 19) rfl ?_); refine gL (some 11) Tryz.func19 #[.pointer (some ⟨g, 0, none⟩), .int .i64 100000] ?_; (with_reducible refine (spec_l01Below.calls g s0_0 s0_1 s0_2 100000 t510 t511 t512 w0 _ ?side1 ?side2 A2.out).mono ?_); (case side1 => exact oI56 HI0); (case side2 => exact oB56 HB); rintro e w7 ⟨rfl, hi, hb, hk⟩; refine ⟨_, rfl, ?_⟩; have n0_ := A_ (KeepBut.blk hk (g' := gb509) (o := .cells #[.slice none 0 0, .int .i64 0, .slice none 0 0, .int .i64 0, .int .i64 0, .slice none 0 0] 30 (0, 0)) (oK BK509) NB509_0.out (by simp)); have n1_ := A_ (KeepBut.trans (oKe HK) hk (.inl rfl)); have n2_ := A_ (hb); have n3_ := A_ (hi); clear BK509; clear HK; clear HB; clear HI0; have BK509 := n0_; have HK := n1_; have HB := n2_; have HI0 := n3_; clear n0_ n1_ n2_ n3_; (try clear hb); (try clear hb2); (try clear hk); (try clear hi)) | ((with_reducible refine gate_callee (f := 32) rfl ?_); refine gL (some 14) Tryz.func32 #[.pointer (some ⟨g, 0, none⟩)] ?_; (with_reducible refine (spec_l19Plan.calls k g s0_0 t511 t512 t513 t516 t517 w0 _ ?side1 ?side2 A3.out).mono ?_); (case side1 => exact oI56 HI0); (case side2 => exact oB56 HB); rintro e w8 ⟨v514, rfl, ho0, hi, hb, hk⟩; refine ⟨_, rfl, ?_⟩; have n0_ := A_ (KeepBut.blk hk (g' := gb509) (o := .cells #[.slice none 0 0, .int .i64 0, .slice none 0 0, .int .i64 0, .int .i64 0, .slice none 0 0] 30 (0, 0)) (oK BK509) NB509_0.out (by simp)); have n1_ := A_ (Kd.R_lower ho0 (keep_size (w := w) (g := g) (row := none) (by repeat (first | (with_reducible first | exact HK.out | apply KeepBut.set_ | apply keep_drewN | apply keep_drew | apply keep_alloc | refine keep_far ?_ GW509.out _) | exact HK.out)))); have n2_ := A_ (KeepBut.trans (oKe HK) hk (.inl rfl)); have n3_ := A_ (hb); have n4_ := A_ (hi); clear BK509; clear HK; clear HB; clear HI0; have BK509 := n0_; have HO515 := n1_; have HK := n2_; have HB := n3_; have HI0 := n4_; clear n0_ n1_ n2_ n3_ n4_; (try clear hb); (try clear hb2); (try clear hk); (try clear hi); (try clear ho0); obtain ⟨Ao9, co9, eo9⟩ := Kd.R_slice HO515.out; subst eo9) | ((with_reducible refine gate_callee (f := 30) rfl ?_); refine gL (some 15) Tryz.func30 #[.int .i64 (wrap64 (200000 + t510)), .slice Ao9 t513.length co9] ?_; (with_reducible refine (spec_NewShop.calls k (wrap64 (200000 + t510)) _ _ t513 t518 t521 t522 t525 t526 t527 t530 _ ?side1 ?side2 A4.out).mono ?_); (case side1 => repeat (first | exact (Kd.R_reads' HO515.out).2.2 | (with_reducible refine Kd.C_alloc ?_ _) | (with_reducible refine Kd.C_drewN ?_ _) | (with_reducible refine Kd.C_drew ?_))); (case side2 => exact (Kd.R_reads' HO515.out).2.1); rintro e w10 ⟨v519, v523, v528, rfl, ho0, ho1, ho2, hb⟩; refine ⟨_, rfl, ?_⟩; have n0_ := A_ (Kd.R_elder' (oR HO515) (Kd.R_base ho0) hb); have n1_ := A_ (Kd.R_lower (Kd.R_new' ho0 (Kd.R_lt (oR HO515))) (keep_size (w := w) (g := g) (row := none) (by repeat (first | (with_reducible first | exact HK.out | apply KeepBut.set_ | apply keep_drewN | apply keep_drew | apply keep_alloc | refine keep_far ?_ GW509.out _) | exact HK.out)))); have n2_ := A_ (Kd.R_lower ho1 (keep_size (w := w) (g := g) (row := none) (by repeat (first | (with_reducible first | exact HK.out | apply KeepBut.set_ | apply keep_drewN | apply keep_drew | apply keep_alloc | refine keep_far ?_ GW509.out _) | exact HK.out)))); have n3_ := A_ (Kd.R_lower ho2 (keep_size (w := w) (g := g) (row := none) (by repeat (first | (with_reducible first | exact HK.out | apply KeepBut.set_ | apply keep_drewN | apply keep_drew | apply keep_alloc | refine keep_far ?_ GW509.out _) | exact HK.out)))); have n4_ := A_ (IsS56.below (oI56 HI0) hb); have n5_ := A_ (bb BK509 hb); have n6_ := A_ (KeepBut.trans (oKe HK) (KeepBut.of_below hb g none) (.inl rfl)); have n7_ := A_ (below_step (oB56 HB) hb); clear HO515; clear HI0; clear BK509; clear HK; clear HB; have HO515 := n0_; have HO520 := n1_; have HO524 := n2_; have HO529 := n3_; have HI0 := n4_; have BK509 := n5_; have HK := n6_; have HB := n7_; clear n0_ n1_ n2_ n3_ n4_ n5_ n6_ n7_; (try clear hb); (try clear hb2); (try clear hk); (try clear hi); (try clear ho0); (try clear ho1); (try clear ho2)) | ((with_reducible refine gate_dst (N := 3) rfl ?_); refine bX (N := 3) (cs := #[.slice none 0 0, .int .i64 0, .slice none 0 0, .int .i64 0, .int .i64 0, .slice none 0 0]) (t := 30) ?_; intro gb531 hg w11 hbox hb; have n0_ := A_ (Kd.R_below (oR HO515) hb); have n1_ := A_ (Kd.R_below (oR HO520) hb); have n2_ := A_ (Kd.R_below (oR HO524) hb); have n3_ := A_ (Kd.R_below (oR HO529) hb); have n4_ := A_ (IsS56.below (oI56 HI0) hb); have n5_ := A_ (bb BK509 hb); have n6_ := A_ (KeepBut.trans (oKe HK) (KeepBut.of_below hb g none) (.inl rfl)); have n7_ := A_ (below_step (oB56 HB) hb); have n8_ := A_ (hbox); have n9_ := A_ ((by rw [hg]; exact (keep_size (w := w) (g := g) (row := none) (by repeat (first | (with_reducible first | exact HK.out | apply KeepBut.set_ | apply keep_drewN | apply keep_drew | apply keep_alloc | refine keep_far ?_ GW509.out _) | exact HK.out))) : w.heap.size ≤ gb531)); have n10_ := A_ ((Nat.le_trans HW0.out (by rw [hg]; exact (keep_size (w := w) (g := g) (row := none) (by repeat (first | (with_reducible first | exact HK.out | apply KeepBut.set_ | apply keep_drewN | apply keep_drew | apply keep_alloc | refine keep_far ?_ GW509.out _) | exact HK.out))) : w.heap.size ≤ gb531) : w0.heap.size ≤ gb531)); have n11_ := A_ (nL BK509 hg); have n12_ := A_ (nG BK509 hg); have n13_ := A_ ((by rw [hg]; exact Nat.ne_of_lt (IsS56.lt (show IsS56 w0 _ g s0_0 t516 t517 from oI56 HI0)) : g ≠ gb531)); have n14_ := A_ ((by rw [hg]; exact Nat.ne_of_gt (IsS56.lt (show IsS56 w0 _ g s0_0 t516 t517 from oI56 HI0)) : gb531 ≠ g)); clear HO515; clear HO520; clear HO524; clear HO529; clear HI0; clear BK509; clear HK; clear HB; have HO515 := n0_; have HO520 := n1_; have HO524 := n2_; have HO529 := n3_; have HI0 := n4_; have BK509 := n5_; have HK := n6_; have HB := n7_; have BK531 := n8_; have GW531 := n9_; have GE531 := n10_; have NB509_531 := n11_; have NB531_509 := n12_; have NB0_531 := n13_; have NB531_0 := n14_; clear n0_ n1_ n2_ n3_ n4_ n5_ n6_ n7_ n8_ n9_ n10_ n11_ n12_ n13_ n14_; clear hb hbox hg; obtain ⟨Ao12, co12, eo12⟩ := Kd.R_slice HO520.out; subst eo12; have hnb13 := NB531_509.out; have hnc13 := NB509_531.out; have hnb14 := NB531_0.out; have hnc14 := NB0_531.out; have hcz15_0 := cz BK531 0; have hcz15_1 := cz BK531 1; have hcz15_2 := cz BK531 2; have hcz15_3 := cz BK531 3; have hcz15_4 := cz BK531 4; have hcz15_5 := cz BK531 5; have hfz15_0 := blk_frozen BK531.out 0; have hfz15_1 := blk_frozen BK531.out 1; have hfz15_2 := blk_frozen BK531.out 2; have hfz15_3 := blk_frozen BK531.out 3; have hfz15_4 := blk_frozen BK531.out 4; have hfz15_5 := blk_frozen BK531.out 5; obtain ⟨Ao16, co16, eo16⟩ := Kd.R_slice HO524.out; subst eo16; obtain ⟨Ao17, co17, eo17⟩ := Kd.R_slice HO529.out; subst eo17) | ((with_reducible refine gate_callee (f := 19) rfl ?_); refine gL (some 19) Tryz.func19 #[.pointer (some ⟨g, 0, none⟩), .int .i64 20] ?_; (with_reducible refine (spec_l01Below.calls g s0_0 t516 t517 20 t532 t533 t534 w0 _ ?side1 ?side2 A5.out).mono ?_); (case side1 => exact oI56 HI0); (case side2 => exact oB56 HB); rintro e w18 ⟨rfl, hi, hb, hk⟩; refine ⟨_, rfl, ?_⟩; have n0_ := A_ (KeepBut.blk hk (g' := gb509) (o := .cells #[.slice none 0 0, .int .i64 0, .slice none 0 0, .int .i64 0, .int .i64 0, .slice none 0 0] 30 (0, 0)) (by (with_reducible repeat (first | refine blk_drewN ?_ _ | refine blk_drew ?_ | refine blk_alloc ?_ _)); refine blk_far ?_ NB509_531.out _; (with_reducible repeat (first | refine blk_drewN ?_ _ | refine blk_drew ?_ | refine blk_alloc ?_ _)); refine blk_far ?_ NB509_531.out _; (with_reducible repeat (first | refine blk_drewN ?_ _ | refine blk_drew ?_ | refine blk_alloc ?_ _)); refine blk_far ?_ NB509_531.out _; (with_reducible repeat (first | refine blk_drewN ?_ _ | refine blk_drew ?_ | refine blk_alloc ?_ _)); refine blk_far ?_ NB509_531.out _; (with_reducible repeat (first | refine blk_drewN ?_ _ | refine blk_drew ?_ | refine blk_alloc ?_ _)); refine blk_far ?_ NB509_531.out _; (with_reducible repeat (first | refine blk_drewN ?_ _ | refine blk_drew ?_ | refine blk_alloc ?_ _)); refine blk_far ?_ NB509_531.out _; (with_reducible repeat (first | refine blk_drewN ?_ _ | refine blk_drew ?_ | refine blk_alloc ?_ _)); exact BK509.out) NB509_0.out (by simp)); have n1_ := A_ (Kd.R_mono (Kd.R_keep (IsS56.apart (show IsS56 w0 _ g s0_0 t516 t517 from oI56 HI0) (by (with_reducible repeat (first | apply Kd.R_alloc | apply Kd.R_drewN | apply Kd.R_drew)); exact (Kd.R_mono (Kd.R_far (p := ⟨gb531, 5, none⟩) (Kd.R_far (p := ⟨gb531, 4, none⟩) (Kd.R_far (p := ⟨gb531, 3, none⟩) (Kd.R_far (p := ⟨gb531, 2, none⟩) (Kd.R_far (p := ⟨gb531, 1, none⟩) (Kd.R_far (p := ⟨gb531, 0, none⟩) (Kd.R_types HO515.out BK531.out (by decide)) (fun _ hk => hk.2) (.slice Ao12 t518.length co12)) (fun _ hk => hk.2) (.int .i64 t521)) (fun _ hk => hk.2) (.slice Ao16 t522.length co16)) (fun _ hk => hk.2) (.int .i64 t525)) (fun _ hk => hk.2) (.int .i64 t526)) (fun _ hk => hk.2) (.slice Ao17 t527.length co17)) (fun _ h_ => h_.1))) (by decide)) hk (fun _ h => h.2)) (fun _ h => h.1)); have n2_ := A_ (Kd.R_mono (Kd.R_keep (IsS56.apart (show IsS56 w0 _ g s0_0 t516 t517 from oI56 HI0) (by (with_reducible repeat (first | apply Kd.R_alloc | apply Kd.R_drewN | apply Kd.R_drew)); exact (Kd.R_mono (Kd.R_far (p := ⟨gb531, 5, none⟩) (Kd.R_far (p := ⟨gb531, 4, none⟩) (Kd.R_far (p := ⟨gb531, 3, none⟩) (Kd.R_far (p := ⟨gb531, 2, none⟩) (Kd.R_far (p := ⟨gb531, 1, none⟩) (Kd.R_far (p := ⟨gb531, 0, none⟩) (Kd.R_types HO520.out BK531.out (by decide)) (fun _ hk => hk.2) (.slice Ao12 t518.length co12)) (fun _ hk => hk.2) (.int .i64 t521)) (fun _ hk => hk.2) (.slice Ao16 t522.length co16)) (fun _ hk => hk.2) (.int .i64 t525)) (fun _ hk => hk.2) (.int .i64 t526)) (fun _ hk => hk.2) (.slice Ao17 t527.length co17)) (fun _ h_ => h_.1))) (by decide)) hk (fun _ h => h.2)) (fun _ h => h.1)); have n3_ := A_ (Kd.R_mono (Kd.R_keep (IsS56.apart (show IsS56 w0 _ g s0_0 t516 t517 from oI56 HI0) (by (with_reducible repeat (first | apply Kd.R_alloc | apply Kd.R_drewN | apply Kd.R_drew)); exact (Kd.R_mono (Kd.R_far (p := ⟨gb531, 5, none⟩) (Kd.R_far (p := ⟨gb531, 4, none⟩) (Kd.R_far (p := ⟨gb531, 3, none⟩) (Kd.R_far (p := ⟨gb531, 2, none⟩) (Kd.R_far (p := ⟨gb531, 1, none⟩) (Kd.R_far (p := ⟨gb531, 0, none⟩) (Kd.R_types HO524.out BK531.out (by decide)) (fun _ hk => hk.2) (.slice Ao12 t518.length co12)) (fun _ hk => hk.2) (.int .i64 t521)) (fun _ hk => hk.2) (.slice Ao16 t522.length co16)) (fun _ hk => hk.2) (.int .i64 t525)) (fun _ hk => hk.2) (.int .i64 t526)) (fun _ hk => hk.2) (.slice Ao17 t527.length co17)) (fun _ h_ => h_.1))) (by decide)) hk (fun _ h => h.2)) (fun _ h => h.1)); have n4_ := A_ (Kd.R_mono (Kd.R_keep (IsS56.apart (show IsS56 w0 _ g s0_0 t516 t517 from oI56 HI0) (by (with_reducible repeat (first | apply Kd.R_alloc | apply Kd.R_drewN | apply Kd.R_drew)); exact (Kd.R_mono (Kd.R_far (p := ⟨gb531, 5, none⟩) (Kd.R_far (p := ⟨gb531, 4, none⟩) (Kd.R_far (p := ⟨gb531, 3, none⟩) (Kd.R_far (p := ⟨gb531, 2, none⟩) (Kd.R_far (p := ⟨gb531, 1, none⟩) (Kd.R_far (p := ⟨gb531, 0, none⟩) (Kd.R_types HO529.out BK531.out (by decide)) (fun _ hk => hk.2) (.slice Ao12 t518.length co12)) (fun _ hk => hk.2) (.int .i64 t521)) (fun _ hk => hk.2) (.slice Ao16 t522.length co16)) (fun _ hk => hk.2) (.int .i64 t525)) (fun _ hk => hk.2) (.int .i64 t526)) (fun _ hk => hk.2) (.slice Ao17 t527.length co17)) (fun _ h_ => h_.1))) (by decide)) hk (fun _ h => h.2)) (fun _ h => h.1)); have n5_ := A_ (KeepBut.blk hk (g' := gb531) (o := .cells #[.slice Ao12 t518.length co12, .int .i64 t521, .slice Ao16 t522.length co16, .int .i64 t525, .int .i64 t526, .slice Ao17 t527.length co17] 30 (0, 0)) (by (with_reducible repeat (first | refine blk_drewN ?_ _ | refine blk_drew ?_ | refine blk_alloc ?_ _)); refine blk_put (cs := #[.slice Ao12 t518.length co12, .int .i64 t521, .slice Ao16 t522.length co16, .int .i64 t525, .int .i64 t526, .slice none 0 0]) ?_ 5 _ rfl; (with_reducible repeat (first | refine blk_drewN ?_ _ | refine blk_drew ?_ | refine blk_alloc ?_ _)); refine blk_put (cs := #[.slice Ao12 t518.length co12, .int .i64 t521, .slice Ao16 t522.length co16, .int .i64 t525, .int .i64 0, .slice none 0 0]) ?_ 4 _ rfl; (with_reducible repeat (first | refine blk_drewN ?_ _ | refine blk_drew ?_ | refine blk_alloc ?_ _)); refine blk_put (cs := #[.slice Ao12 t518.length co12, .int .i64 t521, .slice Ao16 t522.length co16, .int .i64 0, .int .i64 0, .slice none 0 0]) ?_ 3 _ rfl; (with_reducible repeat (first | refine blk_drewN ?_ _ | refine blk_drew ?_ | refine blk_alloc ?_ _)); refine blk_put (cs := #[.slice Ao12 t518.length co12, .int .i64 t521, .slice none 0 0, .int .i64 0, .int .i64 0, .slice none 0 0]) ?_ 2 _ rfl; (with_reducible repeat (first | refine blk_drewN ?_ _ | refine blk_drew ?_ | refine blk_alloc ?_ _)); refine blk_put (cs := #[.slice Ao12 t518.length co12, .int .i64 0, .slice none 0 0, .int .i64 0, .int .i64 0, .slice none 0 0]) ?_ 1 _ rfl; (with_reducible repeat (first | refine blk_drewN ?_ _ | refine blk_drew ?_ | refine blk_alloc ?_ _)); refine blk_put (cs := #[.slice none 0 0, .int .i64 0, .slice none 0 0, .int .i64 0, .int .i64 0, .slice none 0 0]) ?_ 0 _ rfl; (with_reducible repeat (first | refine blk_drewN ?_ _ | refine blk_drew ?_ | refine blk_alloc ?_ _)); exact BK531.out) NB531_0.out (by simp)); have n6_ := A_ (KeepBut.trans (oKe HK) hk (.inl rfl)); have n7_ := A_ (hb); have n8_ := A_ (hi); clear BK509; clear HO515; clear HO520; clear HO524; clear HO529; clear BK531; clear HK; clear HB; clear HI0; have BK509 := n0_; have HO515 := n1_; have HO520 := n2_; have HO524 := n3_; have HO529 := n4_; have BK531 := n5_; have HK := n6_; have HB := n7_; have HI0 := n8_; clear n0_ n1_ n2_ n3_ n4_ n5_ n6_ n7_ n8_; (try clear hb); (try clear hb2); (try clear hk); (try clear hi)))
  go_loopg [6] k (fun kq v6 w' => ∃ (x6_1 : Int) (x1001_1 : Int) (x1002_1 : Int) (x532000_1 : List (S95)) (x532001_1 : Int) (x532002_1 : List Int) (x532003_1 : Int) (x532004_1 : Int) (x532005_1 : List (S101)) (u532000 : Value) (u532002 : Value) (u532005 : Value), v6 = .int .i64 x6_1 ∧ Aside0 (spec_l38Shop.l0 kq t532 x6_1 s0_0 x1001_1 x1002_1 x532000_1 x532001_1 x532002_1 x532003_1 x532004_1 x532005_1 = some (r1, r2, r3, r4, r5, r6, r7, r8)) ∧ Aside0 (kq ≤ k) ∧ Aside0 (Kd.R k95 95 w' w.heap.size (fun _ => True) u532000 x532000_1) ∧ Aside0 (Kd.R (Kd.int .i64) 3 w' w.heap.size (fun _ => True) u532002 x532002_1) ∧ Aside0 (Kd.R k101 101 w' w.heap.size (fun _ => True) u532005 x532005_1) ∧ Aside0 (w'.heap[gb509]? = some (.cells #[(.slice none 0 0), .int .i64 0, (.slice none 0 0), .int .i64 0, .int .i64 0, (.slice none 0 0)] 30 (0, 0))) ∧ Aside0 (w'.heap[gb531]? = some (.cells #[u532000, .int .i64 x532001_1, u532002, .int .i64 x532003_1, .int .i64 x532004_1, u532005] 30 (0, 0))) ∧ Aside0 (IsS56 w0 w' g s0_0 x1001_1 x1002_1) ∧ Aside0 (KeepBut w w' g none) ∧ Aside0 (Below w0.heap.size w0 w'))
  case atStart => exact ⟨(0), (t533), (t534), (t518), (t521), (t522), (t525), (t526), (t527), (.slice Ao12 t518.length co12), (.slice Ao16 t522.length co16), (.slice Ao17 t527.length co17), (by first | rfl | (simp; done) | (simp [*]; done)), H', ⟨Nat.le_refl _⟩, ⟨by (with_reducible repeat (first | apply Kd.R_alloc | apply Kd.R_drewN | apply Kd.R_drew)); exact Kd.R_mono HO520.out (fun _ hk => trivial)⟩, ⟨oR HO524⟩, ⟨oR HO529⟩, ⟨oK BK509⟩, ⟨oK BK531⟩, ⟨oI56 HI0⟩, ⟨oKe HK⟩, ⟨oB56 HB⟩⟩
  case round =>
    clear H'
    try clear c1
    try clear p2
    try clear c3
    try clear p6
    try clear c13
    try clear c14
    try clear c18
    try clear hcz15_0
    try clear hcz15_1
    try clear hcz15_2
    try clear hcz15_3
    try clear hcz15_4
    try clear hcz15_5
    try clear hfz15_0
    try clear hfz15_1
    try clear hfz15_2
    try clear hfz15_3
    try clear hfz15_4
    try clear hfz15_5
    obtain ⟨x6_1, x1001_1, x1002_1, x532000_1, x532001_1, x532002_1, x532003_1, x532004_1, x532005_1, u532000, u532002, u532005, rfl, HA, HK1, HO_532000, HO_532002, HO_532005, BK509, BK531, HI0, HK, HB⟩ := hrel
    cases gk with
    | zero => exact absurd HA.out (by simp [spec_l38Shop.l0])
    | succ k1 =>
      have H := HA.out
      clear HA
      simp only [spec_l38Shop.l0] at H
      by_cases c19 : x6_1 < t532
      · rw [if_pos c19] at H
        have c19b0 : decide (x6_1 < t532) = true := decide_eq_true c19
        clear c19
        replace H := Option.bind_eq_some_iff.mp H
        obtain ⟨⟨t535, t536, t537⟩, A200, H⟩ := H
        (try dsimp only at H)
        have A20 := A_ A200
        clear A200
        by_cases c21 : t535 = 0
        · rw [if_pos c21] at H
          have c21b0 : (t535 == 0) = true := beq_iff_eq.mpr c21
          have c21b1 : (t535 != 0) = false := bne_eq_false_iff_eq.mpr c21
          clear c21
          replace H := Option.bind_eq_some_iff.mp H
          obtain ⟨⟨t538, t539, t540⟩, A220, H⟩ := H
          (try dsimp only at H)
          have A22 := A_ A220
          clear A220
          replace H := Option.bind_eq_some_iff.mp H
          obtain ⟨⟨t541, t544, t545, t548, t549, t550, t553⟩, A230, H⟩ := H
          (try dsimp only at H)
          have A23 := A_ A230
          clear A230
          have H' := A_ H
          clear H
          try go_wp2_with (first | ((with_reducible refine gate_callee (f := 19) rfl ?_); refine gL (some 26) Tryz.func19 #[.pointer (some ⟨g, 0, none⟩), .int .i64 8] ?_; (with_reducible refine (spec_l01Below.calls g s0_0 x1001_1 x1002_1 8 t535 t536 t537 w0 _ ?side1 ?side2 A20.out).mono ?_); (case side1 => exact oI56 HI0); (case side2 => exact oB56 HB); rintro e w24 ⟨rfl, hi, hb, hk⟩; refine ⟨_, rfl, ?_⟩; have n0_ := A_ (Kd.R_mono (Kd.R_keep (IsS56.apart (show IsS56 w0 _ g s0_0 x1001_1 x1002_1 from oI56 HI0) (oR HO_532000) (by decide)) hk (fun _ h => h.2)) (fun _ h => h.1)); have n1_ := A_ (Kd.R_mono (Kd.R_keep (IsS56.apart (show IsS56 w0 _ g s0_0 x1001_1 x1002_1 from oI56 HI0) (oR HO_532002) (by decide)) hk (fun _ h => h.2)) (fun _ h => h.1)); have n2_ := A_ (Kd.R_mono (Kd.R_keep (IsS56.apart (show IsS56 w0 _ g s0_0 x1001_1 x1002_1 from oI56 HI0) (oR HO_532005) (by decide)) hk (fun _ h => h.2)) (fun _ h => h.1)); have n3_ := A_ (KeepBut.blk hk (g' := gb509) (o := .cells #[.slice none 0 0, .int .i64 0, .slice none 0 0, .int .i64 0, .int .i64 0, .slice none 0 0] 30 (0, 0)) (oK BK509) NB509_0.out (by simp)); have n4_ := A_ (KeepBut.blk hk (g' := gb531) (o := .cells #[u532000, .int .i64 x532001_1, u532002, .int .i64 x532003_1, .int .i64 x532004_1, u532005] 30 (0, 0)) (oK BK531) NB531_0.out (by simp)); have n5_ := A_ (KeepBut.trans (oKe HK) hk (.inl rfl)); have n6_ := A_ (hb); have n7_ := A_ (hi); clear HO_532000; clear HO_532002; clear HO_532005; clear BK509; clear BK531; clear HK; clear HB; clear HI0; have HO_532000 := n0_; have HO_532002 := n1_; have HO_532005 := n2_; have BK509 := n3_; have BK531 := n4_; have HK := n5_; have HB := n6_; have HI0 := n7_; clear n0_ n1_ n2_ n3_ n4_ n5_ n6_ n7_; (try clear hb); (try clear hb2); (try clear hk); (try clear hi)))
          have n0_ := A_ (Kd.R_drew HO_532000.out)
          have n1_ := A_ (Kd.R_drew HO_532002.out)
          have n2_ := A_ (Kd.R_drew HO_532005.out)
          have n3_ := A_ (blk_drew BK509.out)
          have n4_ := A_ (blk_drew BK531.out)
          have n5_ := A_ (IsS56.drew HI0.out)
          have n6_ := A_ (keep_drew HK.out)
          have n7_ := A_ (below_drew1 HB.out)
          clear HO_532000
          clear HO_532002
          clear HO_532005
          clear BK509
          clear BK531
          clear HI0
          clear HK
          clear HB
          have HO_532000 := n0_
          have HO_532002 := n1_
          have HO_532005 := n2_
          have BK509 := n3_
          have BK531 := n4_
          have HI0 := n5_
          have HK := n6_
          have HB := n7_
          clear n0_ n1_ n2_ n3_ n4_ n5_ n6_ n7_
          refine start_ (n := 8) (S := fun w' => w'.cell? ⟨gb531, 0, none⟩ = some (u532000) ∧ w'.cell? ⟨gb531, 1, none⟩ = some (.int .i64 x532001_1) ∧ w'.cell? ⟨gb531, 2, none⟩ = some (u532002) ∧ w'.cell? ⟨gb531, 3, none⟩ = some (.int .i64 x532003_1) ∧ w'.cell? ⟨gb531, 4, none⟩ = some (.int .i64 x532004_1) ∧ w'.cell? ⟨gb531, 5, none⟩ = some (u532005)) (ds := [7]) #[false, false, false, false, false, false, false, false] (by kernel_rfl) rfl rfl ⟨cz BK531 0, cz BK531 1, cz BK531 2, cz BK531 3, cz BK531 4, cz BK531 5⟩ (fun hHeld => ?_); refine with_tabW spec_l38Shop.tab9 spec_l38Shop.bits9 (fun HT_ HW_ => ?_)
          generalize w24.drew = w25 at HO_532000 HO_532002 HO_532005 BK509 BK531 HI0 HK HB hHeld ⊢
          refine pA 1 (some 36) HT_.out ?_
          refine pT 0 (some 35) HT_.out HW_.out hHeld ?_
          refine one_ (i := 2) (N := some 37) #[true, true, true, false, false, false, false, false] rfl rfl (one_of HT_.out (by kernel_rfl)) (by decide) (fun K hK => ?_)
          refine goes_ Tryz.func19 (by kernel_rfl) rfl #[.pointer (some ⟨g, 0, none⟩), .int .i64 30] (by rfl) rfl rfl (by (try simp only [List.map_toArray, List.map_cons, List.map_nil]); first | done | rfl | (simp only [List.length_drop, List.length_take]; rfl)) ?_
          with_reducible refine (spec_l01Below.calls g s0_0 t536 t537 30 t538 t539 t540 w0 _ ?side1 ?side2 A22.out).mono ?_
          (case side1 => exact oI56 HI0)
          (case side2 => exact oB56 HB)
          rintro e w26 ⟨rfl, hi, hb, hk⟩
          refine ⟨_, rfl, ?_⟩
          have n0_ := A_ (Kd.R_mono (Kd.R_keep (IsS56.apart (show IsS56 w0 _ g s0_0 t536 t537 from oI56 HI0) (oR HO_532000) (by decide)) hk (fun _ h => h.2)) (fun _ h => h.1))
          have n1_ := A_ (Kd.R_mono (Kd.R_keep (IsS56.apart (show IsS56 w0 _ g s0_0 t536 t537 from oI56 HI0) (oR HO_532002) (by decide)) hk (fun _ h => h.2)) (fun _ h => h.1))
          have n2_ := A_ (Kd.R_mono (Kd.R_keep (IsS56.apart (show IsS56 w0 _ g s0_0 t536 t537 from oI56 HI0) (oR HO_532005) (by decide)) hk (fun _ h => h.2)) (fun _ h => h.1))
          have n3_ := A_ (KeepBut.blk hk (g' := gb509) (o := .cells #[.slice none 0 0, .int .i64 0, .slice none 0 0, .int .i64 0, .int .i64 0, .slice none 0 0] 30 (0, 0)) (oK BK509) NB509_0.out (by simp))
          have n4_ := A_ (KeepBut.blk hk (g' := gb531) (o := .cells #[u532000, .int .i64 x532001_1, u532002, .int .i64 x532003_1, .int .i64 x532004_1, u532005] 30 (0, 0)) (oK BK531) NB531_0.out (by simp))
          have n5_ := A_ (KeepBut.trans (oKe HK) hk (.inl rfl))
          have n6_ := A_ (hb)
          have n7_ := A_ (hi)
          clear HO_532000
          clear HO_532002
          clear HO_532005
          clear BK509
          clear BK531
          clear HK
          clear HB
          clear HI0
          have HO_532000 := n0_
          have HO_532002 := n1_
          have HO_532005 := n2_
          have BK509 := n3_
          have BK531 := n4_
          have HK := n5_
          have HB := n6_
          have HI0 := n7_
          clear n0_ n1_ n2_ n3_ n4_ n5_ n6_ n7_
          (try clear hb)
          (try clear hb2)
          (try clear hk)
          (try clear hi)
          obtain ⟨Ao27, co27, eo27⟩ := Kd.R_slice HO_532000.out
          (first | subst eo27 | (injection eo27 with f1_ f2_ f3_; have f4_ := f1_.symm; have f5_ := f3_.symm; clear f1_ f2_ f3_; subst f4_; subst f5_))
          obtain ⟨Ao28, co28, eo28⟩ := Kd.R_slice HO_532002.out
          (first | subst eo28 | (injection eo28 with f1_ f2_ f3_; have f4_ := f1_.symm; have f5_ := f3_.symm; clear f1_ f2_ f3_; subst f4_; subst f5_))
          obtain ⟨Ao29, co29, eo29⟩ := Kd.R_slice HO_532005.out
          (first | subst eo29 | (injection eo29 with f1_ f2_ f3_; have f4_ := f1_.symm; have f5_ := f3_.symm; clear f1_ f2_ f3_; subst f4_; subst f5_))
          refine hK.out _ _ ⟨cz BK531 0, cz BK531 1, cz BK531 2, cz BK531 3, cz BK531 4, cz BK531 5⟩ (fun hHeld => ?_)
          clear hK K
          refine norm_ (a' := ?_) ?_ ?_
          rotate_left
          · show Act.put _ (some 37) _ = _
            simp only [Act.put, List.setIfInBounds_toArray, List.set_cons_zero, List.set_cons_succ, i64_w, i32_w]
            rfl
          refine one_ (i := 3) (N := some 38) #[true, true, true, true, false, false, false, false] rfl rfl (one_of HT_.out (by kernel_rfl)) (by decide) (fun K hK => ?_)
          refine goes_ Tryz.func33 (by kernel_rfl) rfl #[.agg #[.slice Ao27 x532000_1.length co27, .int .i64 x532001_1, .slice Ao28 x532002_1.length co28, .int .i64 x532003_1, .int .i64 x532004_1, .slice Ao29 x532005_1.length co29], .int .i64 t538] (by rfl) rfl rfl (by (try simp only [List.map_toArray, List.map_cons, List.map_nil]); first | done | rfl | (simp only [List.length_drop, List.length_take]; rfl)) ?_
          with_reducible refine (spec_ShopWarm.calls k1 _ _ x532000_1 x532001_1 _ _ x532002_1 x532003_1 x532004_1 _ _ x532005_1 t538 t541 t544 t545 t548 t549 t550 t553 _ ?side1 ?side2 ?side3 ?side4 ?side5 ?side6 A23.out).mono ?_
          (case side1 => repeat (first | exact (Kd.R_reads' HO_532000.out).2.2 | (with_reducible refine Kd.C_alloc ?_ _) | (with_reducible refine Kd.C_drewN ?_ _) | (with_reducible refine Kd.C_drew ?_)))
          (case side2 => exact (Kd.R_reads' HO_532000.out).2.1)
          (case side3 => repeat (first | exact (Kd.R_reads' HO_532002.out).2.2 | (with_reducible refine Kd.C_alloc ?_ _) | (with_reducible refine Kd.C_drewN ?_ _) | (with_reducible refine Kd.C_drew ?_)))
          (case side4 => exact (Kd.R_reads' HO_532002.out).2.1)
          (case side5 => repeat (first | exact (Kd.R_reads' HO_532005.out).2.2 | (with_reducible refine Kd.C_alloc ?_ _) | (with_reducible refine Kd.C_drewN ?_ _) | (with_reducible refine Kd.C_drew ?_)))
          (case side6 => exact (Kd.R_reads' HO_532005.out).2.1)
          rintro e w30 ⟨v542, v546, v551, rfl, ho0, ho1, ho2, hb⟩
          refine ⟨_, rfl, ?_⟩
          have n0_ := A_ (Kd.R_elder' (oR HO_532000) (Kd.R_base ho0) hb)
          have n1_ := A_ (Kd.R_elder' (oR HO_532002) (Kd.R_base ho1) hb)
          have n2_ := A_ (Kd.R_elder' (oR HO_532005) (Kd.R_base ho2) hb)
          have n3_ := A_ (Kd.R_lower (Kd.R_new' ho0 (Kd.R_lt (oR HO_532000))) (keep_size (w := w) (g := g) (row := none) (by repeat (first | (with_reducible first | exact HK.out | apply KeepBut.set_ | apply keep_drewN | apply keep_drew | apply keep_alloc | refine keep_far ?_ GW509.out _ | refine keep_far ?_ GW531.out _) | exact HK.out))))
          have n4_ := A_ (Kd.R_lower (Kd.R_new' ho1 (Kd.R_lt (oR HO_532002))) (keep_size (w := w) (g := g) (row := none) (by repeat (first | (with_reducible first | exact HK.out | apply KeepBut.set_ | apply keep_drewN | apply keep_drew | apply keep_alloc | refine keep_far ?_ GW509.out _ | refine keep_far ?_ GW531.out _) | exact HK.out))))
          have n5_ := A_ (Kd.R_lower (Kd.R_new' ho2 (Kd.R_lt (oR HO_532005))) (keep_size (w := w) (g := g) (row := none) (by repeat (first | (with_reducible first | exact HK.out | apply KeepBut.set_ | apply keep_drewN | apply keep_drew | apply keep_alloc | refine keep_far ?_ GW509.out _ | refine keep_far ?_ GW531.out _) | exact HK.out))))
          have n6_ := A_ (bb BK509 hb)
          have n7_ := A_ (bb BK531 hb)
          have n8_ := A_ (IsS56.below (oI56 HI0) hb)
          have n9_ := A_ (KeepBut.trans (oKe HK) (KeepBut.of_below hb g none) (.inl rfl))
          have n10_ := A_ (below_step (oB56 HB) hb)
          clear HO_532000
          clear HO_532002
          clear HO_532005
          clear BK509
          clear BK531
          clear HI0
          clear HK
          clear HB
          have HO_532000 := n0_
          have HO_532002 := n1_
          have HO_532005 := n2_
          have HO543 := n3_
          have HO547 := n4_
          have HO552 := n5_
          have BK509 := n6_
          have BK531 := n7_
          have HI0 := n8_
          have HK := n9_
          have HB := n10_
          clear n0_ n1_ n2_ n3_ n4_ n5_ n6_ n7_ n8_ n9_ n10_
          (try clear hb)
          (try clear hb2)
          (try clear hk)
          (try clear hi)
          (try clear ho0)
          (try clear ho1)
          (try clear ho2)
          obtain ⟨Ao31, co31, eo31⟩ := Kd.R_slice HO543.out
          (first | subst eo31 | (injection eo31 with f1_ f2_ f3_; have f4_ := f1_.symm; have f5_ := f3_.symm; clear f1_ f2_ f3_; subst f4_; subst f5_))
          obtain ⟨Ao34, co34, eo34⟩ := Kd.R_slice HO547.out
          (first | subst eo34 | (injection eo34 with f1_ f2_ f3_; have f4_ := f1_.symm; have f5_ := f3_.symm; clear f1_ f2_ f3_; subst f4_; subst f5_))
          obtain ⟨Ao38, co38, eo38⟩ := Kd.R_slice HO552.out
          (first | subst eo38 | (injection eo38 with f1_ f2_ f3_; have f4_ := f1_.symm; have f5_ := f3_.symm; clear f1_ f2_ f3_; subst f4_; subst f5_))
          refine hK.out _ _ ⟨cz BK531 0, cz BK531 1, cz BK531 2, cz BK531 3, cz BK531 4, cz BK531 5⟩ (fun hHeld => ?_)
          clear hK K
          refine norm_ (a' := ?_) ?_ ?_
          rotate_left
          · show Act.put _ (some 38) _ = _
            simp only [Act.put, List.setIfInBounds_toArray, List.set_cons_zero, List.set_cons_succ, i64_w, i32_w]
            rfl
          refine pA 4 (some 34) HT_.out ?_
          refine pA 5 (some 39) HT_.out ?_
          refine pA 6 (some 40) HT_.out ?_
          refine last_ (i := 7) (N := none) #[true, true, true, true, true, true, true, true] rfl rfl (one_of HT_.out (by kernel_rfl)) (by decide) (fun K hK => ?_)
          have hs32 := cz BK531 0
          have hfs32 := blk_frozen BK531.out 0
          have hns32_0 := NB509_531.out
          have hms32_0 := NB531_509.out
          have hs33 := cz BK531 1
          have hfs33 := blk_frozen BK531.out 1
          have hns33_0 := NB509_531.out
          have hms33_0 := NB531_509.out
          have hs35 := cz BK531 2
          have hfs35 := blk_frozen BK531.out 2
          have hns35_0 := NB509_531.out
          have hms35_0 := NB531_509.out
          have hs36 := cz BK531 3
          have hfs36 := blk_frozen BK531.out 3
          have hns36_0 := NB509_531.out
          have hms36_0 := NB531_509.out
          have hs37 := cz BK531 4
          have hfs37 := blk_frozen BK531.out 4
          have hns37_0 := NB509_531.out
          have hms37_0 := NB531_509.out
          have hs39 := cz BK531 5
          have hfs39 := blk_frozen BK531.out 5
          have hns39_0 := NB509_531.out
          have hms39_0 := NB531_509.out
          refine skip_ (w1 := ?_) (by rfl) rfl ?_ ?_
          rotate_left
          · go_simp
            rfl
          refine hK.out _ _ ?_
          clear hK K
          refine done_ (done_of HT_.out (by kernel_rfl)) ?_
          try go_wp2
          go_roundg k1
          case measure => have := HK1.out; omega
          case rel => exact ⟨(wrap64 (x6_1 + 1)), (t539), (t540), (t541), (t544), (t545), (t548), (t549), (t550), (.slice Ao31 t541.length co31), (.slice Ao34 t545.length co34), (.slice Ao38 t550.length co38), (by first | rfl | (simp; done) | (simp [*]; done)), H', ⟨by have := HK1.out; omega⟩, ⟨by (with_reducible repeat (first | apply Kd.R_alloc | apply Kd.R_drewN | apply Kd.R_drew)); exact Kd.R_mono (Kd.R_far (p := ⟨gb531, 5, none⟩) (Kd.R_far (p := ⟨gb531, 4, none⟩) (Kd.R_far (p := ⟨gb531, 3, none⟩) (Kd.R_far (p := ⟨gb531, 2, none⟩) (Kd.R_far (p := ⟨gb531, 1, none⟩) (Kd.R_far (p := ⟨gb531, 0, none⟩) (Kd.R_types HO543.out BK531.out (by decide)) (fun _ hk => hk.2) (.slice Ao31 t541.length co31)) (fun _ hk => hk.2) (.int .i64 t544)) (fun _ hk => hk.2) (.slice Ao34 t545.length co34)) (fun _ hk => hk.2) (.int .i64 t548)) (fun _ hk => hk.2) (.int .i64 t549)) (fun _ hk => hk.2) (.slice Ao38 t550.length co38)) (fun _ hk => trivial)⟩, ⟨by (with_reducible repeat (first | apply Kd.R_alloc | apply Kd.R_drewN | apply Kd.R_drew)); exact Kd.R_mono (Kd.R_far (p := ⟨gb531, 5, none⟩) (Kd.R_far (p := ⟨gb531, 4, none⟩) (Kd.R_far (p := ⟨gb531, 3, none⟩) (Kd.R_far (p := ⟨gb531, 2, none⟩) (Kd.R_far (p := ⟨gb531, 1, none⟩) (Kd.R_far (p := ⟨gb531, 0, none⟩) (Kd.R_types HO547.out BK531.out (by decide)) (fun _ hk => hk.2) (.slice Ao31 t541.length co31)) (fun _ hk => hk.2) (.int .i64 t544)) (fun _ hk => hk.2) (.slice Ao34 t545.length co34)) (fun _ hk => hk.2) (.int .i64 t548)) (fun _ hk => hk.2) (.int .i64 t549)) (fun _ hk => hk.2) (.slice Ao38 t550.length co38)) (fun _ hk => trivial)⟩, ⟨by (with_reducible repeat (first | apply Kd.R_alloc | apply Kd.R_drewN | apply Kd.R_drew)); exact Kd.R_mono (Kd.R_far (p := ⟨gb531, 5, none⟩) (Kd.R_far (p := ⟨gb531, 4, none⟩) (Kd.R_far (p := ⟨gb531, 3, none⟩) (Kd.R_far (p := ⟨gb531, 2, none⟩) (Kd.R_far (p := ⟨gb531, 1, none⟩) (Kd.R_far (p := ⟨gb531, 0, none⟩) (Kd.R_types HO552.out BK531.out (by decide)) (fun _ hk => hk.2) (.slice Ao31 t541.length co31)) (fun _ hk => hk.2) (.int .i64 t544)) (fun _ hk => hk.2) (.slice Ao34 t545.length co34)) (fun _ hk => hk.2) (.int .i64 t548)) (fun _ hk => hk.2) (.int .i64 t549)) (fun _ hk => hk.2) (.slice Ao38 t550.length co38)) (fun _ hk => trivial)⟩, ⟨by (with_reducible repeat (first | refine blk_drewN ?_ _ | refine blk_drew ?_ | refine blk_alloc ?_ _)); refine blk_far ?_ NB509_531.out _; (with_reducible repeat (first | refine blk_drewN ?_ _ | refine blk_drew ?_ | refine blk_alloc ?_ _)); refine blk_far ?_ NB509_531.out _; (with_reducible repeat (first | refine blk_drewN ?_ _ | refine blk_drew ?_ | refine blk_alloc ?_ _)); refine blk_far ?_ NB509_531.out _; (with_reducible repeat (first | refine blk_drewN ?_ _ | refine blk_drew ?_ | refine blk_alloc ?_ _)); refine blk_far ?_ NB509_531.out _; (with_reducible repeat (first | refine blk_drewN ?_ _ | refine blk_drew ?_ | refine blk_alloc ?_ _)); refine blk_far ?_ NB509_531.out _; (with_reducible repeat (first | refine blk_drewN ?_ _ | refine blk_drew ?_ | refine blk_alloc ?_ _)); refine blk_far ?_ NB509_531.out _; (with_reducible repeat (first | refine blk_drewN ?_ _ | refine blk_drew ?_ | refine blk_alloc ?_ _)); exact BK509.out⟩, ⟨by (with_reducible repeat (first | refine blk_drewN ?_ _ | refine blk_drew ?_ | refine blk_alloc ?_ _)); refine blk_put (cs := #[.slice Ao31 t541.length co31, .int .i64 t544, .slice Ao34 t545.length co34, .int .i64 t548, .int .i64 t549, .slice Ao29 x532005_1.length co29]) ?_ 5 _ rfl; (with_reducible repeat (first | refine blk_drewN ?_ _ | refine blk_drew ?_ | refine blk_alloc ?_ _)); refine blk_put (cs := #[.slice Ao31 t541.length co31, .int .i64 t544, .slice Ao34 t545.length co34, .int .i64 t548, .int .i64 x532004_1, .slice Ao29 x532005_1.length co29]) ?_ 4 _ rfl; (with_reducible repeat (first | refine blk_drewN ?_ _ | refine blk_drew ?_ | refine blk_alloc ?_ _)); refine blk_put (cs := #[.slice Ao31 t541.length co31, .int .i64 t544, .slice Ao34 t545.length co34, .int .i64 x532003_1, .int .i64 x532004_1, .slice Ao29 x532005_1.length co29]) ?_ 3 _ rfl; (with_reducible repeat (first | refine blk_drewN ?_ _ | refine blk_drew ?_ | refine blk_alloc ?_ _)); refine blk_put (cs := #[.slice Ao31 t541.length co31, .int .i64 t544, .slice Ao28 x532002_1.length co28, .int .i64 x532003_1, .int .i64 x532004_1, .slice Ao29 x532005_1.length co29]) ?_ 2 _ rfl; (with_reducible repeat (first | refine blk_drewN ?_ _ | refine blk_drew ?_ | refine blk_alloc ?_ _)); refine blk_put (cs := #[.slice Ao31 t541.length co31, .int .i64 x532001_1, .slice Ao28 x532002_1.length co28, .int .i64 x532003_1, .int .i64 x532004_1, .slice Ao29 x532005_1.length co29]) ?_ 1 _ rfl; (with_reducible repeat (first | refine blk_drewN ?_ _ | refine blk_drew ?_ | refine blk_alloc ?_ _)); refine blk_put (cs := #[.slice Ao27 x532000_1.length co27, .int .i64 x532001_1, .slice Ao28 x532002_1.length co28, .int .i64 x532003_1, .int .i64 x532004_1, .slice Ao29 x532005_1.length co29]) ?_ 0 _ rfl; (with_reducible repeat (first | refine blk_drewN ?_ _ | refine blk_drew ?_ | refine blk_alloc ?_ _)); exact BK531.out⟩, ⟨oI56 HI0⟩, ⟨oKe HK⟩, ⟨oB56 HB⟩⟩
        · rw [if_neg c21] at H
          have c21b0 : (t535 == 0) = false := beq_eq_false_iff_ne.mpr c21
          have c21b1 : (t535 != 0) = true := bne_iff_ne.mpr c21
          by_cases c40 : t535 = 1
          · rw [if_pos c40] at H
            have c40b0 : (t535 == 1) = true := beq_iff_eq.mpr c40
            have c40b1 : (t535 != 1) = false := bne_eq_false_iff_eq.mpr c40
            clear c40
            replace H := Option.bind_eq_some_iff.mp H
            obtain ⟨⟨t554, t555, t556, t557⟩, A410, H⟩ := H
            (try dsimp only at H)
            have A41 := A_ A410
            clear A410
            replace H := Option.bind_eq_some_iff.mp H
            obtain ⟨⟨t559, t560, t561⟩, A420, H⟩ := H
            (try dsimp only at H)
            have A42 := A_ A420
            clear A420
            replace H := Option.bind_eq_some_iff.mp H
            obtain ⟨⟨t562, t565, t566, t569, t570, t571, t574⟩, A430, H⟩ := H
            (try dsimp only at H)
            have A43 := A_ A430
            clear A430
            have H' := A_ H
            clear H
            try go_wp2_with (first | ((with_reducible refine gate_callee (f := 19) rfl ?_); refine gL (some 26) Tryz.func19 #[.pointer (some ⟨g, 0, none⟩), .int .i64 8] ?_; (with_reducible refine (spec_l01Below.calls g s0_0 x1001_1 x1002_1 8 t535 t536 t537 w0 _ ?side1 ?side2 A20.out).mono ?_); (case side1 => exact oI56 HI0); (case side2 => exact oB56 HB); rintro e w44 ⟨rfl, hi, hb, hk⟩; refine ⟨_, rfl, ?_⟩; have n0_ := A_ (Kd.R_mono (Kd.R_keep (IsS56.apart (show IsS56 w0 _ g s0_0 x1001_1 x1002_1 from oI56 HI0) (oR HO_532000) (by decide)) hk (fun _ h => h.2)) (fun _ h => h.1)); have n1_ := A_ (Kd.R_mono (Kd.R_keep (IsS56.apart (show IsS56 w0 _ g s0_0 x1001_1 x1002_1 from oI56 HI0) (oR HO_532002) (by decide)) hk (fun _ h => h.2)) (fun _ h => h.1)); have n2_ := A_ (Kd.R_mono (Kd.R_keep (IsS56.apart (show IsS56 w0 _ g s0_0 x1001_1 x1002_1 from oI56 HI0) (oR HO_532005) (by decide)) hk (fun _ h => h.2)) (fun _ h => h.1)); have n3_ := A_ (KeepBut.blk hk (g' := gb509) (o := .cells #[.slice none 0 0, .int .i64 0, .slice none 0 0, .int .i64 0, .int .i64 0, .slice none 0 0] 30 (0, 0)) (oK BK509) NB509_0.out (by simp)); have n4_ := A_ (KeepBut.blk hk (g' := gb531) (o := .cells #[u532000, .int .i64 x532001_1, u532002, .int .i64 x532003_1, .int .i64 x532004_1, u532005] 30 (0, 0)) (oK BK531) NB531_0.out (by simp)); have n5_ := A_ (KeepBut.trans (oKe HK) hk (.inl rfl)); have n6_ := A_ (hb); have n7_ := A_ (hi); clear HO_532000; clear HO_532002; clear HO_532005; clear BK509; clear BK531; clear HK; clear HB; clear HI0; have HO_532000 := n0_; have HO_532002 := n1_; have HO_532005 := n2_; have BK509 := n3_; have BK531 := n4_; have HK := n5_; have HB := n6_; have HI0 := n7_; clear n0_ n1_ n2_ n3_ n4_ n5_ n6_ n7_; (try clear hb); (try clear hb2); (try clear hk); (try clear hi)) | ((with_reducible refine gate_callee (f := 34) rfl ?_); refine gL (some 44) Tryz.func34 #[.pointer (some ⟨g, 0, none⟩)] ?_; (with_reducible refine (spec_l34Pipe.calls g s0_0 t536 t537 t554 t555 t556 t557 w0 _ ?side1 ?side2 A41.out).mono ?_); (case side1 => exact oI56 HI0); (case side2 => exact oB56 HB); rintro e w45 ⟨rfl, hi, hb, hk⟩; refine ⟨_, rfl, ?_⟩; have n0_ := A_ (Kd.R_mono (Kd.R_keep (IsS56.apart (show IsS56 w0 _ g s0_0 t536 t537 from oI56 HI0) (oR HO_532000) (by decide)) hk (fun _ h => h.2)) (fun _ h => h.1)); have n1_ := A_ (Kd.R_mono (Kd.R_keep (IsS56.apart (show IsS56 w0 _ g s0_0 t536 t537 from oI56 HI0) (oR HO_532002) (by decide)) hk (fun _ h => h.2)) (fun _ h => h.1)); have n2_ := A_ (Kd.R_mono (Kd.R_keep (IsS56.apart (show IsS56 w0 _ g s0_0 t536 t537 from oI56 HI0) (oR HO_532005) (by decide)) hk (fun _ h => h.2)) (fun _ h => h.1)); have n3_ := A_ (KeepBut.blk hk (g' := gb509) (o := .cells #[.slice none 0 0, .int .i64 0, .slice none 0 0, .int .i64 0, .int .i64 0, .slice none 0 0] 30 (0, 0)) (oK BK509) NB509_0.out (by simp)); have n4_ := A_ (KeepBut.blk hk (g' := gb531) (o := .cells #[u532000, .int .i64 x532001_1, u532002, .int .i64 x532003_1, .int .i64 x532004_1, u532005] 30 (0, 0)) (oK BK531) NB531_0.out (by simp)); have n5_ := A_ (KeepBut.trans (oKe HK) hk (.inl rfl)); have n6_ := A_ (hb); have n7_ := A_ (hi); clear HO_532000; clear HO_532002; clear HO_532005; clear BK509; clear BK531; clear HK; clear HB; clear HI0; have HO_532000 := n0_; have HO_532002 := n1_; have HO_532005 := n2_; have BK509 := n3_; have BK531 := n4_; have HK := n5_; have HB := n6_; have HI0 := n7_; clear n0_ n1_ n2_ n3_ n4_ n5_ n6_ n7_; (try clear hb); (try clear hb2); (try clear hk); (try clear hi)) | ((with_reducible refine gate_dst (N := 7) rfl ?_); refine bX (N := 7) (cs := #[.int .i64 0, .int .i64 0]) (t := 77) ?_; intro gb558 hg w46 hbox hb; have n0_ := A_ (Kd.R_below (oR HO_532000) hb); have n1_ := A_ (Kd.R_below (oR HO_532002) hb); have n2_ := A_ (Kd.R_below (oR HO_532005) hb); have n3_ := A_ (bb BK509 hb); have n4_ := A_ (bb BK531 hb); have n5_ := A_ (IsS56.below (oI56 HI0) hb); have n6_ := A_ (KeepBut.trans (oKe HK) (KeepBut.of_below hb g none) (.inl rfl)); have n7_ := A_ (below_step (oB56 HB) hb); have n8_ := A_ (hbox); have n9_ := A_ ((by rw [hg]; exact (keep_size (w := w) (g := g) (row := none) (by repeat (first | (with_reducible first | exact HK.out | apply KeepBut.set_ | apply keep_drewN | apply keep_drew | apply keep_alloc | refine keep_far ?_ GW509.out _ | refine keep_far ?_ GW531.out _) | exact HK.out))) : w.heap.size ≤ gb558)); have n10_ := A_ ((Nat.le_trans HW0.out (by rw [hg]; exact (keep_size (w := w) (g := g) (row := none) (by repeat (first | (with_reducible first | exact HK.out | apply KeepBut.set_ | apply keep_drewN | apply keep_drew | apply keep_alloc | refine keep_far ?_ GW509.out _ | refine keep_far ?_ GW531.out _) | exact HK.out))) : w.heap.size ≤ gb558) : w0.heap.size ≤ gb558)); have n11_ := A_ (nL BK509 hg); have n12_ := A_ (nG BK509 hg); have n13_ := A_ (nL BK531 hg); have n14_ := A_ (nG BK531 hg); have n15_ := A_ ((by rw [hg]; exact Nat.ne_of_lt (IsS56.lt (show IsS56 w0 _ g s0_0 t556 t557 from oI56 HI0)) : g ≠ gb558)); have n16_ := A_ ((by rw [hg]; exact Nat.ne_of_gt (IsS56.lt (show IsS56 w0 _ g s0_0 t556 t557 from oI56 HI0)) : gb558 ≠ g)); clear HO_532000; clear HO_532002; clear HO_532005; clear BK509; clear BK531; clear HI0; clear HK; clear HB; have HO_532000 := n0_; have HO_532002 := n1_; have HO_532005 := n2_; have BK509 := n3_; have BK531 := n4_; have HI0 := n5_; have HK := n6_; have HB := n7_; have BK558 := n8_; have GW558 := n9_; have GE558 := n10_; have NB509_558 := n11_; have NB558_509 := n12_; have NB531_558 := n13_; have NB558_531 := n14_; have NB0_558 := n15_; have NB558_0 := n16_; clear n0_ n1_ n2_ n3_ n4_ n5_ n6_ n7_ n8_ n9_ n10_ n11_ n12_ n13_ n14_ n15_ n16_; clear hb hbox hg; have hnb47 := NB558_509.out; have hnc47 := NB509_558.out; have hnb48 := NB558_531.out; have hnc48 := NB531_558.out; have hnb49 := NB558_0.out; have hnc49 := NB0_558.out; have hcz50_0 := cz BK558 0; have hcz50_1 := cz BK558 1; have hfz50_0 := blk_frozen BK558.out 0; have hfz50_1 := blk_frozen BK558.out 1))
            have n0_ : Aside0 (Kd.R k95 95 ((w46.setCell ⟨gb558, 0, none⟩ (.int .i64 t554)).setCell ⟨gb558, 1, none⟩ (.int .i64 t555)) w.heap.size (fun _ => True) u532000 x532000_1) := ⟨by (with_reducible repeat (first | apply Kd.R_alloc | apply Kd.R_drewN | apply Kd.R_drew)); exact Kd.R_mono (Kd.R_far (p := ⟨gb558, 1, none⟩) (Kd.R_far (p := ⟨gb558, 0, none⟩) (Kd.R_types HO_532000.out BK558.out (by decide)) (fun _ hk => hk.2) (.int .i64 t554)) (fun _ hk => hk.2) (.int .i64 t555)) (fun _ hk => trivial)⟩
            have n1_ : Aside0 (Kd.R (Kd.int .i64) 3 ((w46.setCell ⟨gb558, 0, none⟩ (.int .i64 t554)).setCell ⟨gb558, 1, none⟩ (.int .i64 t555)) w.heap.size (fun _ => True) u532002 x532002_1) := ⟨by (with_reducible repeat (first | apply Kd.R_alloc | apply Kd.R_drewN | apply Kd.R_drew)); exact Kd.R_mono (Kd.R_far (p := ⟨gb558, 1, none⟩) (Kd.R_far (p := ⟨gb558, 0, none⟩) (Kd.R_types HO_532002.out BK558.out (by decide)) (fun _ hk => hk.2) (.int .i64 t554)) (fun _ hk => hk.2) (.int .i64 t555)) (fun _ hk => trivial)⟩
            have n2_ : Aside0 (Kd.R k101 101 ((w46.setCell ⟨gb558, 0, none⟩ (.int .i64 t554)).setCell ⟨gb558, 1, none⟩ (.int .i64 t555)) w.heap.size (fun _ => True) u532005 x532005_1) := ⟨by (with_reducible repeat (first | apply Kd.R_alloc | apply Kd.R_drewN | apply Kd.R_drew)); exact Kd.R_mono (Kd.R_far (p := ⟨gb558, 1, none⟩) (Kd.R_far (p := ⟨gb558, 0, none⟩) (Kd.R_types HO_532005.out BK558.out (by decide)) (fun _ hk => hk.2) (.int .i64 t554)) (fun _ hk => hk.2) (.int .i64 t555)) (fun _ hk => trivial)⟩
            have n3_ : Aside0 (((w46.setCell ⟨gb558, 0, none⟩ (.int .i64 t554)).setCell ⟨gb558, 1, none⟩ (.int .i64 t555)).heap[gb509]? = some (.cells #[.slice none 0 0, .int .i64 0, .slice none 0 0, .int .i64 0, .int .i64 0, .slice none 0 0] 30 (0, 0))) := ⟨by (with_reducible repeat (first | refine blk_drewN ?_ _ | refine blk_drew ?_ | refine blk_alloc ?_ _)); refine blk_far ?_ NB509_558.out _; (with_reducible repeat (first | refine blk_drewN ?_ _ | refine blk_drew ?_ | refine blk_alloc ?_ _)); refine blk_far ?_ NB509_558.out _; (with_reducible repeat (first | refine blk_drewN ?_ _ | refine blk_drew ?_ | refine blk_alloc ?_ _)); exact BK509.out⟩
            have n4_ : Aside0 (((w46.setCell ⟨gb558, 0, none⟩ (.int .i64 t554)).setCell ⟨gb558, 1, none⟩ (.int .i64 t555)).heap[gb531]? = some (.cells #[u532000, .int .i64 x532001_1, u532002, .int .i64 x532003_1, .int .i64 x532004_1, u532005] 30 (0, 0))) := ⟨by (with_reducible repeat (first | refine blk_drewN ?_ _ | refine blk_drew ?_ | refine blk_alloc ?_ _)); refine blk_far ?_ NB531_558.out _; (with_reducible repeat (first | refine blk_drewN ?_ _ | refine blk_drew ?_ | refine blk_alloc ?_ _)); refine blk_far ?_ NB531_558.out _; (with_reducible repeat (first | refine blk_drewN ?_ _ | refine blk_drew ?_ | refine blk_alloc ?_ _)); exact BK531.out⟩
            have n5_ : Aside0 (((w46.setCell ⟨gb558, 0, none⟩ (.int .i64 t554)).setCell ⟨gb558, 1, none⟩ (.int .i64 t555)).heap[gb558]? = some (.cells #[.int .i64 t554, .int .i64 t555] 77 (0, 0))) := ⟨by (with_reducible repeat (first | refine blk_drewN ?_ _ | refine blk_drew ?_ | refine blk_alloc ?_ _)); refine blk_put (cs := #[.int .i64 t554, .int .i64 0]) ?_ 1 _ rfl; (with_reducible repeat (first | refine blk_drewN ?_ _ | refine blk_drew ?_ | refine blk_alloc ?_ _)); refine blk_put (cs := #[.int .i64 0, .int .i64 0]) ?_ 0 _ rfl; (with_reducible repeat (first | refine blk_drewN ?_ _ | refine blk_drew ?_ | refine blk_alloc ?_ _)); exact BK558.out⟩
            have n6_ : Aside0 (IsS56 w0 ((w46.setCell ⟨gb558, 0, none⟩ (.int .i64 t554)).setCell ⟨gb558, 1, none⟩ (.int .i64 t555)) g s0_0 t556 t557) := ⟨oI56 HI0⟩
            have n7_ : Aside0 (KeepBut w ((w46.setCell ⟨gb558, 0, none⟩ (.int .i64 t554)).setCell ⟨gb558, 1, none⟩ (.int .i64 t555)) g none) := ⟨oKe HK⟩
            have n8_ : Aside0 (Below w0.heap.size w0 ((w46.setCell ⟨gb558, 0, none⟩ (.int .i64 t554)).setCell ⟨gb558, 1, none⟩ (.int .i64 t555))) := ⟨oB56 HB⟩
            (try clear HO_532000)
            (try clear HO_532002)
            (try clear HO_532005)
            (try clear BK509)
            (try clear BK531)
            (try clear BK558)
            (try clear HI0)
            (try clear HK)
            (try clear HB)
            generalize ((w46.setCell ⟨gb558, 0, none⟩ (.int .i64 t554)).setCell ⟨gb558, 1, none⟩ (.int .i64 t555)) = w51 at n0_ n1_ n2_ n3_ n4_ n5_ n6_ n7_ n8_ ⊢
            have HO_532000 := n0_
            have HO_532002 := n1_
            have HO_532005 := n2_
            have BK509 := n3_
            have BK531 := n4_
            have BK558 := n5_
            have HI0 := n6_
            have HK := n7_
            have HB := n8_
            clear n0_ n1_ n2_ n3_ n4_ n5_ n6_ n7_ n8_
            have n0_ := A_ (Kd.R_drew HO_532000.out)
            have n1_ := A_ (Kd.R_drew HO_532002.out)
            have n2_ := A_ (Kd.R_drew HO_532005.out)
            have n3_ := A_ (blk_drew BK509.out)
            have n4_ := A_ (blk_drew BK531.out)
            have n5_ := A_ (blk_drew BK558.out)
            have n6_ := A_ (IsS56.drew HI0.out)
            have n7_ := A_ (keep_drew HK.out)
            have n8_ := A_ (below_drew1 HB.out)
            clear HO_532000
            clear HO_532002
            clear HO_532005
            clear BK509
            clear BK531
            clear BK558
            clear HI0
            clear HK
            clear HB
            have HO_532000 := n0_
            have HO_532002 := n1_
            have HO_532005 := n2_
            have BK509 := n3_
            have BK531 := n4_
            have BK558 := n5_
            have HI0 := n6_
            have HK := n7_
            have HB := n8_
            clear n0_ n1_ n2_ n3_ n4_ n5_ n6_ n7_ n8_
            refine start_ (n := 9) (S := fun w' => w'.cell? ⟨gb531, 0, none⟩ = some (u532000) ∧ w'.cell? ⟨gb531, 1, none⟩ = some (.int .i64 x532001_1) ∧ w'.cell? ⟨gb531, 2, none⟩ = some (u532002) ∧ w'.cell? ⟨gb531, 3, none⟩ = some (.int .i64 x532003_1) ∧ w'.cell? ⟨gb531, 4, none⟩ = some (.int .i64 x532004_1) ∧ w'.cell? ⟨gb531, 5, none⟩ = some (u532005) ∧ w'.cell? ⟨gb558, 0, none⟩ = some (.int .i64 t554) ∧ w'.cell? ⟨gb558, 1, none⟩ = some (.int .i64 t555)) (ds := [8]) #[false, false, false, false, false, false, false, false, false] (by kernel_rfl) rfl rfl ⟨cz BK531 0, cz BK531 1, cz BK531 2, cz BK531 3, cz BK531 4, cz BK531 5, cz BK558 0, cz BK558 1⟩ (fun hHeld => ?_); refine with_tabW spec_l38Shop.tab12 spec_l38Shop.bits12 (fun HT_ HW_ => ?_)
            generalize w51.drew = w52 at HO_532000 HO_532002 HO_532005 BK509 BK531 BK558 HI0 HK HB hHeld ⊢
            refine pA 2 (some 48) HT_.out ?_
            refine pT 0 (some 46) HT_.out HW_.out hHeld ?_
            refine pT 1 (some 47) HT_.out HW_.out hHeld ?_
            refine one_ (i := 3) (N := some 49) #[true, true, true, true, false, false, false, false, false] rfl rfl (one_of HT_.out (by kernel_rfl)) (by decide) (fun K hK => ?_)
            refine goes_ Tryz.func19 (by kernel_rfl) rfl #[.pointer (some ⟨g, 0, none⟩), .int .i64 3] (by rfl) rfl rfl (by (try simp only [List.map_toArray, List.map_cons, List.map_nil]); first | done | rfl | (simp only [List.length_drop, List.length_take]; rfl)) ?_
            with_reducible refine (spec_l01Below.calls g s0_0 t556 t557 3 t559 t560 t561 w0 _ ?side1 ?side2 A42.out).mono ?_
            (case side1 => exact oI56 HI0)
            (case side2 => exact oB56 HB)
            rintro e w53 ⟨rfl, hi, hb, hk⟩
            refine ⟨_, rfl, ?_⟩
            have n0_ := A_ (Kd.R_mono (Kd.R_keep (IsS56.apart (show IsS56 w0 _ g s0_0 t556 t557 from oI56 HI0) (oR HO_532000) (by decide)) hk (fun _ h => h.2)) (fun _ h => h.1))
            have n1_ := A_ (Kd.R_mono (Kd.R_keep (IsS56.apart (show IsS56 w0 _ g s0_0 t556 t557 from oI56 HI0) (oR HO_532002) (by decide)) hk (fun _ h => h.2)) (fun _ h => h.1))
            have n2_ := A_ (Kd.R_mono (Kd.R_keep (IsS56.apart (show IsS56 w0 _ g s0_0 t556 t557 from oI56 HI0) (oR HO_532005) (by decide)) hk (fun _ h => h.2)) (fun _ h => h.1))
            have n3_ := A_ (KeepBut.blk hk (g' := gb509) (o := .cells #[.slice none 0 0, .int .i64 0, .slice none 0 0, .int .i64 0, .int .i64 0, .slice none 0 0] 30 (0, 0)) (oK BK509) NB509_0.out (by simp))
            have n4_ := A_ (KeepBut.blk hk (g' := gb531) (o := .cells #[u532000, .int .i64 x532001_1, u532002, .int .i64 x532003_1, .int .i64 x532004_1, u532005] 30 (0, 0)) (oK BK531) NB531_0.out (by simp))
            have n5_ := A_ (KeepBut.blk hk (g' := gb558) (o := .cells #[.int .i64 t554, .int .i64 t555] 77 (0, 0)) (oK BK558) NB558_0.out (by simp))
            have n6_ := A_ (KeepBut.trans (oKe HK) hk (.inl rfl))
            have n7_ := A_ (hb)
            have n8_ := A_ (hi)
            clear HO_532000
            clear HO_532002
            clear HO_532005
            clear BK509
            clear BK531
            clear BK558
            clear HK
            clear HB
            clear HI0
            have HO_532000 := n0_
            have HO_532002 := n1_
            have HO_532005 := n2_
            have BK509 := n3_
            have BK531 := n4_
            have BK558 := n5_
            have HK := n6_
            have HB := n7_
            have HI0 := n8_
            clear n0_ n1_ n2_ n3_ n4_ n5_ n6_ n7_ n8_
            (try clear hb)
            (try clear hb2)
            (try clear hk)
            (try clear hi)
            obtain ⟨Ao54, co54, eo54⟩ := Kd.R_slice HO_532000.out
            (first | subst eo54 | (injection eo54 with f1_ f2_ f3_; have f4_ := f1_.symm; have f5_ := f3_.symm; clear f1_ f2_ f3_; subst f4_; subst f5_))
            obtain ⟨Ao55, co55, eo55⟩ := Kd.R_slice HO_532002.out
            (first | subst eo55 | (injection eo55 with f1_ f2_ f3_; have f4_ := f1_.symm; have f5_ := f3_.symm; clear f1_ f2_ f3_; subst f4_; subst f5_))
            obtain ⟨Ao56, co56, eo56⟩ := Kd.R_slice HO_532005.out
            (first | subst eo56 | (injection eo56 with f1_ f2_ f3_; have f4_ := f1_.symm; have f5_ := f3_.symm; clear f1_ f2_ f3_; subst f4_; subst f5_))
            refine hK.out _ _ ⟨cz BK531 0, cz BK531 1, cz BK531 2, cz BK531 3, cz BK531 4, cz BK531 5, cz BK558 0, cz BK558 1⟩ (fun hHeld => ?_)
            clear hK K
            refine norm_ (a' := ?_) ?_ ?_
            rotate_left
            · show Act.put _ (some 49) _ = _
              simp only [Act.put, List.setIfInBounds_toArray, List.set_cons_zero, List.set_cons_succ, i64_w, i32_w]
              rfl
            refine one_ (i := 4) (N := some 50) #[true, true, true, true, true, false, false, false, false] rfl rfl (one_of HT_.out (by kernel_rfl)) (by decide) (fun K hK => ?_)
            refine goes_ Tryz.func35 (by kernel_rfl) rfl #[.agg #[.slice Ao54 x532000_1.length co54, .int .i64 x532001_1, .slice Ao55 x532002_1.length co55, .int .i64 x532003_1, .int .i64 x532004_1, .slice Ao56 x532005_1.length co56], .agg #[.int .i64 t554, .int .i64 t555], .int .i64 t559] (by rfl) rfl rfl (by (try simp only [List.map_toArray, List.map_cons, List.map_nil]); first | done | rfl | (simp only [List.length_drop, List.length_take]; rfl)) ?_
            with_reducible refine (spec_ShopFault.calls k1 _ _ x532000_1 x532001_1 _ _ x532002_1 x532003_1 x532004_1 _ _ x532005_1 t554 t555 t559 t562 t565 t566 t569 t570 t571 t574 _ ?side1 ?side2 ?side3 ?side4 ?side5 ?side6 A43.out).mono ?_
            (case side1 => repeat (first | exact (Kd.R_reads' HO_532000.out).2.2 | (with_reducible refine Kd.C_alloc ?_ _) | (with_reducible refine Kd.C_drewN ?_ _) | (with_reducible refine Kd.C_drew ?_)))
            (case side2 => exact (Kd.R_reads' HO_532000.out).2.1)
            (case side3 => repeat (first | exact (Kd.R_reads' HO_532002.out).2.2 | (with_reducible refine Kd.C_alloc ?_ _) | (with_reducible refine Kd.C_drewN ?_ _) | (with_reducible refine Kd.C_drew ?_)))
            (case side4 => exact (Kd.R_reads' HO_532002.out).2.1)
            (case side5 => repeat (first | exact (Kd.R_reads' HO_532005.out).2.2 | (with_reducible refine Kd.C_alloc ?_ _) | (with_reducible refine Kd.C_drewN ?_ _) | (with_reducible refine Kd.C_drew ?_)))
            (case side6 => exact (Kd.R_reads' HO_532005.out).2.1)
            rintro e w57 ⟨v563, v567, v572, rfl, ho0, ho1, ho2, hb⟩
            refine ⟨_, rfl, ?_⟩
            have n0_ := A_ (Kd.R_elder' (oR HO_532000) (Kd.R_base ho0) hb)
            have n1_ := A_ (Kd.R_elder' (oR HO_532002) (Kd.R_base ho1) hb)
            have n2_ := A_ (Kd.R_elder' (oR HO_532005) (Kd.R_base ho2) hb)
            have n3_ := A_ (Kd.R_lower (Kd.R_new' ho0 (Kd.R_lt (oR HO_532000))) (keep_size (w := w) (g := g) (row := none) (by repeat (first | (with_reducible first | exact HK.out | apply KeepBut.set_ | apply keep_drewN | apply keep_drew | apply keep_alloc | refine keep_far ?_ GW509.out _ | refine keep_far ?_ GW531.out _ | refine keep_far ?_ GW558.out _) | exact HK.out))))
            have n4_ := A_ (Kd.R_lower (Kd.R_new' ho1 (Kd.R_lt (oR HO_532002))) (keep_size (w := w) (g := g) (row := none) (by repeat (first | (with_reducible first | exact HK.out | apply KeepBut.set_ | apply keep_drewN | apply keep_drew | apply keep_alloc | refine keep_far ?_ GW509.out _ | refine keep_far ?_ GW531.out _ | refine keep_far ?_ GW558.out _) | exact HK.out))))
            have n5_ := A_ (Kd.R_lower (Kd.R_new' ho2 (Kd.R_lt (oR HO_532005))) (keep_size (w := w) (g := g) (row := none) (by repeat (first | (with_reducible first | exact HK.out | apply KeepBut.set_ | apply keep_drewN | apply keep_drew | apply keep_alloc | refine keep_far ?_ GW509.out _ | refine keep_far ?_ GW531.out _ | refine keep_far ?_ GW558.out _) | exact HK.out))))
            have n6_ := A_ (bb BK509 hb)
            have n7_ := A_ (bb BK531 hb)
            have n8_ := A_ (IsS56.below (oI56 HI0) hb)
            have n9_ := A_ (bb BK558 hb)
            have n10_ := A_ (KeepBut.trans (oKe HK) (KeepBut.of_below hb g none) (.inl rfl))
            have n11_ := A_ (below_step (oB56 HB) hb)
            clear HO_532000
            clear HO_532002
            clear HO_532005
            clear BK509
            clear BK531
            clear HI0
            clear BK558
            clear HK
            clear HB
            have HO_532000 := n0_
            have HO_532002 := n1_
            have HO_532005 := n2_
            have HO564 := n3_
            have HO568 := n4_
            have HO573 := n5_
            have BK509 := n6_
            have BK531 := n7_
            have HI0 := n8_
            have BK558 := n9_
            have HK := n10_
            have HB := n11_
            clear n0_ n1_ n2_ n3_ n4_ n5_ n6_ n7_ n8_ n9_ n10_ n11_
            (try clear hb)
            (try clear hb2)
            (try clear hk)
            (try clear hi)
            (try clear ho0)
            (try clear ho1)
            (try clear ho2)
            obtain ⟨Ao58, co58, eo58⟩ := Kd.R_slice HO564.out
            (first | subst eo58 | (injection eo58 with f1_ f2_ f3_; have f4_ := f1_.symm; have f5_ := f3_.symm; clear f1_ f2_ f3_; subst f4_; subst f5_))
            obtain ⟨Ao61, co61, eo61⟩ := Kd.R_slice HO568.out
            (first | subst eo61 | (injection eo61 with f1_ f2_ f3_; have f4_ := f1_.symm; have f5_ := f3_.symm; clear f1_ f2_ f3_; subst f4_; subst f5_))
            obtain ⟨Ao65, co65, eo65⟩ := Kd.R_slice HO573.out
            (first | subst eo65 | (injection eo65 with f1_ f2_ f3_; have f4_ := f1_.symm; have f5_ := f3_.symm; clear f1_ f2_ f3_; subst f4_; subst f5_))
            refine hK.out _ _ ⟨cz BK531 0, cz BK531 1, cz BK531 2, cz BK531 3, cz BK531 4, cz BK531 5, cz BK558 0, cz BK558 1⟩ (fun hHeld => ?_)
            clear hK K
            refine norm_ (a' := ?_) ?_ ?_
            rotate_left
            · show Act.put _ (some 50) _ = _
              simp only [Act.put, List.setIfInBounds_toArray, List.set_cons_zero, List.set_cons_succ, i64_w, i32_w]
              rfl
            refine pA 5 (some 45) HT_.out ?_
            refine pA 6 (some 51) HT_.out ?_
            refine pA 7 (some 52) HT_.out ?_
            refine last_ (i := 8) (N := none) #[true, true, true, true, true, true, true, true, true] rfl rfl (one_of HT_.out (by kernel_rfl)) (by decide) (fun K hK => ?_)
            have hs59 := cz BK531 0
            have hfs59 := blk_frozen BK531.out 0
            have hns59_0 := NB509_531.out
            have hns59_2 := NB558_531.out
            have hms59_0 := NB531_509.out
            have hms59_2 := NB531_558.out
            have hs60 := cz BK531 1
            have hfs60 := blk_frozen BK531.out 1
            have hns60_0 := NB509_531.out
            have hns60_2 := NB558_531.out
            have hms60_0 := NB531_509.out
            have hms60_2 := NB531_558.out
            have hs62 := cz BK531 2
            have hfs62 := blk_frozen BK531.out 2
            have hns62_0 := NB509_531.out
            have hns62_2 := NB558_531.out
            have hms62_0 := NB531_509.out
            have hms62_2 := NB531_558.out
            have hs63 := cz BK531 3
            have hfs63 := blk_frozen BK531.out 3
            have hns63_0 := NB509_531.out
            have hns63_2 := NB558_531.out
            have hms63_0 := NB531_509.out
            have hms63_2 := NB531_558.out
            have hs64 := cz BK531 4
            have hfs64 := blk_frozen BK531.out 4
            have hns64_0 := NB509_531.out
            have hns64_2 := NB558_531.out
            have hms64_0 := NB531_509.out
            have hms64_2 := NB531_558.out
            have hs66 := cz BK531 5
            have hfs66 := blk_frozen BK531.out 5
            have hns66_0 := NB509_531.out
            have hns66_2 := NB558_531.out
            have hms66_0 := NB531_509.out
            have hms66_2 := NB531_558.out
            refine skip_ (w1 := ?_) (by rfl) rfl ?_ ?_
            rotate_left
            · go_simp
              rfl
            refine hK.out _ _ ?_
            clear hK K
            refine done_ (done_of HT_.out (by kernel_rfl)) ?_
            try go_wp2
            go_roundg k1
            case measure => have := HK1.out; omega
            case rel => exact ⟨(wrap64 (x6_1 + 1)), (t560), (t561), (t562), (t565), (t566), (t569), (t570), (t571), (.slice Ao58 t562.length co58), (.slice Ao61 t566.length co61), (.slice Ao65 t571.length co65), (by first | rfl | (simp; done) | (simp [*]; done)), H', ⟨by have := HK1.out; omega⟩, ⟨by (with_reducible repeat (first | apply Kd.R_alloc | apply Kd.R_drewN | apply Kd.R_drew)); exact Kd.R_mono (Kd.R_far (p := ⟨gb531, 5, none⟩) (Kd.R_far (p := ⟨gb531, 4, none⟩) (Kd.R_far (p := ⟨gb531, 3, none⟩) (Kd.R_far (p := ⟨gb531, 2, none⟩) (Kd.R_far (p := ⟨gb531, 1, none⟩) (Kd.R_far (p := ⟨gb531, 0, none⟩) (Kd.R_types HO564.out BK531.out (by decide)) (fun _ hk => hk.2) (.slice Ao58 t562.length co58)) (fun _ hk => hk.2) (.int .i64 t565)) (fun _ hk => hk.2) (.slice Ao61 t566.length co61)) (fun _ hk => hk.2) (.int .i64 t569)) (fun _ hk => hk.2) (.int .i64 t570)) (fun _ hk => hk.2) (.slice Ao65 t571.length co65)) (fun _ hk => trivial)⟩, ⟨by (with_reducible repeat (first | apply Kd.R_alloc | apply Kd.R_drewN | apply Kd.R_drew)); exact Kd.R_mono (Kd.R_far (p := ⟨gb531, 5, none⟩) (Kd.R_far (p := ⟨gb531, 4, none⟩) (Kd.R_far (p := ⟨gb531, 3, none⟩) (Kd.R_far (p := ⟨gb531, 2, none⟩) (Kd.R_far (p := ⟨gb531, 1, none⟩) (Kd.R_far (p := ⟨gb531, 0, none⟩) (Kd.R_types HO568.out BK531.out (by decide)) (fun _ hk => hk.2) (.slice Ao58 t562.length co58)) (fun _ hk => hk.2) (.int .i64 t565)) (fun _ hk => hk.2) (.slice Ao61 t566.length co61)) (fun _ hk => hk.2) (.int .i64 t569)) (fun _ hk => hk.2) (.int .i64 t570)) (fun _ hk => hk.2) (.slice Ao65 t571.length co65)) (fun _ hk => trivial)⟩, ⟨by (with_reducible repeat (first | apply Kd.R_alloc | apply Kd.R_drewN | apply Kd.R_drew)); exact Kd.R_mono (Kd.R_far (p := ⟨gb531, 5, none⟩) (Kd.R_far (p := ⟨gb531, 4, none⟩) (Kd.R_far (p := ⟨gb531, 3, none⟩) (Kd.R_far (p := ⟨gb531, 2, none⟩) (Kd.R_far (p := ⟨gb531, 1, none⟩) (Kd.R_far (p := ⟨gb531, 0, none⟩) (Kd.R_types HO573.out BK531.out (by decide)) (fun _ hk => hk.2) (.slice Ao58 t562.length co58)) (fun _ hk => hk.2) (.int .i64 t565)) (fun _ hk => hk.2) (.slice Ao61 t566.length co61)) (fun _ hk => hk.2) (.int .i64 t569)) (fun _ hk => hk.2) (.int .i64 t570)) (fun _ hk => hk.2) (.slice Ao65 t571.length co65)) (fun _ hk => trivial)⟩, ⟨by (with_reducible repeat (first | refine blk_drewN ?_ _ | refine blk_drew ?_ | refine blk_alloc ?_ _)); refine blk_far ?_ NB509_531.out _; (with_reducible repeat (first | refine blk_drewN ?_ _ | refine blk_drew ?_ | refine blk_alloc ?_ _)); refine blk_far ?_ NB509_531.out _; (with_reducible repeat (first | refine blk_drewN ?_ _ | refine blk_drew ?_ | refine blk_alloc ?_ _)); refine blk_far ?_ NB509_531.out _; (with_reducible repeat (first | refine blk_drewN ?_ _ | refine blk_drew ?_ | refine blk_alloc ?_ _)); refine blk_far ?_ NB509_531.out _; (with_reducible repeat (first | refine blk_drewN ?_ _ | refine blk_drew ?_ | refine blk_alloc ?_ _)); refine blk_far ?_ NB509_531.out _; (with_reducible repeat (first | refine blk_drewN ?_ _ | refine blk_drew ?_ | refine blk_alloc ?_ _)); refine blk_far ?_ NB509_531.out _; (with_reducible repeat (first | refine blk_drewN ?_ _ | refine blk_drew ?_ | refine blk_alloc ?_ _)); exact BK509.out⟩, ⟨by (with_reducible repeat (first | refine blk_drewN ?_ _ | refine blk_drew ?_ | refine blk_alloc ?_ _)); refine blk_put (cs := #[.slice Ao58 t562.length co58, .int .i64 t565, .slice Ao61 t566.length co61, .int .i64 t569, .int .i64 t570, .slice Ao56 x532005_1.length co56]) ?_ 5 _ rfl; (with_reducible repeat (first | refine blk_drewN ?_ _ | refine blk_drew ?_ | refine blk_alloc ?_ _)); refine blk_put (cs := #[.slice Ao58 t562.length co58, .int .i64 t565, .slice Ao61 t566.length co61, .int .i64 t569, .int .i64 x532004_1, .slice Ao56 x532005_1.length co56]) ?_ 4 _ rfl; (with_reducible repeat (first | refine blk_drewN ?_ _ | refine blk_drew ?_ | refine blk_alloc ?_ _)); refine blk_put (cs := #[.slice Ao58 t562.length co58, .int .i64 t565, .slice Ao61 t566.length co61, .int .i64 x532003_1, .int .i64 x532004_1, .slice Ao56 x532005_1.length co56]) ?_ 3 _ rfl; (with_reducible repeat (first | refine blk_drewN ?_ _ | refine blk_drew ?_ | refine blk_alloc ?_ _)); refine blk_put (cs := #[.slice Ao58 t562.length co58, .int .i64 t565, .slice Ao55 x532002_1.length co55, .int .i64 x532003_1, .int .i64 x532004_1, .slice Ao56 x532005_1.length co56]) ?_ 2 _ rfl; (with_reducible repeat (first | refine blk_drewN ?_ _ | refine blk_drew ?_ | refine blk_alloc ?_ _)); refine blk_put (cs := #[.slice Ao58 t562.length co58, .int .i64 x532001_1, .slice Ao55 x532002_1.length co55, .int .i64 x532003_1, .int .i64 x532004_1, .slice Ao56 x532005_1.length co56]) ?_ 1 _ rfl; (with_reducible repeat (first | refine blk_drewN ?_ _ | refine blk_drew ?_ | refine blk_alloc ?_ _)); refine blk_put (cs := #[.slice Ao54 x532000_1.length co54, .int .i64 x532001_1, .slice Ao55 x532002_1.length co55, .int .i64 x532003_1, .int .i64 x532004_1, .slice Ao56 x532005_1.length co56]) ?_ 0 _ rfl; (with_reducible repeat (first | refine blk_drewN ?_ _ | refine blk_drew ?_ | refine blk_alloc ?_ _)); exact BK531.out⟩, ⟨oI56 HI0⟩, ⟨oKe HK⟩, ⟨oB56 HB⟩⟩
          · rw [if_neg c40] at H
            have c40b0 : (t535 == 1) = false := beq_eq_false_iff_ne.mpr c40
            have c40b1 : (t535 != 1) = true := bne_iff_ne.mpr c40
            by_cases c67 : t535 = 2
            · rw [if_pos c67] at H
              have c67b0 : (t535 == 2) = true := beq_iff_eq.mpr c67
              have c67b1 : (t535 != 2) = false := bne_eq_false_iff_eq.mpr c67
              clear c67
              replace H := Option.bind_eq_some_iff.mp H
              obtain ⟨⟨t575, t576, t577⟩, A680, H⟩ := H
              (try dsimp only at H)
              have A68 := A_ A680
              clear A680
              replace H := Option.bind_eq_some_iff.mp H
              obtain ⟨⟨t578, t579, t580⟩, A690, H⟩ := H
              (try dsimp only at H)
              have A69 := A_ A690
              clear A690
              replace H := Option.bind_eq_some_iff.mp H
              obtain ⟨⟨t581, t584, t585, t588, t589, t590, t593⟩, A700, H⟩ := H
              (try dsimp only at H)
              have A70 := A_ A700
              clear A700
              have H' := A_ H
              clear H
              try go_wp2_with (first | ((with_reducible refine gate_callee (f := 19) rfl ?_); refine gL (some 26) Tryz.func19 #[.pointer (some ⟨g, 0, none⟩), .int .i64 8] ?_; (with_reducible refine (spec_l01Below.calls g s0_0 x1001_1 x1002_1 8 t535 t536 t537 w0 _ ?side1 ?side2 A20.out).mono ?_); (case side1 => exact oI56 HI0); (case side2 => exact oB56 HB); rintro e w71 ⟨rfl, hi, hb, hk⟩; refine ⟨_, rfl, ?_⟩; have n0_ := A_ (Kd.R_mono (Kd.R_keep (IsS56.apart (show IsS56 w0 _ g s0_0 x1001_1 x1002_1 from oI56 HI0) (oR HO_532000) (by decide)) hk (fun _ h => h.2)) (fun _ h => h.1)); have n1_ := A_ (Kd.R_mono (Kd.R_keep (IsS56.apart (show IsS56 w0 _ g s0_0 x1001_1 x1002_1 from oI56 HI0) (oR HO_532002) (by decide)) hk (fun _ h => h.2)) (fun _ h => h.1)); have n2_ := A_ (Kd.R_mono (Kd.R_keep (IsS56.apart (show IsS56 w0 _ g s0_0 x1001_1 x1002_1 from oI56 HI0) (oR HO_532005) (by decide)) hk (fun _ h => h.2)) (fun _ h => h.1)); have n3_ := A_ (KeepBut.blk hk (g' := gb509) (o := .cells #[.slice none 0 0, .int .i64 0, .slice none 0 0, .int .i64 0, .int .i64 0, .slice none 0 0] 30 (0, 0)) (oK BK509) NB509_0.out (by simp)); have n4_ := A_ (KeepBut.blk hk (g' := gb531) (o := .cells #[u532000, .int .i64 x532001_1, u532002, .int .i64 x532003_1, .int .i64 x532004_1, u532005] 30 (0, 0)) (oK BK531) NB531_0.out (by simp)); have n5_ := A_ (KeepBut.trans (oKe HK) hk (.inl rfl)); have n6_ := A_ (hb); have n7_ := A_ (hi); clear HO_532000; clear HO_532002; clear HO_532005; clear BK509; clear BK531; clear HK; clear HB; clear HI0; have HO_532000 := n0_; have HO_532002 := n1_; have HO_532005 := n2_; have BK509 := n3_; have BK531 := n4_; have HK := n5_; have HB := n6_; have HI0 := n7_; clear n0_ n1_ n2_ n3_ n4_ n5_ n6_ n7_; (try clear hb); (try clear hb2); (try clear hk); (try clear hi)) | ((with_reducible refine gate_callee (f := 19) rfl ?_); refine gL (some 56) Tryz.func19 #[.pointer (some ⟨g, 0, none⟩), .int .i64 12] ?_; (with_reducible refine (spec_l01Below.calls g s0_0 t536 t537 12 t575 t576 t577 w0 _ ?side1 ?side2 A68.out).mono ?_); (case side1 => exact oI56 HI0); (case side2 => exact oB56 HB); rintro e w72 ⟨rfl, hi, hb, hk⟩; refine ⟨_, rfl, ?_⟩; have n0_ := A_ (Kd.R_mono (Kd.R_keep (IsS56.apart (show IsS56 w0 _ g s0_0 t536 t537 from oI56 HI0) (oR HO_532000) (by decide)) hk (fun _ h => h.2)) (fun _ h => h.1)); have n1_ := A_ (Kd.R_mono (Kd.R_keep (IsS56.apart (show IsS56 w0 _ g s0_0 t536 t537 from oI56 HI0) (oR HO_532002) (by decide)) hk (fun _ h => h.2)) (fun _ h => h.1)); have n2_ := A_ (Kd.R_mono (Kd.R_keep (IsS56.apart (show IsS56 w0 _ g s0_0 t536 t537 from oI56 HI0) (oR HO_532005) (by decide)) hk (fun _ h => h.2)) (fun _ h => h.1)); have n3_ := A_ (KeepBut.blk hk (g' := gb509) (o := .cells #[.slice none 0 0, .int .i64 0, .slice none 0 0, .int .i64 0, .int .i64 0, .slice none 0 0] 30 (0, 0)) (oK BK509) NB509_0.out (by simp)); have n4_ := A_ (KeepBut.blk hk (g' := gb531) (o := .cells #[u532000, .int .i64 x532001_1, u532002, .int .i64 x532003_1, .int .i64 x532004_1, u532005] 30 (0, 0)) (oK BK531) NB531_0.out (by simp)); have n5_ := A_ (KeepBut.trans (oKe HK) hk (.inl rfl)); have n6_ := A_ (hb); have n7_ := A_ (hi); clear HO_532000; clear HO_532002; clear HO_532005; clear BK509; clear BK531; clear HK; clear HB; clear HI0; have HO_532000 := n0_; have HO_532002 := n1_; have HO_532005 := n2_; have BK509 := n3_; have BK531 := n4_; have HK := n5_; have HB := n6_; have HI0 := n7_; clear n0_ n1_ n2_ n3_ n4_ n5_ n6_ n7_; (try clear hb); (try clear hb2); (try clear hk); (try clear hi)))
              have n0_ := A_ (Kd.R_drew HO_532000.out)
              have n1_ := A_ (Kd.R_drew HO_532002.out)
              have n2_ := A_ (Kd.R_drew HO_532005.out)
              have n3_ := A_ (blk_drew BK509.out)
              have n4_ := A_ (blk_drew BK531.out)
              have n5_ := A_ (IsS56.drew HI0.out)
              have n6_ := A_ (keep_drew HK.out)
              have n7_ := A_ (below_drew1 HB.out)
              clear HO_532000
              clear HO_532002
              clear HO_532005
              clear BK509
              clear BK531
              clear HI0
              clear HK
              clear HB
              have HO_532000 := n0_
              have HO_532002 := n1_
              have HO_532005 := n2_
              have BK509 := n3_
              have BK531 := n4_
              have HI0 := n5_
              have HK := n6_
              have HB := n7_
              clear n0_ n1_ n2_ n3_ n4_ n5_ n6_ n7_
              refine start_ (n := 10) (S := fun w' => w'.cell? ⟨gb531, 0, none⟩ = some (u532000) ∧ w'.cell? ⟨gb531, 1, none⟩ = some (.int .i64 x532001_1) ∧ w'.cell? ⟨gb531, 2, none⟩ = some (u532002) ∧ w'.cell? ⟨gb531, 3, none⟩ = some (.int .i64 x532003_1) ∧ w'.cell? ⟨gb531, 4, none⟩ = some (.int .i64 x532004_1) ∧ w'.cell? ⟨gb531, 5, none⟩ = some (u532005)) (ds := [9]) #[false, false, false, false, false, false, false, false, false, false] (by kernel_rfl) rfl rfl ⟨cz BK531 0, cz BK531 1, cz BK531 2, cz BK531 3, cz BK531 4, cz BK531 5⟩ (fun hHeld => ?_); refine with_tabW spec_l38Shop.tab15 spec_l38Shop.bits15 (fun HT_ HW_ => ?_)
              generalize w72.drew = w73 at HO_532000 HO_532002 HO_532005 BK509 BK531 HI0 HK HB hHeld ⊢
              refine pA 1 (some 59) HT_.out ?_
              refine pA 2 (some 60) HT_.out ?_
              refine pT 0 (some 58) HT_.out HW_.out hHeld ?_
              refine one_ (i := 3) (N := some 61) #[true, true, true, true, false, false, false, false, false, false] rfl rfl (one_of HT_.out (by kernel_rfl)) (by decide) (fun K hK => ?_)
              refine goes_ Tryz.func19 (by kernel_rfl) rfl #[.pointer (some ⟨g, 0, none⟩), .int .i64 2001] (by rfl) rfl rfl (by (try simp only [List.map_toArray, List.map_cons, List.map_nil]); first | done | rfl | (simp only [List.length_drop, List.length_take]; rfl)) ?_
              with_reducible refine (spec_l01Below.calls g s0_0 t576 t577 2001 t578 t579 t580 w0 _ ?side1 ?side2 A69.out).mono ?_
              (case side1 => exact oI56 HI0)
              (case side2 => exact oB56 HB)
              rintro e w74 ⟨rfl, hi, hb, hk⟩
              refine ⟨_, rfl, ?_⟩
              have n0_ := A_ (Kd.R_mono (Kd.R_keep (IsS56.apart (show IsS56 w0 _ g s0_0 t576 t577 from oI56 HI0) (oR HO_532000) (by decide)) hk (fun _ h => h.2)) (fun _ h => h.1))
              have n1_ := A_ (Kd.R_mono (Kd.R_keep (IsS56.apart (show IsS56 w0 _ g s0_0 t576 t577 from oI56 HI0) (oR HO_532002) (by decide)) hk (fun _ h => h.2)) (fun _ h => h.1))
              have n2_ := A_ (Kd.R_mono (Kd.R_keep (IsS56.apart (show IsS56 w0 _ g s0_0 t576 t577 from oI56 HI0) (oR HO_532005) (by decide)) hk (fun _ h => h.2)) (fun _ h => h.1))
              have n3_ := A_ (KeepBut.blk hk (g' := gb509) (o := .cells #[.slice none 0 0, .int .i64 0, .slice none 0 0, .int .i64 0, .int .i64 0, .slice none 0 0] 30 (0, 0)) (oK BK509) NB509_0.out (by simp))
              have n4_ := A_ (KeepBut.blk hk (g' := gb531) (o := .cells #[u532000, .int .i64 x532001_1, u532002, .int .i64 x532003_1, .int .i64 x532004_1, u532005] 30 (0, 0)) (oK BK531) NB531_0.out (by simp))
              have n5_ := A_ (KeepBut.trans (oKe HK) hk (.inl rfl))
              have n6_ := A_ (hb)
              have n7_ := A_ (hi)
              clear HO_532000
              clear HO_532002
              clear HO_532005
              clear BK509
              clear BK531
              clear HK
              clear HB
              clear HI0
              have HO_532000 := n0_
              have HO_532002 := n1_
              have HO_532005 := n2_
              have BK509 := n3_
              have BK531 := n4_
              have HK := n5_
              have HB := n6_
              have HI0 := n7_
              clear n0_ n1_ n2_ n3_ n4_ n5_ n6_ n7_
              (try clear hb)
              (try clear hb2)
              (try clear hk)
              (try clear hi)
              obtain ⟨Ao75, co75, eo75⟩ := Kd.R_slice HO_532000.out
              (first | subst eo75 | (injection eo75 with f1_ f2_ f3_; have f4_ := f1_.symm; have f5_ := f3_.symm; clear f1_ f2_ f3_; subst f4_; subst f5_))
              obtain ⟨Ao76, co76, eo76⟩ := Kd.R_slice HO_532002.out
              (first | subst eo76 | (injection eo76 with f1_ f2_ f3_; have f4_ := f1_.symm; have f5_ := f3_.symm; clear f1_ f2_ f3_; subst f4_; subst f5_))
              obtain ⟨Ao77, co77, eo77⟩ := Kd.R_slice HO_532005.out
              (first | subst eo77 | (injection eo77 with f1_ f2_ f3_; have f4_ := f1_.symm; have f5_ := f3_.symm; clear f1_ f2_ f3_; subst f4_; subst f5_))
              refine hK.out _ _ ⟨cz BK531 0, cz BK531 1, cz BK531 2, cz BK531 3, cz BK531 4, cz BK531 5⟩ (fun hHeld => ?_)
              clear hK K
              refine norm_ (a' := ?_) ?_ ?_
              rotate_left
              · show Act.put _ (some 61) _ = _
                simp only [Act.put, List.setIfInBounds_toArray, List.set_cons_zero, List.set_cons_succ, i64_w, i32_w]
                rfl
              refine pA 4 (some 62) HT_.out ?_
              refine one_ (i := 5) (N := some 63) #[true, true, true, true, true, true, false, false, false, false] rfl rfl (one_of HT_.out (by kernel_rfl)) (by decide) (fun K hK => ?_)
              refine goes_ Tryz.func36 (by kernel_rfl) rfl #[.agg #[.slice Ao75 x532000_1.length co75, .int .i64 x532001_1, .slice Ao76 x532002_1.length co76, .int .i64 x532003_1, .int .i64 x532004_1, .slice Ao77 x532005_1.length co77], .int .i64 t575, .int .i64 (wrap64 (t578 - 1000))] (by rfl) rfl rfl (by (try simp only [List.map_toArray, List.map_cons, List.map_nil]); first | done | rfl | (simp only [List.length_drop, List.length_take]; rfl)) ?_
              with_reducible refine (spec_ShopKnock.calls k1 _ _ x532000_1 x532001_1 _ _ x532002_1 x532003_1 x532004_1 _ _ x532005_1 t575 (wrap64 (t578 - 1000)) t581 t584 t585 t588 t589 t590 t593 _ ?side1 ?side2 ?side3 ?side4 ?side5 ?side6 A70.out).mono ?_
              (case side1 => repeat (first | exact (Kd.R_reads' HO_532000.out).2.2 | (with_reducible refine Kd.C_alloc ?_ _) | (with_reducible refine Kd.C_drewN ?_ _) | (with_reducible refine Kd.C_drew ?_)))
              (case side2 => exact (Kd.R_reads' HO_532000.out).2.1)
              (case side3 => repeat (first | exact (Kd.R_reads' HO_532002.out).2.2 | (with_reducible refine Kd.C_alloc ?_ _) | (with_reducible refine Kd.C_drewN ?_ _) | (with_reducible refine Kd.C_drew ?_)))
              (case side4 => exact (Kd.R_reads' HO_532002.out).2.1)
              (case side5 => repeat (first | exact (Kd.R_reads' HO_532005.out).2.2 | (with_reducible refine Kd.C_alloc ?_ _) | (with_reducible refine Kd.C_drewN ?_ _) | (with_reducible refine Kd.C_drew ?_)))
              (case side6 => exact (Kd.R_reads' HO_532005.out).2.1)
              rintro e w78 ⟨v582, v586, v591, rfl, ho0, ho1, ho2, hb⟩
              refine ⟨_, rfl, ?_⟩
              have n0_ := A_ (Kd.R_elder' (oR HO_532000) (Kd.R_base ho0) hb)
              have n1_ := A_ (Kd.R_elder' (oR HO_532002) (Kd.R_base ho1) hb)
              have n2_ := A_ (Kd.R_elder' (oR HO_532005) (Kd.R_base ho2) hb)
              have n3_ := A_ (Kd.R_lower (Kd.R_new' ho0 (Kd.R_lt (oR HO_532000))) (keep_size (w := w) (g := g) (row := none) (by repeat (first | (with_reducible first | exact HK.out | apply KeepBut.set_ | apply keep_drewN | apply keep_drew | apply keep_alloc | refine keep_far ?_ GW509.out _ | refine keep_far ?_ GW531.out _) | exact HK.out))))
              have n4_ := A_ (Kd.R_lower (Kd.R_new' ho1 (Kd.R_lt (oR HO_532002))) (keep_size (w := w) (g := g) (row := none) (by repeat (first | (with_reducible first | exact HK.out | apply KeepBut.set_ | apply keep_drewN | apply keep_drew | apply keep_alloc | refine keep_far ?_ GW509.out _ | refine keep_far ?_ GW531.out _) | exact HK.out))))
              have n5_ := A_ (Kd.R_lower (Kd.R_new' ho2 (Kd.R_lt (oR HO_532005))) (keep_size (w := w) (g := g) (row := none) (by repeat (first | (with_reducible first | exact HK.out | apply KeepBut.set_ | apply keep_drewN | apply keep_drew | apply keep_alloc | refine keep_far ?_ GW509.out _ | refine keep_far ?_ GW531.out _) | exact HK.out))))
              have n6_ := A_ (bb BK509 hb)
              have n7_ := A_ (bb BK531 hb)
              have n8_ := A_ (IsS56.below (oI56 HI0) hb)
              have n9_ := A_ (KeepBut.trans (oKe HK) (KeepBut.of_below hb g none) (.inl rfl))
              have n10_ := A_ (below_step (oB56 HB) hb)
              clear HO_532000
              clear HO_532002
              clear HO_532005
              clear BK509
              clear BK531
              clear HI0
              clear HK
              clear HB
              have HO_532000 := n0_
              have HO_532002 := n1_
              have HO_532005 := n2_
              have HO583 := n3_
              have HO587 := n4_
              have HO592 := n5_
              have BK509 := n6_
              have BK531 := n7_
              have HI0 := n8_
              have HK := n9_
              have HB := n10_
              clear n0_ n1_ n2_ n3_ n4_ n5_ n6_ n7_ n8_ n9_ n10_
              (try clear hb)
              (try clear hb2)
              (try clear hk)
              (try clear hi)
              (try clear ho0)
              (try clear ho1)
              (try clear ho2)
              obtain ⟨Ao79, co79, eo79⟩ := Kd.R_slice HO583.out
              (first | subst eo79 | (injection eo79 with f1_ f2_ f3_; have f4_ := f1_.symm; have f5_ := f3_.symm; clear f1_ f2_ f3_; subst f4_; subst f5_))
              obtain ⟨Ao82, co82, eo82⟩ := Kd.R_slice HO587.out
              (first | subst eo82 | (injection eo82 with f1_ f2_ f3_; have f4_ := f1_.symm; have f5_ := f3_.symm; clear f1_ f2_ f3_; subst f4_; subst f5_))
              obtain ⟨Ao86, co86, eo86⟩ := Kd.R_slice HO592.out
              (first | subst eo86 | (injection eo86 with f1_ f2_ f3_; have f4_ := f1_.symm; have f5_ := f3_.symm; clear f1_ f2_ f3_; subst f4_; subst f5_))
              refine hK.out _ _ ⟨cz BK531 0, cz BK531 1, cz BK531 2, cz BK531 3, cz BK531 4, cz BK531 5⟩ (fun hHeld => ?_)
              clear hK K
              refine norm_ (a' := ?_) ?_ ?_
              rotate_left
              · show Act.put _ (some 63) _ = _
                simp only [Act.put, List.setIfInBounds_toArray, List.set_cons_zero, List.set_cons_succ, i64_w, i32_w]
                rfl
              refine pA 6 (some 57) HT_.out ?_
              refine pA 7 (some 64) HT_.out ?_
              refine pA 8 (some 65) HT_.out ?_
              refine last_ (i := 9) (N := none) #[true, true, true, true, true, true, true, true, true, true] rfl rfl (one_of HT_.out (by kernel_rfl)) (by decide) (fun K hK => ?_)
              have hs80 := cz BK531 0
              have hfs80 := blk_frozen BK531.out 0
              have hns80_0 := NB509_531.out
              have hms80_0 := NB531_509.out
              have hs81 := cz BK531 1
              have hfs81 := blk_frozen BK531.out 1
              have hns81_0 := NB509_531.out
              have hms81_0 := NB531_509.out
              have hs83 := cz BK531 2
              have hfs83 := blk_frozen BK531.out 2
              have hns83_0 := NB509_531.out
              have hms83_0 := NB531_509.out
              have hs84 := cz BK531 3
              have hfs84 := blk_frozen BK531.out 3
              have hns84_0 := NB509_531.out
              have hms84_0 := NB531_509.out
              have hs85 := cz BK531 4
              have hfs85 := blk_frozen BK531.out 4
              have hns85_0 := NB509_531.out
              have hms85_0 := NB531_509.out
              have hs87 := cz BK531 5
              have hfs87 := blk_frozen BK531.out 5
              have hns87_0 := NB509_531.out
              have hms87_0 := NB531_509.out
              refine skip_ (w1 := ?_) (by rfl) rfl ?_ ?_
              rotate_left
              · go_simp
                rfl
              refine hK.out _ _ ?_
              clear hK K
              refine done_ (done_of HT_.out (by kernel_rfl)) ?_
              try go_wp2
              go_roundg k1
              case measure => have := HK1.out; omega
              case rel => exact ⟨(wrap64 (x6_1 + 1)), (t579), (t580), (t581), (t584), (t585), (t588), (t589), (t590), (.slice Ao79 t581.length co79), (.slice Ao82 t585.length co82), (.slice Ao86 t590.length co86), (by first | rfl | (simp; done) | (simp [*]; done)), H', ⟨by have := HK1.out; omega⟩, ⟨by (with_reducible repeat (first | apply Kd.R_alloc | apply Kd.R_drewN | apply Kd.R_drew)); exact Kd.R_mono (Kd.R_far (p := ⟨gb531, 5, none⟩) (Kd.R_far (p := ⟨gb531, 4, none⟩) (Kd.R_far (p := ⟨gb531, 3, none⟩) (Kd.R_far (p := ⟨gb531, 2, none⟩) (Kd.R_far (p := ⟨gb531, 1, none⟩) (Kd.R_far (p := ⟨gb531, 0, none⟩) (Kd.R_types HO583.out BK531.out (by decide)) (fun _ hk => hk.2) (.slice Ao79 t581.length co79)) (fun _ hk => hk.2) (.int .i64 t584)) (fun _ hk => hk.2) (.slice Ao82 t585.length co82)) (fun _ hk => hk.2) (.int .i64 t588)) (fun _ hk => hk.2) (.int .i64 t589)) (fun _ hk => hk.2) (.slice Ao86 t590.length co86)) (fun _ hk => trivial)⟩, ⟨by (with_reducible repeat (first | apply Kd.R_alloc | apply Kd.R_drewN | apply Kd.R_drew)); exact Kd.R_mono (Kd.R_far (p := ⟨gb531, 5, none⟩) (Kd.R_far (p := ⟨gb531, 4, none⟩) (Kd.R_far (p := ⟨gb531, 3, none⟩) (Kd.R_far (p := ⟨gb531, 2, none⟩) (Kd.R_far (p := ⟨gb531, 1, none⟩) (Kd.R_far (p := ⟨gb531, 0, none⟩) (Kd.R_types HO587.out BK531.out (by decide)) (fun _ hk => hk.2) (.slice Ao79 t581.length co79)) (fun _ hk => hk.2) (.int .i64 t584)) (fun _ hk => hk.2) (.slice Ao82 t585.length co82)) (fun _ hk => hk.2) (.int .i64 t588)) (fun _ hk => hk.2) (.int .i64 t589)) (fun _ hk => hk.2) (.slice Ao86 t590.length co86)) (fun _ hk => trivial)⟩, ⟨by (with_reducible repeat (first | apply Kd.R_alloc | apply Kd.R_drewN | apply Kd.R_drew)); exact Kd.R_mono (Kd.R_far (p := ⟨gb531, 5, none⟩) (Kd.R_far (p := ⟨gb531, 4, none⟩) (Kd.R_far (p := ⟨gb531, 3, none⟩) (Kd.R_far (p := ⟨gb531, 2, none⟩) (Kd.R_far (p := ⟨gb531, 1, none⟩) (Kd.R_far (p := ⟨gb531, 0, none⟩) (Kd.R_types HO592.out BK531.out (by decide)) (fun _ hk => hk.2) (.slice Ao79 t581.length co79)) (fun _ hk => hk.2) (.int .i64 t584)) (fun _ hk => hk.2) (.slice Ao82 t585.length co82)) (fun _ hk => hk.2) (.int .i64 t588)) (fun _ hk => hk.2) (.int .i64 t589)) (fun _ hk => hk.2) (.slice Ao86 t590.length co86)) (fun _ hk => trivial)⟩, ⟨by (with_reducible repeat (first | refine blk_drewN ?_ _ | refine blk_drew ?_ | refine blk_alloc ?_ _)); refine blk_far ?_ NB509_531.out _; (with_reducible repeat (first | refine blk_drewN ?_ _ | refine blk_drew ?_ | refine blk_alloc ?_ _)); refine blk_far ?_ NB509_531.out _; (with_reducible repeat (first | refine blk_drewN ?_ _ | refine blk_drew ?_ | refine blk_alloc ?_ _)); refine blk_far ?_ NB509_531.out _; (with_reducible repeat (first | refine blk_drewN ?_ _ | refine blk_drew ?_ | refine blk_alloc ?_ _)); refine blk_far ?_ NB509_531.out _; (with_reducible repeat (first | refine blk_drewN ?_ _ | refine blk_drew ?_ | refine blk_alloc ?_ _)); refine blk_far ?_ NB509_531.out _; (with_reducible repeat (first | refine blk_drewN ?_ _ | refine blk_drew ?_ | refine blk_alloc ?_ _)); refine blk_far ?_ NB509_531.out _; (with_reducible repeat (first | refine blk_drewN ?_ _ | refine blk_drew ?_ | refine blk_alloc ?_ _)); exact BK509.out⟩, ⟨by (with_reducible repeat (first | refine blk_drewN ?_ _ | refine blk_drew ?_ | refine blk_alloc ?_ _)); refine blk_put (cs := #[.slice Ao79 t581.length co79, .int .i64 t584, .slice Ao82 t585.length co82, .int .i64 t588, .int .i64 t589, .slice Ao77 x532005_1.length co77]) ?_ 5 _ rfl; (with_reducible repeat (first | refine blk_drewN ?_ _ | refine blk_drew ?_ | refine blk_alloc ?_ _)); refine blk_put (cs := #[.slice Ao79 t581.length co79, .int .i64 t584, .slice Ao82 t585.length co82, .int .i64 t588, .int .i64 x532004_1, .slice Ao77 x532005_1.length co77]) ?_ 4 _ rfl; (with_reducible repeat (first | refine blk_drewN ?_ _ | refine blk_drew ?_ | refine blk_alloc ?_ _)); refine blk_put (cs := #[.slice Ao79 t581.length co79, .int .i64 t584, .slice Ao82 t585.length co82, .int .i64 x532003_1, .int .i64 x532004_1, .slice Ao77 x532005_1.length co77]) ?_ 3 _ rfl; (with_reducible repeat (first | refine blk_drewN ?_ _ | refine blk_drew ?_ | refine blk_alloc ?_ _)); refine blk_put (cs := #[.slice Ao79 t581.length co79, .int .i64 t584, .slice Ao76 x532002_1.length co76, .int .i64 x532003_1, .int .i64 x532004_1, .slice Ao77 x532005_1.length co77]) ?_ 2 _ rfl; (with_reducible repeat (first | refine blk_drewN ?_ _ | refine blk_drew ?_ | refine blk_alloc ?_ _)); refine blk_put (cs := #[.slice Ao79 t581.length co79, .int .i64 x532001_1, .slice Ao76 x532002_1.length co76, .int .i64 x532003_1, .int .i64 x532004_1, .slice Ao77 x532005_1.length co77]) ?_ 1 _ rfl; (with_reducible repeat (first | refine blk_drewN ?_ _ | refine blk_drew ?_ | refine blk_alloc ?_ _)); refine blk_put (cs := #[.slice Ao75 x532000_1.length co75, .int .i64 x532001_1, .slice Ao76 x532002_1.length co76, .int .i64 x532003_1, .int .i64 x532004_1, .slice Ao77 x532005_1.length co77]) ?_ 0 _ rfl; (with_reducible repeat (first | refine blk_drewN ?_ _ | refine blk_drew ?_ | refine blk_alloc ?_ _)); exact BK531.out⟩, ⟨oI56 HI0⟩, ⟨oKe HK⟩, ⟨oB56 HB⟩⟩
            · rw [if_neg c67] at H
              have c67b0 : (t535 == 2) = false := beq_eq_false_iff_ne.mpr c67
              have c67b1 : (t535 != 2) = true := bne_iff_ne.mpr c67
              replace H := Option.bind_eq_some_iff.mp H
              obtain ⟨⟨t594, t597, t598, t601, t602, t603, t606⟩, A880, H⟩ := H
              (try dsimp only at H)
              have A88 := A_ A880
              clear A880
              have H' := A_ H
              clear H
              go_wp2_with (first | ((with_reducible refine gate_callee (f := 19) rfl ?_); refine gL (some 26) Tryz.func19 #[.pointer (some ⟨g, 0, none⟩), .int .i64 8] ?_; (with_reducible refine (spec_l01Below.calls g s0_0 x1001_1 x1002_1 8 t535 t536 t537 w0 _ ?side1 ?side2 A20.out).mono ?_); (case side1 => exact oI56 HI0); (case side2 => exact oB56 HB); rintro e w89 ⟨rfl, hi, hb, hk⟩; refine ⟨_, rfl, ?_⟩; have n0_ := A_ (Kd.R_mono (Kd.R_keep (IsS56.apart (show IsS56 w0 _ g s0_0 x1001_1 x1002_1 from oI56 HI0) (oR HO_532000) (by decide)) hk (fun _ h => h.2)) (fun _ h => h.1)); have n1_ := A_ (Kd.R_mono (Kd.R_keep (IsS56.apart (show IsS56 w0 _ g s0_0 x1001_1 x1002_1 from oI56 HI0) (oR HO_532002) (by decide)) hk (fun _ h => h.2)) (fun _ h => h.1)); have n2_ := A_ (Kd.R_mono (Kd.R_keep (IsS56.apart (show IsS56 w0 _ g s0_0 x1001_1 x1002_1 from oI56 HI0) (oR HO_532005) (by decide)) hk (fun _ h => h.2)) (fun _ h => h.1)); have n3_ := A_ (KeepBut.blk hk (g' := gb509) (o := .cells #[.slice none 0 0, .int .i64 0, .slice none 0 0, .int .i64 0, .int .i64 0, .slice none 0 0] 30 (0, 0)) (oK BK509) NB509_0.out (by simp)); have n4_ := A_ (KeepBut.blk hk (g' := gb531) (o := .cells #[u532000, .int .i64 x532001_1, u532002, .int .i64 x532003_1, .int .i64 x532004_1, u532005] 30 (0, 0)) (oK BK531) NB531_0.out (by simp)); have n5_ := A_ (KeepBut.trans (oKe HK) hk (.inl rfl)); have n6_ := A_ (hb); have n7_ := A_ (hi); clear HO_532000; clear HO_532002; clear HO_532005; clear BK509; clear BK531; clear HK; clear HB; clear HI0; have HO_532000 := n0_; have HO_532002 := n1_; have HO_532005 := n2_; have BK509 := n3_; have BK531 := n4_; have HK := n5_; have HB := n6_; have HI0 := n7_; clear n0_ n1_ n2_ n3_ n4_ n5_ n6_ n7_; (try clear hb); (try clear hb2); (try clear hk); (try clear hi); have hnb90 := NB531_509.out; have hnc90 := NB509_531.out; have hnb91 := NB531_0.out; have hnc91 := NB0_531.out; have hcz92_0 := cz BK531 0; have hcz92_1 := cz BK531 1; have hcz92_2 := cz BK531 2; have hcz92_3 := cz BK531 3; have hcz92_4 := cz BK531 4; have hcz92_5 := cz BK531 5; have hfz92_0 := blk_frozen BK531.out 0; have hfz92_1 := blk_frozen BK531.out 1; have hfz92_2 := blk_frozen BK531.out 2; have hfz92_3 := blk_frozen BK531.out 3; have hfz92_4 := blk_frozen BK531.out 4; have hfz92_5 := blk_frozen BK531.out 5; obtain ⟨Ao93, co93, eo93⟩ := Kd.R_slice HO_532000.out; subst eo93; obtain ⟨Ao94, co94, eo94⟩ := Kd.R_slice HO_532002.out; subst eo94; obtain ⟨Ao95, co95, eo95⟩ := Kd.R_slice HO_532005.out; subst eo95) | ((with_reducible refine gate_callee (f := 37) rfl ?_); refine gL (some 29) Tryz.func37 #[.agg #[.slice Ao93 x532000_1.length co93, .int .i64 x532001_1, .slice Ao94 x532002_1.length co94, .int .i64 x532003_1, .int .i64 x532004_1, .slice Ao95 x532005_1.length co95]] ?_; (with_reducible refine (spec_ShopTune.calls k1 _ _ x532000_1 x532001_1 _ _ x532002_1 x532003_1 x532004_1 _ _ x532005_1 t594 t597 t598 t601 t602 t603 t606 _ ?side1 ?side2 ?side3 ?side4 ?side5 ?side6 A88.out).mono ?_); (case side1 => repeat (first | exact (Kd.R_reads' HO_532000.out).2.2 | (with_reducible refine Kd.C_alloc ?_ _) | (with_reducible refine Kd.C_drewN ?_ _) | (with_reducible refine Kd.C_drew ?_))); (case side2 => exact (Kd.R_reads' HO_532000.out).2.1); (case side3 => repeat (first | exact (Kd.R_reads' HO_532002.out).2.2 | (with_reducible refine Kd.C_alloc ?_ _) | (with_reducible refine Kd.C_drewN ?_ _) | (with_reducible refine Kd.C_drew ?_))); (case side4 => exact (Kd.R_reads' HO_532002.out).2.1); (case side5 => repeat (first | exact (Kd.R_reads' HO_532005.out).2.2 | (with_reducible refine Kd.C_alloc ?_ _) | (with_reducible refine Kd.C_drewN ?_ _) | (with_reducible refine Kd.C_drew ?_))); (case side6 => exact (Kd.R_reads' HO_532005.out).2.1); rintro e w96 ⟨v595, v599, v604, rfl, ho0, ho1, ho2, hb⟩; refine ⟨_, rfl, ?_⟩; have n0_ := A_ (Kd.R_elder' (oR HO_532000) (Kd.R_base ho0) hb); have n1_ := A_ (Kd.R_elder' (oR HO_532002) (Kd.R_base ho1) hb); have n2_ := A_ (Kd.R_elder' (oR HO_532005) (Kd.R_base ho2) hb); have n3_ := A_ (Kd.R_lower (Kd.R_new' ho0 (Kd.R_lt (oR HO_532000))) (keep_size (w := w) (g := g) (row := none) (by repeat (first | (with_reducible first | exact HK.out | apply KeepBut.set_ | apply keep_drewN | apply keep_drew | apply keep_alloc | refine keep_far ?_ GW509.out _ | refine keep_far ?_ GW531.out _) | exact HK.out)))); have n4_ := A_ (Kd.R_lower (Kd.R_new' ho1 (Kd.R_lt (oR HO_532002))) (keep_size (w := w) (g := g) (row := none) (by repeat (first | (with_reducible first | exact HK.out | apply KeepBut.set_ | apply keep_drewN | apply keep_drew | apply keep_alloc | refine keep_far ?_ GW509.out _ | refine keep_far ?_ GW531.out _) | exact HK.out)))); have n5_ := A_ (Kd.R_lower (Kd.R_new' ho2 (Kd.R_lt (oR HO_532005))) (keep_size (w := w) (g := g) (row := none) (by repeat (first | (with_reducible first | exact HK.out | apply KeepBut.set_ | apply keep_drewN | apply keep_drew | apply keep_alloc | refine keep_far ?_ GW509.out _ | refine keep_far ?_ GW531.out _) | exact HK.out)))); have n6_ := A_ (bb BK509 hb); have n7_ := A_ (bb BK531 hb); have n8_ := A_ (IsS56.below (oI56 HI0) hb); have n9_ := A_ (KeepBut.trans (oKe HK) (KeepBut.of_below hb g none) (.inl rfl)); have n10_ := A_ (below_step (oB56 HB) hb); clear HO_532000; clear HO_532002; clear HO_532005; clear BK509; clear BK531; clear HI0; clear HK; clear HB; have HO_532000 := n0_; have HO_532002 := n1_; have HO_532005 := n2_; have HO596 := n3_; have HO600 := n4_; have HO605 := n5_; have BK509 := n6_; have BK531 := n7_; have HI0 := n8_; have HK := n9_; have HB := n10_; clear n0_ n1_ n2_ n3_ n4_ n5_ n6_ n7_ n8_ n9_ n10_; (try clear hb); (try clear hb2); (try clear hk); (try clear hi); (try clear ho0); (try clear ho1); (try clear ho2); obtain ⟨Ao97, co97, eo97⟩ := Kd.R_slice HO596.out; subst eo97; have hcz98_0 := cz BK531 0; have hcz98_1 := cz BK531 1; have hcz98_2 := cz BK531 2; have hcz98_3 := cz BK531 3; have hcz98_4 := cz BK531 4; have hcz98_5 := cz BK531 5; have hfz98_0 := blk_frozen BK531.out 0; have hfz98_1 := blk_frozen BK531.out 1; have hfz98_2 := blk_frozen BK531.out 2; have hfz98_3 := blk_frozen BK531.out 3; have hfz98_4 := blk_frozen BK531.out 4; have hfz98_5 := blk_frozen BK531.out 5; obtain ⟨Ao99, co99, eo99⟩ := Kd.R_slice HO600.out; subst eo99; obtain ⟨Ao100, co100, eo100⟩ := Kd.R_slice HO605.out; subst eo100))
              go_roundg k1
              case measure => have := HK1.out; omega
              case rel => exact ⟨(wrap64 (x6_1 + 1)), (t536), (t537), (t594), (t597), (t598), (t601), (t602), (t603), (.slice Ao97 t594.length co97), (.slice Ao99 t598.length co99), (.slice Ao100 t603.length co100), (by first | rfl | (simp; done) | (simp [*]; done)), H', ⟨by have := HK1.out; omega⟩, ⟨by (with_reducible repeat (first | apply Kd.R_alloc | apply Kd.R_drewN | apply Kd.R_drew)); exact Kd.R_mono (Kd.R_far (p := ⟨gb531, 5, none⟩) (Kd.R_far (p := ⟨gb531, 4, none⟩) (Kd.R_far (p := ⟨gb531, 3, none⟩) (Kd.R_far (p := ⟨gb531, 2, none⟩) (Kd.R_far (p := ⟨gb531, 1, none⟩) (Kd.R_far (p := ⟨gb531, 0, none⟩) (Kd.R_types HO596.out BK531.out (by decide)) (fun _ hk => hk.2) (.slice Ao97 t594.length co97)) (fun _ hk => hk.2) (.int .i64 t597)) (fun _ hk => hk.2) (.slice Ao99 t598.length co99)) (fun _ hk => hk.2) (.int .i64 t601)) (fun _ hk => hk.2) (.int .i64 t602)) (fun _ hk => hk.2) (.slice Ao100 t603.length co100)) (fun _ hk => trivial)⟩, ⟨by (with_reducible repeat (first | apply Kd.R_alloc | apply Kd.R_drewN | apply Kd.R_drew)); exact Kd.R_mono (Kd.R_far (p := ⟨gb531, 5, none⟩) (Kd.R_far (p := ⟨gb531, 4, none⟩) (Kd.R_far (p := ⟨gb531, 3, none⟩) (Kd.R_far (p := ⟨gb531, 2, none⟩) (Kd.R_far (p := ⟨gb531, 1, none⟩) (Kd.R_far (p := ⟨gb531, 0, none⟩) (Kd.R_types HO600.out BK531.out (by decide)) (fun _ hk => hk.2) (.slice Ao97 t594.length co97)) (fun _ hk => hk.2) (.int .i64 t597)) (fun _ hk => hk.2) (.slice Ao99 t598.length co99)) (fun _ hk => hk.2) (.int .i64 t601)) (fun _ hk => hk.2) (.int .i64 t602)) (fun _ hk => hk.2) (.slice Ao100 t603.length co100)) (fun _ hk => trivial)⟩, ⟨by (with_reducible repeat (first | apply Kd.R_alloc | apply Kd.R_drewN | apply Kd.R_drew)); exact Kd.R_mono (Kd.R_far (p := ⟨gb531, 5, none⟩) (Kd.R_far (p := ⟨gb531, 4, none⟩) (Kd.R_far (p := ⟨gb531, 3, none⟩) (Kd.R_far (p := ⟨gb531, 2, none⟩) (Kd.R_far (p := ⟨gb531, 1, none⟩) (Kd.R_far (p := ⟨gb531, 0, none⟩) (Kd.R_types HO605.out BK531.out (by decide)) (fun _ hk => hk.2) (.slice Ao97 t594.length co97)) (fun _ hk => hk.2) (.int .i64 t597)) (fun _ hk => hk.2) (.slice Ao99 t598.length co99)) (fun _ hk => hk.2) (.int .i64 t601)) (fun _ hk => hk.2) (.int .i64 t602)) (fun _ hk => hk.2) (.slice Ao100 t603.length co100)) (fun _ hk => trivial)⟩, ⟨by (with_reducible repeat (first | refine blk_drewN ?_ _ | refine blk_drew ?_ | refine blk_alloc ?_ _)); refine blk_far ?_ NB509_531.out _; (with_reducible repeat (first | refine blk_drewN ?_ _ | refine blk_drew ?_ | refine blk_alloc ?_ _)); refine blk_far ?_ NB509_531.out _; (with_reducible repeat (first | refine blk_drewN ?_ _ | refine blk_drew ?_ | refine blk_alloc ?_ _)); refine blk_far ?_ NB509_531.out _; (with_reducible repeat (first | refine blk_drewN ?_ _ | refine blk_drew ?_ | refine blk_alloc ?_ _)); refine blk_far ?_ NB509_531.out _; (with_reducible repeat (first | refine blk_drewN ?_ _ | refine blk_drew ?_ | refine blk_alloc ?_ _)); refine blk_far ?_ NB509_531.out _; (with_reducible repeat (first | refine blk_drewN ?_ _ | refine blk_drew ?_ | refine blk_alloc ?_ _)); refine blk_far ?_ NB509_531.out _; (with_reducible repeat (first | refine blk_drewN ?_ _ | refine blk_drew ?_ | refine blk_alloc ?_ _)); exact BK509.out⟩, ⟨by (with_reducible repeat (first | refine blk_drewN ?_ _ | refine blk_drew ?_ | refine blk_alloc ?_ _)); refine blk_put (cs := #[.slice Ao97 t594.length co97, .int .i64 t597, .slice Ao99 t598.length co99, .int .i64 t601, .int .i64 t602, .slice Ao95 x532005_1.length co95]) ?_ 5 _ rfl; (with_reducible repeat (first | refine blk_drewN ?_ _ | refine blk_drew ?_ | refine blk_alloc ?_ _)); refine blk_put (cs := #[.slice Ao97 t594.length co97, .int .i64 t597, .slice Ao99 t598.length co99, .int .i64 t601, .int .i64 x532004_1, .slice Ao95 x532005_1.length co95]) ?_ 4 _ rfl; (with_reducible repeat (first | refine blk_drewN ?_ _ | refine blk_drew ?_ | refine blk_alloc ?_ _)); refine blk_put (cs := #[.slice Ao97 t594.length co97, .int .i64 t597, .slice Ao99 t598.length co99, .int .i64 x532003_1, .int .i64 x532004_1, .slice Ao95 x532005_1.length co95]) ?_ 3 _ rfl; (with_reducible repeat (first | refine blk_drewN ?_ _ | refine blk_drew ?_ | refine blk_alloc ?_ _)); refine blk_put (cs := #[.slice Ao97 t594.length co97, .int .i64 t597, .slice Ao94 x532002_1.length co94, .int .i64 x532003_1, .int .i64 x532004_1, .slice Ao95 x532005_1.length co95]) ?_ 2 _ rfl; (with_reducible repeat (first | refine blk_drewN ?_ _ | refine blk_drew ?_ | refine blk_alloc ?_ _)); refine blk_put (cs := #[.slice Ao97 t594.length co97, .int .i64 x532001_1, .slice Ao94 x532002_1.length co94, .int .i64 x532003_1, .int .i64 x532004_1, .slice Ao95 x532005_1.length co95]) ?_ 1 _ rfl; (with_reducible repeat (first | refine blk_drewN ?_ _ | refine blk_drew ?_ | refine blk_alloc ?_ _)); refine blk_put (cs := #[.slice Ao93 x532000_1.length co93, .int .i64 x532001_1, .slice Ao94 x532002_1.length co94, .int .i64 x532003_1, .int .i64 x532004_1, .slice Ao95 x532005_1.length co95]) ?_ 0 _ rfl; (with_reducible repeat (first | refine blk_drewN ?_ _ | refine blk_drew ?_ | refine blk_alloc ?_ _)); exact BK531.out⟩, ⟨oI56 HI0⟩, ⟨oKe HK⟩, ⟨oB56 HB⟩⟩
      · rw [if_neg c19] at H
        have c19b0 : decide (x6_1 < t532) = false := decide_eq_false c19
        clear c19
        simp only [Option.some.injEq, Prod.mk.injEq] at H
        obtain ⟨rfl, rfl, rfl, rfl, rfl, rfl, rfl, rfl⟩ := H
        have hnb101 := NB531_509.out
        have hnc101 := NB509_531.out
        have hnb102 := NB531_0.out
        have hnc102 := NB0_531.out
        have hcz103_0 := cz BK531 0
        have hcz103_1 := cz BK531 1
        have hcz103_2 := cz BK531 2
        have hcz103_3 := cz BK531 3
        have hcz103_4 := cz BK531 4
        have hcz103_5 := cz BK531 5
        have hfz103_0 := blk_frozen BK531.out 0
        have hfz103_1 := blk_frozen BK531.out 1
        have hfz103_2 := blk_frozen BK531.out 2
        have hfz103_3 := blk_frozen BK531.out 3
        have hfz103_4 := blk_frozen BK531.out 4
        have hfz103_5 := blk_frozen BK531.out 5
        obtain ⟨Ao104, co104, eo104⟩ := Kd.R_slice HO_532000.out
        subst eo104
        have hnb105 := NB509_0.out
        have hnc105 := NB0_509.out
        have hcz106_0 := cz BK509 0
        have hcz106_1 := cz BK509 1
        have hcz106_2 := cz BK509 2
        have hcz106_3 := cz BK509 3
        have hcz106_4 := cz BK509 4
        have hcz106_5 := cz BK509 5
        have hfz106_0 := blk_frozen BK509.out 0
        have hfz106_1 := blk_frozen BK509.out 1
        have hfz106_2 := blk_frozen BK509.out 2
        have hfz106_3 := blk_frozen BK509.out 3
        have hfz106_4 := blk_frozen BK509.out 4
        have hfz106_5 := blk_frozen BK509.out 5
        obtain ⟨Ao107, co107, eo107⟩ := Kd.R_slice HO_532002.out
        subst eo107
        obtain ⟨Ao108, co108, eo108⟩ := Kd.R_slice HO_532005.out
        subst eo108
        go_wp2
        refine bodyPost_ret (results_cell_row rfl _ _ gb509 30 #[.slice Ao104 x532000_1.length co104, .int .i64 x532001_1, .slice Ao107 x532002_1.length co107, .int .i64 x532003_1, .int .i64 x532004_1, .slice Ao108 x532005_1.length co108] (0, 0) _ rfl (by (with_reducible repeat (first | refine blk_drewN ?_ _ | refine blk_drew ?_ | refine blk_alloc ?_ _)); refine blk_put (cs := #[.slice Ao104 x532000_1.length co104, .int .i64 x532001_1, .slice Ao107 x532002_1.length co107, .int .i64 x532003_1, .int .i64 x532004_1, .slice none 0 0]) ?_ 5 _ rfl; (with_reducible repeat (first | refine blk_drewN ?_ _ | refine blk_drew ?_ | refine blk_alloc ?_ _)); refine blk_put (cs := #[.slice Ao104 x532000_1.length co104, .int .i64 x532001_1, .slice Ao107 x532002_1.length co107, .int .i64 x532003_1, .int .i64 0, .slice none 0 0]) ?_ 4 _ rfl; (with_reducible repeat (first | refine blk_drewN ?_ _ | refine blk_drew ?_ | refine blk_alloc ?_ _)); refine blk_put (cs := #[.slice Ao104 x532000_1.length co104, .int .i64 x532001_1, .slice Ao107 x532002_1.length co107, .int .i64 0, .int .i64 0, .slice none 0 0]) ?_ 3 _ rfl; (with_reducible repeat (first | refine blk_drewN ?_ _ | refine blk_drew ?_ | refine blk_alloc ?_ _)); refine blk_put (cs := #[.slice Ao104 x532000_1.length co104, .int .i64 x532001_1, .slice none 0 0, .int .i64 0, .int .i64 0, .slice none 0 0]) ?_ 2 _ rfl; (with_reducible repeat (first | refine blk_drewN ?_ _ | refine blk_drew ?_ | refine blk_alloc ?_ _)); refine blk_put (cs := #[.slice Ao104 x532000_1.length co104, .int .i64 0, .slice none 0 0, .int .i64 0, .int .i64 0, .slice none 0 0]) ?_ 1 _ rfl; (with_reducible repeat (first | refine blk_drewN ?_ _ | refine blk_drew ?_ | refine blk_alloc ?_ _)); refine blk_put (cs := #[.slice none 0 0, .int .i64 0, .slice none 0 0, .int .i64 0, .int .i64 0, .slice none 0 0]) ?_ 0 _ rfl; (with_reducible repeat (first | refine blk_drewN ?_ _ | refine blk_drew ?_ | refine blk_alloc ?_ _)); exact BK509.out) Tryz.underlying30 rfl (by kernel_rfl)) rfl ?_
        exact ⟨_, _, _, eR, by (with_reducible repeat (first | apply Kd.R_alloc | apply Kd.R_drewN | apply Kd.R_drew)); exact Kd.R_mono (Kd.R_far (p := ⟨gb509, 5, none⟩) (Kd.R_far (p := ⟨gb509, 4, none⟩) (Kd.R_far (p := ⟨gb509, 3, none⟩) (Kd.R_far (p := ⟨gb509, 2, none⟩) (Kd.R_far (p := ⟨gb509, 1, none⟩) (Kd.R_far (p := ⟨gb509, 0, none⟩) (Kd.R_types HO_532000.out BK509.out (by decide)) (fun _ hk => hk.2) (.slice Ao104 x532000_1.length co104)) (fun _ hk => hk.2) (.int .i64 x532001_1)) (fun _ hk => hk.2) (.slice Ao107 x532002_1.length co107)) (fun _ hk => hk.2) (.int .i64 x532003_1)) (fun _ hk => hk.2) (.int .i64 x532004_1)) (fun _ hk => hk.2) (.slice Ao108 x532005_1.length co108)) (fun _ hk => trivial), by (with_reducible repeat (first | apply Kd.R_alloc | apply Kd.R_drewN | apply Kd.R_drew)); exact Kd.R_mono (Kd.R_far (p := ⟨gb509, 5, none⟩) (Kd.R_far (p := ⟨gb509, 4, none⟩) (Kd.R_far (p := ⟨gb509, 3, none⟩) (Kd.R_far (p := ⟨gb509, 2, none⟩) (Kd.R_far (p := ⟨gb509, 1, none⟩) (Kd.R_far (p := ⟨gb509, 0, none⟩) (Kd.R_types HO_532002.out BK509.out (by decide)) (fun _ hk => hk.2) (.slice Ao104 x532000_1.length co104)) (fun _ hk => hk.2) (.int .i64 x532001_1)) (fun _ hk => hk.2) (.slice Ao107 x532002_1.length co107)) (fun _ hk => hk.2) (.int .i64 x532003_1)) (fun _ hk => hk.2) (.int .i64 x532004_1)) (fun _ hk => hk.2) (.slice Ao108 x532005_1.length co108)) (fun _ hk => trivial), by (with_reducible repeat (first | apply Kd.R_alloc | apply Kd.R_drewN | apply Kd.R_drew)); exact Kd.R_mono (Kd.R_far (p := ⟨gb509, 5, none⟩) (Kd.R_far (p := ⟨gb509, 4, none⟩) (Kd.R_far (p := ⟨gb509, 3, none⟩) (Kd.R_far (p := ⟨gb509, 2, none⟩) (Kd.R_far (p := ⟨gb509, 1, none⟩) (Kd.R_far (p := ⟨gb509, 0, none⟩) (Kd.R_types HO_532005.out BK509.out (by decide)) (fun _ hk => hk.2) (.slice Ao104 x532000_1.length co104)) (fun _ hk => hk.2) (.int .i64 x532001_1)) (fun _ hk => hk.2) (.slice Ao107 x532002_1.length co107)) (fun _ hk => hk.2) (.int .i64 x532003_1)) (fun _ hk => hk.2) (.int .i64 x532004_1)) (fun _ hk => hk.2) (.slice Ao108 x532005_1.length co108)) (fun _ hk => trivial), oI56 HI0, oB56 HB, oKe HK⟩
end Go.Proofs.YtojiighpkppckaaGreatDoor.P


namespace Go.Proofs.YtojiighpkppckaaGreatDoor.P
open Go.RowKit Go.Proofs.YtojiighpkppckaaGreatDoorW.PrintWords Go.Proofs.YtojiighpkppckaaGreatDoorW.PrintLast Go.Proofs.YtojiighpkppckaaGreatDoorW.PrintMore
attribute [local go_sem] max2_int min2_int max_two min_two max_three min_three max_four min_four
set_option linter.unusedVariables false
set_option linter.unusedSimpArgs false
def spec_l39Shop.f (k : Nat) (s0_0 : List Int) (s0_1 : Int) (s0_2 : Int) : Option ((List (S95)) × Int × List Int × Int × Int × (List (S101)) × Int × Int) := (spec_l01Once.f s0_0 s0_1 s0_2 2).bind fun bt608 => (if bt608.1 = true then ((spec_SampleShop.f k).bind fun bt611 => (some (bt611.1, bt611.2.1, bt611.2.2.1, bt611.2.2.2.1, bt611.2.2.2.2.1, bt611.2.2.2.2.2, bt608.2.1, bt608.2.2))) else ((spec_l38Shop.f k s0_0 bt608.2.1 bt608.2.2).bind fun bt623 => (some (bt623.1, bt623.2.1, bt623.2.2.1, bt623.2.2.2.1, bt623.2.2.2.2.1, bt623.2.2.2.2.2.1, bt623.2.2.2.2.2.2.1, bt623.2.2.2.2.2.2.2))))
set_option maxHeartbeats 8000000 in
set_option maxRecDepth 100000 in
theorem spec_l39Shop.calls (k : Nat) (g : Nat) (s0_0 : List Int) (s0_1 : Int) (s0_2 : Int) (r1 : List (S95)) (r2 : Int) (r3 : List Int) (r4 : Int) (r5 : Int) (r6 : List (S101)) (r7 : Int) (r8 : Int) (w0 w : World) (hI : IsS56 w0 w g s0_0 s0_1 s0_2) (hB : Below w0.heap.size w0 w) (h : spec_l39Shop.f k s0_0 s0_1 s0_2 = some (r1, r2, r3, r4, r5, r6, r7, r8)) :
    Calls Tryz.prog 9 #[.pointer (some ⟨g, 0, none⟩)] w fun e w' => ∃ v0_ v2_ v5_ : Value, e = .returned (.agg #[v0_, .int .i64 r2, v2_, .int .i64 r4, .int .i64 r5, v5_]) ∧ Kd.R k95 95 w' w.heap.size (fun _ => True) v0_ r1 ∧ Kd.R (Kd.int .i64) 3 w' w.heap.size (fun _ => True) v2_ r3 ∧ Kd.R k101 101 w' w.heap.size (fun _ => True) v5_ r6 ∧ IsS56 w0 w' g s0_0 r7 r8 ∧ Below w0.heap.size w0 w' ∧ KeepBut w w' g none := by
  have hu30 := Tryz.underlying30
  have HI0 := A_ hI
  have HK := A_ (KeepBut.refl w g none)
  have HL := A_ hB.size
  clear hI
  have HW0 := A_ hB.size
  have HB := A_ hB
  clear hB
  have H : ((spec_l01Once.f s0_0 s0_1 s0_2 2).bind fun bt608 => (if bt608.1 = true then ((spec_SampleShop.f k).bind fun bt611 => (some (bt611.1, bt611.2.1, bt611.2.2.1, bt611.2.2.2.1, bt611.2.2.2.2.1, bt611.2.2.2.2.2, bt608.2.1, bt608.2.2))) else ((spec_l38Shop.f k s0_0 bt608.2.1 bt608.2.2).bind fun bt623 => (some (bt623.1, bt623.2.1, bt623.2.2.1, bt623.2.2.2.1, bt623.2.2.2.2.1, bt623.2.2.2.2.2.1, bt623.2.2.2.2.2.2.1, bt623.2.2.2.2.2.2.2))))) = some (r1, r2, r3, r4, r5, r6, r7, r8) := h
  clear h
  replace H := Option.bind_eq_some_iff.mp H
  obtain ⟨⟨t608, t609, t610⟩, A20, H⟩ := H
  (try dsimp only at H)
  have A2 := A_ A20
  clear A20
  by_cases c3 : t608 = true
  · subst c3
    rw [if_pos rfl] at H
    replace H := Option.bind_eq_some_iff.mp H
    obtain ⟨⟨t611, t614, t615, t618, t619, t620⟩, A40, H⟩ := H
    (try dsimp only at H)
    have A4 := A_ A40
    clear A40
    simp only [Option.some.injEq, Prod.mk.injEq] at H
    obtain ⟨rfl, rfl, rfl, rfl, rfl, rfl, rfl, rfl⟩ := H
    go_enter Tryz.func9, Tryz.ntmps9
    go_wp2_with (first | ((with_reducible refine gate_dst (N := 2) rfl ?_); refine bX (N := 2) (cs := #[.slice none 0 0, .int .i64 0, .slice none 0 0, .int .i64 0, .int .i64 0, .slice none 0 0]) (t := 30) ?_; intro gb607 hg w5 hbox hb; have n0_ := A_ (IsS56.below (oI56 HI0) hb); have n1_ := A_ (KeepBut.trans (oKe HK) (KeepBut.of_below hb g none) (.inl rfl)); have n2_ := A_ (below_step (oB56 HB) hb); have n3_ := A_ (hbox); have n4_ := A_ ((by rw [hg]; exact (keep_size (w := w) (g := g) (row := none) (by repeat (first | (with_reducible first | exact HK.out | apply KeepBut.set_ | apply keep_drewN | apply keep_drew | apply keep_alloc) | exact HK.out))) : w.heap.size ≤ gb607)); have n5_ := A_ ((Nat.le_trans HW0.out (by rw [hg]; exact (keep_size (w := w) (g := g) (row := none) (by repeat (first | (with_reducible first | exact HK.out | apply KeepBut.set_ | apply keep_drewN | apply keep_drew | apply keep_alloc) | exact HK.out))) : w.heap.size ≤ gb607) : w0.heap.size ≤ gb607)); have n6_ := A_ ((by rw [hg]; exact Nat.ne_of_lt (IsS56.lt (show IsS56 w0 _ g s0_0 s0_1 s0_2 from oI56 HI0)) : g ≠ gb607)); have n7_ := A_ ((by rw [hg]; exact Nat.ne_of_gt (IsS56.lt (show IsS56 w0 _ g s0_0 s0_1 s0_2 from oI56 HI0)) : gb607 ≠ g)); clear HI0; clear HK; clear HB; have HI0 := n0_; have HK := n1_; have HB := n2_; have BK607 := n3_; have GW607 := n4_; have GE607 := n5_; have NB0_607 := n6_; have NB607_0 := n7_; clear n0_ n1_ n2_ n3_ n4_ n5_ n6_ n7_; clear hb hbox hg) | ((with_reducible refine gate_callee (f := 16) rfl ?_); refine gL (some 4) Tryz.func16 #[.pointer (some ⟨g, 0, none⟩), .int .i64 2] ?_; (with_reducible refine (spec_l01Once.calls g s0_0 s0_1 s0_2 2 true t609 t610 w0 _ ?side1 ?side2 A2.out).mono ?_); (case side1 => exact oI56 HI0); (case side2 => exact oB56 HB); rintro e w6 ⟨rfl, hi, hb, hk⟩; refine ⟨_, rfl, ?_⟩; have n0_ := A_ (KeepBut.blk hk (g' := gb607) (o := .cells #[.slice none 0 0, .int .i64 0, .slice none 0 0, .int .i64 0, .int .i64 0, .slice none 0 0] 30 (0, 0)) (oK BK607) NB607_0.out (by simp)); have n1_ := A_ (KeepBut.trans (oKe HK) hk (.inl rfl)); have n2_ := A_ (hb); have n3_ := A_ (hi); clear BK607; clear HK; clear HB; clear HI0; have BK607 := n0_; have HK := n1_; have HB := n2_; have HI0 := n3_; clear n0_ n1_ n2_ n3_; (try clear hb); (try clear hb2); (try clear hk); (try clear hi)) | ((with_reducible refine gate_callee (f := 17) rfl ?_); refine gL (some 5) Tryz.func17 #[] ?_; (with_reducible refine (spec_SampleShop.calls k  t611 t614 t615 t618 t619 t620 _ A4.out).mono ?_); rintro e w7 ⟨v612, v616, v621, rfl, ho0, ho1, ho2, hb⟩; refine ⟨_, rfl, ?_⟩; have n0_ := A_ (Kd.R_lower ho0 (keep_size (w := w) (g := g) (row := none) (by repeat (first | (with_reducible first | exact HK.out | apply KeepBut.set_ | apply keep_drewN | apply keep_drew | apply keep_alloc | refine keep_far ?_ GW607.out _) | exact HK.out)))); have n1_ := A_ (Kd.R_lower ho1 (keep_size (w := w) (g := g) (row := none) (by repeat (first | (with_reducible first | exact HK.out | apply KeepBut.set_ | apply keep_drewN | apply keep_drew | apply keep_alloc | refine keep_far ?_ GW607.out _) | exact HK.out)))); have n2_ := A_ (Kd.R_lower ho2 (keep_size (w := w) (g := g) (row := none) (by repeat (first | (with_reducible first | exact HK.out | apply KeepBut.set_ | apply keep_drewN | apply keep_drew | apply keep_alloc | refine keep_far ?_ GW607.out _) | exact HK.out)))); have n3_ := A_ (IsS56.below (oI56 HI0) hb); have n4_ := A_ (bb BK607 hb); have n5_ := A_ (KeepBut.trans (oKe HK) (KeepBut.of_below hb g none) (.inl rfl)); have n6_ := A_ (below_step (oB56 HB) hb); clear HI0; clear BK607; clear HK; clear HB; have HO613 := n0_; have HO617 := n1_; have HO622 := n2_; have HI0 := n3_; have BK607 := n4_; have HK := n5_; have HB := n6_; clear n0_ n1_ n2_ n3_ n4_ n5_ n6_; (try clear hb); (try clear hb2); (try clear hk); (try clear hi); (try clear ho0); (try clear ho1); (try clear ho2); obtain ⟨Ao8, co8, eo8⟩ := Kd.R_slice HO613.out; subst eo8; have hnb9 := NB607_0.out; have hnc9 := NB0_607.out; have hcz10_0 := cz BK607 0; have hcz10_1 := cz BK607 1; have hcz10_2 := cz BK607 2; have hcz10_3 := cz BK607 3; have hcz10_4 := cz BK607 4; have hcz10_5 := cz BK607 5; have hfz10_0 := blk_frozen BK607.out 0; have hfz10_1 := blk_frozen BK607.out 1; have hfz10_2 := blk_frozen BK607.out 2; have hfz10_3 := blk_frozen BK607.out 3; have hfz10_4 := blk_frozen BK607.out 4; have hfz10_5 := blk_frozen BK607.out 5; obtain ⟨Ao11, co11, eo11⟩ := Kd.R_slice HO617.out; subst eo11; obtain ⟨Ao12, co12, eo12⟩ := Kd.R_slice HO622.out; subst eo12))
    refine bodyPost_ret (results_cell_row rfl _ _ gb607 30 #[.slice Ao8 t611.length co8, .int .i64 t614, .slice Ao11 t615.length co11, .int .i64 t618, .int .i64 t619, .slice Ao12 t620.length co12] (0, 0) _ rfl (by (with_reducible repeat (first | refine blk_drewN ?_ _ | refine blk_drew ?_ | refine blk_alloc ?_ _)); refine blk_put (cs := #[.slice Ao8 t611.length co8, .int .i64 t614, .slice Ao11 t615.length co11, .int .i64 t618, .int .i64 t619, .slice none 0 0]) ?_ 5 _ rfl; (with_reducible repeat (first | refine blk_drewN ?_ _ | refine blk_drew ?_ | refine blk_alloc ?_ _)); refine blk_put (cs := #[.slice Ao8 t611.length co8, .int .i64 t614, .slice Ao11 t615.length co11, .int .i64 t618, .int .i64 0, .slice none 0 0]) ?_ 4 _ rfl; (with_reducible repeat (first | refine blk_drewN ?_ _ | refine blk_drew ?_ | refine blk_alloc ?_ _)); refine blk_put (cs := #[.slice Ao8 t611.length co8, .int .i64 t614, .slice Ao11 t615.length co11, .int .i64 0, .int .i64 0, .slice none 0 0]) ?_ 3 _ rfl; (with_reducible repeat (first | refine blk_drewN ?_ _ | refine blk_drew ?_ | refine blk_alloc ?_ _)); refine blk_put (cs := #[.slice Ao8 t611.length co8, .int .i64 t614, .slice none 0 0, .int .i64 0, .int .i64 0, .slice none 0 0]) ?_ 2 _ rfl; (with_reducible repeat (first | refine blk_drewN ?_ _ | refine blk_drew ?_ | refine blk_alloc ?_ _)); refine blk_put (cs := #[.slice Ao8 t611.length co8, .int .i64 0, .slice none 0 0, .int .i64 0, .int .i64 0, .slice none 0 0]) ?_ 1 _ rfl; (with_reducible repeat (first | refine blk_drewN ?_ _ | refine blk_drew ?_ | refine blk_alloc ?_ _)); refine blk_put (cs := #[.slice none 0 0, .int .i64 0, .slice none 0 0, .int .i64 0, .int .i64 0, .slice none 0 0]) ?_ 0 _ rfl; (with_reducible repeat (first | refine blk_drewN ?_ _ | refine blk_drew ?_ | refine blk_alloc ?_ _)); exact BK607.out) Tryz.underlying30 rfl (by kernel_rfl)) rfl ?_
    exact ⟨_, _, _, eR, by (with_reducible repeat (first | apply Kd.R_alloc | apply Kd.R_drewN | apply Kd.R_drew)); exact Kd.R_mono (Kd.R_far (p := ⟨gb607, 5, none⟩) (Kd.R_far (p := ⟨gb607, 4, none⟩) (Kd.R_far (p := ⟨gb607, 3, none⟩) (Kd.R_far (p := ⟨gb607, 2, none⟩) (Kd.R_far (p := ⟨gb607, 1, none⟩) (Kd.R_far (p := ⟨gb607, 0, none⟩) (Kd.R_types HO613.out BK607.out (by decide)) (fun _ hk => hk.2) (.slice Ao8 t611.length co8)) (fun _ hk => hk.2) (.int .i64 t614)) (fun _ hk => hk.2) (.slice Ao11 t615.length co11)) (fun _ hk => hk.2) (.int .i64 t618)) (fun _ hk => hk.2) (.int .i64 t619)) (fun _ hk => hk.2) (.slice Ao12 t620.length co12)) (fun _ hk => trivial), by (with_reducible repeat (first | apply Kd.R_alloc | apply Kd.R_drewN | apply Kd.R_drew)); exact Kd.R_mono (Kd.R_far (p := ⟨gb607, 5, none⟩) (Kd.R_far (p := ⟨gb607, 4, none⟩) (Kd.R_far (p := ⟨gb607, 3, none⟩) (Kd.R_far (p := ⟨gb607, 2, none⟩) (Kd.R_far (p := ⟨gb607, 1, none⟩) (Kd.R_far (p := ⟨gb607, 0, none⟩) (Kd.R_types HO617.out BK607.out (by decide)) (fun _ hk => hk.2) (.slice Ao8 t611.length co8)) (fun _ hk => hk.2) (.int .i64 t614)) (fun _ hk => hk.2) (.slice Ao11 t615.length co11)) (fun _ hk => hk.2) (.int .i64 t618)) (fun _ hk => hk.2) (.int .i64 t619)) (fun _ hk => hk.2) (.slice Ao12 t620.length co12)) (fun _ hk => trivial), by (with_reducible repeat (first | apply Kd.R_alloc | apply Kd.R_drewN | apply Kd.R_drew)); exact Kd.R_mono (Kd.R_far (p := ⟨gb607, 5, none⟩) (Kd.R_far (p := ⟨gb607, 4, none⟩) (Kd.R_far (p := ⟨gb607, 3, none⟩) (Kd.R_far (p := ⟨gb607, 2, none⟩) (Kd.R_far (p := ⟨gb607, 1, none⟩) (Kd.R_far (p := ⟨gb607, 0, none⟩) (Kd.R_types HO622.out BK607.out (by decide)) (fun _ hk => hk.2) (.slice Ao8 t611.length co8)) (fun _ hk => hk.2) (.int .i64 t614)) (fun _ hk => hk.2) (.slice Ao11 t615.length co11)) (fun _ hk => hk.2) (.int .i64 t618)) (fun _ hk => hk.2) (.int .i64 t619)) (fun _ hk => hk.2) (.slice Ao12 t620.length co12)) (fun _ hk => trivial), oI56 HI0, oB56 HB, oKe HK⟩
  · replace c3 := Bool.eq_false_iff.mpr c3
    subst c3
    rw [if_neg (show ¬ (false = true) by decide)] at H
    replace H := Option.bind_eq_some_iff.mp H
    obtain ⟨⟨t623, t626, t627, t630, t631, t632, t635, t636⟩, A130, H⟩ := H
    (try dsimp only at H)
    have A13 := A_ A130
    clear A130
    simp only [Option.some.injEq, Prod.mk.injEq] at H
    obtain ⟨rfl, rfl, rfl, rfl, rfl, rfl, rfl, rfl⟩ := H
    go_enter Tryz.func9, Tryz.ntmps9
    go_wp2_with (first | ((with_reducible refine gate_dst (N := 2) rfl ?_); refine bX (N := 2) (cs := #[.slice none 0 0, .int .i64 0, .slice none 0 0, .int .i64 0, .int .i64 0, .slice none 0 0]) (t := 30) ?_; intro gb607 hg w14 hbox hb; have n0_ := A_ (IsS56.below (oI56 HI0) hb); have n1_ := A_ (KeepBut.trans (oKe HK) (KeepBut.of_below hb g none) (.inl rfl)); have n2_ := A_ (below_step (oB56 HB) hb); have n3_ := A_ (hbox); have n4_ := A_ ((by rw [hg]; exact (keep_size (w := w) (g := g) (row := none) (by repeat (first | (with_reducible first | exact HK.out | apply KeepBut.set_ | apply keep_drewN | apply keep_drew | apply keep_alloc) | exact HK.out))) : w.heap.size ≤ gb607)); have n5_ := A_ ((Nat.le_trans HW0.out (by rw [hg]; exact (keep_size (w := w) (g := g) (row := none) (by repeat (first | (with_reducible first | exact HK.out | apply KeepBut.set_ | apply keep_drewN | apply keep_drew | apply keep_alloc) | exact HK.out))) : w.heap.size ≤ gb607) : w0.heap.size ≤ gb607)); have n6_ := A_ ((by rw [hg]; exact Nat.ne_of_lt (IsS56.lt (show IsS56 w0 _ g s0_0 s0_1 s0_2 from oI56 HI0)) : g ≠ gb607)); have n7_ := A_ ((by rw [hg]; exact Nat.ne_of_gt (IsS56.lt (show IsS56 w0 _ g s0_0 s0_1 s0_2 from oI56 HI0)) : gb607 ≠ g)); clear HI0; clear HK; clear HB; have HI0 := n0_; have HK := n1_; have HB := n2_; have BK607 := n3_; have GW607 := n4_; have GE607 := n5_; have NB0_607 := n6_; have NB607_0 := n7_; clear n0_ n1_ n2_ n3_ n4_ n5_ n6_ n7_; clear hb hbox hg) | ((with_reducible refine gate_callee (f := 16) rfl ?_); refine gL (some 4) Tryz.func16 #[.pointer (some ⟨g, 0, none⟩), .int .i64 2] ?_; (with_reducible refine (spec_l01Once.calls g s0_0 s0_1 s0_2 2 false t609 t610 w0 _ ?side1 ?side2 A2.out).mono ?_); (case side1 => exact oI56 HI0); (case side2 => exact oB56 HB); rintro e w15 ⟨rfl, hi, hb, hk⟩; refine ⟨_, rfl, ?_⟩; have n0_ := A_ (KeepBut.blk hk (g' := gb607) (o := .cells #[.slice none 0 0, .int .i64 0, .slice none 0 0, .int .i64 0, .int .i64 0, .slice none 0 0] 30 (0, 0)) (oK BK607) NB607_0.out (by simp)); have n1_ := A_ (KeepBut.trans (oKe HK) hk (.inl rfl)); have n2_ := A_ (hb); have n3_ := A_ (hi); clear BK607; clear HK; clear HB; clear HI0; have BK607 := n0_; have HK := n1_; have HB := n2_; have HI0 := n3_; clear n0_ n1_ n2_ n3_; (try clear hb); (try clear hb2); (try clear hk); (try clear hi)) | ((with_reducible refine gate_callee (f := 18) rfl ?_); refine gL (some 7) Tryz.func18 #[.pointer (some ⟨g, 0, none⟩)] ?_; (with_reducible refine (spec_l38Shop.calls k g s0_0 t609 t610 t623 t626 t627 t630 t631 t632 t635 t636 w0 _ ?side1 ?side2 A13.out).mono ?_); (case side1 => exact oI56 HI0); (case side2 => exact oB56 HB); rintro e w16 ⟨v624, v628, v633, rfl, ho0, ho1, ho2, hi, hb, hk⟩; refine ⟨_, rfl, ?_⟩; have n0_ := A_ (KeepBut.blk hk (g' := gb607) (o := .cells #[.slice none 0 0, .int .i64 0, .slice none 0 0, .int .i64 0, .int .i64 0, .slice none 0 0] 30 (0, 0)) (oK BK607) NB607_0.out (by simp)); have n1_ := A_ (Kd.R_lower ho0 (keep_size (w := w) (g := g) (row := none) (by repeat (first | (with_reducible first | exact HK.out | apply KeepBut.set_ | apply keep_drewN | apply keep_drew | apply keep_alloc | refine keep_far ?_ GW607.out _) | exact HK.out)))); have n2_ := A_ (Kd.R_lower ho1 (keep_size (w := w) (g := g) (row := none) (by repeat (first | (with_reducible first | exact HK.out | apply KeepBut.set_ | apply keep_drewN | apply keep_drew | apply keep_alloc | refine keep_far ?_ GW607.out _) | exact HK.out)))); have n3_ := A_ (Kd.R_lower ho2 (keep_size (w := w) (g := g) (row := none) (by repeat (first | (with_reducible first | exact HK.out | apply KeepBut.set_ | apply keep_drewN | apply keep_drew | apply keep_alloc | refine keep_far ?_ GW607.out _) | exact HK.out)))); have n4_ := A_ (KeepBut.trans (oKe HK) hk (.inl rfl)); have n5_ := A_ (hb); have n6_ := A_ (hi); clear BK607; clear HK; clear HB; clear HI0; have BK607 := n0_; have HO625 := n1_; have HO629 := n2_; have HO634 := n3_; have HK := n4_; have HB := n5_; have HI0 := n6_; clear n0_ n1_ n2_ n3_ n4_ n5_ n6_; (try clear hb); (try clear hb2); (try clear hk); (try clear hi); (try clear ho0); (try clear ho1); (try clear ho2); obtain ⟨Ao17, co17, eo17⟩ := Kd.R_slice HO625.out; subst eo17; have hnb18 := NB607_0.out; have hnc18 := NB0_607.out; have hcz19_0 := cz BK607 0; have hcz19_1 := cz BK607 1; have hcz19_2 := cz BK607 2; have hcz19_3 := cz BK607 3; have hcz19_4 := cz BK607 4; have hcz19_5 := cz BK607 5; have hfz19_0 := blk_frozen BK607.out 0; have hfz19_1 := blk_frozen BK607.out 1; have hfz19_2 := blk_frozen BK607.out 2; have hfz19_3 := blk_frozen BK607.out 3; have hfz19_4 := blk_frozen BK607.out 4; have hfz19_5 := blk_frozen BK607.out 5; obtain ⟨Ao20, co20, eo20⟩ := Kd.R_slice HO629.out; subst eo20; obtain ⟨Ao21, co21, eo21⟩ := Kd.R_slice HO634.out; subst eo21))
    refine bodyPost_ret (results_cell_row rfl _ _ gb607 30 #[.slice Ao17 t623.length co17, .int .i64 t626, .slice Ao20 t627.length co20, .int .i64 t630, .int .i64 t631, .slice Ao21 t632.length co21] (0, 0) _ rfl (by (with_reducible repeat (first | refine blk_drewN ?_ _ | refine blk_drew ?_ | refine blk_alloc ?_ _)); refine blk_put (cs := #[.slice Ao17 t623.length co17, .int .i64 t626, .slice Ao20 t627.length co20, .int .i64 t630, .int .i64 t631, .slice none 0 0]) ?_ 5 _ rfl; (with_reducible repeat (first | refine blk_drewN ?_ _ | refine blk_drew ?_ | refine blk_alloc ?_ _)); refine blk_put (cs := #[.slice Ao17 t623.length co17, .int .i64 t626, .slice Ao20 t627.length co20, .int .i64 t630, .int .i64 0, .slice none 0 0]) ?_ 4 _ rfl; (with_reducible repeat (first | refine blk_drewN ?_ _ | refine blk_drew ?_ | refine blk_alloc ?_ _)); refine blk_put (cs := #[.slice Ao17 t623.length co17, .int .i64 t626, .slice Ao20 t627.length co20, .int .i64 0, .int .i64 0, .slice none 0 0]) ?_ 3 _ rfl; (with_reducible repeat (first | refine blk_drewN ?_ _ | refine blk_drew ?_ | refine blk_alloc ?_ _)); refine blk_put (cs := #[.slice Ao17 t623.length co17, .int .i64 t626, .slice none 0 0, .int .i64 0, .int .i64 0, .slice none 0 0]) ?_ 2 _ rfl; (with_reducible repeat (first | refine blk_drewN ?_ _ | refine blk_drew ?_ | refine blk_alloc ?_ _)); refine blk_put (cs := #[.slice Ao17 t623.length co17, .int .i64 0, .slice none 0 0, .int .i64 0, .int .i64 0, .slice none 0 0]) ?_ 1 _ rfl; (with_reducible repeat (first | refine blk_drewN ?_ _ | refine blk_drew ?_ | refine blk_alloc ?_ _)); refine blk_put (cs := #[.slice none 0 0, .int .i64 0, .slice none 0 0, .int .i64 0, .int .i64 0, .slice none 0 0]) ?_ 0 _ rfl; (with_reducible repeat (first | refine blk_drewN ?_ _ | refine blk_drew ?_ | refine blk_alloc ?_ _)); exact BK607.out) Tryz.underlying30 rfl (by kernel_rfl)) rfl ?_
    exact ⟨_, _, _, eR, by (with_reducible repeat (first | apply Kd.R_alloc | apply Kd.R_drewN | apply Kd.R_drew)); exact Kd.R_mono (Kd.R_far (p := ⟨gb607, 5, none⟩) (Kd.R_far (p := ⟨gb607, 4, none⟩) (Kd.R_far (p := ⟨gb607, 3, none⟩) (Kd.R_far (p := ⟨gb607, 2, none⟩) (Kd.R_far (p := ⟨gb607, 1, none⟩) (Kd.R_far (p := ⟨gb607, 0, none⟩) (Kd.R_types HO625.out BK607.out (by decide)) (fun _ hk => hk.2) (.slice Ao17 t623.length co17)) (fun _ hk => hk.2) (.int .i64 t626)) (fun _ hk => hk.2) (.slice Ao20 t627.length co20)) (fun _ hk => hk.2) (.int .i64 t630)) (fun _ hk => hk.2) (.int .i64 t631)) (fun _ hk => hk.2) (.slice Ao21 t632.length co21)) (fun _ hk => trivial), by (with_reducible repeat (first | apply Kd.R_alloc | apply Kd.R_drewN | apply Kd.R_drew)); exact Kd.R_mono (Kd.R_far (p := ⟨gb607, 5, none⟩) (Kd.R_far (p := ⟨gb607, 4, none⟩) (Kd.R_far (p := ⟨gb607, 3, none⟩) (Kd.R_far (p := ⟨gb607, 2, none⟩) (Kd.R_far (p := ⟨gb607, 1, none⟩) (Kd.R_far (p := ⟨gb607, 0, none⟩) (Kd.R_types HO629.out BK607.out (by decide)) (fun _ hk => hk.2) (.slice Ao17 t623.length co17)) (fun _ hk => hk.2) (.int .i64 t626)) (fun _ hk => hk.2) (.slice Ao20 t627.length co20)) (fun _ hk => hk.2) (.int .i64 t630)) (fun _ hk => hk.2) (.int .i64 t631)) (fun _ hk => hk.2) (.slice Ao21 t632.length co21)) (fun _ hk => trivial), by (with_reducible repeat (first | apply Kd.R_alloc | apply Kd.R_drewN | apply Kd.R_drew)); exact Kd.R_mono (Kd.R_far (p := ⟨gb607, 5, none⟩) (Kd.R_far (p := ⟨gb607, 4, none⟩) (Kd.R_far (p := ⟨gb607, 3, none⟩) (Kd.R_far (p := ⟨gb607, 2, none⟩) (Kd.R_far (p := ⟨gb607, 1, none⟩) (Kd.R_far (p := ⟨gb607, 0, none⟩) (Kd.R_types HO634.out BK607.out (by decide)) (fun _ hk => hk.2) (.slice Ao17 t623.length co17)) (fun _ hk => hk.2) (.int .i64 t626)) (fun _ hk => hk.2) (.slice Ao20 t627.length co20)) (fun _ hk => hk.2) (.int .i64 t630)) (fun _ hk => hk.2) (.int .i64 t631)) (fun _ hk => hk.2) (.slice Ao21 t632.length co21)) (fun _ hk => trivial), oI56 HI0, oB56 HB, oKe HK⟩
end Go.Proofs.YtojiighpkppckaaGreatDoor.P


namespace Go.Proofs.YtojiighpkppckaaGreatDoor.P
open Go.RowKit Go.Proofs.YtojiighpkppckaaGreatDoorW.PrintWords Go.Proofs.YtojiighpkppckaaGreatDoorW.PrintLast Go.Proofs.YtojiighpkppckaaGreatDoorW.PrintMore
attribute [local go_sem] max2_int min2_int max_two min_two max_three min_three max_four min_four
set_option linter.unusedVariables false
set_option linter.unusedSimpArgs false
def spec_l39Act.f (s0_0 : List Int) (s0_1 : Int) (s0_2 : Int) : Option (Int × Int × Int × Int × Int × Int) := (spec_l01Below.f s0_0 s0_1 s0_2 12).bind fun bt638 => (if bt638.1 = 0 then ((spec_l01Below.f s0_0 bt638.2.1 bt638.2.2 40).bind fun bt641 => (some (2, wrap64 (bt641.1 - 5), 0, 0, bt641.2.1, bt641.2.2))) else (if bt638.1 = 1 then ((spec_l01PickInt.f s0_0 bt638.2.1 bt638.2.2 (([0, 0, 1] : List Int))).bind fun bt647 => ((spec_l01Below.f s0_0 bt647.2.1 bt647.2.2 6).bind fun bt650 => ((spec_l01Below.f s0_0 bt650.2.1 bt650.2.2 3).bind fun bt653 => (some (3, bt647.1, bt650.1, bt653.1, bt653.2.1, bt653.2.2))))) else (if bt638.1 = 2 then ((spec_l01Below.f s0_0 bt638.2.1 bt638.2.2 12).bind fun bt656 => ((spec_l01Below.f s0_0 bt656.2.1 bt656.2.2 2001).bind fun bt659 => (some (4, bt656.1, wrap64 (bt659.1 - 1000), 0, bt659.2.1, bt659.2.2)))) else (if bt638.1 = 3 then (some (5, 0, 0, 0, bt638.2.1, bt638.2.2)) else (if bt638.1 = 4 then (some (6, 0, 0, 0, bt638.2.1, bt638.2.2)) else (if bt638.1 = 5 then ((spec_l01Below.f s0_0 bt638.2.1 bt638.2.2 12).bind fun bt662 => (some (7, bt662.1, 0, 0, bt662.2.1, bt662.2.2))) else (some (1, 0, 0, 0, bt638.2.1, bt638.2.2))))))))
set_option maxHeartbeats 8000000 in
set_option maxRecDepth 100000 in
theorem spec_l39Act.calls (g : Nat) (s0_0 : List Int) (s0_1 : Int) (s0_2 : Int) (r1 : Int) (r2 : Int) (r3 : Int) (r4 : Int) (r5 : Int) (r6 : Int) (w0 w : World) (hI : IsS56 w0 w g s0_0 s0_1 s0_2) (hB : Below w0.heap.size w0 w) (h : spec_l39Act.f s0_0 s0_1 s0_2 = some (r1, r2, r3, r4, r5, r6)) :
    Calls Tryz.prog 20 #[.pointer (some ⟨g, 0, none⟩)] w fun e w' => e = .returned (.agg #[.int .i64 r1, .int .i64 r2, .int .i64 r3, .int .i64 r4]) ∧ IsS56 w0 w' g s0_0 r5 r6 ∧ Below w0.heap.size w0 w' ∧ KeepBut w w' g none := by
  have hu37 := Tryz.underlying37
  have HI0 := A_ hI
  have HK := A_ (KeepBut.refl w g none)
  have HL := A_ hB.size
  clear hI
  have HW0 := A_ hB.size
  have HB := A_ hB
  clear hB
  have H : ((spec_l01Below.f s0_0 s0_1 s0_2 12).bind fun bt638 => (if bt638.1 = 0 then ((spec_l01Below.f s0_0 bt638.2.1 bt638.2.2 40).bind fun bt641 => (some (2, wrap64 (bt641.1 - 5), 0, 0, bt641.2.1, bt641.2.2))) else (if bt638.1 = 1 then ((spec_l01PickInt.f s0_0 bt638.2.1 bt638.2.2 (([0, 0, 1] : List Int))).bind fun bt647 => ((spec_l01Below.f s0_0 bt647.2.1 bt647.2.2 6).bind fun bt650 => ((spec_l01Below.f s0_0 bt650.2.1 bt650.2.2 3).bind fun bt653 => (some (3, bt647.1, bt650.1, bt653.1, bt653.2.1, bt653.2.2))))) else (if bt638.1 = 2 then ((spec_l01Below.f s0_0 bt638.2.1 bt638.2.2 12).bind fun bt656 => ((spec_l01Below.f s0_0 bt656.2.1 bt656.2.2 2001).bind fun bt659 => (some (4, bt656.1, wrap64 (bt659.1 - 1000), 0, bt659.2.1, bt659.2.2)))) else (if bt638.1 = 3 then (some (5, 0, 0, 0, bt638.2.1, bt638.2.2)) else (if bt638.1 = 4 then (some (6, 0, 0, 0, bt638.2.1, bt638.2.2)) else (if bt638.1 = 5 then ((spec_l01Below.f s0_0 bt638.2.1 bt638.2.2 12).bind fun bt662 => (some (7, bt662.1, 0, 0, bt662.2.1, bt662.2.2))) else (some (1, 0, 0, 0, bt638.2.1, bt638.2.2))))))))) = some (r1, r2, r3, r4, r5, r6) := h
  clear h
  replace H := Option.bind_eq_some_iff.mp H
  obtain ⟨⟨t638, t639, t640⟩, A20, H⟩ := H
  (try dsimp only at H)
  have A2 := A_ A20
  clear A20
  by_cases c3 : t638 = 0
  · rw [if_pos c3] at H
    have c3b0 : (t638 == 0) = true := beq_iff_eq.mpr c3
    have c3b1 : (t638 != 0) = false := bne_eq_false_iff_eq.mpr c3
    clear c3
    replace H := Option.bind_eq_some_iff.mp H
    obtain ⟨⟨t641, t642, t643⟩, A40, H⟩ := H
    (try dsimp only at H)
    have A4 := A_ A40
    clear A40
    simp only [Option.some.injEq, Prod.mk.injEq] at H
    obtain ⟨rfl, rfl, rfl, rfl, rfl, rfl⟩ := H
    go_enter Tryz.func20, Tryz.ntmps20
    go_wp2_with (first | ((with_reducible refine gate_dst (N := 2) rfl ?_); refine bX (N := 2) (cs := #[.int .i64 0, .int .i64 0, .int .i64 0, .int .i64 0]) (t := 37) ?_; intro gb637 hg w5 hbox hb; have n0_ := A_ (IsS56.below (oI56 HI0) hb); have n1_ := A_ (KeepBut.trans (oKe HK) (KeepBut.of_below hb g none) (.inl rfl)); have n2_ := A_ (below_step (oB56 HB) hb); have n3_ := A_ (hbox); have n4_ := A_ ((by rw [hg]; exact (keep_size (w := w) (g := g) (row := none) (by repeat (first | (with_reducible first | exact HK.out | apply KeepBut.set_ | apply keep_drewN | apply keep_drew | apply keep_alloc) | exact HK.out))) : w.heap.size ≤ gb637)); have n5_ := A_ ((Nat.le_trans HW0.out (by rw [hg]; exact (keep_size (w := w) (g := g) (row := none) (by repeat (first | (with_reducible first | exact HK.out | apply KeepBut.set_ | apply keep_drewN | apply keep_drew | apply keep_alloc) | exact HK.out))) : w.heap.size ≤ gb637) : w0.heap.size ≤ gb637)); have n6_ := A_ ((by rw [hg]; exact Nat.ne_of_lt (IsS56.lt (show IsS56 w0 _ g s0_0 s0_1 s0_2 from oI56 HI0)) : g ≠ gb637)); have n7_ := A_ ((by rw [hg]; exact Nat.ne_of_gt (IsS56.lt (show IsS56 w0 _ g s0_0 s0_1 s0_2 from oI56 HI0)) : gb637 ≠ g)); clear HI0; clear HK; clear HB; have HI0 := n0_; have HK := n1_; have HB := n2_; have BK637 := n3_; have GW637 := n4_; have GE637 := n5_; have NB0_637 := n6_; have NB637_0 := n7_; clear n0_ n1_ n2_ n3_ n4_ n5_ n6_ n7_; clear hb hbox hg) | ((with_reducible refine gate_callee (f := 19) rfl ?_); refine gL (some 4) Tryz.func19 #[.pointer (some ⟨g, 0, none⟩), .int .i64 12] ?_; (with_reducible refine (spec_l01Below.calls g s0_0 s0_1 s0_2 12 t638 t639 t640 w0 _ ?side1 ?side2 A2.out).mono ?_); (case side1 => exact oI56 HI0); (case side2 => exact oB56 HB); rintro e w6 ⟨rfl, hi, hb, hk⟩; refine ⟨_, rfl, ?_⟩; have n0_ := A_ (KeepBut.blk hk (g' := gb637) (o := .cells #[.int .i64 0, .int .i64 0, .int .i64 0, .int .i64 0] 37 (0, 0)) (oK BK637) NB637_0.out (by simp)); have n1_ := A_ (KeepBut.trans (oKe HK) hk (.inl rfl)); have n2_ := A_ (hb); have n3_ := A_ (hi); clear BK637; clear HK; clear HB; clear HI0; have BK637 := n0_; have HK := n1_; have HB := n2_; have HI0 := n3_; clear n0_ n1_ n2_ n3_; (try clear hb); (try clear hb2); (try clear hk); (try clear hi)) | ((with_reducible refine gate_callee (f := 19) rfl ?_); refine gL (some 8) Tryz.func19 #[.pointer (some ⟨g, 0, none⟩), .int .i64 40] ?_; (with_reducible refine (spec_l01Below.calls g s0_0 t639 t640 40 t641 t642 t643 w0 _ ?side1 ?side2 A4.out).mono ?_); (case side1 => exact oI56 HI0); (case side2 => exact oB56 HB); rintro e w7 ⟨rfl, hi, hb, hk⟩; refine ⟨_, rfl, ?_⟩; have n0_ := A_ (KeepBut.blk hk (g' := gb637) (o := .cells #[.int .i64 0, .int .i64 0, .int .i64 0, .int .i64 0] 37 (0, 0)) (oK BK637) NB637_0.out (by simp)); have n1_ := A_ (KeepBut.trans (oKe HK) hk (.inl rfl)); have n2_ := A_ (hb); have n3_ := A_ (hi); clear BK637; clear HK; clear HB; clear HI0; have BK637 := n0_; have HK := n1_; have HB := n2_; have HI0 := n3_; clear n0_ n1_ n2_ n3_; (try clear hb); (try clear hb2); (try clear hk); (try clear hi); have hnb8 := NB637_0.out; have hnc8 := NB0_637.out; have hcz9_0 := cz BK637 0; have hcz9_1 := cz BK637 1; have hcz9_2 := cz BK637 2; have hcz9_3 := cz BK637 3; have hfz9_0 := blk_frozen BK637.out 0; have hfz9_1 := blk_frozen BK637.out 1; have hfz9_2 := blk_frozen BK637.out 2; have hfz9_3 := blk_frozen BK637.out 3))
    refine bodyPost_ret (results_cell_row rfl _ _ gb637 37 #[.int .i64 2, .int .i64 (wrap64 (t641 - 5)), .int .i64 0, .int .i64 0] (0, 0) _ rfl (by (with_reducible repeat (first | refine blk_drewN ?_ _ | refine blk_drew ?_ | refine blk_alloc ?_ _)); refine blk_put (cs := #[.int .i64 2, .int .i64 (wrap64 (t641 - 5)), .int .i64 0, .int .i64 0]) ?_ 3 _ rfl; (with_reducible repeat (first | refine blk_drewN ?_ _ | refine blk_drew ?_ | refine blk_alloc ?_ _)); refine blk_put (cs := #[.int .i64 2, .int .i64 (wrap64 (t641 - 5)), .int .i64 0, .int .i64 0]) ?_ 2 _ rfl; (with_reducible repeat (first | refine blk_drewN ?_ _ | refine blk_drew ?_ | refine blk_alloc ?_ _)); refine blk_put (cs := #[.int .i64 2, .int .i64 0, .int .i64 0, .int .i64 0]) ?_ 1 _ rfl; (with_reducible repeat (first | refine blk_drewN ?_ _ | refine blk_drew ?_ | refine blk_alloc ?_ _)); refine blk_put (cs := #[.int .i64 0, .int .i64 0, .int .i64 0, .int .i64 0]) ?_ 0 _ rfl; (with_reducible repeat (first | refine blk_drewN ?_ _ | refine blk_drew ?_ | refine blk_alloc ?_ _)); exact BK637.out) Tryz.underlying37 rfl (by kernel_rfl)) rfl ?_
    exact ⟨eR, oI56 HI0, oB56 HB, oKe HK⟩
  · rw [if_neg c3] at H
    have c3b0 : (t638 == 0) = false := beq_eq_false_iff_ne.mpr c3
    have c3b1 : (t638 != 0) = true := bne_iff_ne.mpr c3
    by_cases c10 : t638 = 1
    · rw [if_pos c10] at H
      have c10b0 : (t638 == 1) = true := beq_iff_eq.mpr c10
      have c10b1 : (t638 != 1) = false := bne_eq_false_iff_eq.mpr c10
      clear c10
      obtain ⟨y644, hy644⟩ : ∃ y_ : List Int, y_ = (([0, 0, 1] : List Int)) := ⟨_, rfl⟩
      replace H : ((spec_l01PickInt.f s0_0 t639 t640 y644).bind fun bt647 => ((spec_l01Below.f s0_0 bt647.2.1 bt647.2.2 6).bind fun bt650 => ((spec_l01Below.f s0_0 bt650.2.1 bt650.2.2 3).bind fun bt653 => (some (3, bt647.1, bt650.1, bt653.1, bt653.2.1, bt653.2.2))))) = some (r1, r2, r3, r4, r5, r6) := by first | (rw [hy644]; with_reducible exact H) | (have H2_ := (Option.bind_some _ _).symm.trans H; rw [hy644]; with_reducible exact H2_) | (have H2_ := (Option.bind_some _ _).symm.trans H; with_reducible exact H2_) | with_reducible exact H | (rw [hy644]; exact H) | exact H
      have Ny644 := A_ hy644
      clear hy644
      replace H := Option.bind_eq_some_iff.mp H
      obtain ⟨⟨t647, t648, t649⟩, A110, H⟩ := H
      (try dsimp only at H)
      have A11 := A_ A110
      clear A110
      replace H := Option.bind_eq_some_iff.mp H
      obtain ⟨⟨t650, t651, t652⟩, A120, H⟩ := H
      (try dsimp only at H)
      have A12 := A_ A120
      clear A120
      replace H := Option.bind_eq_some_iff.mp H
      obtain ⟨⟨t653, t654, t655⟩, A130, H⟩ := H
      (try dsimp only at H)
      have A13 := A_ A130
      clear A130
      simp only [Option.some.injEq, Prod.mk.injEq] at H
      obtain ⟨rfl, rfl, rfl, rfl, rfl, rfl⟩ := H
      go_enter Tryz.func20, Tryz.ntmps20
      go_wp2_with (first | ((with_reducible refine gate_dst (N := 2) rfl ?_); refine bX (N := 2) (cs := #[.int .i64 0, .int .i64 0, .int .i64 0, .int .i64 0]) (t := 37) ?_; intro gb637 hg w14 hbox hb; have n0_ := A_ (IsS56.below (oI56 HI0) hb); have n1_ := A_ (KeepBut.trans (oKe HK) (KeepBut.of_below hb g none) (.inl rfl)); have n2_ := A_ (below_step (oB56 HB) hb); have n3_ := A_ (hbox); have n4_ := A_ ((by rw [hg]; exact (keep_size (w := w) (g := g) (row := none) (by repeat (first | (with_reducible first | exact HK.out | apply KeepBut.set_ | apply keep_drewN | apply keep_drew | apply keep_alloc) | exact HK.out))) : w.heap.size ≤ gb637)); have n5_ := A_ ((Nat.le_trans HW0.out (by rw [hg]; exact (keep_size (w := w) (g := g) (row := none) (by repeat (first | (with_reducible first | exact HK.out | apply KeepBut.set_ | apply keep_drewN | apply keep_drew | apply keep_alloc) | exact HK.out))) : w.heap.size ≤ gb637) : w0.heap.size ≤ gb637)); have n6_ := A_ ((by rw [hg]; exact Nat.ne_of_lt (IsS56.lt (show IsS56 w0 _ g s0_0 s0_1 s0_2 from oI56 HI0)) : g ≠ gb637)); have n7_ := A_ ((by rw [hg]; exact Nat.ne_of_gt (IsS56.lt (show IsS56 w0 _ g s0_0 s0_1 s0_2 from oI56 HI0)) : gb637 ≠ g)); clear HI0; clear HK; clear HB; have HI0 := n0_; have HK := n1_; have HB := n2_; have BK637 := n3_; have GW637 := n4_; have GE637 := n5_; have NB0_637 := n6_; have NB637_0 := n7_; clear n0_ n1_ n2_ n3_ n4_ n5_ n6_ n7_; clear hb hbox hg) | ((with_reducible refine gate_callee (f := 19) rfl ?_); refine gL (some 4) Tryz.func19 #[.pointer (some ⟨g, 0, none⟩), .int .i64 12] ?_; (with_reducible refine (spec_l01Below.calls g s0_0 s0_1 s0_2 12 t638 t639 t640 w0 _ ?side1 ?side2 A2.out).mono ?_); (case side1 => exact oI56 HI0); (case side2 => exact oB56 HB); rintro e w15 ⟨rfl, hi, hb, hk⟩; refine ⟨_, rfl, ?_⟩; have n0_ := A_ (KeepBut.blk hk (g' := gb637) (o := .cells #[.int .i64 0, .int .i64 0, .int .i64 0, .int .i64 0] 37 (0, 0)) (oK BK637) NB637_0.out (by simp)); have n1_ := A_ (KeepBut.trans (oKe HK) hk (.inl rfl)); have n2_ := A_ (hb); have n3_ := A_ (hi); clear BK637; clear HK; clear HB; clear HI0; have BK637 := n0_; have HK := n1_; have HB := n2_; have HI0 := n3_; clear n0_ n1_ n2_ n3_; (try clear hb); (try clear hb2); (try clear hk); (try clear hi)) | ((with_reducible refine gate_dst (N := 14) rfl ?_); refine Kd.R_lit (Kd.int .i64) _ 3 ?hg (N := 14) ?hd (xs := ([0, 0, 1] : List Int)) (inner := [.int .i64 0, .int .i64 0, .int .i64 1]) (ok := fun _ => True) (okp := fun _ => True) ?hr ?hp (fun _ hk => hk) trivial (Below.refl _ _) (Nat.le_refl _) (by simp) ?_; (case hd => rfl); (case hg => rfl); (case hr => first | (go_simp; done) | (go_simp; rfl)); (case hp => exact (Reps.one (show Kd.M (Kd.int .i64) _ _ _ 0 [.int .i64 0] from rfl) (Reps.one (show Kd.M (Kd.int .i64) _ _ _ 0 [.int .i64 0] from rfl) (Reps.one (show Kd.M (Kd.int .i64) _ _ _ 1 [.int .i64 1] from rfl) (Reps.none _ _))))); intro v645 w16 ho17 hb hg_ hnew_; clear hg_ hnew_; (first | rw [← Ny644.out] at ho17 | (simp only [Int.reduceToNat] at ho17; rw [← Ny644.out] at ho17)); have n0_ := A_ (Kd.R_lower ho17 (keep_size (w := w) (g := g) (row := none) (by repeat (first | (with_reducible first | exact HK.out | apply KeepBut.set_ | apply keep_drewN | apply keep_drew | apply keep_alloc | refine keep_far ?_ GW637.out _) | exact HK.out)))); have n1_ := A_ (IsS56.below (oI56 HI0) hb); have n2_ := A_ (bb BK637 hb); have n3_ := A_ (KeepBut.trans (oKe HK) (KeepBut.of_below hb g none) (.inl rfl)); have n4_ := A_ (below_step (oB56 HB) hb); clear HI0; clear BK637; clear HK; clear HB; have HO646 := n0_; have HI0 := n1_; have BK637 := n2_; have HK := n3_; have HB := n4_; clear n0_ n1_ n2_ n3_ n4_; clear hb ho17; obtain ⟨Ao18, co18, eo18⟩ := Kd.R_slice HO646.out; subst eo18) | ((with_reducible refine gate_callee (f := 39) rfl ?_); refine gL (some 15) Tryz.func39 #[.pointer (some ⟨g, 0, none⟩), .slice Ao18 y644.length co18] ?_; (with_reducible refine (spec_l01PickInt.calls g s0_0 t639 t640 _ _ y644 t647 t648 t649 w0 _ ?side1 ?side2 ?side3 ?side4 ?side5 A11.out).mono ?_); (case side1 => exact oI56 HI0); (case side2 => exact oB56 HB); (case side3 => repeat (first | exact (Kd.R_reads' HO646.out).2.2 | (with_reducible refine Kd.C_alloc ?_ _) | (with_reducible refine Kd.C_drewN ?_ _) | (with_reducible refine Kd.C_drew ?_))); (case side4 => exact (Kd.R_reads' HO646.out).2.1); (case side5 => exact far_slice (IsS56.own_ne HI0.out HO646.out (by decide))); rintro e w19 ⟨rfl, hi, hb, hk⟩; refine ⟨_, rfl, ?_⟩; have n0_ := A_ (KeepBut.blk hk (g' := gb637) (o := .cells #[.int .i64 0, .int .i64 0, .int .i64 0, .int .i64 0] 37 (0, 0)) (oK BK637) NB637_0.out (by simp)); have n1_ := A_ (Kd.R_mono (Kd.R_keep (IsS56.apart (show IsS56 w0 _ g s0_0 t639 t640 from oI56 HI0) (oR HO646) (by decide)) hk (fun _ h => h.2)) (fun _ h => h.1)); have n2_ := A_ (KeepBut.trans (oKe HK) hk (.inl rfl)); have n3_ := A_ (hb); have n4_ := A_ (hi); clear BK637; clear HO646; clear HK; clear HB; clear HI0; have BK637 := n0_; have HO646 := n1_; have HK := n2_; have HB := n3_; have HI0 := n4_; clear n0_ n1_ n2_ n3_ n4_; (try clear hb); (try clear hb2); (try clear hk); (try clear hi)) | ((with_reducible refine gate_callee (f := 19) rfl ?_); refine gL (some 17) Tryz.func19 #[.pointer (some ⟨g, 0, none⟩), .int .i64 6] ?_; (with_reducible refine (spec_l01Below.calls g s0_0 t648 t649 6 t650 t651 t652 w0 _ ?side1 ?side2 A12.out).mono ?_); (case side1 => exact oI56 HI0); (case side2 => exact oB56 HB); rintro e w20 ⟨rfl, hi, hb, hk⟩; refine ⟨_, rfl, ?_⟩; have n0_ := A_ (KeepBut.blk hk (g' := gb637) (o := .cells #[.int .i64 0, .int .i64 0, .int .i64 0, .int .i64 0] 37 (0, 0)) (oK BK637) NB637_0.out (by simp)); have n1_ := A_ (Kd.R_mono (Kd.R_keep (IsS56.apart (show IsS56 w0 _ g s0_0 t648 t649 from oI56 HI0) (oR HO646) (by decide)) hk (fun _ h => h.2)) (fun _ h => h.1)); have n2_ := A_ (KeepBut.trans (oKe HK) hk (.inl rfl)); have n3_ := A_ (hb); have n4_ := A_ (hi); clear BK637; clear HO646; clear HK; clear HB; clear HI0; have BK637 := n0_; have HO646 := n1_; have HK := n2_; have HB := n3_; have HI0 := n4_; clear n0_ n1_ n2_ n3_ n4_; (try clear hb); (try clear hb2); (try clear hk); (try clear hi)) | ((with_reducible refine gate_callee (f := 19) rfl ?_); refine gL (some 19) Tryz.func19 #[.pointer (some ⟨g, 0, none⟩), .int .i64 3] ?_; (with_reducible refine (spec_l01Below.calls g s0_0 t651 t652 3 t653 t654 t655 w0 _ ?side1 ?side2 A13.out).mono ?_); (case side1 => exact oI56 HI0); (case side2 => exact oB56 HB); rintro e w21 ⟨rfl, hi, hb, hk⟩; refine ⟨_, rfl, ?_⟩; have n0_ := A_ (KeepBut.blk hk (g' := gb637) (o := .cells #[.int .i64 0, .int .i64 0, .int .i64 0, .int .i64 0] 37 (0, 0)) (oK BK637) NB637_0.out (by simp)); have n1_ := A_ (Kd.R_mono (Kd.R_keep (IsS56.apart (show IsS56 w0 _ g s0_0 t651 t652 from oI56 HI0) (oR HO646) (by decide)) hk (fun _ h => h.2)) (fun _ h => h.1)); have n2_ := A_ (KeepBut.trans (oKe HK) hk (.inl rfl)); have n3_ := A_ (hb); have n4_ := A_ (hi); clear BK637; clear HO646; clear HK; clear HB; clear HI0; have BK637 := n0_; have HO646 := n1_; have HK := n2_; have HB := n3_; have HI0 := n4_; clear n0_ n1_ n2_ n3_ n4_; (try clear hb); (try clear hb2); (try clear hk); (try clear hi); have hnb22 := NB637_0.out; have hnc22 := NB0_637.out; have hcz23_0 := cz BK637 0; have hcz23_1 := cz BK637 1; have hcz23_2 := cz BK637 2; have hcz23_3 := cz BK637 3; have hfz23_0 := blk_frozen BK637.out 0; have hfz23_1 := blk_frozen BK637.out 1; have hfz23_2 := blk_frozen BK637.out 2; have hfz23_3 := blk_frozen BK637.out 3))
      refine bodyPost_ret (results_cell_row rfl _ _ gb637 37 #[.int .i64 3, .int .i64 t647, .int .i64 t650, .int .i64 t653] (0, 0) _ rfl (by (with_reducible repeat (first | refine blk_drewN ?_ _ | refine blk_drew ?_ | refine blk_alloc ?_ _)); refine blk_put (cs := #[.int .i64 3, .int .i64 t647, .int .i64 t650, .int .i64 0]) ?_ 3 _ rfl; (with_reducible repeat (first | refine blk_drewN ?_ _ | refine blk_drew ?_ | refine blk_alloc ?_ _)); refine blk_put (cs := #[.int .i64 3, .int .i64 t647, .int .i64 0, .int .i64 0]) ?_ 2 _ rfl; (with_reducible repeat (first | refine blk_drewN ?_ _ | refine blk_drew ?_ | refine blk_alloc ?_ _)); refine blk_put (cs := #[.int .i64 3, .int .i64 0, .int .i64 0, .int .i64 0]) ?_ 1 _ rfl; (with_reducible repeat (first | refine blk_drewN ?_ _ | refine blk_drew ?_ | refine blk_alloc ?_ _)); refine blk_put (cs := #[.int .i64 0, .int .i64 0, .int .i64 0, .int .i64 0]) ?_ 0 _ rfl; (with_reducible repeat (first | refine blk_drewN ?_ _ | refine blk_drew ?_ | refine blk_alloc ?_ _)); exact BK637.out) Tryz.underlying37 rfl (by kernel_rfl)) rfl ?_
      exact ⟨eR, oI56 HI0, oB56 HB, oKe HK⟩
    · rw [if_neg c10] at H
      have c10b0 : (t638 == 1) = false := beq_eq_false_iff_ne.mpr c10
      have c10b1 : (t638 != 1) = true := bne_iff_ne.mpr c10
      by_cases c24 : t638 = 2
      · rw [if_pos c24] at H
        have c24b0 : (t638 == 2) = true := beq_iff_eq.mpr c24
        have c24b1 : (t638 != 2) = false := bne_eq_false_iff_eq.mpr c24
        clear c24
        replace H := Option.bind_eq_some_iff.mp H
        obtain ⟨⟨t656, t657, t658⟩, A250, H⟩ := H
        (try dsimp only at H)
        have A25 := A_ A250
        clear A250
        replace H := Option.bind_eq_some_iff.mp H
        obtain ⟨⟨t659, t660, t661⟩, A260, H⟩ := H
        (try dsimp only at H)
        have A26 := A_ A260
        clear A260
        simp only [Option.some.injEq, Prod.mk.injEq] at H
        obtain ⟨rfl, rfl, rfl, rfl, rfl, rfl⟩ := H
        go_enter Tryz.func20, Tryz.ntmps20
        go_wp2_with (first | ((with_reducible refine gate_dst (N := 2) rfl ?_); refine bX (N := 2) (cs := #[.int .i64 0, .int .i64 0, .int .i64 0, .int .i64 0]) (t := 37) ?_; intro gb637 hg w27 hbox hb; have n0_ := A_ (IsS56.below (oI56 HI0) hb); have n1_ := A_ (KeepBut.trans (oKe HK) (KeepBut.of_below hb g none) (.inl rfl)); have n2_ := A_ (below_step (oB56 HB) hb); have n3_ := A_ (hbox); have n4_ := A_ ((by rw [hg]; exact (keep_size (w := w) (g := g) (row := none) (by repeat (first | (with_reducible first | exact HK.out | apply KeepBut.set_ | apply keep_drewN | apply keep_drew | apply keep_alloc) | exact HK.out))) : w.heap.size ≤ gb637)); have n5_ := A_ ((Nat.le_trans HW0.out (by rw [hg]; exact (keep_size (w := w) (g := g) (row := none) (by repeat (first | (with_reducible first | exact HK.out | apply KeepBut.set_ | apply keep_drewN | apply keep_drew | apply keep_alloc) | exact HK.out))) : w.heap.size ≤ gb637) : w0.heap.size ≤ gb637)); have n6_ := A_ ((by rw [hg]; exact Nat.ne_of_lt (IsS56.lt (show IsS56 w0 _ g s0_0 s0_1 s0_2 from oI56 HI0)) : g ≠ gb637)); have n7_ := A_ ((by rw [hg]; exact Nat.ne_of_gt (IsS56.lt (show IsS56 w0 _ g s0_0 s0_1 s0_2 from oI56 HI0)) : gb637 ≠ g)); clear HI0; clear HK; clear HB; have HI0 := n0_; have HK := n1_; have HB := n2_; have BK637 := n3_; have GW637 := n4_; have GE637 := n5_; have NB0_637 := n6_; have NB637_0 := n7_; clear n0_ n1_ n2_ n3_ n4_ n5_ n6_ n7_; clear hb hbox hg) | ((with_reducible refine gate_callee (f := 19) rfl ?_); refine gL (some 4) Tryz.func19 #[.pointer (some ⟨g, 0, none⟩), .int .i64 12] ?_; (with_reducible refine (spec_l01Below.calls g s0_0 s0_1 s0_2 12 t638 t639 t640 w0 _ ?side1 ?side2 A2.out).mono ?_); (case side1 => exact oI56 HI0); (case side2 => exact oB56 HB); rintro e w28 ⟨rfl, hi, hb, hk⟩; refine ⟨_, rfl, ?_⟩; have n0_ := A_ (KeepBut.blk hk (g' := gb637) (o := .cells #[.int .i64 0, .int .i64 0, .int .i64 0, .int .i64 0] 37 (0, 0)) (oK BK637) NB637_0.out (by simp)); have n1_ := A_ (KeepBut.trans (oKe HK) hk (.inl rfl)); have n2_ := A_ (hb); have n3_ := A_ (hi); clear BK637; clear HK; clear HB; clear HI0; have BK637 := n0_; have HK := n1_; have HB := n2_; have HI0 := n3_; clear n0_ n1_ n2_ n3_; (try clear hb); (try clear hb2); (try clear hk); (try clear hi)) | ((with_reducible refine gate_callee (f := 19) rfl ?_); refine gL (some 24) Tryz.func19 #[.pointer (some ⟨g, 0, none⟩), .int .i64 12] ?_; (with_reducible refine (spec_l01Below.calls g s0_0 t639 t640 12 t656 t657 t658 w0 _ ?side1 ?side2 A25.out).mono ?_); (case side1 => exact oI56 HI0); (case side2 => exact oB56 HB); rintro e w29 ⟨rfl, hi, hb, hk⟩; refine ⟨_, rfl, ?_⟩; have n0_ := A_ (KeepBut.blk hk (g' := gb637) (o := .cells #[.int .i64 0, .int .i64 0, .int .i64 0, .int .i64 0] 37 (0, 0)) (oK BK637) NB637_0.out (by simp)); have n1_ := A_ (KeepBut.trans (oKe HK) hk (.inl rfl)); have n2_ := A_ (hb); have n3_ := A_ (hi); clear BK637; clear HK; clear HB; clear HI0; have BK637 := n0_; have HK := n1_; have HB := n2_; have HI0 := n3_; clear n0_ n1_ n2_ n3_; (try clear hb); (try clear hb2); (try clear hk); (try clear hi)) | ((with_reducible refine gate_callee (f := 19) rfl ?_); refine gL (some 26) Tryz.func19 #[.pointer (some ⟨g, 0, none⟩), .int .i64 2001] ?_; (with_reducible refine (spec_l01Below.calls g s0_0 t657 t658 2001 t659 t660 t661 w0 _ ?side1 ?side2 A26.out).mono ?_); (case side1 => exact oI56 HI0); (case side2 => exact oB56 HB); rintro e w30 ⟨rfl, hi, hb, hk⟩; refine ⟨_, rfl, ?_⟩; have n0_ := A_ (KeepBut.blk hk (g' := gb637) (o := .cells #[.int .i64 0, .int .i64 0, .int .i64 0, .int .i64 0] 37 (0, 0)) (oK BK637) NB637_0.out (by simp)); have n1_ := A_ (KeepBut.trans (oKe HK) hk (.inl rfl)); have n2_ := A_ (hb); have n3_ := A_ (hi); clear BK637; clear HK; clear HB; clear HI0; have BK637 := n0_; have HK := n1_; have HB := n2_; have HI0 := n3_; clear n0_ n1_ n2_ n3_; (try clear hb); (try clear hb2); (try clear hk); (try clear hi); have hnb31 := NB637_0.out; have hnc31 := NB0_637.out; have hcz32_0 := cz BK637 0; have hcz32_1 := cz BK637 1; have hcz32_2 := cz BK637 2; have hcz32_3 := cz BK637 3; have hfz32_0 := blk_frozen BK637.out 0; have hfz32_1 := blk_frozen BK637.out 1; have hfz32_2 := blk_frozen BK637.out 2; have hfz32_3 := blk_frozen BK637.out 3))
        refine bodyPost_ret (results_cell_row rfl _ _ gb637 37 #[.int .i64 4, .int .i64 t656, .int .i64 (wrap64 (t659 - 1000)), .int .i64 0] (0, 0) _ rfl (by (with_reducible repeat (first | refine blk_drewN ?_ _ | refine blk_drew ?_ | refine blk_alloc ?_ _)); refine blk_put (cs := #[.int .i64 4, .int .i64 t656, .int .i64 (wrap64 (t659 - 1000)), .int .i64 0]) ?_ 3 _ rfl; (with_reducible repeat (first | refine blk_drewN ?_ _ | refine blk_drew ?_ | refine blk_alloc ?_ _)); refine blk_put (cs := #[.int .i64 4, .int .i64 t656, .int .i64 0, .int .i64 0]) ?_ 2 _ rfl; (with_reducible repeat (first | refine blk_drewN ?_ _ | refine blk_drew ?_ | refine blk_alloc ?_ _)); refine blk_put (cs := #[.int .i64 4, .int .i64 0, .int .i64 0, .int .i64 0]) ?_ 1 _ rfl; (with_reducible repeat (first | refine blk_drewN ?_ _ | refine blk_drew ?_ | refine blk_alloc ?_ _)); refine blk_put (cs := #[.int .i64 0, .int .i64 0, .int .i64 0, .int .i64 0]) ?_ 0 _ rfl; (with_reducible repeat (first | refine blk_drewN ?_ _ | refine blk_drew ?_ | refine blk_alloc ?_ _)); exact BK637.out) Tryz.underlying37 rfl (by kernel_rfl)) rfl ?_
        exact ⟨eR, oI56 HI0, oB56 HB, oKe HK⟩
      · rw [if_neg c24] at H
        have c24b0 : (t638 == 2) = false := beq_eq_false_iff_ne.mpr c24
        have c24b1 : (t638 != 2) = true := bne_iff_ne.mpr c24
        by_cases c33 : t638 = 3
        · rw [if_pos c33] at H
          have c33b0 : (t638 == 3) = true := beq_iff_eq.mpr c33
          have c33b1 : (t638 != 3) = false := bne_eq_false_iff_eq.mpr c33
          clear c33
          simp only [Option.some.injEq, Prod.mk.injEq] at H
          obtain ⟨rfl, rfl, rfl, rfl, rfl, rfl⟩ := H
          go_enter Tryz.func20, Tryz.ntmps20
          go_wp2_with (first | ((with_reducible refine gate_dst (N := 2) rfl ?_); refine bX (N := 2) (cs := #[.int .i64 0, .int .i64 0, .int .i64 0, .int .i64 0]) (t := 37) ?_; intro gb637 hg w34 hbox hb; have n0_ := A_ (IsS56.below (oI56 HI0) hb); have n1_ := A_ (KeepBut.trans (oKe HK) (KeepBut.of_below hb g none) (.inl rfl)); have n2_ := A_ (below_step (oB56 HB) hb); have n3_ := A_ (hbox); have n4_ := A_ ((by rw [hg]; exact (keep_size (w := w) (g := g) (row := none) (by repeat (first | (with_reducible first | exact HK.out | apply KeepBut.set_ | apply keep_drewN | apply keep_drew | apply keep_alloc) | exact HK.out))) : w.heap.size ≤ gb637)); have n5_ := A_ ((Nat.le_trans HW0.out (by rw [hg]; exact (keep_size (w := w) (g := g) (row := none) (by repeat (first | (with_reducible first | exact HK.out | apply KeepBut.set_ | apply keep_drewN | apply keep_drew | apply keep_alloc) | exact HK.out))) : w.heap.size ≤ gb637) : w0.heap.size ≤ gb637)); have n6_ := A_ ((by rw [hg]; exact Nat.ne_of_lt (IsS56.lt (show IsS56 w0 _ g s0_0 s0_1 s0_2 from oI56 HI0)) : g ≠ gb637)); have n7_ := A_ ((by rw [hg]; exact Nat.ne_of_gt (IsS56.lt (show IsS56 w0 _ g s0_0 s0_1 s0_2 from oI56 HI0)) : gb637 ≠ g)); clear HI0; clear HK; clear HB; have HI0 := n0_; have HK := n1_; have HB := n2_; have BK637 := n3_; have GW637 := n4_; have GE637 := n5_; have NB0_637 := n6_; have NB637_0 := n7_; clear n0_ n1_ n2_ n3_ n4_ n5_ n6_ n7_; clear hb hbox hg) | ((with_reducible refine gate_callee (f := 19) rfl ?_); refine gL (some 4) Tryz.func19 #[.pointer (some ⟨g, 0, none⟩), .int .i64 12] ?_; (with_reducible refine (spec_l01Below.calls g s0_0 s0_1 s0_2 12 t638 t639 t640 w0 _ ?side1 ?side2 A2.out).mono ?_); (case side1 => exact oI56 HI0); (case side2 => exact oB56 HB); rintro e w35 ⟨rfl, hi, hb, hk⟩; refine ⟨_, rfl, ?_⟩; have n0_ := A_ (KeepBut.blk hk (g' := gb637) (o := .cells #[.int .i64 0, .int .i64 0, .int .i64 0, .int .i64 0] 37 (0, 0)) (oK BK637) NB637_0.out (by simp)); have n1_ := A_ (KeepBut.trans (oKe HK) hk (.inl rfl)); have n2_ := A_ (hb); have n3_ := A_ (hi); clear BK637; clear HK; clear HB; clear HI0; have BK637 := n0_; have HK := n1_; have HB := n2_; have HI0 := n3_; clear n0_ n1_ n2_ n3_; (try clear hb); (try clear hb2); (try clear hk); (try clear hi); have hnb36 := NB637_0.out; have hnc36 := NB0_637.out; have hcz37_0 := cz BK637 0; have hcz37_1 := cz BK637 1; have hcz37_2 := cz BK637 2; have hcz37_3 := cz BK637 3; have hfz37_0 := blk_frozen BK637.out 0; have hfz37_1 := blk_frozen BK637.out 1; have hfz37_2 := blk_frozen BK637.out 2; have hfz37_3 := blk_frozen BK637.out 3))
          refine bodyPost_ret (results_cell_row rfl _ _ gb637 37 #[.int .i64 5, .int .i64 0, .int .i64 0, .int .i64 0] (0, 0) _ rfl (by (with_reducible repeat (first | refine blk_drewN ?_ _ | refine blk_drew ?_ | refine blk_alloc ?_ _)); refine blk_put (cs := #[.int .i64 5, .int .i64 0, .int .i64 0, .int .i64 0]) ?_ 3 _ rfl; (with_reducible repeat (first | refine blk_drewN ?_ _ | refine blk_drew ?_ | refine blk_alloc ?_ _)); refine blk_put (cs := #[.int .i64 5, .int .i64 0, .int .i64 0, .int .i64 0]) ?_ 2 _ rfl; (with_reducible repeat (first | refine blk_drewN ?_ _ | refine blk_drew ?_ | refine blk_alloc ?_ _)); refine blk_put (cs := #[.int .i64 5, .int .i64 0, .int .i64 0, .int .i64 0]) ?_ 1 _ rfl; (with_reducible repeat (first | refine blk_drewN ?_ _ | refine blk_drew ?_ | refine blk_alloc ?_ _)); refine blk_put (cs := #[.int .i64 0, .int .i64 0, .int .i64 0, .int .i64 0]) ?_ 0 _ rfl; (with_reducible repeat (first | refine blk_drewN ?_ _ | refine blk_drew ?_ | refine blk_alloc ?_ _)); exact BK637.out) Tryz.underlying37 rfl (by kernel_rfl)) rfl ?_
          exact ⟨eR, oI56 HI0, oB56 HB, oKe HK⟩
        · rw [if_neg c33] at H
          have c33b0 : (t638 == 3) = false := beq_eq_false_iff_ne.mpr c33
          have c33b1 : (t638 != 3) = true := bne_iff_ne.mpr c33
          by_cases c38 : t638 = 4
          · rw [if_pos c38] at H
            have c38b0 : (t638 == 4) = true := beq_iff_eq.mpr c38
            have c38b1 : (t638 != 4) = false := bne_eq_false_iff_eq.mpr c38
            clear c38
            simp only [Option.some.injEq, Prod.mk.injEq] at H
            obtain ⟨rfl, rfl, rfl, rfl, rfl, rfl⟩ := H
            go_enter Tryz.func20, Tryz.ntmps20
            go_wp2_with (first | ((with_reducible refine gate_dst (N := 2) rfl ?_); refine bX (N := 2) (cs := #[.int .i64 0, .int .i64 0, .int .i64 0, .int .i64 0]) (t := 37) ?_; intro gb637 hg w39 hbox hb; have n0_ := A_ (IsS56.below (oI56 HI0) hb); have n1_ := A_ (KeepBut.trans (oKe HK) (KeepBut.of_below hb g none) (.inl rfl)); have n2_ := A_ (below_step (oB56 HB) hb); have n3_ := A_ (hbox); have n4_ := A_ ((by rw [hg]; exact (keep_size (w := w) (g := g) (row := none) (by repeat (first | (with_reducible first | exact HK.out | apply KeepBut.set_ | apply keep_drewN | apply keep_drew | apply keep_alloc) | exact HK.out))) : w.heap.size ≤ gb637)); have n5_ := A_ ((Nat.le_trans HW0.out (by rw [hg]; exact (keep_size (w := w) (g := g) (row := none) (by repeat (first | (with_reducible first | exact HK.out | apply KeepBut.set_ | apply keep_drewN | apply keep_drew | apply keep_alloc) | exact HK.out))) : w.heap.size ≤ gb637) : w0.heap.size ≤ gb637)); have n6_ := A_ ((by rw [hg]; exact Nat.ne_of_lt (IsS56.lt (show IsS56 w0 _ g s0_0 s0_1 s0_2 from oI56 HI0)) : g ≠ gb637)); have n7_ := A_ ((by rw [hg]; exact Nat.ne_of_gt (IsS56.lt (show IsS56 w0 _ g s0_0 s0_1 s0_2 from oI56 HI0)) : gb637 ≠ g)); clear HI0; clear HK; clear HB; have HI0 := n0_; have HK := n1_; have HB := n2_; have BK637 := n3_; have GW637 := n4_; have GE637 := n5_; have NB0_637 := n6_; have NB637_0 := n7_; clear n0_ n1_ n2_ n3_ n4_ n5_ n6_ n7_; clear hb hbox hg) | ((with_reducible refine gate_callee (f := 19) rfl ?_); refine gL (some 4) Tryz.func19 #[.pointer (some ⟨g, 0, none⟩), .int .i64 12] ?_; (with_reducible refine (spec_l01Below.calls g s0_0 s0_1 s0_2 12 t638 t639 t640 w0 _ ?side1 ?side2 A2.out).mono ?_); (case side1 => exact oI56 HI0); (case side2 => exact oB56 HB); rintro e w40 ⟨rfl, hi, hb, hk⟩; refine ⟨_, rfl, ?_⟩; have n0_ := A_ (KeepBut.blk hk (g' := gb637) (o := .cells #[.int .i64 0, .int .i64 0, .int .i64 0, .int .i64 0] 37 (0, 0)) (oK BK637) NB637_0.out (by simp)); have n1_ := A_ (KeepBut.trans (oKe HK) hk (.inl rfl)); have n2_ := A_ (hb); have n3_ := A_ (hi); clear BK637; clear HK; clear HB; clear HI0; have BK637 := n0_; have HK := n1_; have HB := n2_; have HI0 := n3_; clear n0_ n1_ n2_ n3_; (try clear hb); (try clear hb2); (try clear hk); (try clear hi); have hnb41 := NB637_0.out; have hnc41 := NB0_637.out; have hcz42_0 := cz BK637 0; have hcz42_1 := cz BK637 1; have hcz42_2 := cz BK637 2; have hcz42_3 := cz BK637 3; have hfz42_0 := blk_frozen BK637.out 0; have hfz42_1 := blk_frozen BK637.out 1; have hfz42_2 := blk_frozen BK637.out 2; have hfz42_3 := blk_frozen BK637.out 3))
            refine bodyPost_ret (results_cell_row rfl _ _ gb637 37 #[.int .i64 6, .int .i64 0, .int .i64 0, .int .i64 0] (0, 0) _ rfl (by (with_reducible repeat (first | refine blk_drewN ?_ _ | refine blk_drew ?_ | refine blk_alloc ?_ _)); refine blk_put (cs := #[.int .i64 6, .int .i64 0, .int .i64 0, .int .i64 0]) ?_ 3 _ rfl; (with_reducible repeat (first | refine blk_drewN ?_ _ | refine blk_drew ?_ | refine blk_alloc ?_ _)); refine blk_put (cs := #[.int .i64 6, .int .i64 0, .int .i64 0, .int .i64 0]) ?_ 2 _ rfl; (with_reducible repeat (first | refine blk_drewN ?_ _ | refine blk_drew ?_ | refine blk_alloc ?_ _)); refine blk_put (cs := #[.int .i64 6, .int .i64 0, .int .i64 0, .int .i64 0]) ?_ 1 _ rfl; (with_reducible repeat (first | refine blk_drewN ?_ _ | refine blk_drew ?_ | refine blk_alloc ?_ _)); refine blk_put (cs := #[.int .i64 0, .int .i64 0, .int .i64 0, .int .i64 0]) ?_ 0 _ rfl; (with_reducible repeat (first | refine blk_drewN ?_ _ | refine blk_drew ?_ | refine blk_alloc ?_ _)); exact BK637.out) Tryz.underlying37 rfl (by kernel_rfl)) rfl ?_
            exact ⟨eR, oI56 HI0, oB56 HB, oKe HK⟩
          · rw [if_neg c38] at H
            have c38b0 : (t638 == 4) = false := beq_eq_false_iff_ne.mpr c38
            have c38b1 : (t638 != 4) = true := bne_iff_ne.mpr c38
            by_cases c43 : t638 = 5
            · rw [if_pos c43] at H
              have c43b0 : (t638 == 5) = true := beq_iff_eq.mpr c43
              have c43b1 : (t638 != 5) = false := bne_eq_false_iff_eq.mpr c43
              clear c43
              replace H := Option.bind_eq_some_iff.mp H
              obtain ⟨⟨t662, t663, t664⟩, A440, H⟩ := H
              (try dsimp only at H)
              have A44 := A_ A440
              clear A440
              simp only [Option.some.injEq, Prod.mk.injEq] at H
              obtain ⟨rfl, rfl, rfl, rfl, rfl, rfl⟩ := H
              go_enter Tryz.func20, Tryz.ntmps20
              go_wp2_with (first | ((with_reducible refine gate_dst (N := 2) rfl ?_); refine bX (N := 2) (cs := #[.int .i64 0, .int .i64 0, .int .i64 0, .int .i64 0]) (t := 37) ?_; intro gb637 hg w45 hbox hb; have n0_ := A_ (IsS56.below (oI56 HI0) hb); have n1_ := A_ (KeepBut.trans (oKe HK) (KeepBut.of_below hb g none) (.inl rfl)); have n2_ := A_ (below_step (oB56 HB) hb); have n3_ := A_ (hbox); have n4_ := A_ ((by rw [hg]; exact (keep_size (w := w) (g := g) (row := none) (by repeat (first | (with_reducible first | exact HK.out | apply KeepBut.set_ | apply keep_drewN | apply keep_drew | apply keep_alloc) | exact HK.out))) : w.heap.size ≤ gb637)); have n5_ := A_ ((Nat.le_trans HW0.out (by rw [hg]; exact (keep_size (w := w) (g := g) (row := none) (by repeat (first | (with_reducible first | exact HK.out | apply KeepBut.set_ | apply keep_drewN | apply keep_drew | apply keep_alloc) | exact HK.out))) : w.heap.size ≤ gb637) : w0.heap.size ≤ gb637)); have n6_ := A_ ((by rw [hg]; exact Nat.ne_of_lt (IsS56.lt (show IsS56 w0 _ g s0_0 s0_1 s0_2 from oI56 HI0)) : g ≠ gb637)); have n7_ := A_ ((by rw [hg]; exact Nat.ne_of_gt (IsS56.lt (show IsS56 w0 _ g s0_0 s0_1 s0_2 from oI56 HI0)) : gb637 ≠ g)); clear HI0; clear HK; clear HB; have HI0 := n0_; have HK := n1_; have HB := n2_; have BK637 := n3_; have GW637 := n4_; have GE637 := n5_; have NB0_637 := n6_; have NB637_0 := n7_; clear n0_ n1_ n2_ n3_ n4_ n5_ n6_ n7_; clear hb hbox hg) | ((with_reducible refine gate_callee (f := 19) rfl ?_); refine gL (some 4) Tryz.func19 #[.pointer (some ⟨g, 0, none⟩), .int .i64 12] ?_; (with_reducible refine (spec_l01Below.calls g s0_0 s0_1 s0_2 12 t638 t639 t640 w0 _ ?side1 ?side2 A2.out).mono ?_); (case side1 => exact oI56 HI0); (case side2 => exact oB56 HB); rintro e w46 ⟨rfl, hi, hb, hk⟩; refine ⟨_, rfl, ?_⟩; have n0_ := A_ (KeepBut.blk hk (g' := gb637) (o := .cells #[.int .i64 0, .int .i64 0, .int .i64 0, .int .i64 0] 37 (0, 0)) (oK BK637) NB637_0.out (by simp)); have n1_ := A_ (KeepBut.trans (oKe HK) hk (.inl rfl)); have n2_ := A_ (hb); have n3_ := A_ (hi); clear BK637; clear HK; clear HB; clear HI0; have BK637 := n0_; have HK := n1_; have HB := n2_; have HI0 := n3_; clear n0_ n1_ n2_ n3_; (try clear hb); (try clear hb2); (try clear hk); (try clear hi)) | ((with_reducible refine gate_callee (f := 19) rfl ?_); refine gL (some 38) Tryz.func19 #[.pointer (some ⟨g, 0, none⟩), .int .i64 12] ?_; (with_reducible refine (spec_l01Below.calls g s0_0 t639 t640 12 t662 t663 t664 w0 _ ?side1 ?side2 A44.out).mono ?_); (case side1 => exact oI56 HI0); (case side2 => exact oB56 HB); rintro e w47 ⟨rfl, hi, hb, hk⟩; refine ⟨_, rfl, ?_⟩; have n0_ := A_ (KeepBut.blk hk (g' := gb637) (o := .cells #[.int .i64 0, .int .i64 0, .int .i64 0, .int .i64 0] 37 (0, 0)) (oK BK637) NB637_0.out (by simp)); have n1_ := A_ (KeepBut.trans (oKe HK) hk (.inl rfl)); have n2_ := A_ (hb); have n3_ := A_ (hi); clear BK637; clear HK; clear HB; clear HI0; have BK637 := n0_; have HK := n1_; have HB := n2_; have HI0 := n3_; clear n0_ n1_ n2_ n3_; (try clear hb); (try clear hb2); (try clear hk); (try clear hi); have hnb48 := NB637_0.out; have hnc48 := NB0_637.out; have hcz49_0 := cz BK637 0; have hcz49_1 := cz BK637 1; have hcz49_2 := cz BK637 2; have hcz49_3 := cz BK637 3; have hfz49_0 := blk_frozen BK637.out 0; have hfz49_1 := blk_frozen BK637.out 1; have hfz49_2 := blk_frozen BK637.out 2; have hfz49_3 := blk_frozen BK637.out 3))
              refine bodyPost_ret (results_cell_row rfl _ _ gb637 37 #[.int .i64 7, .int .i64 t662, .int .i64 0, .int .i64 0] (0, 0) _ rfl (by (with_reducible repeat (first | refine blk_drewN ?_ _ | refine blk_drew ?_ | refine blk_alloc ?_ _)); refine blk_put (cs := #[.int .i64 7, .int .i64 t662, .int .i64 0, .int .i64 0]) ?_ 3 _ rfl; (with_reducible repeat (first | refine blk_drewN ?_ _ | refine blk_drew ?_ | refine blk_alloc ?_ _)); refine blk_put (cs := #[.int .i64 7, .int .i64 t662, .int .i64 0, .int .i64 0]) ?_ 2 _ rfl; (with_reducible repeat (first | refine blk_drewN ?_ _ | refine blk_drew ?_ | refine blk_alloc ?_ _)); refine blk_put (cs := #[.int .i64 7, .int .i64 0, .int .i64 0, .int .i64 0]) ?_ 1 _ rfl; (with_reducible repeat (first | refine blk_drewN ?_ _ | refine blk_drew ?_ | refine blk_alloc ?_ _)); refine blk_put (cs := #[.int .i64 0, .int .i64 0, .int .i64 0, .int .i64 0]) ?_ 0 _ rfl; (with_reducible repeat (first | refine blk_drewN ?_ _ | refine blk_drew ?_ | refine blk_alloc ?_ _)); exact BK637.out) Tryz.underlying37 rfl (by kernel_rfl)) rfl ?_
              exact ⟨eR, oI56 HI0, oB56 HB, oKe HK⟩
            · rw [if_neg c43] at H
              have c43b0 : (t638 == 5) = false := beq_eq_false_iff_ne.mpr c43
              have c43b1 : (t638 != 5) = true := bne_iff_ne.mpr c43
              simp only [Option.some.injEq, Prod.mk.injEq] at H
              obtain ⟨rfl, rfl, rfl, rfl, rfl, rfl⟩ := H
              go_enter Tryz.func20, Tryz.ntmps20
              go_wp2_with (first | ((with_reducible refine gate_dst (N := 2) rfl ?_); refine bX (N := 2) (cs := #[.int .i64 0, .int .i64 0, .int .i64 0, .int .i64 0]) (t := 37) ?_; intro gb637 hg w50 hbox hb; have n0_ := A_ (IsS56.below (oI56 HI0) hb); have n1_ := A_ (KeepBut.trans (oKe HK) (KeepBut.of_below hb g none) (.inl rfl)); have n2_ := A_ (below_step (oB56 HB) hb); have n3_ := A_ (hbox); have n4_ := A_ ((by rw [hg]; exact (keep_size (w := w) (g := g) (row := none) (by repeat (first | (with_reducible first | exact HK.out | apply KeepBut.set_ | apply keep_drewN | apply keep_drew | apply keep_alloc) | exact HK.out))) : w.heap.size ≤ gb637)); have n5_ := A_ ((Nat.le_trans HW0.out (by rw [hg]; exact (keep_size (w := w) (g := g) (row := none) (by repeat (first | (with_reducible first | exact HK.out | apply KeepBut.set_ | apply keep_drewN | apply keep_drew | apply keep_alloc) | exact HK.out))) : w.heap.size ≤ gb637) : w0.heap.size ≤ gb637)); have n6_ := A_ ((by rw [hg]; exact Nat.ne_of_lt (IsS56.lt (show IsS56 w0 _ g s0_0 s0_1 s0_2 from oI56 HI0)) : g ≠ gb637)); have n7_ := A_ ((by rw [hg]; exact Nat.ne_of_gt (IsS56.lt (show IsS56 w0 _ g s0_0 s0_1 s0_2 from oI56 HI0)) : gb637 ≠ g)); clear HI0; clear HK; clear HB; have HI0 := n0_; have HK := n1_; have HB := n2_; have BK637 := n3_; have GW637 := n4_; have GE637 := n5_; have NB0_637 := n6_; have NB637_0 := n7_; clear n0_ n1_ n2_ n3_ n4_ n5_ n6_ n7_; clear hb hbox hg) | ((with_reducible refine gate_callee (f := 19) rfl ?_); refine gL (some 4) Tryz.func19 #[.pointer (some ⟨g, 0, none⟩), .int .i64 12] ?_; (with_reducible refine (spec_l01Below.calls g s0_0 s0_1 s0_2 12 t638 t639 t640 w0 _ ?side1 ?side2 A2.out).mono ?_); (case side1 => exact oI56 HI0); (case side2 => exact oB56 HB); rintro e w51 ⟨rfl, hi, hb, hk⟩; refine ⟨_, rfl, ?_⟩; have n0_ := A_ (KeepBut.blk hk (g' := gb637) (o := .cells #[.int .i64 0, .int .i64 0, .int .i64 0, .int .i64 0] 37 (0, 0)) (oK BK637) NB637_0.out (by simp)); have n1_ := A_ (KeepBut.trans (oKe HK) hk (.inl rfl)); have n2_ := A_ (hb); have n3_ := A_ (hi); clear BK637; clear HK; clear HB; clear HI0; have BK637 := n0_; have HK := n1_; have HB := n2_; have HI0 := n3_; clear n0_ n1_ n2_ n3_; (try clear hb); (try clear hb2); (try clear hk); (try clear hi); have hnb52 := NB637_0.out; have hnc52 := NB0_637.out; have hcz53_0 := cz BK637 0; have hcz53_1 := cz BK637 1; have hcz53_2 := cz BK637 2; have hcz53_3 := cz BK637 3; have hfz53_0 := blk_frozen BK637.out 0; have hfz53_1 := blk_frozen BK637.out 1; have hfz53_2 := blk_frozen BK637.out 2; have hfz53_3 := blk_frozen BK637.out 3))
              refine bodyPost_ret (results_cell_row rfl _ _ gb637 37 #[.int .i64 1, .int .i64 0, .int .i64 0, .int .i64 0] (0, 0) _ rfl (by (with_reducible repeat (first | refine blk_drewN ?_ _ | refine blk_drew ?_ | refine blk_alloc ?_ _)); refine blk_put (cs := #[.int .i64 1, .int .i64 0, .int .i64 0, .int .i64 0]) ?_ 3 _ rfl; (with_reducible repeat (first | refine blk_drewN ?_ _ | refine blk_drew ?_ | refine blk_alloc ?_ _)); refine blk_put (cs := #[.int .i64 1, .int .i64 0, .int .i64 0, .int .i64 0]) ?_ 2 _ rfl; (with_reducible repeat (first | refine blk_drewN ?_ _ | refine blk_drew ?_ | refine blk_alloc ?_ _)); refine blk_put (cs := #[.int .i64 1, .int .i64 0, .int .i64 0, .int .i64 0]) ?_ 1 _ rfl; (with_reducible repeat (first | refine blk_drewN ?_ _ | refine blk_drew ?_ | refine blk_alloc ?_ _)); refine blk_put (cs := #[.int .i64 0, .int .i64 0, .int .i64 0, .int .i64 0]) ?_ 0 _ rfl; (with_reducible repeat (first | refine blk_drewN ?_ _ | refine blk_drew ?_ | refine blk_alloc ?_ _)); exact BK637.out) Tryz.underlying37 rfl (by kernel_rfl)) rfl ?_
              exact ⟨eR, oI56 HI0, oB56 HB, oKe HK⟩
end Go.Proofs.YtojiighpkppckaaGreatDoor.P


namespace Go.Proofs.YtojiighpkppckaaGreatDoor.P
open Go.RowKit Go.Proofs.YtojiighpkppckaaGreatDoorW.PrintWords Go.Proofs.YtojiighpkppckaaGreatDoorW.PrintLast Go.Proofs.YtojiighpkppckaaGreatDoorW.PrintMore
attribute [local go_sem] max2_int min2_int max_two min_two max_three min_three max_four min_four
set_option linter.unusedVariables false
set_option linter.unusedSimpArgs false
def spec_l39List.l0 : Nat → List (S37) → Int → Int → List Int → Int → Int → Option ((List (S37)) × Int × Int)
  | 0, _, _, _, _, _, _ => none
  | k + 1, x3, x4, x5, x1000, x1001, x1002 => if x5 < x4 then ((spec_l39Act.f x1000 x1001 x1002).bind fun bt671 => (if x3.length < 4398046511104 then (spec_l39List.l0 k (x3 ++ [(⟨bt671.1, bt671.2.1, bt671.2.2.1, bt671.2.2.2.1⟩ : S37)]) x4 (wrap64 (x5 + 1)) x1000 bt671.2.2.2.2.1 bt671.2.2.2.2.2) else (none))) else (some (x3, x1001, x1002))
def spec_l39List.f (k : Nat) (s0_0 : List Int) (s0_1 : Int) (s0_2 : Int) : Option ((List (S37)) × Int × Int) := (spec_l01Below.f s0_0 s0_1 s0_2 26).bind fun bt668 => (spec_l39List.l0 k (([] : List (S37))) bt668.1 0 s0_0 bt668.2.1 bt668.2.2)
set_option maxHeartbeats 8000000 in
set_option maxRecDepth 100000 in
theorem spec_l39List.calls (k : Nat) (g : Nat) (s0_0 : List Int) (s0_1 : Int) (s0_2 : Int) (r1 : List (S37)) (r2 : Int) (r3 : Int) (w0 w : World) (hI : IsS56 w0 w g s0_0 s0_1 s0_2) (hB : Below w0.heap.size w0 w) (h : spec_l39List.f k s0_0 s0_1 s0_2 = some (r1, r2, r3)) :
    Calls Tryz.prog 10 #[.pointer (some ⟨g, 0, none⟩)] w fun e w' => ∃ v0_ : Value, e = .returned (v0_) ∧ Kd.R k37 37 w' w.heap.size (fun _ => True) v0_ r1 ∧ IsS56 w0 w' g s0_0 r2 r3 ∧ Below w0.heap.size w0 w' ∧ KeepBut w w' g none := by
  have hu37 := Tryz.underlying37
  have HI0 := A_ hI
  have HK := A_ (KeepBut.refl w g none)
  have HL := A_ hB.size
  clear hI
  have HW0 := A_ hB.size
  have HB := A_ hB
  clear hB
  have H : ((spec_l01Below.f s0_0 s0_1 s0_2 26).bind fun bt668 => (spec_l39List.l0 k (([] : List (S37))) bt668.1 0 s0_0 bt668.2.1 bt668.2.2)) = some (r1, r2, r3) := h
  clear h
  obtain ⟨y665, hy665⟩ : ∃ y_ : List (S37), y_ = (([] : List (S37))) := ⟨_, rfl⟩
  replace H : ((spec_l01Below.f s0_0 s0_1 s0_2 26).bind fun bt668 => (spec_l39List.l0 k y665 bt668.1 0 s0_0 bt668.2.1 bt668.2.2)) = some (r1, r2, r3) := by first | (rw [hy665]; with_reducible exact H) | (have H2_ := (Option.bind_some _ _).symm.trans H; rw [hy665]; with_reducible exact H2_) | (have H2_ := (Option.bind_some _ _).symm.trans H; with_reducible exact H2_) | with_reducible exact H | (rw [hy665]; exact H) | exact H
  have Ny665 := A_ hy665
  clear hy665
  replace H := Option.bind_eq_some_iff.mp H
  obtain ⟨⟨t668, t669, t670⟩, A20, H⟩ := H
  (try dsimp only at H)
  have A2 := A_ A20
  clear A20
  have H' := A_ H
  clear H
  go_enter Tryz.func10, Tryz.ntmps10
  go_wp2_with (first | ((with_reducible refine gate_dst (N := 7) rfl ?_); refine Kd.R_lit k37 _ 37 ?hg (N := 7) ?hd (xs := ([] : List (S37))) (inner := []) (ok := fun _ => True) (okp := fun _ => True) ?hr ?hp (fun _ hk => hk) trivial (Below.refl _ _) (Nat.le_refl _) (by simp) ?_; (case hd => rfl); (case hg => rfl); (case hr => first | (go_simp; done) | (go_simp; rfl)); (case hp => exact (Reps.none _ _)); intro v666 w3 ho4 hb hg_ hnew_; clear hg_ hnew_; (first | rw [← Ny665.out] at ho4 | (simp only [Int.reduceToNat] at ho4; rw [← Ny665.out] at ho4)); have n0_ := A_ (Kd.R_lower ho4 (keep_size (w := w) (g := g) (row := none) (by repeat (first | (with_reducible first | exact HK.out | apply KeepBut.set_ | apply keep_drewN | apply keep_drew | apply keep_alloc) | exact HK.out)))); have n1_ := A_ (IsS56.below (oI56 HI0) hb); have n2_ := A_ (KeepBut.trans (oKe HK) (KeepBut.of_below hb g none) (.inl rfl)); have n3_ := A_ (below_step (oB56 HB) hb); clear HI0; clear HK; clear HB; have HO667 := n0_; have HI0 := n1_; have HK := n2_; have HB := n3_; clear n0_ n1_ n2_ n3_; clear hb ho4) | ((with_reducible refine gate_callee (f := 19) rfl ?_); refine gL (some 9) Tryz.func19 #[.pointer (some ⟨g, 0, none⟩), .int .i64 26] ?_; (with_reducible refine (spec_l01Below.calls g s0_0 s0_1 s0_2 26 t668 t669 t670 w0 _ ?side1 ?side2 A2.out).mono ?_); (case side1 => exact oI56 HI0); (case side2 => exact oB56 HB); rintro e w5 ⟨rfl, hi, hb, hk⟩; refine ⟨_, rfl, ?_⟩; have n0_ := A_ (Kd.R_mono (Kd.R_keep (IsS56.apart (show IsS56 w0 _ g s0_0 s0_1 s0_2 from oI56 HI0) (oR HO667) (by decide)) hk (fun _ h => h.2)) (fun _ h => h.1)); have n1_ := A_ (KeepBut.trans (oKe HK) hk (.inl rfl)); have n2_ := A_ (hb); have n3_ := A_ (hi); clear HO667; clear HK; clear HB; clear HI0; have HO667 := n0_; have HK := n1_; have HB := n2_; have HI0 := n3_; clear n0_ n1_ n2_ n3_; (try clear hb); (try clear hb2); (try clear hk); (try clear hi)))
  go_loopg [3, 5] k (fun kq v3 v5 w' => ∃ (x3_1 : List (S37)) (x5_1 : Int) (x1001_1 : Int) (x1002_1 : Int), v5 = .int .i64 x5_1 ∧ Aside0 (spec_l39List.l0 kq x3_1 t668 x5_1 s0_0 x1001_1 x1002_1 = some (r1, r2, r3)) ∧ Aside0 (kq ≤ k) ∧ Aside0 (Kd.R k37 37 w' w.heap.size (fun _ => True) v3 x3_1) ∧ Aside0 (IsS56 w0 w' g s0_0 x1001_1 x1002_1) ∧ Aside0 (KeepBut w w' g none) ∧ Aside0 (Below w0.heap.size w0 w'))
  case atStart => exact ⟨(y665), (0), (t669), (t670), (by first | rfl | (simp; done) | (simp [*]; done)), H', ⟨Nat.le_refl _⟩, ⟨oR HO667⟩, ⟨oI56 HI0⟩, ⟨oKe HK⟩, ⟨oB56 HB⟩⟩
  case round =>
    clear H'
    try clear c1
    try clear p2
    obtain ⟨x3_1, x5_1, x1001_1, x1002_1, rfl, HA, HK1, HO_3, HI0, HK, HB⟩ := hrel
    cases gk with
    | zero => exact absurd HA.out (by simp [spec_l39List.l0])
    | succ k1 =>
      have H := HA.out
      clear HA
      simp only [spec_l39List.l0] at H
      by_cases c6 : x5_1 < t668
      · rw [if_pos c6] at H
        have c6b0 : decide (x5_1 < t668) = true := decide_eq_true c6
        clear c6
        replace H := Option.bind_eq_some_iff.mp H
        obtain ⟨⟨t671, t672, t673, t674, t675, t676⟩, A70, H⟩ := H
        (try dsimp only at H)
        have A7 := A_ A70
        clear A70
        by_cases c8 : x3_1.length < 4398046511104
        · rw [if_pos c8] at H
          have LMc8 := A_ c8
          clear c8
          obtain ⟨y678, hy678⟩ : ∃ y_ : List (S37), y_ = (x3_1 ++ [(⟨t671, t672, t673, t674⟩ : S37)]) := ⟨_, rfl⟩
          replace H : (spec_l39List.l0 k1 y678 t668 (wrap64 (x5_1 + 1)) s0_0 t675 t676) = some (r1, r2, r3) := by first | (rw [hy678]; with_reducible exact H) | (have H2_ := (Option.bind_some _ _).symm.trans H; rw [hy678]; with_reducible exact H2_) | (have H2_ := (Option.bind_some _ _).symm.trans H; with_reducible exact H2_) | with_reducible exact H | (rw [hy678]; exact H) | exact H
          have Ny678 := A_ hy678
          clear hy678
          have H' := A_ H
          clear H
          go_wp2_with (first | ((with_reducible refine gate_callee (f := 20) rfl ?_); refine gL (some 16) Tryz.func20 #[.pointer (some ⟨g, 0, none⟩)] ?_; (with_reducible refine (spec_l39Act.calls g s0_0 x1001_1 x1002_1 t671 t672 t673 t674 t675 t676 w0 _ ?side1 ?side2 A7.out).mono ?_); (case side1 => exact oI56 HI0); (case side2 => exact oB56 HB); rintro e w9 ⟨rfl, hi, hb, hk⟩; refine ⟨_, rfl, ?_⟩; have n0_ := A_ (Kd.R_mono (Kd.R_keep (IsS56.apart (show IsS56 w0 _ g s0_0 x1001_1 x1002_1 from oI56 HI0) (oR HO_3) (by decide)) hk (fun _ h => h.2)) (fun _ h => h.1)); have n1_ := A_ (KeepBut.trans (oKe HK) hk (.inl rfl)); have n2_ := A_ (hb); have n3_ := A_ (hi); clear HO_3; clear HK; clear HB; clear HI0; have HO_3 := n0_; have HK := n1_; have HB := n2_; have HI0 := n3_; clear n0_ n1_ n2_ n3_; (try clear hb); (try clear hb2); (try clear hk); (try clear hi)) | ((with_reducible refine gate_dst (N := 6) rfl ?_); refine bX (N := 6) (cs := #[.int .i64 0, .int .i64 0, .int .i64 0, .int .i64 0]) (t := 37) ?_; intro gb677 hg w10 hbox hb; have n0_ := A_ (Kd.R_below (Kd.R_elderB (oR HO_3) gb677 (Nat.le_of_eq hg.symm)) hb); have n1_ := A_ (IsS56.below (oI56 HI0) hb); have n2_ := A_ (KeepBut.trans (oKe HK) (KeepBut.of_below hb g none) (.inl rfl)); have n3_ := A_ (below_step (oB56 HB) hb); have n4_ := A_ (hbox); have n5_ := A_ ((by rw [hg]; exact (keep_size (w := w) (g := g) (row := none) (by repeat (first | (with_reducible first | exact HK.out | apply KeepBut.set_ | apply keep_drewN | apply keep_drew | apply keep_alloc) | exact HK.out))) : w.heap.size ≤ gb677)); have n6_ := A_ ((Nat.le_trans HW0.out (by rw [hg]; exact (keep_size (w := w) (g := g) (row := none) (by repeat (first | (with_reducible first | exact HK.out | apply KeepBut.set_ | apply keep_drewN | apply keep_drew | apply keep_alloc) | exact HK.out))) : w.heap.size ≤ gb677) : w0.heap.size ≤ gb677)); have n7_ := A_ ((by rw [hg]; exact Nat.ne_of_lt (IsS56.lt (show IsS56 w0 _ g s0_0 t675 t676 from oI56 HI0)) : g ≠ gb677)); have n8_ := A_ ((by rw [hg]; exact Nat.ne_of_gt (IsS56.lt (show IsS56 w0 _ g s0_0 t675 t676 from oI56 HI0)) : gb677 ≠ g)); clear HO_3; clear HI0; clear HK; clear HB; have HO_3 := n0_; have HI0 := n1_; have HK := n2_; have HB := n3_; have BK677 := n4_; have GW677 := n5_; have GE677 := n6_; have NB0_677 := n7_; have NB677_0 := n8_; clear n0_ n1_ n2_ n3_ n4_ n5_ n6_ n7_ n8_; clear hb hbox hg; have hnb11 := NB677_0.out; have hnc11 := NB0_677.out; have hcz12_0 := cz BK677 0; have hcz12_1 := cz BK677 1; have hcz12_2 := cz BK677 2; have hcz12_3 := cz BK677 3; have hfz12_0 := blk_frozen BK677.out 0; have hfz12_1 := blk_frozen BK677.out 1; have hfz12_2 := blk_frozen BK677.out 2; have hfz12_3 := blk_frozen BK677.out 3) | ((with_reducible refine gate_builtin (b := .append) (xs := #[.tmp 17, .tmp 19]) rfl ?_); at_builtin; refine Kd.R_append k37 w.heap.size rfl (.tmp 17) (.tmp 19) 31 37 (.agg #[(.int .i64 0), (.int .i64 0), (.int .i64 0), (.int .i64 0)]) 32 rfl Tryz.underlying31 info37 rfl (by decide) (by omega) u3 x3_1 (⟨t671, t672, t673, t674⟩ : S37) [.int .i64 t671, .int .i64 t672, .int .i64 t673, .int .i64 t674] (fun k_ => k_ ≠ gb677) (fun _ => False) rfl (by first | (go_simp; done) | (go_simp; rfl)) ?aP (fun _ hk => hk.elim) ?aF ?aO (Below.refl _ _) ?aS ?aL ?_; (case aP => exact k37_mkM _ _ _ (⟨t671, t672, t673, t674⟩ : S37)); (case aF => exact (fun k_ hk => Kd.freshB (g := gb677) (o := .cells #[.int .i64 t671, .int .i64 t672, .int .i64 t673, .int .i64 t674] 37 (0, 0)) (by (with_reducible repeat (first | refine blk_drewN ?_ _ | refine blk_drew ?_ | refine blk_alloc ?_ _)); refine blk_put (cs := #[.int .i64 t671, .int .i64 t672, .int .i64 t673, .int .i64 0]) ?_ 3 _ rfl; (with_reducible repeat (first | refine blk_drewN ?_ _ | refine blk_drew ?_ | refine blk_alloc ?_ _)); refine blk_put (cs := #[.int .i64 t671, .int .i64 t672, .int .i64 0, .int .i64 0]) ?_ 2 _ rfl; (with_reducible repeat (first | refine blk_drewN ?_ _ | refine blk_drew ?_ | refine blk_alloc ?_ _)); refine blk_put (cs := #[.int .i64 t671, .int .i64 0, .int .i64 0, .int .i64 0]) ?_ 1 _ rfl; (with_reducible repeat (first | refine blk_drewN ?_ _ | refine blk_drew ?_ | refine blk_alloc ?_ _)); refine blk_put (cs := #[.int .i64 0, .int .i64 0, .int .i64 0, .int .i64 0]) ?_ 0 _ rfl; (with_reducible repeat (first | refine blk_drewN ?_ _ | refine blk_drew ?_ | refine blk_alloc ?_ _)); exact BK677.out) k_ hk)); (case aO => exact (by (with_reducible repeat (first | apply Kd.R_alloc | apply Kd.R_drewN | apply Kd.R_drew)); exact Kd.R_mono (Kd.R_far (p := ⟨gb677, 3, none⟩) (Kd.R_far (p := ⟨gb677, 2, none⟩) (Kd.R_far (p := ⟨gb677, 1, none⟩) (Kd.R_far (p := ⟨gb677, 0, none⟩) (Kd.R_mono HO_3.out (fun k_ hk => (⟨hk, hk.2⟩ : _ ∧ k_ ≠ gb677))) (fun _ hk => hk.2) (.int .i64 t671)) (fun _ hk => hk.2) (.int .i64 t672)) (fun _ hk => hk.2) (.int .i64 t673)) (fun _ hk => hk.2) (.int .i64 t674)) (fun _ hk => hk.1.2))); (case aS => exact (keep_size (w := w) (g := g) (row := none) (by repeat (first | (with_reducible first | exact HK.out | apply KeepBut.set_ | apply keep_drewN | apply keep_drew | apply keep_alloc | refine keep_far ?_ GW677.out _) | exact HK.out)))); (case aL => have := LMc8.out; omega); intro v679 w13 ho hb hg hat; rw [← Ny678.out] at ho; have n0_ := A_ (IsS56.grown (show IsS56 w0 _ g s0_0 t675 t676 from oI56 HI0) hg (IsS56.own_ne HI0.out HO_3.out (by decide))); have n1_ := A_ (blk_grown (g := gb677) (o := .cells #[.int .i64 t671, .int .i64 t672, .int .i64 t673, .int .i64 t674] 37 (0, 0)) (by (with_reducible repeat (first | refine blk_drewN ?_ _ | refine blk_drew ?_ | refine blk_alloc ?_ _)); refine blk_put (cs := #[.int .i64 t671, .int .i64 t672, .int .i64 t673, .int .i64 0]) ?_ 3 _ rfl; (with_reducible repeat (first | refine blk_drewN ?_ _ | refine blk_drew ?_ | refine blk_alloc ?_ _)); refine blk_put (cs := #[.int .i64 t671, .int .i64 t672, .int .i64 0, .int .i64 0]) ?_ 2 _ rfl; (with_reducible repeat (first | refine blk_drewN ?_ _ | refine blk_drew ?_ | refine blk_alloc ?_ _)); refine blk_put (cs := #[.int .i64 t671, .int .i64 0, .int .i64 0, .int .i64 0]) ?_ 1 _ rfl; (with_reducible repeat (first | refine blk_drewN ?_ _ | refine blk_drew ?_ | refine blk_alloc ?_ _)); refine blk_put (cs := #[.int .i64 0, .int .i64 0, .int .i64 0, .int .i64 0]) ?_ 0 _ rfl; (with_reducible repeat (first | refine blk_drewN ?_ _ | refine blk_drew ?_ | refine blk_alloc ?_ _)); exact BK677.out) hg (Kd.R_away HO_3.out (fun _ hk => hk.2))); have n2_ := A_ (below_weaken (oB56 HB) HL.out hb); have n3_ := A_ (KeepBut.trans (oKe HK) (KeepBut.of_grown hg g) (Kd.R_base2 HO_3.out)); have n4_ := A_ (ho); clear HI0; clear BK677; clear HB; clear HK; clear HO_3; have HI0 := n0_; have BK677 := n1_; have HB := n2_; have HK := n3_; have HO680 := n4_; clear n0_ n1_ n2_ n3_ n4_; clear ho hb hg hat))
          go_roundg k1
          case measure => have := HK1.out; omega
          case rel => exact ⟨(y678), (wrap64 (x5_1 + 1)), (t675), (t676), (by first | rfl | (simp; done) | (simp [*]; done)), H', ⟨by have := HK1.out; omega⟩, ⟨by (with_reducible repeat (first | apply Kd.R_alloc | apply Kd.R_drewN | apply Kd.R_drew)); exact Kd.R_mono HO680.out (fun _ hk => trivial)⟩, ⟨oI56 HI0⟩, ⟨oKe HK⟩, ⟨oB56 HB⟩⟩
        · rw [if_neg c8] at H
          exact absurd H (by simp)
      · rw [if_neg c6] at H
        have c6b0 : decide (x5_1 < t668) = false := decide_eq_false c6
        clear c6
        simp only [Option.some.injEq, Prod.mk.injEq] at H
        obtain ⟨rfl, rfl, rfl⟩ := H
        go_wp2
        go_ret
        exact ⟨_, eR, oR HO_3, oI56 HI0, oB56 HB, oKe HK⟩
end Go.Proofs.YtojiighpkppckaaGreatDoor.P

