/- What functions of the program come to (f), that their calls come to just this (calls), and the plain laws over lists and numbers. No condition but those of the given row. -/
import Derived.Test.YtojiighpkppckaaDoorC2
namespace Go.Proofs.YtojiighpkppckaaDoor.P
open Go.RowKit Go.Proofs.YtojiighpkppckaaDoorW.PrintWords Go.Proofs.YtojiighpkppckaaDoorW.PrintLast Go.Proofs.YtojiighpkppckaaDoorW.PrintMore
attribute [local go_sem] max2_int min2_int max_two min_two max_three min_three max_four min_four
set_option linter.unusedVariables false
set_option linter.unusedSimpArgs false
def spec_WrongSteps.l0 : Nat → List Int → Int → List (S145) → Int → List Int → Option (List Int)
 | 0, _, _, _, _, _ => none
 | k + 1, x3, x4, x567000, x567001, x567002 => if x4 < x567001 then (if 0 ≤ x4 then (if x4 < (x567000.length : Int) then (if 0 ≤ ((rd_T145 x567000 x4).f1) then (if ((rd_T145 x567000 x4).f1) < (x567002.length : Int) then (if 0 ≤ ((rd_T145 x567000 x4).f0) then (if ((rd_T145 x567000 x4).f0) < (x567002.length : Int) then ((spec_TunedPitch.f k (rd x567002 ((rd_T145 x567000 x4).f0)) ((rd_T145 x567000 x4).f2) ((rd_T145 x567000 x4).f3)).bind fun t575 => (if (rd x567002 ((rd_T145 x567000 x4).f1)) = t575 then (spec_WrongSteps.l0 k x3 (wrap64 (x4 + 1)) x567000 x567001 x567002) else (if x3.length < 17592186044416 then (spec_WrongSteps.l0 k (x3 ++ [x4]) (wrap64 (x4 + 1)) x567000 x567001 x567002) else (none)))) else (none)) else (none)) else (none)) else (none)) else (none)) else (none)) else (some x3)
def spec_WrongSteps.f (k : Nat) (l0_0 : List (S145)) (a0_1 : Int) (l0_2 : List Int) : Option (List Int) := (some (([] : List Int) : List Int)).bind fun y567 => ((spec_WorkOk.f k l0_0 a0_1 l0_2).bind fun t570 => (if t570 = true then (spec_WrongSteps.l0 k y567 0 l0_0 a0_1 l0_2) else (some y567)))
def spec_WrongSteps.T8 : Bool × List (List Nat × List Nat) := (true, [([], []), ([0], [0]), ([], []), ([2], [2]), ([1, 3], [1, 3]), ([4], [4]), ([], []), ([6], [6]), ([], []), ([8], [8]), ([7, 9], [7, 9]), ([10], [10]), ([], []), ([12], [12]), ([], []), ([14], [14]), ([11, 13, 15], [11, 13, 15]), ([5, 16], [5, 16])])
def spec_WrongSteps.B8 : List Nat := [0, 1, 0, 4, 15, 31, 0, 64, 0, 256, 960, 1984, 0, 4096, 0, 16384, 65472, 131071]
theorem spec_WrongSteps.tab8 : rtab .any (opsOf Tryd.f120 8) = spec_WrongSteps.T8 := by kernel_rfl
theorem spec_WrongSteps.bits8 : waitsOk spec_WrongSteps.T8.2 spec_WrongSteps.B8 = true := by kernel_rfl
set_option maxHeartbeats 8000000 in
set_option maxRecDepth 100000 in
theorem spec_WrongSteps.calls (k : Nat) (A0_0 : Option Addr) (c0_0 : Nat) (l0_0 : List (S145)) (a0_1 : Int) (A0_2 : Option Addr) (c0_2 : Nat) (l0_2 : List Int) (r : List Int) (w : World) (hr0_0 : Kd.C k145 w A0_0 l0_0.length l0_0) (hc0_0 : l0_0.length ≤ c0_0) (hr0_2 : Kd.C (Kd.int .i64) w A0_2 l0_2.length l0_2) (hc0_2 : l0_2.length ≤ c0_2) (h : spec_WrongSteps.f k l0_0 a0_1 l0_2 = some r) :
  Calls Tryd.prog 120 #[.agg #[.slice A0_0 l0_0.length c0_0, .int .i64 a0_1, .slice A0_2 l0_2.length c0_2]] w fun e w' => ∃ v0_ : Value, e = .returned (v0_) ∧ Kd.R (Kd.int .i64) 3 w' w.heap.size (fun _ => True) v0_ r ∧ Below w.heap.size w w' := by
 have hu41 := Tryd.underlying41
 have hu145 := Tryd.underlying145
 have HR0_0 := A_ hr0_0
 have HC0_0 := A_ hc0_0
 clear hr0_0 hc0_0
 have HR0_2 := A_ hr0_2
 have HC0_2 := A_ hc0_2
 clear hr0_2 hc0_2
 have HB := A_ (Below.refl w.heap.size w)
 have H : ((some (([] : List Int) : List Int)).bind fun y567 => ((spec_WorkOk.f k l0_0 a0_1 l0_2).bind fun t570 => (if t570 = true then (spec_WrongSteps.l0 k y567 0 l0_0 a0_1 l0_2) else (some y567)))) = some r := h
 clear h
 obtain ⟨y567, hy567⟩ : ∃ y_ : List Int, y_ = (([] : List Int)) := ⟨_, rfl⟩
 replace H : ((spec_WorkOk.f k l0_0 a0_1 l0_2).bind fun t570 => (if t570 = true then (spec_WrongSteps.l0 k y567 0 l0_0 a0_1 l0_2) else (some y567))) = some r := by first | (rw [hy567]; with_reducible exact H) | (have H2_ := (Option.bind_some _ _).symm.trans H; rw [hy567]; with_reducible exact H2_) | (have H2_ := (Option.bind_some _ _).symm.trans H; with_reducible exact H2_) | with_reducible exact H | (rw [hy567]; exact H) | exact H
 have Ny567 := A_ hy567
 clear hy567
 replace H := Option.bind_eq_some_iff.mp H
 obtain ⟨t570, A20, H⟩ := H
 (try dsimp only at H)
 have A2 := A_ A20
 clear A20
 by_cases c3 : t570 = true
 ·subst c3
  rw [if_pos rfl] at H
  have H' := A_ H
  clear H
  go_enter Tryd.func120, Tryd.ntmps120
  go_wp2_with (first | ((with_reducible refine gate_dst (N := 1) rfl ?_); refine bX (N := 1) (cs := #[.slice A0_0 l0_0.length c0_0, .int .i64 a0_1, .slice A0_2 l0_2.length c0_2]) (t := 41) ?_; intro gb566 hg w4 hbox hb; have n0_ := A_ (below_step (oB HB) hb); have n1_ := A_ (hbox); have n2_ := A_ ((by rw [hg]; exact (below_size (oB HB)) : w.heap.size ≤ gb566)); have n3_ := A_ ((by rw [hg]; exact (below_size (oB HB)) : w.heap.size ≤ gb566)); clear HB; have HB := n0_; have BK566 := n1_; have GW566 := n2_; have GE566 := n3_; clear n0_ n1_ n2_ n3_; clear hb hbox hg) | ((with_reducible refine gate_dst (N := 6) rfl ?_); refine Kd.R_lit (Kd.int .i64) _ 3 ?hg (N := 6) ?hd (xs := ([] : List Int)) (inner := []) (ok := fun _ => True) (okp := fun _ => True) ?hr ?hp (fun _ hk => hk) trivial (Below.refl _ _) (Nat.le_refl _) (by simp) ?_; (case hd => rfl); (case hg => rfl); (case hr => first | (go_simp; done) | (go_simp; rfl)); (case hp => exact (Reps.none _ _)); intro v568 w5 ho6 hb hg_ hnew_; clear hg_ hnew_; (first | rw [← Ny567.out] at ho6 | (simp only [Int.reduceToNat] at ho6; rw [← Ny567.out] at ho6)); have n0_ := A_ (Kd.R_lower ho6 (below_size (oB HB))); have n1_ := A_ (bb BK566 hb); have n2_ := A_ (below_step (oB HB) hb); clear BK566; clear HB; have HO569 := n0_; have BK566 := n1_; have HB := n2_; clear n0_ n1_ n2_; clear hb ho6; have hcz7_0 := cz BK566 0; have hcz7_1 := cz BK566 1; have hcz7_2 := cz BK566 2; have hfz7_0 := blk_frozen BK566.out 0; have hfz7_1 := blk_frozen BK566.out 1; have hfz7_2 := blk_frozen BK566.out 2) | ((with_reducible refine gate_callee (f := 73) rfl ?_); refine gL (some 8) Tryd.func73 #[.agg #[.slice A0_0 l0_0.length c0_0, .int .i64 a0_1, .slice A0_2 l0_2.length c0_2]] ?_; (with_reducible refine (spec_WorkOk.calls k _ _ l0_0 a0_1 _ _ l0_2 true _ ?side1 ?side2 ?side3 ?side4 A2.out).mono ?_); (case side1 => exact oc_ HR0_0.out); (case side2 => exact HC0_0.out); (case side3 => exact oc_ HR0_2.out); (case side4 => exact HC0_2.out); rintro e w8 ⟨rfl, hb⟩; refine ⟨_, rfl, ?_⟩; have n0_ := A_ (Kd.R_below (oR HO569) hb); have n1_ := A_ (bb BK566 hb); have n2_ := A_ (below_step (oB HB) hb); clear HO569; clear BK566; clear HB; have HO569 := n0_; have BK566 := n1_; have HB := n2_; clear n0_ n1_ n2_; (try clear hb); (try clear hb2); (try clear hk); (try clear hi)))
  go_loopg [3, 4] k (fun kq v3 v4 w' => ∃ (x3_1 : List Int) (x4_1 : Int), v4 = .int .i64 x4_1 ∧ Aside0 (spec_WrongSteps.l0 kq x3_1 x4_1 l0_0 a0_1 l0_2 = some r) ∧ Aside0 (kq ≤ k) ∧ Aside0 (Kd.R (Kd.int .i64) 3 w' w.heap.size (fun _ => True) v3 x3_1) ∧ Aside0 (w'.heap[gb566]? = some (.cells #[(.slice A0_0 l0_0.length c0_0), .int .i64 a0_1, (.slice A0_2 l0_2.length c0_2)] 41 (0, 0))) ∧ Aside0 (Below w.heap.size w w'))
  case atStart => exact ⟨(y567), (0), (by first | rfl | (simp; done) | (simp [*]; done)), H', ⟨Nat.le_refl _⟩, ⟨oR HO569⟩, ⟨oK BK566⟩, ⟨oB HB⟩⟩
  case round =>
   clear H'
   try clear c1
   try clear p2
   try clear c3
   try clear c7
   try clear hcz7_0
   try clear hcz7_1
   try clear hcz7_2
   try clear hfz7_0
   try clear hfz7_1
   try clear hfz7_2
   obtain ⟨x3_1, x4_1, rfl, HA, HK1, HO_3, BK566, HB⟩ := hrel
   cases gk with
   | zero => exact absurd HA.out (by simp [spec_WrongSteps.l0])
   | succ k1 =>
    have H := HA.out
    clear HA
    simp only [spec_WrongSteps.l0] at H
    by_cases c9 : x4_1 < a0_1
    ·rw [if_pos c9] at H
     have c9b0 : decide (x4_1 < a0_1) = true := decide_eq_true c9
     clear c9
     by_cases c10 : 0 ≤ x4_1
     ·rw [if_pos c10] at H
      have c10b0 : decide (0 ≤ x4_1) = true := decide_eq_true c10
      clear c10
      by_cases c11 : x4_1 < (l0_0.length : Int)
      ·rw [if_pos c11] at H
       have c11b0 : decide (x4_1 < (l0_0.length : Int)) = true := decide_eq_true c11
       clear c11
       by_cases c12 : 0 ≤ ((rd_T145 l0_0 x4_1).f1)
       ·rw [if_pos c12] at H
        have c12b0 : decide (0 ≤ ((rd_T145 l0_0 x4_1).f1)) = true := decide_eq_true c12
        clear c12
        by_cases c13 : ((rd_T145 l0_0 x4_1).f1) < (l0_2.length : Int)
        ·rw [if_pos c13] at H
         have c13b0 : decide (((rd_T145 l0_0 x4_1).f1) < (l0_2.length : Int)) = true := decide_eq_true c13
         clear c13
         by_cases c14 : 0 ≤ ((rd_T145 l0_0 x4_1).f0)
         ·rw [if_pos c14] at H
          have c14b0 : decide (0 ≤ ((rd_T145 l0_0 x4_1).f0)) = true := decide_eq_true c14
          clear c14
          by_cases c15 : ((rd_T145 l0_0 x4_1).f0) < (l0_2.length : Int)
          ·rw [if_pos c15] at H
           have c15b0 : decide (((rd_T145 l0_0 x4_1).f0) < (l0_2.length : Int)) = true := decide_eq_true c15
           clear c15
           replace H := Option.bind_eq_some_iff.mp H
           obtain ⟨t575, A160, H⟩ := H
           (try dsimp only at H)
           have A16 := A_ A160
           clear A160
           by_cases c17 : (rd l0_2 ((rd_T145 l0_0 x4_1).f1)) = t575
           ·rw [if_pos c17] at H
            have c17b0 : ((rd l0_2 ((rd_T145 l0_0 x4_1).f1)) == t575) = true := beq_iff_eq.mpr c17
            have c17b1 : ((rd l0_2 ((rd_T145 l0_0 x4_1).f1)) != t575) = false := bne_eq_false_iff_eq.mpr c17
            clear c17
            have H' := A_ H
            clear H
            have hcz18_0 := cz BK566 0
            have hcz18_1 := cz BK566 1
            have hcz18_2 := cz BK566 2
            have hfz18_0 := blk_frozen BK566.out 0
            have hfz18_1 := blk_frozen BK566.out 1
            have hfz18_2 := blk_frozen BK566.out 2
            have p571 : 0 ≤ (x4_1 : Int) := of_decide_eq_true (by first | (with_reducible assumption) | assumption)
            have q571 : x4_1 < (l0_0.length : Int) := of_decide_eq_true (by first | (with_reducible assumption) | assumption)
            obtain ⟨ad571, e571, hx571_0, hx571_1, hx571_2, hx571_3⟩ := at_T145 HR0_0.out x4_1 p571 q571
            cases e571
            replace hx571_0 := (HB.out.cell (World.block_lt_of_cell? w _ hx571_0)).trans hx571_0
            replace hx571_1 := (HB.out.cell (World.block_lt_of_cell? w _ hx571_1)).trans hx571_1
            replace hx571_2 := (HB.out.cell (World.block_lt_of_cell? w _ hx571_2)).trans hx571_2
            replace hx571_3 := (HB.out.cell (World.block_lt_of_cell? w _ hx571_3)).trans hx571_3
            replace p571 := eq_true p571
            replace q571 := eq_true q571
            try go_wp2_with (first | ((with_reducible refine gate_dst (N := 5) rfl ?_); refine bX (N := 5) (cs := #[.int .i64 0, .int .i64 0, .int .i64 0, .int .i64 0]) (t := 145) ?_; intro gb572 hg w19 hbox hb; have n0_ := A_ (Kd.R_below (oR HO_3) hb); have n1_ := A_ (bb BK566 hb); have n2_ := A_ (below_step (oB HB) hb); have n3_ := A_ (hbox); have n4_ := A_ ((by rw [hg]; exact (below_size (oB HB)) : w.heap.size ≤ gb572)); have n5_ := A_ ((by rw [hg]; exact (below_size (oB HB)) : w.heap.size ≤ gb572)); have n6_ := A_ (nL BK566 hg); have n7_ := A_ (nG BK566 hg); clear HO_3; clear BK566; clear HB; have HO_3 := n0_; have BK566 := n1_; have HB := n2_; have BK572 := n3_; have GW572 := n4_; have GE572 := n5_; have NB566_572 := n6_; have NB572_566 := n7_; clear n0_ n1_ n2_ n3_ n4_ n5_ n6_ n7_; clear hb hbox hg; have hnb20 := NB572_566.out; have hnc20 := NB566_572.out; have hcz21_0 := cz BK572 0; have hcz21_1 := cz BK572 1; have hcz21_2 := cz BK572 2; have hcz21_3 := cz BK572 3; have hfz21_0 := blk_frozen BK572.out 0; have hfz21_1 := blk_frozen BK572.out 1; have hfz21_2 := blk_frozen BK572.out 2; have hfz21_3 := blk_frozen BK572.out 3))
            have n0_ : Aside0 (Kd.R (Kd.int .i64) 3 ((((w19.setCell ⟨gb572, 0, none⟩ (.int .i64 ((rd_T145 l0_0 x4_1).f0))).setCell ⟨gb572, 1, none⟩ (.int .i64 ((rd_T145 l0_0 x4_1).f1))).setCell ⟨gb572, 2, none⟩ (.int .i64 ((rd_T145 l0_0 x4_1).f2))).setCell ⟨gb572, 3, none⟩ (.int .i64 ((rd_T145 l0_0 x4_1).f3))) w.heap.size (fun _ => True) u3 x3_1) := ⟨by (with_reducible repeat (first | apply Kd.R_alloc | apply Kd.R_drewN | apply Kd.R_drew)); exact Kd.R_mono (Kd.R_far (p := ⟨gb572, 3, none⟩) (Kd.R_far (p := ⟨gb572, 2, none⟩) (Kd.R_far (p := ⟨gb572, 1, none⟩) (Kd.R_far (p := ⟨gb572, 0, none⟩) (Kd.R_types HO_3.out BK572.out (by decide)) (fun _ hk => hk.2) (.int .i64 ((rd_T145 l0_0 x4_1).f0))) (fun _ hk => hk.2) (.int .i64 ((rd_T145 l0_0 x4_1).f1))) (fun _ hk => hk.2) (.int .i64 ((rd_T145 l0_0 x4_1).f2))) (fun _ hk => hk.2) (.int .i64 ((rd_T145 l0_0 x4_1).f3))) (fun _ hk => trivial)⟩
            have n1_ : Aside0 (((((w19.setCell ⟨gb572, 0, none⟩ (.int .i64 ((rd_T145 l0_0 x4_1).f0))).setCell ⟨gb572, 1, none⟩ (.int .i64 ((rd_T145 l0_0 x4_1).f1))).setCell ⟨gb572, 2, none⟩ (.int .i64 ((rd_T145 l0_0 x4_1).f2))).setCell ⟨gb572, 3, none⟩ (.int .i64 ((rd_T145 l0_0 x4_1).f3))).heap[gb566]? = some (.cells #[.slice (some ad571) l0_0.length c0_0, .int .i64 a0_1, .slice A0_2 l0_2.length c0_2] 41 (0, 0))) := ⟨by (with_reducible repeat (first | refine blk_drewN ?_ _ | refine blk_drew ?_ | refine blk_alloc ?_ _)); refine blk_far ?_ NB566_572.out _; (with_reducible repeat (first | refine blk_drewN ?_ _ | refine blk_drew ?_ | refine blk_alloc ?_ _)); refine blk_far ?_ NB566_572.out _; (with_reducible repeat (first | refine blk_drewN ?_ _ | refine blk_drew ?_ | refine blk_alloc ?_ _)); refine blk_far ?_ NB566_572.out _; (with_reducible repeat (first | refine blk_drewN ?_ _ | refine blk_drew ?_ | refine blk_alloc ?_ _)); refine blk_far ?_ NB566_572.out _; (with_reducible repeat (first | refine blk_drewN ?_ _ | refine blk_drew ?_ | refine blk_alloc ?_ _)); exact BK566.out⟩
            have n2_ : Aside0 (((((w19.setCell ⟨gb572, 0, none⟩ (.int .i64 ((rd_T145 l0_0 x4_1).f0))).setCell ⟨gb572, 1, none⟩ (.int .i64 ((rd_T145 l0_0 x4_1).f1))).setCell ⟨gb572, 2, none⟩ (.int .i64 ((rd_T145 l0_0 x4_1).f2))).setCell ⟨gb572, 3, none⟩ (.int .i64 ((rd_T145 l0_0 x4_1).f3))).heap[gb572]? = some (.cells #[.int .i64 ((rd_T145 l0_0 x4_1).f0), .int .i64 ((rd_T145 l0_0 x4_1).f1), .int .i64 ((rd_T145 l0_0 x4_1).f2), .int .i64 ((rd_T145 l0_0 x4_1).f3)] 145 (0, 0))) := ⟨by (with_reducible repeat (first | refine blk_drewN ?_ _ | refine blk_drew ?_ | refine blk_alloc ?_ _)); refine blk_put (cs := #[.int .i64 ((rd_T145 l0_0 x4_1).f0), .int .i64 ((rd_T145 l0_0 x4_1).f1), .int .i64 ((rd_T145 l0_0 x4_1).f2), .int .i64 0]) ?_ 3 _ rfl; (with_reducible repeat (first | refine blk_drewN ?_ _ | refine blk_drew ?_ | refine blk_alloc ?_ _)); refine blk_put (cs := #[.int .i64 ((rd_T145 l0_0 x4_1).f0), .int .i64 ((rd_T145 l0_0 x4_1).f1), .int .i64 0, .int .i64 0]) ?_ 2 _ rfl; (with_reducible repeat (first | refine blk_drewN ?_ _ | refine blk_drew ?_ | refine blk_alloc ?_ _)); refine blk_put (cs := #[.int .i64 ((rd_T145 l0_0 x4_1).f0), .int .i64 0, .int .i64 0, .int .i64 0]) ?_ 1 _ rfl; (with_reducible repeat (first | refine blk_drewN ?_ _ | refine blk_drew ?_ | refine blk_alloc ?_ _)); refine blk_put (cs := #[.int .i64 0, .int .i64 0, .int .i64 0, .int .i64 0]) ?_ 0 _ rfl; (with_reducible repeat (first | refine blk_drewN ?_ _ | refine blk_drew ?_ | refine blk_alloc ?_ _)); exact BK572.out⟩
            have n3_ : Aside0 (Below w.heap.size w ((((w19.setCell ⟨gb572, 0, none⟩ (.int .i64 ((rd_T145 l0_0 x4_1).f0))).setCell ⟨gb572, 1, none⟩ (.int .i64 ((rd_T145 l0_0 x4_1).f1))).setCell ⟨gb572, 2, none⟩ (.int .i64 ((rd_T145 l0_0 x4_1).f2))).setCell ⟨gb572, 3, none⟩ (.int .i64 ((rd_T145 l0_0 x4_1).f3)))) := ⟨oB HB⟩
            (try clear HO_3)
            (try clear BK566)
            (try clear BK572)
            (try clear HB)
            generalize ((((w19.setCell ⟨gb572, 0, none⟩ (.int .i64 ((rd_T145 l0_0 x4_1).f0))).setCell ⟨gb572, 1, none⟩ (.int .i64 ((rd_T145 l0_0 x4_1).f1))).setCell ⟨gb572, 2, none⟩ (.int .i64 ((rd_T145 l0_0 x4_1).f2))).setCell ⟨gb572, 3, none⟩ (.int .i64 ((rd_T145 l0_0 x4_1).f3))) = w22 at n0_ n1_ n2_ n3_ ⊢
            have HO_3 := n0_
            have BK566 := n1_
            have BK572 := n2_
            have HB := n3_
            clear n0_ n1_ n2_ n3_
            have n0_ := A_ (Kd.R_drew HO_3.out)
            have n1_ := A_ (blk_drew BK566.out)
            have n2_ := A_ (blk_drew BK572.out)
            have n3_ := A_ (below_drew1 HB.out)
            clear HO_3
            clear BK566
            clear BK572
            clear HB
            have HO_3 := n0_
            have BK566 := n1_
            have BK572 := n2_
            have HB := n3_
            clear n0_ n1_ n2_ n3_
            have p573 : 0 ≤ (((rd_T145 l0_0 x4_1).f1) : Int) := of_decide_eq_true (by first | (with_reducible assumption) | assumption)
            have q573 : ((rd_T145 l0_0 x4_1).f1) < (l0_2.length : Int) := of_decide_eq_true (by first | (with_reducible assumption) | assumption)
            obtain ⟨ad573, e573, hx573_0⟩ := Kd.at_int HR0_2.out ((rd_T145 l0_0 x4_1).f1) p573 q573
            have hw573_0 := hx573_0
            cases e573
            replace hx573_0 := (HB.out.cell (World.block_lt_of_cell? w _ hx573_0)).trans hx573_0
            replace p573 := eq_true p573
            replace q573 := eq_true q573
            have p574 : 0 ≤ (((rd_T145 l0_0 x4_1).f0) : Int) := of_decide_eq_true (by first | (with_reducible assumption) | assumption)
            have q574 : ((rd_T145 l0_0 x4_1).f0) < (l0_2.length : Int) := of_decide_eq_true (by first | (with_reducible assumption) | assumption)
            obtain ⟨ad574, e574, hx574_0⟩ := Kd.at_int HR0_2.out ((rd_T145 l0_0 x4_1).f0) p574 q574
            have hw574_0 := hx574_0
            obtain rfl : ad573 = ad574 := (by injection e574)
            replace hx574_0 := (HB.out.cell (World.block_lt_of_cell? w _ hx574_0)).trans hx574_0
            replace p574 := eq_true p574
            replace q574 := eq_true q574
            refine start_ (n := 18) (S := fun w' => w'.cell? ⟨gb566, 0, none⟩ = some (.slice (some ad571) l0_0.length c0_0) ∧ w'.cell? ⟨gb566, 1, none⟩ = some (.int .i64 a0_1) ∧ w'.cell? ⟨gb566, 2, none⟩ = some (.slice (some ad573) l0_2.length c0_2) ∧ w'.cell? ⟨gb572, 0, none⟩ = some (.int .i64 ((rd_T145 l0_0 x4_1).f0)) ∧ w'.cell? ⟨gb572, 1, none⟩ = some (.int .i64 ((rd_T145 l0_0 x4_1).f1)) ∧ w'.cell? ⟨gb572, 2, none⟩ = some (.int .i64 ((rd_T145 l0_0 x4_1).f2)) ∧ w'.cell? ⟨gb572, 3, none⟩ = some (.int .i64 ((rd_T145 l0_0 x4_1).f3)) ∧ w'.cell? (ad573.add (((rd_T145 l0_0 x4_1).f1)).toNat) = some (.int .i64 (rd l0_2 ((rd_T145 l0_0 x4_1).f1))) ∧ w'.cell? (ad573.add (((rd_T145 l0_0 x4_1).f0)).toNat) = some (.int .i64 (rd l0_2 ((rd_T145 l0_0 x4_1).f0)))) (ds := []) #[false, false, false, false, false, false, false, false, false, false, false, false, false, false, false, false, false, false] (by kernel_rfl) rfl rfl ⟨cz BK566 0, cz BK566 1, cz BK566 2, cz BK572 0, cz BK572 1, cz BK572 2, cz BK572 3, ((HB.out.cell (World.block_lt_of_cell? w _ hw573_0)).trans hw573_0), ((HB.out.cell (World.block_lt_of_cell? w _ hw574_0)).trans hw574_0)⟩ (fun hHeld => ?_); refine with_tabW spec_WrongSteps.tab8 spec_WrongSteps.bits8 (fun HT_ HW_ => ?_)
            generalize w22.drew = w23 at HO_3 BK566 BK572 HB hx573_0 hx574_0 hHeld ⊢
            refine pA 0 (some 22) HT_.out ?_
            refine pA 2 (some 24) HT_.out ?_
            refine pA 6 (some 28) HT_.out ?_
            refine pA 8 (some 30) HT_.out ?_
            refine pA 12 (some 34) HT_.out ?_
            refine pA 14 (some 36) HT_.out ?_
            refine pT 1 (some 23) HT_.out HW_.out hHeld ?_
            refine pT 3 (some 25) HT_.out HW_.out hHeld ?_
            refine pA 4 (some 26) HT_.out ?_
            refine pT 5 (some 27) HT_.out HW_.out hHeld ?_
            refine pT 7 (some 29) HT_.out HW_.out hHeld ?_
            refine pT 9 (some 31) HT_.out HW_.out hHeld ?_
            refine pA 10 (some 32) HT_.out ?_
            refine pT 11 (some 33) HT_.out HW_.out hHeld ?_
            refine pT 13 (some 35) HT_.out HW_.out hHeld ?_
            refine pT 15 (some 37) HT_.out HW_.out hHeld ?_
            refine one_ (i := 16) (N := some 38) #[true, true, true, true, true, true, true, true, true, true, true, true, true, true, true, true, true, false] rfl rfl (one_of HT_.out (by kernel_rfl)) (by decide) (fun K hK => ?_)
            refine goes_ Tryd.func138 (by kernel_rfl) rfl #[.int .i64 (rd l0_2 ((rd_T145 l0_0 x4_1).f0)), .int .i64 ((rd_T145 l0_0 x4_1).f2), .int .i64 ((rd_T145 l0_0 x4_1).f3)] (by rfl) rfl rfl (by (try simp only [List.map_toArray, List.map_cons, List.map_nil]); first | done | rfl | (simp only [List.length_drop, List.length_take]; rfl)) ?_
            with_reducible refine (spec_TunedPitch.calls k1 (rd l0_2 ((rd_T145 l0_0 x4_1).f0)) ((rd_T145 l0_0 x4_1).f2) ((rd_T145 l0_0 x4_1).f3) t575 _ A16.out).mono ?_
            rintro e w24 ⟨rfl, hb⟩
            refine ⟨_, rfl, ?_⟩
            have n0_ := A_ (Kd.R_below (oR HO_3) hb)
            have n1_ := A_ (bb BK566 hb)
            have n2_ := A_ (bb BK572 hb)
            have n3_ := A_ (below_step (oB HB) hb)
            clear HO_3
            clear BK566
            clear BK572
            clear HB
            have HO_3 := n0_
            have BK566 := n1_
            have BK572 := n2_
            have HB := n3_
            clear n0_ n1_ n2_ n3_
            (try clear hb)
            (try clear hb2)
            (try clear hk)
            (try clear hi)
            refine hK.out _ _ ⟨cz BK566 0, cz BK566 1, cz BK566 2, cz BK572 0, cz BK572 1, cz BK572 2, cz BK572 3, ((HB.out.cell (World.block_lt_of_cell? w _ hw573_0)).trans hw573_0), ((HB.out.cell (World.block_lt_of_cell? w _ hw574_0)).trans hw574_0)⟩ (fun hHeld => ?_)
            clear hK K
            refine norm_ (a' := ?_) ?_ ?_
            rotate_left
            ·show Act.put _ (some 38) _ = _
             simp only [Act.put, List.setIfInBounds_toArray, List.set_cons_zero, List.set_cons_succ, i64_w, i32_w]
             rfl
            refine pA 17 (some 39) HT_.out ?_
            refine done_ (done_of HT_.out (by kernel_rfl)) ?_
            try go_wp2
            go_roundg k1
            case measure => have := HK1.out; omega
            case rel => exact ⟨(x3_1), (wrap64 (x4_1 + 1)), (by first | rfl | (simp; done) | (simp [*]; done)), H', ⟨by have := HK1.out; omega⟩, ⟨oR HO_3⟩, ⟨oK BK566⟩, ⟨oB HB⟩⟩
           ·rw [if_neg c17] at H
            have c17b0 : ((rd l0_2 ((rd_T145 l0_0 x4_1).f1)) == t575) = false := beq_eq_false_iff_ne.mpr c17
            have c17b1 : ((rd l0_2 ((rd_T145 l0_0 x4_1).f1)) != t575) = true := bne_iff_ne.mpr c17
            by_cases c25 : x3_1.length < 17592186044416
            ·rw [if_pos c25] at H
             have LMc25 := A_ c25
             clear c25
             obtain ⟨y576, hy576⟩ : ∃ y_ : List Int, y_ = (x3_1 ++ [x4_1]) := ⟨_, rfl⟩
             replace H : (spec_WrongSteps.l0 k1 y576 (wrap64 (x4_1 + 1)) l0_0 a0_1 l0_2) = some r := by first | (rw [hy576]; with_reducible exact H) | (have H2_ := (Option.bind_some _ _).symm.trans H; rw [hy576]; with_reducible exact H2_) | (have H2_ := (Option.bind_some _ _).symm.trans H; with_reducible exact H2_) | with_reducible exact H | (rw [hy576]; exact H) | exact H
             have Ny576 := A_ hy576
             clear hy576
             have H' := A_ H
             clear H
             have hcz26_0 := cz BK566 0
             have hcz26_1 := cz BK566 1
             have hcz26_2 := cz BK566 2
             have hfz26_0 := blk_frozen BK566.out 0
             have hfz26_1 := blk_frozen BK566.out 1
             have hfz26_2 := blk_frozen BK566.out 2
             have p571 : 0 ≤ (x4_1 : Int) := of_decide_eq_true (by first | (with_reducible assumption) | assumption)
             have q571 : x4_1 < (l0_0.length : Int) := of_decide_eq_true (by first | (with_reducible assumption) | assumption)
             obtain ⟨ad571, e571, hx571_0, hx571_1, hx571_2, hx571_3⟩ := at_T145 HR0_0.out x4_1 p571 q571
             cases e571
             replace hx571_0 := (HB.out.cell (World.block_lt_of_cell? w _ hx571_0)).trans hx571_0
             replace hx571_1 := (HB.out.cell (World.block_lt_of_cell? w _ hx571_1)).trans hx571_1
             replace hx571_2 := (HB.out.cell (World.block_lt_of_cell? w _ hx571_2)).trans hx571_2
             replace hx571_3 := (HB.out.cell (World.block_lt_of_cell? w _ hx571_3)).trans hx571_3
             replace p571 := eq_true p571
             replace q571 := eq_true q571
             try go_wp2_with (first | ((with_reducible refine gate_dst (N := 5) rfl ?_); refine bX (N := 5) (cs := #[.int .i64 0, .int .i64 0, .int .i64 0, .int .i64 0]) (t := 145) ?_; intro gb572 hg w27 hbox hb; have n0_ := A_ (Kd.R_below (oR HO_3) hb); have n1_ := A_ (bb BK566 hb); have n2_ := A_ (below_step (oB HB) hb); have n3_ := A_ (hbox); have n4_ := A_ ((by rw [hg]; exact (below_size (oB HB)) : w.heap.size ≤ gb572)); have n5_ := A_ ((by rw [hg]; exact (below_size (oB HB)) : w.heap.size ≤ gb572)); have n6_ := A_ (nL BK566 hg); have n7_ := A_ (nG BK566 hg); clear HO_3; clear BK566; clear HB; have HO_3 := n0_; have BK566 := n1_; have HB := n2_; have BK572 := n3_; have GW572 := n4_; have GE572 := n5_; have NB566_572 := n6_; have NB572_566 := n7_; clear n0_ n1_ n2_ n3_ n4_ n5_ n6_ n7_; clear hb hbox hg; have hnb28 := NB572_566.out; have hnc28 := NB566_572.out; have hcz29_0 := cz BK572 0; have hcz29_1 := cz BK572 1; have hcz29_2 := cz BK572 2; have hcz29_3 := cz BK572 3; have hfz29_0 := blk_frozen BK572.out 0; have hfz29_1 := blk_frozen BK572.out 1; have hfz29_2 := blk_frozen BK572.out 2; have hfz29_3 := blk_frozen BK572.out 3))
             have n0_ : Aside0 (Kd.R (Kd.int .i64) 3 ((((w27.setCell ⟨gb572, 0, none⟩ (.int .i64 ((rd_T145 l0_0 x4_1).f0))).setCell ⟨gb572, 1, none⟩ (.int .i64 ((rd_T145 l0_0 x4_1).f1))).setCell ⟨gb572, 2, none⟩ (.int .i64 ((rd_T145 l0_0 x4_1).f2))).setCell ⟨gb572, 3, none⟩ (.int .i64 ((rd_T145 l0_0 x4_1).f3))) w.heap.size (fun _ => True) u3 x3_1) := ⟨by (with_reducible repeat (first | apply Kd.R_alloc | apply Kd.R_drewN | apply Kd.R_drew)); exact Kd.R_mono (Kd.R_far (p := ⟨gb572, 3, none⟩) (Kd.R_far (p := ⟨gb572, 2, none⟩) (Kd.R_far (p := ⟨gb572, 1, none⟩) (Kd.R_far (p := ⟨gb572, 0, none⟩) (Kd.R_types HO_3.out BK572.out (by decide)) (fun _ hk => hk.2) (.int .i64 ((rd_T145 l0_0 x4_1).f0))) (fun _ hk => hk.2) (.int .i64 ((rd_T145 l0_0 x4_1).f1))) (fun _ hk => hk.2) (.int .i64 ((rd_T145 l0_0 x4_1).f2))) (fun _ hk => hk.2) (.int .i64 ((rd_T145 l0_0 x4_1).f3))) (fun _ hk => trivial)⟩
             have n1_ : Aside0 (((((w27.setCell ⟨gb572, 0, none⟩ (.int .i64 ((rd_T145 l0_0 x4_1).f0))).setCell ⟨gb572, 1, none⟩ (.int .i64 ((rd_T145 l0_0 x4_1).f1))).setCell ⟨gb572, 2, none⟩ (.int .i64 ((rd_T145 l0_0 x4_1).f2))).setCell ⟨gb572, 3, none⟩ (.int .i64 ((rd_T145 l0_0 x4_1).f3))).heap[gb566]? = some (.cells #[.slice (some ad571) l0_0.length c0_0, .int .i64 a0_1, .slice A0_2 l0_2.length c0_2] 41 (0, 0))) := ⟨by (with_reducible repeat (first | refine blk_drewN ?_ _ | refine blk_drew ?_ | refine blk_alloc ?_ _)); refine blk_far ?_ NB566_572.out _; (with_reducible repeat (first | refine blk_drewN ?_ _ | refine blk_drew ?_ | refine blk_alloc ?_ _)); refine blk_far ?_ NB566_572.out _; (with_reducible repeat (first | refine blk_drewN ?_ _ | refine blk_drew ?_ | refine blk_alloc ?_ _)); refine blk_far ?_ NB566_572.out _; (with_reducible repeat (first | refine blk_drewN ?_ _ | refine blk_drew ?_ | refine blk_alloc ?_ _)); refine blk_far ?_ NB566_572.out _; (with_reducible repeat (first | refine blk_drewN ?_ _ | refine blk_drew ?_ | refine blk_alloc ?_ _)); exact BK566.out⟩
             have n2_ : Aside0 (((((w27.setCell ⟨gb572, 0, none⟩ (.int .i64 ((rd_T145 l0_0 x4_1).f0))).setCell ⟨gb572, 1, none⟩ (.int .i64 ((rd_T145 l0_0 x4_1).f1))).setCell ⟨gb572, 2, none⟩ (.int .i64 ((rd_T145 l0_0 x4_1).f2))).setCell ⟨gb572, 3, none⟩ (.int .i64 ((rd_T145 l0_0 x4_1).f3))).heap[gb572]? = some (.cells #[.int .i64 ((rd_T145 l0_0 x4_1).f0), .int .i64 ((rd_T145 l0_0 x4_1).f1), .int .i64 ((rd_T145 l0_0 x4_1).f2), .int .i64 ((rd_T145 l0_0 x4_1).f3)] 145 (0, 0))) := ⟨by (with_reducible repeat (first | refine blk_drewN ?_ _ | refine blk_drew ?_ | refine blk_alloc ?_ _)); refine blk_put (cs := #[.int .i64 ((rd_T145 l0_0 x4_1).f0), .int .i64 ((rd_T145 l0_0 x4_1).f1), .int .i64 ((rd_T145 l0_0 x4_1).f2), .int .i64 0]) ?_ 3 _ rfl; (with_reducible repeat (first | refine blk_drewN ?_ _ | refine blk_drew ?_ | refine blk_alloc ?_ _)); refine blk_put (cs := #[.int .i64 ((rd_T145 l0_0 x4_1).f0), .int .i64 ((rd_T145 l0_0 x4_1).f1), .int .i64 0, .int .i64 0]) ?_ 2 _ rfl; (with_reducible repeat (first | refine blk_drewN ?_ _ | refine blk_drew ?_ | refine blk_alloc ?_ _)); refine blk_put (cs := #[.int .i64 ((rd_T145 l0_0 x4_1).f0), .int .i64 0, .int .i64 0, .int .i64 0]) ?_ 1 _ rfl; (with_reducible repeat (first | refine blk_drewN ?_ _ | refine blk_drew ?_ | refine blk_alloc ?_ _)); refine blk_put (cs := #[.int .i64 0, .int .i64 0, .int .i64 0, .int .i64 0]) ?_ 0 _ rfl; (with_reducible repeat (first | refine blk_drewN ?_ _ | refine blk_drew ?_ | refine blk_alloc ?_ _)); exact BK572.out⟩
             have n3_ : Aside0 (Below w.heap.size w ((((w27.setCell ⟨gb572, 0, none⟩ (.int .i64 ((rd_T145 l0_0 x4_1).f0))).setCell ⟨gb572, 1, none⟩ (.int .i64 ((rd_T145 l0_0 x4_1).f1))).setCell ⟨gb572, 2, none⟩ (.int .i64 ((rd_T145 l0_0 x4_1).f2))).setCell ⟨gb572, 3, none⟩ (.int .i64 ((rd_T145 l0_0 x4_1).f3)))) := ⟨oB HB⟩
             (try clear HO_3)
             (try clear BK566)
             (try clear BK572)
             (try clear HB)
             generalize ((((w27.setCell ⟨gb572, 0, none⟩ (.int .i64 ((rd_T145 l0_0 x4_1).f0))).setCell ⟨gb572, 1, none⟩ (.int .i64 ((rd_T145 l0_0 x4_1).f1))).setCell ⟨gb572, 2, none⟩ (.int .i64 ((rd_T145 l0_0 x4_1).f2))).setCell ⟨gb572, 3, none⟩ (.int .i64 ((rd_T145 l0_0 x4_1).f3))) = w30 at n0_ n1_ n2_ n3_ ⊢
             have HO_3 := n0_
             have BK566 := n1_
             have BK572 := n2_
             have HB := n3_
             clear n0_ n1_ n2_ n3_
             have n0_ := A_ (Kd.R_drew HO_3.out)
             have n1_ := A_ (blk_drew BK566.out)
             have n2_ := A_ (blk_drew BK572.out)
             have n3_ := A_ (below_drew1 HB.out)
             clear HO_3
             clear BK566
             clear BK572
             clear HB
             have HO_3 := n0_
             have BK566 := n1_
             have BK572 := n2_
             have HB := n3_
             clear n0_ n1_ n2_ n3_
             have p573 : 0 ≤ (((rd_T145 l0_0 x4_1).f1) : Int) := of_decide_eq_true (by first | (with_reducible assumption) | assumption)
             have q573 : ((rd_T145 l0_0 x4_1).f1) < (l0_2.length : Int) := of_decide_eq_true (by first | (with_reducible assumption) | assumption)
             obtain ⟨ad573, e573, hx573_0⟩ := Kd.at_int HR0_2.out ((rd_T145 l0_0 x4_1).f1) p573 q573
             have hw573_0 := hx573_0
             cases e573
             replace hx573_0 := (HB.out.cell (World.block_lt_of_cell? w _ hx573_0)).trans hx573_0
             replace p573 := eq_true p573
             replace q573 := eq_true q573
             have p574 : 0 ≤ (((rd_T145 l0_0 x4_1).f0) : Int) := of_decide_eq_true (by first | (with_reducible assumption) | assumption)
             have q574 : ((rd_T145 l0_0 x4_1).f0) < (l0_2.length : Int) := of_decide_eq_true (by first | (with_reducible assumption) | assumption)
             obtain ⟨ad574, e574, hx574_0⟩ := Kd.at_int HR0_2.out ((rd_T145 l0_0 x4_1).f0) p574 q574
             have hw574_0 := hx574_0
             obtain rfl : ad573 = ad574 := (by injection e574)
             replace hx574_0 := (HB.out.cell (World.block_lt_of_cell? w _ hx574_0)).trans hx574_0
             replace p574 := eq_true p574
             replace q574 := eq_true q574
             refine start_ (n := 18) (S := fun w' => w'.cell? ⟨gb566, 0, none⟩ = some (.slice (some ad571) l0_0.length c0_0) ∧ w'.cell? ⟨gb566, 1, none⟩ = some (.int .i64 a0_1) ∧ w'.cell? ⟨gb566, 2, none⟩ = some (.slice (some ad573) l0_2.length c0_2) ∧ w'.cell? ⟨gb572, 0, none⟩ = some (.int .i64 ((rd_T145 l0_0 x4_1).f0)) ∧ w'.cell? ⟨gb572, 1, none⟩ = some (.int .i64 ((rd_T145 l0_0 x4_1).f1)) ∧ w'.cell? ⟨gb572, 2, none⟩ = some (.int .i64 ((rd_T145 l0_0 x4_1).f2)) ∧ w'.cell? ⟨gb572, 3, none⟩ = some (.int .i64 ((rd_T145 l0_0 x4_1).f3)) ∧ w'.cell? (ad573.add (((rd_T145 l0_0 x4_1).f1)).toNat) = some (.int .i64 (rd l0_2 ((rd_T145 l0_0 x4_1).f1))) ∧ w'.cell? (ad573.add (((rd_T145 l0_0 x4_1).f0)).toNat) = some (.int .i64 (rd l0_2 ((rd_T145 l0_0 x4_1).f0)))) (ds := []) #[false, false, false, false, false, false, false, false, false, false, false, false, false, false, false, false, false, false] (by kernel_rfl) rfl rfl ⟨cz BK566 0, cz BK566 1, cz BK566 2, cz BK572 0, cz BK572 1, cz BK572 2, cz BK572 3, ((HB.out.cell (World.block_lt_of_cell? w _ hw573_0)).trans hw573_0), ((HB.out.cell (World.block_lt_of_cell? w _ hw574_0)).trans hw574_0)⟩ (fun hHeld => ?_); refine with_tabW spec_WrongSteps.tab8 spec_WrongSteps.bits8 (fun HT_ HW_ => ?_)
             generalize w30.drew = w31 at HO_3 BK566 BK572 HB hx573_0 hx574_0 hHeld ⊢
             refine pA 0 (some 22) HT_.out ?_
             refine pA 2 (some 24) HT_.out ?_
             refine pA 6 (some 28) HT_.out ?_
             refine pA 8 (some 30) HT_.out ?_
             refine pA 12 (some 34) HT_.out ?_
             refine pA 14 (some 36) HT_.out ?_
             refine pT 1 (some 23) HT_.out HW_.out hHeld ?_
             refine pT 3 (some 25) HT_.out HW_.out hHeld ?_
             refine pA 4 (some 26) HT_.out ?_
             refine pT 5 (some 27) HT_.out HW_.out hHeld ?_
             refine pT 7 (some 29) HT_.out HW_.out hHeld ?_
             refine pT 9 (some 31) HT_.out HW_.out hHeld ?_
             refine pA 10 (some 32) HT_.out ?_
             refine pT 11 (some 33) HT_.out HW_.out hHeld ?_
             refine pT 13 (some 35) HT_.out HW_.out hHeld ?_
             refine pT 15 (some 37) HT_.out HW_.out hHeld ?_
             refine one_ (i := 16) (N := some 38) #[true, true, true, true, true, true, true, true, true, true, true, true, true, true, true, true, true, false] rfl rfl (one_of HT_.out (by kernel_rfl)) (by decide) (fun K hK => ?_)
             refine goes_ Tryd.func138 (by kernel_rfl) rfl #[.int .i64 (rd l0_2 ((rd_T145 l0_0 x4_1).f0)), .int .i64 ((rd_T145 l0_0 x4_1).f2), .int .i64 ((rd_T145 l0_0 x4_1).f3)] (by rfl) rfl rfl (by (try simp only [List.map_toArray, List.map_cons, List.map_nil]); first | done | rfl | (simp only [List.length_drop, List.length_take]; rfl)) ?_
             with_reducible refine (spec_TunedPitch.calls k1 (rd l0_2 ((rd_T145 l0_0 x4_1).f0)) ((rd_T145 l0_0 x4_1).f2) ((rd_T145 l0_0 x4_1).f3) t575 _ A16.out).mono ?_
             rintro e w32 ⟨rfl, hb⟩
             refine ⟨_, rfl, ?_⟩
             have n0_ := A_ (Kd.R_below (oR HO_3) hb)
             have n1_ := A_ (bb BK566 hb)
             have n2_ := A_ (bb BK572 hb)
             have n3_ := A_ (below_step (oB HB) hb)
             clear HO_3
             clear BK566
             clear BK572
             clear HB
             have HO_3 := n0_
             have BK566 := n1_
             have BK572 := n2_
             have HB := n3_
             clear n0_ n1_ n2_ n3_
             (try clear hb)
             (try clear hb2)
             (try clear hk)
             (try clear hi)
             refine hK.out _ _ ⟨cz BK566 0, cz BK566 1, cz BK566 2, cz BK572 0, cz BK572 1, cz BK572 2, cz BK572 3, ((HB.out.cell (World.block_lt_of_cell? w _ hw573_0)).trans hw573_0), ((HB.out.cell (World.block_lt_of_cell? w _ hw574_0)).trans hw574_0)⟩ (fun hHeld => ?_)
             clear hK K
             refine norm_ (a' := ?_) ?_ ?_
             rotate_left
             ·show Act.put _ (some 38) _ = _
              simp only [Act.put, List.setIfInBounds_toArray, List.set_cons_zero, List.set_cons_succ, i64_w, i32_w]
              rfl
             refine pA 17 (some 39) HT_.out ?_
             refine done_ (done_of HT_.out (by kernel_rfl)) ?_
             try go_wp2_with (first | ((with_reducible refine gate_builtin (b := .append) (xs := #[.tmp 40, .tmp 42]) rfl ?_); at_builtin; refine Kd.R_append (Kd.int .i64) (w0 := w) w.heap.size rfl (.tmp 40) (.tmp 42) 39 3 (.int .i64 0) 8 rfl Tryd.underlying39 info3 rfl (by decide) (by omega) u3 x3_1 x4_1 [.int .i64 x4_1] (fun _ => True) (fun _ => False) rfl rfl ?aP (fun _ hk => hk.elim) ?aF ?aO ?aB ?aS ?aL ?_; (case aP => exact rfl); (case aB => exact (oB HB)); (case aF => exact (fun _ _ => trivial)); (case aO => exact (oR HO_3)); (case aS => exact (below_size (oB HB))); (case aL => have := LMc25.out; omega); intro v577 w33 ho hb hg hat; rw [← Ny576.out] at ho; have n0_ := A_ (bg BK566 hg (Kd.R_ne HO_3.out BK566.out (by decide))); have n1_ := A_ (bg BK572 hg (Kd.R_ne HO_3.out BK572.out (by decide))); have n2_ := A_ (hb); have n3_ := A_ (ho); clear BK566; clear BK572; clear HB; clear HO_3; have BK566 := n0_; have BK572 := n1_; have HB := n2_; have HO578 := n3_; clear n0_ n1_ n2_ n3_; clear ho hb hg hat))
             go_roundg k1
             case measure => have := HK1.out; omega
             case rel => exact ⟨(y576), (wrap64 (x4_1 + 1)), (by first | rfl | (simp; done) | (simp [*]; done)), H', ⟨by have := HK1.out; omega⟩, ⟨oR HO578⟩, ⟨oK BK566⟩, ⟨oB HB⟩⟩
            ·rw [if_neg c25] at H
             exact absurd H (by simp)
          ·rw [if_neg c15] at H
           exact absurd H (by simp)
         ·rw [if_neg c14] at H
          exact absurd H (by simp)
        ·rw [if_neg c13] at H
         exact absurd H (by simp)
       ·rw [if_neg c12] at H
        exact absurd H (by simp)
      ·rw [if_neg c11] at H
       exact absurd H (by simp)
     ·rw [if_neg c10] at H
      exact absurd H (by simp)
    ·rw [if_neg c9] at H
     have c9b0 : decide (x4_1 < a0_1) = false := decide_eq_false c9
     clear c9
     obtain rfl := Option.some.inj H
     have hcz34_0 := cz BK566 0
     have hcz34_1 := cz BK566 1
     have hcz34_2 := cz BK566 2
     have hfz34_0 := blk_frozen BK566.out 0
     have hfz34_1 := blk_frozen BK566.out 1
     have hfz34_2 := blk_frozen BK566.out 2
     go_wp2
     go_ret
     exact ⟨_, eR, oR HO_3, oB HB⟩
 ·replace c3 := Bool.eq_false_iff.mpr c3
  subst c3
  rw [if_neg (show ¬ (false = true) by decide)] at H
  obtain rfl := Option.some.inj H
  go_enter Tryd.func120, Tryd.ntmps120
  go_wp2_with (first | ((with_reducible refine gate_dst (N := 1) rfl ?_); refine bX (N := 1) (cs := #[.slice A0_0 l0_0.length c0_0, .int .i64 a0_1, .slice A0_2 l0_2.length c0_2]) (t := 41) ?_; intro gb566 hg w35 hbox hb; have n0_ := A_ (below_step (oB HB) hb); have n1_ := A_ (hbox); have n2_ := A_ ((by rw [hg]; exact (below_size (oB HB)) : w.heap.size ≤ gb566)); have n3_ := A_ ((by rw [hg]; exact (below_size (oB HB)) : w.heap.size ≤ gb566)); clear HB; have HB := n0_; have BK566 := n1_; have GW566 := n2_; have GE566 := n3_; clear n0_ n1_ n2_ n3_; clear hb hbox hg) | ((with_reducible refine gate_dst (N := 6) rfl ?_); refine Kd.R_lit (Kd.int .i64) _ 3 ?hg (N := 6) ?hd (xs := ([] : List Int)) (inner := []) (ok := fun _ => True) (okp := fun _ => True) ?hr ?hp (fun _ hk => hk) trivial (Below.refl _ _) (Nat.le_refl _) (by simp) ?_; (case hd => rfl); (case hg => rfl); (case hr => first | (go_simp; done) | (go_simp; rfl)); (case hp => exact (Reps.none _ _)); intro v568 w36 ho37 hb hg_ hnew_; clear hg_ hnew_; (first | rw [← Ny567.out] at ho37 | (simp only [Int.reduceToNat] at ho37; rw [← Ny567.out] at ho37)); have n0_ := A_ (Kd.R_lower ho37 (below_size (oB HB))); have n1_ := A_ (bb BK566 hb); have n2_ := A_ (below_step (oB HB) hb); clear BK566; clear HB; have HO569 := n0_; have BK566 := n1_; have HB := n2_; clear n0_ n1_ n2_; clear hb ho37; have hcz38_0 := cz BK566 0; have hcz38_1 := cz BK566 1; have hcz38_2 := cz BK566 2; have hfz38_0 := blk_frozen BK566.out 0; have hfz38_1 := blk_frozen BK566.out 1; have hfz38_2 := blk_frozen BK566.out 2) | ((with_reducible refine gate_callee (f := 73) rfl ?_); refine gL (some 8) Tryd.func73 #[.agg #[.slice A0_0 l0_0.length c0_0, .int .i64 a0_1, .slice A0_2 l0_2.length c0_2]] ?_; (with_reducible refine (spec_WorkOk.calls k _ _ l0_0 a0_1 _ _ l0_2 false _ ?side1 ?side2 ?side3 ?side4 A2.out).mono ?_); (case side1 => exact oc_ HR0_0.out); (case side2 => exact HC0_0.out); (case side3 => exact oc_ HR0_2.out); (case side4 => exact HC0_2.out); rintro e w39 ⟨rfl, hb⟩; refine ⟨_, rfl, ?_⟩; have n0_ := A_ (Kd.R_below (oR HO569) hb); have n1_ := A_ (bb BK566 hb); have n2_ := A_ (below_step (oB HB) hb); clear HO569; clear BK566; clear HB; have HO569 := n0_; have BK566 := n1_; have HB := n2_; clear n0_ n1_ n2_; (try clear hb); (try clear hb2); (try clear hk); (try clear hi)))
  go_ret
  exact ⟨_, eR, oR HO569, oB HB⟩
end Go.Proofs.YtojiighpkppckaaDoor.P


namespace Go.Proofs.YtojiighpkppckaaDoor.P
open Go.RowKit Go.Proofs.YtojiighpkppckaaDoorW.PrintWords Go.Proofs.YtojiighpkppckaaDoorW.PrintLast Go.Proofs.YtojiighpkppckaaDoorW.PrintMore
attribute [local go_sem] max2_int min2_int max_two min_two max_three min_three max_four min_four
set_option linter.unusedVariables false
set_option linter.unusedSimpArgs false
def spec_MendStep.f (k : Nat) (l0_0 : List (S145)) (a0_1 : Int) (l0_2 : List Int) : Option ((List (S145)) × Int × List Int × Bool) := (spec_l36Copy.f l0_0 a0_1 l0_2).bind fun bt581 => ((spec_WrongSteps.f k l0_0 a0_1 l0_2).bind fun t589 => (if (t589.length : Int) = 0 then (some (bt581.1, bt581.2.1, bt581.2.2, false)) else (if 0 < (t589.length : Int) then (if 0 ≤ (rd t589 0) then (if (rd t589 0) < (l0_0.length : Int) then (if 0 ≤ ((rd_T145 l0_0 (rd t589 0)).f0) then (if ((rd_T145 l0_0 (rd t589 0)).f0) < (l0_2.length : Int) then ((spec_TunedPitch.f k (rd l0_2 ((rd_T145 l0_0 (rd t589 0)).f0)) ((rd_T145 l0_0 (rd t589 0)).f2) ((rd_T145 l0_0 (rd t589 0)).f3)).bind fun t596 => (if t596 = 0 then (some (bt581.1, bt581.2.1, bt581.2.2, false)) else (if 0 ≤ ((rd_T145 l0_0 (rd t589 0)).f1) then (if ((rd_T145 l0_0 (rd t589 0)).f1) < (bt581.2.2.length : Int) then (some (bt581.1, bt581.2.1, (bt581.2.2.set (((rd_T145 l0_0 (rd t589 0)).f1) : Int).toNat t596), true)) else (none)) else (none)))) else (none)) else (none)) else (none)) else (none)) else (none))))
def spec_MendStep.T5 : Bool × List (List Nat × List Nat) := (true, [([], []), ([0], [0]), ([], []), ([2], [2]), ([3], [3]), ([1, 4], [1, 4]), ([5], [5]), ([], []), ([7, 6, 0, 1, 2, 3, 4, 5, 6, 7], [6, 7])])
def spec_MendStep.B5 : List Nat := [0, 1, 0, 4, 12, 31, 63, 0, 255]
theorem spec_MendStep.tab5 : rtab .any (opsOf Tryd.f121 5) = spec_MendStep.T5 := by kernel_rfl
theorem spec_MendStep.bits5 : waitsOk spec_MendStep.T5.2 spec_MendStep.B5 = true := by kernel_rfl
def spec_MendStep.T6 : Bool × List (List Nat × List Nat) := (true, [([], []), ([0], [0]), ([], []), ([2], [2]), ([1, 3], [1, 3]), ([4], [4]), ([], []), ([6], [6]), ([], []), ([8], [8]), ([5, 7, 9], [5, 7, 9]), ([10, 10, 0, 1, 2, 3, 4, 5, 6, 7, 8, 9, 10], [10])])
def spec_MendStep.B6 : List Nat := [0, 1, 0, 4, 15, 31, 0, 64, 0, 256, 1023, 2047]
theorem spec_MendStep.tab6 : rtab .any (opsOf Tryd.f121 6) = spec_MendStep.T6 := by kernel_rfl
theorem spec_MendStep.bits6 : waitsOk spec_MendStep.T6.2 spec_MendStep.B6 = true := by kernel_rfl
set_option maxHeartbeats 8000000 in
set_option maxRecDepth 100000 in
theorem spec_MendStep.calls (k : Nat) (A0_0 : Option Addr) (c0_0 : Nat) (l0_0 : List (S145)) (a0_1 : Int) (A0_2 : Option Addr) (c0_2 : Nat) (l0_2 : List Int) (r1 : List (S145)) (r2 : Int) (r3 : List Int) (r4 : Bool) (w : World) (hr0_0 : Kd.C k145 w A0_0 l0_0.length l0_0) (hc0_0 : l0_0.length ≤ c0_0) (hr0_2 : Kd.C (Kd.int .i64) w A0_2 l0_2.length l0_2) (hc0_2 : l0_2.length ≤ c0_2) (h : spec_MendStep.f k l0_0 a0_1 l0_2 = some (r1, r2, r3, r4)) :
  Calls Tryd.prog 121 #[.agg #[.slice A0_0 l0_0.length c0_0, .int .i64 a0_1, .slice A0_2 l0_2.length c0_2]] w fun e w' => ∃ v0_ v2_ : Value, e = .returned (.tuple #[.agg #[v0_, .int .i64 r2, v2_], .bool r4]) ∧ Kd.R k145 145 w' w.heap.size (fun _ => True) v0_ r1 ∧ Kd.R (Kd.int .i64) 3 w' w.heap.size (fun _ => True) v2_ r3 ∧ Below w.heap.size w w' := by
 have hu41 := Tryd.underlying41
 have hu145 := Tryd.underlying145
 have HR0_0 := A_ hr0_0
 have HC0_0 := A_ hc0_0
 clear hr0_0 hc0_0
 have HR0_2 := A_ hr0_2
 have HC0_2 := A_ hc0_2
 clear hr0_2 hc0_2
 have HB := A_ (Below.refl w.heap.size w)
 have H : ((spec_l36Copy.f l0_0 a0_1 l0_2).bind fun bt581 => ((spec_WrongSteps.f k l0_0 a0_1 l0_2).bind fun t589 => (if (t589.length : Int) = 0 then (some (bt581.1, bt581.2.1, bt581.2.2, false)) else (if 0 < (t589.length : Int) then (if 0 ≤ (rd t589 0) then (if (rd t589 0) < (l0_0.length : Int) then (if 0 ≤ ((rd_T145 l0_0 (rd t589 0)).f0) then (if ((rd_T145 l0_0 (rd t589 0)).f0) < (l0_2.length : Int) then ((spec_TunedPitch.f k (rd l0_2 ((rd_T145 l0_0 (rd t589 0)).f0)) ((rd_T145 l0_0 (rd t589 0)).f2) ((rd_T145 l0_0 (rd t589 0)).f3)).bind fun t596 => (if t596 = 0 then (some (bt581.1, bt581.2.1, bt581.2.2, false)) else (if 0 ≤ ((rd_T145 l0_0 (rd t589 0)).f1) then (if ((rd_T145 l0_0 (rd t589 0)).f1) < (bt581.2.2.length : Int) then (some (bt581.1, bt581.2.1, (bt581.2.2.set (((rd_T145 l0_0 (rd t589 0)).f1) : Int).toNat t596), true)) else (none)) else (none)))) else (none)) else (none)) else (none)) else (none)) else (none))))) = some (r1, r2, r3, r4) := h
 clear h
 replace H := Option.bind_eq_some_iff.mp H
 obtain ⟨⟨t581, t584, t585⟩, A20, H⟩ := H
 (try dsimp only at H)
 have A2 := A_ A20
 clear A20
 replace H := Option.bind_eq_some_iff.mp H
 obtain ⟨t589, A30, H⟩ := H
 (try dsimp only at H)
 have A3 := A_ A30
 clear A30
 by_cases c4 : (t589.length : Int) = 0
 ·rw [if_pos c4] at H
  have c4b0 : ((t589.length : Int) == 0) = true := beq_iff_eq.mpr c4
  have c4b1 : ((t589.length : Int) != 0) = false := bne_eq_false_iff_eq.mpr c4
  clear c4
  simp only [Option.some.injEq, Prod.mk.injEq] at H
  obtain ⟨rfl, rfl, rfl, rfl⟩ := H
  go_enter Tryd.func121, Tryd.ntmps121
  go_wp2_with (first | ((with_reducible refine gate_dst (N := 1) rfl ?_); refine bX (N := 1) (cs := #[.slice A0_0 l0_0.length c0_0, .int .i64 a0_1, .slice A0_2 l0_2.length c0_2]) (t := 41) ?_; intro gb579 hg w5 hbox hb; have n0_ := A_ (below_step (oB HB) hb); have n1_ := A_ (hbox); have n2_ := A_ ((by rw [hg]; exact (below_size (oB HB)) : w.heap.size ≤ gb579)); have n3_ := A_ ((by rw [hg]; exact (below_size (oB HB)) : w.heap.size ≤ gb579)); clear HB; have HB := n0_; have BK579 := n1_; have GW579 := n2_; have GE579 := n3_; clear n0_ n1_ n2_ n3_; clear hb hbox hg) | ((with_reducible refine gate_dst (N := 2) rfl ?_); refine bX (N := 2) (cs := #[.slice none 0 0, .int .i64 0, .slice none 0 0]) (t := 41) ?_; intro gb580 hg w6 hbox hb; have n0_ := A_ (bb BK579 hb); have n1_ := A_ (below_step (oB HB) hb); have n2_ := A_ (hbox); have n3_ := A_ ((by rw [hg]; exact (below_size (oB HB)) : w.heap.size ≤ gb580)); have n4_ := A_ ((by rw [hg]; exact (below_size (oB HB)) : w.heap.size ≤ gb580)); have n5_ := A_ (nL BK579 hg); have n6_ := A_ (nG BK579 hg); clear BK579; clear HB; have BK579 := n0_; have HB := n1_; have BK580 := n2_; have GW580 := n3_; have GE580 := n4_; have NB579_580 := n5_; have NB580_579 := n6_; clear n0_ n1_ n2_ n3_ n4_ n5_ n6_; clear hb hbox hg; have hnb7 := NB579_580.out; have hnc7 := NB580_579.out; have hcz8_0 := cz BK579 0; have hcz8_1 := cz BK579 1; have hcz8_2 := cz BK579 2; have hfz8_0 := blk_frozen BK579.out 0; have hfz8_1 := blk_frozen BK579.out 1; have hfz8_2 := blk_frozen BK579.out 2) | ((with_reducible refine gate_callee (f := 136) rfl ?_); refine gL (some 9) Tryd.func136 #[.agg #[.slice A0_0 l0_0.length c0_0, .int .i64 a0_1, .slice A0_2 l0_2.length c0_2]] ?_; (with_reducible refine (spec_l36Copy.calls _ _ l0_0 a0_1 _ _ l0_2 t581 t584 t585 _ ?side1 ?side2 ?side3 ?side4 A2.out).mono ?_); (case side1 => exact oc_ HR0_0.out); (case side2 => exact HC0_0.out); (case side3 => exact oc_ HR0_2.out); (case side4 => exact HC0_2.out); rintro e w9 ⟨v582, v586, rfl, ho0, ho1, hb⟩; refine ⟨_, rfl, ?_⟩; have n0_ := A_ (Kd.R_lower ho0 (below_size (oB HB))); have n1_ := A_ (Kd.R_lower ho1 (below_size (oB HB))); have n2_ := A_ (bb BK579 hb); have n3_ := A_ (bb BK580 hb); have n4_ := A_ (below_step (oB HB) hb); clear BK579; clear BK580; clear HB; have HO583 := n0_; have HO587 := n1_; have BK579 := n2_; have BK580 := n3_; have HB := n4_; clear n0_ n1_ n2_ n3_ n4_; (try clear hb); (try clear hb2); (try clear hk); (try clear hi); (try clear ho0); (try clear ho1)) | ((with_reducible refine gate_dst (N := 4) rfl ?_); refine bX (N := 4) (cs := #[.slice none 0 0, .int .i64 0, .slice none 0 0]) (t := 41) ?_; intro gb588 hg w10 hbox hb; have n0_ := A_ (Kd.R_below (oR HO583) hb); have n1_ := A_ (Kd.R_below (oR HO587) hb); have n2_ := A_ (bb BK579 hb); have n3_ := A_ (bb BK580 hb); have n4_ := A_ (below_step (oB HB) hb); have n5_ := A_ (hbox); have n6_ := A_ ((by rw [hg]; exact (below_size (oB HB)) : w.heap.size ≤ gb588)); have n7_ := A_ ((by rw [hg]; exact (below_size (oB HB)) : w.heap.size ≤ gb588)); have n8_ := A_ (nL BK579 hg); have n9_ := A_ (nG BK579 hg); have n10_ := A_ (nL BK580 hg); have n11_ := A_ (nG BK580 hg); clear HO583; clear HO587; clear BK579; clear BK580; clear HB; have HO583 := n0_; have HO587 := n1_; have BK579 := n2_; have BK580 := n3_; have HB := n4_; have BK588 := n5_; have GW588 := n6_; have GE588 := n7_; have NB579_588 := n8_; have NB588_579 := n9_; have NB580_588 := n10_; have NB588_580 := n11_; clear n0_ n1_ n2_ n3_ n4_ n5_ n6_ n7_ n8_ n9_ n10_ n11_; clear hb hbox hg; obtain ⟨Ao11, co11, eo11⟩ := Kd.R_slice HO583.out; subst eo11; have hnb12 := NB588_579.out; have hnc12 := NB579_588.out; have hnb13 := NB588_580.out; have hnc13 := NB580_588.out; have hcz14_0 := cz BK588 0; have hcz14_1 := cz BK588 1; have hcz14_2 := cz BK588 2; have hfz14_0 := blk_frozen BK588.out 0; have hfz14_1 := blk_frozen BK588.out 1; have hfz14_2 := blk_frozen BK588.out 2; obtain ⟨Ao15, co15, eo15⟩ := Kd.R_slice HO587.out; subst eo15; have hcz16_0 := cz BK579 0; have hcz16_1 := cz BK579 1; have hcz16_2 := cz BK579 2; have hfz16_0 := blk_frozen BK579.out 0; have hfz16_1 := blk_frozen BK579.out 1; have hfz16_2 := blk_frozen BK579.out 2) | ((with_reducible refine gate_callee (f := 120) rfl ?_); refine gL (some 11) Tryd.func120 #[.agg #[.slice A0_0 l0_0.length c0_0, .int .i64 a0_1, .slice A0_2 l0_2.length c0_2]] ?_; (with_reducible refine (spec_WrongSteps.calls k _ _ l0_0 a0_1 _ _ l0_2 t589 _ ?side1 ?side2 ?side3 ?side4 A3.out).mono ?_); (case side1 => exact Kd.C_below HR0_0.out (oB HB)); (case side2 => exact HC0_0.out); (case side3 => exact Kd.C_below HR0_2.out (oB HB)); (case side4 => exact HC0_2.out); rintro e w17 ⟨v590, rfl, ho0, hb⟩; refine ⟨_, rfl, ?_⟩; have n0_ := A_ (Kd.R_below (by (with_reducible repeat (first | apply Kd.R_alloc | apply Kd.R_drewN | apply Kd.R_drew)); exact (Kd.R_mono (Kd.R_far (p := ⟨gb588, 2, none⟩) (Kd.R_far (p := ⟨gb588, 1, none⟩) (Kd.R_far (p := ⟨gb588, 0, none⟩) (Kd.R_types HO583.out BK588.out (by decide)) (fun _ hk => hk.2) (.slice Ao11 t581.length co11)) (fun _ hk => hk.2) (.int .i64 t584)) (fun _ hk => hk.2) (.slice Ao15 t585.length co15)) (fun _ h_ => h_.1))) hb); have n1_ := A_ (Kd.R_elder' (by (with_reducible repeat (first | apply Kd.R_alloc | apply Kd.R_drewN | apply Kd.R_drew)); exact (Kd.R_mono (Kd.R_far (p := ⟨gb588, 2, none⟩) (Kd.R_far (p := ⟨gb588, 1, none⟩) (Kd.R_far (p := ⟨gb588, 0, none⟩) (Kd.R_types HO587.out BK588.out (by decide)) (fun _ hk => hk.2) (.slice Ao11 t581.length co11)) (fun _ hk => hk.2) (.int .i64 t584)) (fun _ hk => hk.2) (.slice Ao15 t585.length co15)) (fun _ h_ => h_.1))) (Kd.R_base ho0) hb); have n2_ := A_ (Kd.R_lower (Kd.R_new' ho0 (Kd.R_lt (by (with_reducible repeat (first | apply Kd.R_alloc | apply Kd.R_drewN | apply Kd.R_drew)); exact (Kd.R_mono (Kd.R_far (p := ⟨gb588, 2, none⟩) (Kd.R_far (p := ⟨gb588, 1, none⟩) (Kd.R_far (p := ⟨gb588, 0, none⟩) (Kd.R_types HO587.out BK588.out (by decide)) (fun _ hk => hk.2) (.slice Ao11 t581.length co11)) (fun _ hk => hk.2) (.int .i64 t584)) (fun _ hk => hk.2) (.slice Ao15 t585.length co15)) (fun _ h_ => h_.1))))) (below_size (oB HB))); have n3_ := A_ (blk_below (g := gb579) (o := .cells #[.slice A0_0 l0_0.length c0_0, .int .i64 a0_1, .slice A0_2 l0_2.length c0_2] 41 (0, 0)) (by (with_reducible repeat (first | refine blk_drewN ?_ _ | refine blk_drew ?_ | refine blk_alloc ?_ _)); refine blk_far ?_ NB579_588.out _; (with_reducible repeat (first | refine blk_drewN ?_ _ | refine blk_drew ?_ | refine blk_alloc ?_ _)); refine blk_far ?_ NB579_588.out _; (with_reducible repeat (first | refine blk_drewN ?_ _ | refine blk_drew ?_ | refine blk_alloc ?_ _)); refine blk_far ?_ NB579_588.out _; (with_reducible repeat (first | refine blk_drewN ?_ _ | refine blk_drew ?_ | refine blk_alloc ?_ _)); exact BK579.out) hb); have n4_ := A_ (blk_below (g := gb580) (o := .cells #[.slice none 0 0, .int .i64 0, .slice none 0 0] 41 (0, 0)) (by (with_reducible repeat (first | refine blk_drewN ?_ _ | refine blk_drew ?_ | refine blk_alloc ?_ _)); refine blk_far ?_ NB580_588.out _; (with_reducible repeat (first | refine blk_drewN ?_ _ | refine blk_drew ?_ | refine blk_alloc ?_ _)); refine blk_far ?_ NB580_588.out _; (with_reducible repeat (first | refine blk_drewN ?_ _ | refine blk_drew ?_ | refine blk_alloc ?_ _)); refine blk_far ?_ NB580_588.out _; (with_reducible repeat (first | refine blk_drewN ?_ _ | refine blk_drew ?_ | refine blk_alloc ?_ _)); exact BK580.out) hb); have n5_ := A_ (blk_below (g := gb588) (o := .cells #[.slice Ao11 t581.length co11, .int .i64 t584, .slice Ao15 t585.length co15] 41 (0, 0)) (by (with_reducible repeat (first | refine blk_drewN ?_ _ | refine blk_drew ?_ | refine blk_alloc ?_ _)); refine blk_put (cs := #[.slice Ao11 t581.length co11, .int .i64 t584, .slice none 0 0]) ?_ 2 _ rfl; (with_reducible repeat (first | refine blk_drewN ?_ _ | refine blk_drew ?_ | refine blk_alloc ?_ _)); refine blk_put (cs := #[.slice Ao11 t581.length co11, .int .i64 0, .slice none 0 0]) ?_ 1 _ rfl; (with_reducible repeat (first | refine blk_drewN ?_ _ | refine blk_drew ?_ | refine blk_alloc ?_ _)); refine blk_put (cs := #[.slice none 0 0, .int .i64 0, .slice none 0 0]) ?_ 0 _ rfl; (with_reducible repeat (first | refine blk_drewN ?_ _ | refine blk_drew ?_ | refine blk_alloc ?_ _)); exact BK588.out) hb); have n6_ := A_ (below_step (oB HB) hb); clear HO583; clear HO587; clear BK579; clear BK580; clear BK588; clear HB; have HO583 := n0_; have HO587 := n1_; have HO591 := n2_; have BK579 := n3_; have BK580 := n4_; have BK588 := n5_; have HB := n6_; clear n0_ n1_ n2_ n3_ n4_ n5_ n6_; (try clear hb); (try clear hb2); (try clear hk); (try clear hi); (try clear ho0); obtain ⟨Ao18, co18, eo18⟩ := Kd.R_slice HO591.out; subst eo18; have hcz19_0 := cz BK588 0; have hcz19_1 := cz BK588 1; have hcz19_2 := cz BK588 2; have hfz19_0 := blk_frozen BK588.out 0; have hfz19_1 := blk_frozen BK588.out 1; have hfz19_2 := blk_frozen BK588.out 2; have hcz20_0 := cz BK580 0; have hcz20_1 := cz BK580 1; have hcz20_2 := cz BK580 2; have hfz20_0 := blk_frozen BK580.out 0; have hfz20_1 := blk_frozen BK580.out 1; have hfz20_2 := blk_frozen BK580.out 2))
  refine bodyPost_ret (results_ct rfl _ _ gb580 41 #[.slice Ao11 t581.length co11, .int .i64 t584, .slice Ao15 t585.length co15] (0, 0) _ rfl (by (with_reducible repeat (first | refine blk_drewN ?_ _ | refine blk_drew ?_ | refine blk_alloc ?_ _)); refine blk_put (cs := #[.slice Ao11 t581.length co11, .int .i64 t584, .slice none 0 0]) ?_ 2 _ rfl; (with_reducible repeat (first | refine blk_drewN ?_ _ | refine blk_drew ?_ | refine blk_alloc ?_ _)); refine blk_put (cs := #[.slice Ao11 t581.length co11, .int .i64 0, .slice none 0 0]) ?_ 1 _ rfl; (with_reducible repeat (first | refine blk_drewN ?_ _ | refine blk_drew ?_ | refine blk_alloc ?_ _)); refine blk_put (cs := #[.slice none 0 0, .int .i64 0, .slice none 0 0]) ?_ 0 _ rfl; (with_reducible repeat (first | refine blk_drewN ?_ _ | refine blk_drew ?_ | refine blk_alloc ?_ _)); exact BK580.out) Tryd.underlying41 rfl (by kernel_rfl)) rfl ?_
  exact ⟨_, _, eR, by (with_reducible repeat (first | apply Kd.R_alloc | apply Kd.R_drewN | apply Kd.R_drew)); exact Kd.R_mono (Kd.R_far (p := ⟨gb580, 2, none⟩) (Kd.R_far (p := ⟨gb580, 1, none⟩) (Kd.R_far (p := ⟨gb580, 0, none⟩) (Kd.R_types HO583.out BK580.out (by decide)) (fun _ hk => hk.2) (.slice Ao11 t581.length co11)) (fun _ hk => hk.2) (.int .i64 t584)) (fun _ hk => hk.2) (.slice Ao15 t585.length co15)) (fun _ hk => trivial), by (with_reducible repeat (first | apply Kd.R_alloc | apply Kd.R_drewN | apply Kd.R_drew)); exact Kd.R_mono (Kd.R_far (p := ⟨gb580, 2, none⟩) (Kd.R_far (p := ⟨gb580, 1, none⟩) (Kd.R_far (p := ⟨gb580, 0, none⟩) (Kd.R_types HO587.out BK580.out (by decide)) (fun _ hk => hk.2) (.slice Ao11 t581.length co11)) (fun _ hk => hk.2) (.int .i64 t584)) (fun _ hk => hk.2) (.slice Ao15 t585.length co15)) (fun _ hk => trivial), oB HB⟩
 ·rw [if_neg c4] at H
  have c4b0 : ((t589.length : Int) == 0) = false := beq_eq_false_iff_ne.mpr c4
  have c4b1 : ((t589.length : Int) != 0) = true := bne_iff_ne.mpr c4
  have c4b2 : ¬ (t589 = []) := fun h_ => c4 (by rw [h_]; rfl)
  by_cases c21 : 0 < (t589.length : Int)
  ·rw [if_pos c21] at H
   have c21b0 : decide (0 < (t589.length : Int)) = true := decide_eq_true c21
   have c21b1 : decide (0 < t589.length) = true := decide_eq_true (by omega)
   clear c21
   by_cases c22 : 0 ≤ (rd t589 0)
   ·rw [if_pos c22] at H
    have c22b0 : decide (0 ≤ (rd t589 0)) = true := decide_eq_true c22
    clear c22
    by_cases c23 : (rd t589 0) < (l0_0.length : Int)
    ·rw [if_pos c23] at H
     have c23b0 : decide ((rd t589 0) < (l0_0.length : Int)) = true := decide_eq_true c23
     clear c23
     by_cases c24 : 0 ≤ ((rd_T145 l0_0 (rd t589 0)).f0)
     ·rw [if_pos c24] at H
      have c24b0 : decide (0 ≤ ((rd_T145 l0_0 (rd t589 0)).f0)) = true := decide_eq_true c24
      clear c24
      by_cases c25 : ((rd_T145 l0_0 (rd t589 0)).f0) < (l0_2.length : Int)
      ·rw [if_pos c25] at H
       have c25b0 : decide (((rd_T145 l0_0 (rd t589 0)).f0) < (l0_2.length : Int)) = true := decide_eq_true c25
       clear c25
       replace H := Option.bind_eq_some_iff.mp H
       obtain ⟨t596, A260, H⟩ := H
       (try dsimp only at H)
       have A26 := A_ A260
       clear A260
       by_cases c27 : t596 = 0
       ·rw [if_pos c27] at H
        have c27b0 : (t596 == 0) = true := beq_iff_eq.mpr c27
        have c27b1 : (t596 != 0) = false := bne_eq_false_iff_eq.mpr c27
        clear c27
        simp only [Option.some.injEq, Prod.mk.injEq] at H
        obtain ⟨rfl, rfl, rfl, rfl⟩ := H
        go_enter Tryd.func121, Tryd.ntmps121
        try go_wp2_with (first | ((with_reducible refine gate_dst (N := 1) rfl ?_); refine bX (N := 1) (cs := #[.slice A0_0 l0_0.length c0_0, .int .i64 a0_1, .slice A0_2 l0_2.length c0_2]) (t := 41) ?_; intro gb579 hg w28 hbox hb; have n0_ := A_ (below_step (oB HB) hb); have n1_ := A_ (hbox); have n2_ := A_ ((by rw [hg]; exact (below_size (oB HB)) : w.heap.size ≤ gb579)); have n3_ := A_ ((by rw [hg]; exact (below_size (oB HB)) : w.heap.size ≤ gb579)); clear HB; have HB := n0_; have BK579 := n1_; have GW579 := n2_; have GE579 := n3_; clear n0_ n1_ n2_ n3_; clear hb hbox hg) | ((with_reducible refine gate_dst (N := 2) rfl ?_); refine bX (N := 2) (cs := #[.slice none 0 0, .int .i64 0, .slice none 0 0]) (t := 41) ?_; intro gb580 hg w29 hbox hb; have n0_ := A_ (bb BK579 hb); have n1_ := A_ (below_step (oB HB) hb); have n2_ := A_ (hbox); have n3_ := A_ ((by rw [hg]; exact (below_size (oB HB)) : w.heap.size ≤ gb580)); have n4_ := A_ ((by rw [hg]; exact (below_size (oB HB)) : w.heap.size ≤ gb580)); have n5_ := A_ (nL BK579 hg); have n6_ := A_ (nG BK579 hg); clear BK579; clear HB; have BK579 := n0_; have HB := n1_; have BK580 := n2_; have GW580 := n3_; have GE580 := n4_; have NB579_580 := n5_; have NB580_579 := n6_; clear n0_ n1_ n2_ n3_ n4_ n5_ n6_; clear hb hbox hg; have hnb30 := NB579_580.out; have hnc30 := NB580_579.out; have hcz31_0 := cz BK579 0; have hcz31_1 := cz BK579 1; have hcz31_2 := cz BK579 2; have hfz31_0 := blk_frozen BK579.out 0; have hfz31_1 := blk_frozen BK579.out 1; have hfz31_2 := blk_frozen BK579.out 2) | ((with_reducible refine gate_callee (f := 136) rfl ?_); refine gL (some 9) Tryd.func136 #[.agg #[.slice A0_0 l0_0.length c0_0, .int .i64 a0_1, .slice A0_2 l0_2.length c0_2]] ?_; (with_reducible refine (spec_l36Copy.calls _ _ l0_0 a0_1 _ _ l0_2 t581 t584 t585 _ ?side1 ?side2 ?side3 ?side4 A2.out).mono ?_); (case side1 => exact oc_ HR0_0.out); (case side2 => exact HC0_0.out); (case side3 => exact oc_ HR0_2.out); (case side4 => exact HC0_2.out); rintro e w32 ⟨v582, v586, rfl, ho0, ho1, hb⟩; refine ⟨_, rfl, ?_⟩; have n0_ := A_ (Kd.R_lower ho0 (below_size (oB HB))); have n1_ := A_ (Kd.R_lower ho1 (below_size (oB HB))); have n2_ := A_ (bb BK579 hb); have n3_ := A_ (bb BK580 hb); have n4_ := A_ (below_step (oB HB) hb); clear BK579; clear BK580; clear HB; have HO583 := n0_; have HO587 := n1_; have BK579 := n2_; have BK580 := n3_; have HB := n4_; clear n0_ n1_ n2_ n3_ n4_; (try clear hb); (try clear hb2); (try clear hk); (try clear hi); (try clear ho0); (try clear ho1)) | ((with_reducible refine gate_dst (N := 4) rfl ?_); refine bX (N := 4) (cs := #[.slice none 0 0, .int .i64 0, .slice none 0 0]) (t := 41) ?_; intro gb588 hg w33 hbox hb; have n0_ := A_ (Kd.R_below (oR HO583) hb); have n1_ := A_ (Kd.R_below (oR HO587) hb); have n2_ := A_ (bb BK579 hb); have n3_ := A_ (bb BK580 hb); have n4_ := A_ (below_step (oB HB) hb); have n5_ := A_ (hbox); have n6_ := A_ ((by rw [hg]; exact (below_size (oB HB)) : w.heap.size ≤ gb588)); have n7_ := A_ ((by rw [hg]; exact (below_size (oB HB)) : w.heap.size ≤ gb588)); have n8_ := A_ (nL BK579 hg); have n9_ := A_ (nG BK579 hg); have n10_ := A_ (nL BK580 hg); have n11_ := A_ (nG BK580 hg); clear HO583; clear HO587; clear BK579; clear BK580; clear HB; have HO583 := n0_; have HO587 := n1_; have BK579 := n2_; have BK580 := n3_; have HB := n4_; have BK588 := n5_; have GW588 := n6_; have GE588 := n7_; have NB579_588 := n8_; have NB588_579 := n9_; have NB580_588 := n10_; have NB588_580 := n11_; clear n0_ n1_ n2_ n3_ n4_ n5_ n6_ n7_ n8_ n9_ n10_ n11_; clear hb hbox hg; obtain ⟨Ao34, co34, eo34⟩ := Kd.R_slice HO583.out; subst eo34; have hnb35 := NB588_579.out; have hnc35 := NB579_588.out; have hnb36 := NB588_580.out; have hnc36 := NB580_588.out; have hcz37_0 := cz BK588 0; have hcz37_1 := cz BK588 1; have hcz37_2 := cz BK588 2; have hfz37_0 := blk_frozen BK588.out 0; have hfz37_1 := blk_frozen BK588.out 1; have hfz37_2 := blk_frozen BK588.out 2; obtain ⟨Ao38, co38, eo38⟩ := Kd.R_slice HO587.out; subst eo38; have hcz39_0 := cz BK579 0; have hcz39_1 := cz BK579 1; have hcz39_2 := cz BK579 2; have hfz39_0 := blk_frozen BK579.out 0; have hfz39_1 := blk_frozen BK579.out 1; have hfz39_2 := blk_frozen BK579.out 2) | ((with_reducible refine gate_callee (f := 120) rfl ?_); refine gL (some 11) Tryd.func120 #[.agg #[.slice A0_0 l0_0.length c0_0, .int .i64 a0_1, .slice A0_2 l0_2.length c0_2]] ?_; (with_reducible refine (spec_WrongSteps.calls k _ _ l0_0 a0_1 _ _ l0_2 t589 _ ?side1 ?side2 ?side3 ?side4 A3.out).mono ?_); (case side1 => exact Kd.C_below HR0_0.out (oB HB)); (case side2 => exact HC0_0.out); (case side3 => exact Kd.C_below HR0_2.out (oB HB)); (case side4 => exact HC0_2.out); rintro e w40 ⟨v590, rfl, ho0, hb⟩; refine ⟨_, rfl, ?_⟩; have n0_ := A_ (Kd.R_below (by (with_reducible repeat (first | apply Kd.R_alloc | apply Kd.R_drewN | apply Kd.R_drew)); exact (Kd.R_mono (Kd.R_far (p := ⟨gb588, 2, none⟩) (Kd.R_far (p := ⟨gb588, 1, none⟩) (Kd.R_far (p := ⟨gb588, 0, none⟩) (Kd.R_types HO583.out BK588.out (by decide)) (fun _ hk => hk.2) (.slice Ao34 t581.length co34)) (fun _ hk => hk.2) (.int .i64 t584)) (fun _ hk => hk.2) (.slice Ao38 t585.length co38)) (fun _ h_ => h_.1))) hb); have n1_ := A_ (Kd.R_elder' (by (with_reducible repeat (first | apply Kd.R_alloc | apply Kd.R_drewN | apply Kd.R_drew)); exact (Kd.R_mono (Kd.R_far (p := ⟨gb588, 2, none⟩) (Kd.R_far (p := ⟨gb588, 1, none⟩) (Kd.R_far (p := ⟨gb588, 0, none⟩) (Kd.R_types HO587.out BK588.out (by decide)) (fun _ hk => hk.2) (.slice Ao34 t581.length co34)) (fun _ hk => hk.2) (.int .i64 t584)) (fun _ hk => hk.2) (.slice Ao38 t585.length co38)) (fun _ h_ => h_.1))) (Kd.R_base ho0) hb); have n2_ := A_ (Kd.R_lower (Kd.R_new' ho0 (Kd.R_lt (by (with_reducible repeat (first | apply Kd.R_alloc | apply Kd.R_drewN | apply Kd.R_drew)); exact (Kd.R_mono (Kd.R_far (p := ⟨gb588, 2, none⟩) (Kd.R_far (p := ⟨gb588, 1, none⟩) (Kd.R_far (p := ⟨gb588, 0, none⟩) (Kd.R_types HO587.out BK588.out (by decide)) (fun _ hk => hk.2) (.slice Ao34 t581.length co34)) (fun _ hk => hk.2) (.int .i64 t584)) (fun _ hk => hk.2) (.slice Ao38 t585.length co38)) (fun _ h_ => h_.1))))) (below_size (oB HB))); have n3_ := A_ (blk_below (g := gb579) (o := .cells #[.slice A0_0 l0_0.length c0_0, .int .i64 a0_1, .slice A0_2 l0_2.length c0_2] 41 (0, 0)) (by (with_reducible repeat (first | refine blk_drewN ?_ _ | refine blk_drew ?_ | refine blk_alloc ?_ _)); refine blk_far ?_ NB579_588.out _; (with_reducible repeat (first | refine blk_drewN ?_ _ | refine blk_drew ?_ | refine blk_alloc ?_ _)); refine blk_far ?_ NB579_588.out _; (with_reducible repeat (first | refine blk_drewN ?_ _ | refine blk_drew ?_ | refine blk_alloc ?_ _)); refine blk_far ?_ NB579_588.out _; (with_reducible repeat (first | refine blk_drewN ?_ _ | refine blk_drew ?_ | refine blk_alloc ?_ _)); exact BK579.out) hb); have n4_ := A_ (blk_below (g := gb580) (o := .cells #[.slice none 0 0, .int .i64 0, .slice none 0 0] 41 (0, 0)) (by (with_reducible repeat (first | refine blk_drewN ?_ _ | refine blk_drew ?_ | refine blk_alloc ?_ _)); refine blk_far ?_ NB580_588.out _; (with_reducible repeat (first | refine blk_drewN ?_ _ | refine blk_drew ?_ | refine blk_alloc ?_ _)); refine blk_far ?_ NB580_588.out _; (with_reducible repeat (first | refine blk_drewN ?_ _ | refine blk_drew ?_ | refine blk_alloc ?_ _)); refine blk_far ?_ NB580_588.out _; (with_reducible repeat (first | refine blk_drewN ?_ _ | refine blk_drew ?_ | refine blk_alloc ?_ _)); exact BK580.out) hb); have n5_ := A_ (blk_below (g := gb588) (o := .cells #[.slice Ao34 t581.length co34, .int .i64 t584, .slice Ao38 t585.length co38] 41 (0, 0)) (by (with_reducible repeat (first | refine blk_drewN ?_ _ | refine blk_drew ?_ | refine blk_alloc ?_ _)); refine blk_put (cs := #[.slice Ao34 t581.length co34, .int .i64 t584, .slice none 0 0]) ?_ 2 _ rfl; (with_reducible repeat (first | refine blk_drewN ?_ _ | refine blk_drew ?_ | refine blk_alloc ?_ _)); refine blk_put (cs := #[.slice Ao34 t581.length co34, .int .i64 0, .slice none 0 0]) ?_ 1 _ rfl; (with_reducible repeat (first | refine blk_drewN ?_ _ | refine blk_drew ?_ | refine blk_alloc ?_ _)); refine blk_put (cs := #[.slice none 0 0, .int .i64 0, .slice none 0 0]) ?_ 0 _ rfl; (with_reducible repeat (first | refine blk_drewN ?_ _ | refine blk_drew ?_ | refine blk_alloc ?_ _)); exact BK588.out) hb); have n6_ := A_ (below_step (oB HB) hb); clear HO583; clear HO587; clear BK579; clear BK580; clear BK588; clear HB; have HO583 := n0_; have HO587 := n1_; have HO591 := n2_; have BK579 := n3_; have BK580 := n4_; have BK588 := n5_; have HB := n6_; clear n0_ n1_ n2_ n3_ n4_ n5_ n6_; (try clear hb); (try clear hb2); (try clear hk); (try clear hi); (try clear ho0); obtain ⟨Ao41, co41, eo41⟩ := Kd.R_slice HO591.out; subst eo41))
        have n0_ := A_ (Kd.R_drew HO583.out)
        have n1_ := A_ (Kd.R_drew HO587.out)
        have n2_ := A_ (Kd.R_drew HO591.out)
        have n3_ := A_ (blk_drew BK579.out)
        have n4_ := A_ (blk_drew BK580.out)
        have n5_ := A_ (blk_drew BK588.out)
        have n6_ := A_ (below_drew1 HB.out)
        clear HO583
        clear HO587
        clear HO591
        clear BK579
        clear BK580
        clear BK588
        clear HB
        have HO583 := n0_
        have HO587 := n1_
        have HO591 := n2_
        have BK579 := n3_
        have BK580 := n4_
        have BK588 := n5_
        have HB := n6_
        clear n0_ n1_ n2_ n3_ n4_ n5_ n6_
        have p592 : 0 ≤ (0 : Int) := (by omega)
        have q592 : 0 < (t589.length : Int) := of_decide_eq_true (by first | (with_reducible assumption) | assumption)
        obtain ⟨ad592, e592, hx592_0⟩ := Kd.at_int (Kd.R_reads' HO591.out).2.2 0 p592 q592
        cases e592
        have qi592 : (0 < t589.length) = True := eq_true (by omega)
        (try rw [show ((0 : Int)).toNat = 0 from rfl] at hx592_0)
        (try rw [Addr.add_zero'] at hx592_0)
        replace p592 := eq_true p592
        replace q592 := eq_true q592
        have p593 : 0 ≤ ((rd t589 0) : Int) := of_decide_eq_true (by first | (with_reducible assumption) | assumption)
        have q593 : (rd t589 0) < (l0_0.length : Int) := of_decide_eq_true (by first | (with_reducible assumption) | assumption)
        obtain ⟨ad593, e593, hx593_0, hx593_1, hx593_2, hx593_3⟩ := at_T145 HR0_0.out (rd t589 0) p593 q593
        have hw593_3 := hx593_3
        have hw593_2 := hx593_2
        have hw593_1 := hx593_1
        have hw593_0 := hx593_0
        cases e593
        replace hx593_0 := (HB.out.cell (World.block_lt_of_cell? w _ hx593_0)).trans hx593_0
        replace hx593_1 := (HB.out.cell (World.block_lt_of_cell? w _ hx593_1)).trans hx593_1
        replace hx593_2 := (HB.out.cell (World.block_lt_of_cell? w _ hx593_2)).trans hx593_2
        replace hx593_3 := (HB.out.cell (World.block_lt_of_cell? w _ hx593_3)).trans hx593_3
        replace p593 := eq_true p593
        replace q593 := eq_true q593
        refine start_ (n := 9) (S := fun w' => w'.cell? ⟨gb579, 0, none⟩ = some (.slice (some ad593) l0_0.length c0_0) ∧ w'.cell? ⟨gb579, 1, none⟩ = some (.int .i64 a0_1) ∧ w'.cell? ⟨gb579, 2, none⟩ = some (.slice A0_2 l0_2.length c0_2) ∧ w'.cell? ad592 = some (.int .i64 (rd t589 0)) ∧ w'.cell? (ad593.add (((rd t589 0)).toNat * 4)) = some (.int .i64 ((rd_T145 l0_0 (rd t589 0)).f0)) ∧ w'.cell? ⟨(ad593.add (((rd t589 0)).toNat * 4)).block, (ad593.add (((rd t589 0)).toNat * 4)).off + 1, none⟩ = some (.int .i64 ((rd_T145 l0_0 (rd t589 0)).f1)) ∧ w'.cell? ⟨(ad593.add (((rd t589 0)).toNat * 4)).block, (ad593.add (((rd t589 0)).toNat * 4)).off + 2, none⟩ = some (.int .i64 ((rd_T145 l0_0 (rd t589 0)).f2)) ∧ w'.cell? ⟨(ad593.add (((rd t589 0)).toNat * 4)).block, (ad593.add (((rd t589 0)).toNat * 4)).off + 3, none⟩ = some (.int .i64 ((rd_T145 l0_0 (rd t589 0)).f3))) (ds := []) #[false, false, false, false, false, false, false, false, false] (by kernel_rfl) rfl rfl ⟨cz BK579 0, cz BK579 1, cz BK579 2, hx592_0, ((HB.out.cell (World.block_lt_of_cell? w _ hw593_0)).trans hw593_0), ((HB.out.cell (World.block_lt_of_cell? w _ hw593_1)).trans hw593_1), ((HB.out.cell (World.block_lt_of_cell? w _ hw593_2)).trans hw593_2), ((HB.out.cell (World.block_lt_of_cell? w _ hw593_3)).trans hw593_3)⟩ (fun hHeld => ?_); refine with_tabW spec_MendStep.tab5 spec_MendStep.bits5 (fun HT_ HW_ => ?_)
        generalize w40.drew = w42 at HO583 HO587 HO591 BK579 BK580 BK588 HB hx592_0 hx593_0 hx593_1 hx593_2 hx593_3 hHeld ⊢
        refine pA 0 (some 16) HT_.out ?_
        refine pA 2 (some 18) HT_.out ?_
        refine pA 3 (some 19) HT_.out ?_
        refine pT 1 (some 17) HT_.out HW_.out hHeld ?_
        refine pT 4 (some 20) HT_.out HW_.out hHeld ?_
        refine pA 5 (some 21) HT_.out ?_
        refine pT 6 (some 22) HT_.out HW_.out hHeld ?_
        refine one_ (i := 7) (N := some 6) #[true, true, true, true, true, true, true, true, false] rfl rfl (one_of HT_.out (by kernel_rfl)) (by decide) (fun K hK => ?_)
        refine box_step ?hg (N := 6) ?hd (cs := #[.int .i64 0, .int .i64 0, .int .i64 0, .int .i64 0]) (t := 145) ?hr ?_; (case hd => rfl); (case hg => rfl); (case hr => first | (go_simp; done) | (go_simp; rfl))
        intro gb594 hg w43 hbox hb
        have HS3_ := (hb.cell (World.block_lt_of_cell? _ _ (hHeld.2.2.2.1))).trans (hHeld.2.2.2.1)
        have n0_ := A_ (Kd.R_below (Kd.R_elderB (oR HO583) gb594 (Nat.le_of_eq hg.symm)) hb)
        have n1_ := A_ (Kd.R_below (oR HO587) hb)
        have n2_ := A_ (Kd.R_below (oR HO591) hb)
        have n3_ := A_ (bb BK579 hb)
        have n4_ := A_ (bb BK580 hb)
        have n5_ := A_ (bb BK588 hb)
        have n6_ := A_ (below_step (oB HB) hb)
        have n7_ := A_ (hbox)
        have n8_ := A_ ((by rw [hg]; exact (below_size (oB HB)) : w.heap.size ≤ gb594))
        have n9_ := A_ ((by rw [hg]; exact (below_size (oB HB)) : w.heap.size ≤ gb594))
        have n10_ := A_ (nL BK579 hg)
        have n11_ := A_ (nG BK579 hg)
        have n12_ := A_ (nL BK580 hg)
        have n13_ := A_ (nG BK580 hg)
        have n14_ := A_ (nL BK588 hg)
        have n15_ := A_ (nG BK588 hg)
        clear HO583
        clear HO587
        clear HO591
        clear BK579
        clear BK580
        clear BK588
        clear HB
        have HO583 := n0_
        have HO587 := n1_
        have HO591 := n2_
        have BK579 := n3_
        have BK580 := n4_
        have BK588 := n5_
        have HB := n6_
        have BK594 := n7_
        have GW594 := n8_
        have GE594 := n9_
        have NB579_594 := n10_
        have NB594_579 := n11_
        have NB580_594 := n12_
        have NB594_580 := n13_
        have NB588_594 := n14_
        have NB594_588 := n15_
        clear n0_ n1_ n2_ n3_ n4_ n5_ n6_ n7_ n8_ n9_ n10_ n11_ n12_ n13_ n14_ n15_
        clear hb hbox hg
        refine hK.out _ _ ⟨cz BK579 0, cz BK579 1, cz BK579 2, HS3_, ((HB.out.cell (World.block_lt_of_cell? w _ hw593_0)).trans hw593_0), ((HB.out.cell (World.block_lt_of_cell? w _ hw593_1)).trans hw593_1), ((HB.out.cell (World.block_lt_of_cell? w _ hw593_2)).trans hw593_2), ((HB.out.cell (World.block_lt_of_cell? w _ hw593_3)).trans hw593_3)⟩ (fun hHeld => ?_)
        clear hK K
        refine norm_ (a' := ?_) ?_ ?_
        rotate_left
        ·show Act.put _ (some 6) _ = _
         simp only [Act.put, List.setIfInBounds_toArray, List.set_cons_zero, List.set_cons_succ, i64_w, i32_w]
         rfl
        refine one_ (i := 8) (N := none) #[true, true, true, true, true, true, true, true, true] rfl rfl (one_of HT_.out (by kernel_rfl)) (by decide) (fun K hK => ?_)
        have hs44 := cz BK594 0
        have hfs44 := blk_frozen BK594.out 0
        have hns44_0 := NB579_594.out
        have hns44_1 := NB580_594.out
        have hns44_2 := NB588_594.out
        have hms44_0 := NB594_579.out
        have hms44_1 := NB594_580.out
        have hms44_2 := NB594_588.out
        have hs45 := cz BK594 1
        have hfs45 := blk_frozen BK594.out 1
        have hns45_0 := NB579_594.out
        have hns45_1 := NB580_594.out
        have hns45_2 := NB588_594.out
        have hms45_0 := NB594_579.out
        have hms45_1 := NB594_580.out
        have hms45_2 := NB594_588.out
        have hs46 := cz BK594 2
        have hfs46 := blk_frozen BK594.out 2
        have hns46_0 := NB579_594.out
        have hns46_1 := NB580_594.out
        have hns46_2 := NB588_594.out
        have hms46_0 := NB594_579.out
        have hms46_1 := NB594_580.out
        have hms46_2 := NB594_588.out
        have hs47 := cz BK594 3
        have hfs47 := blk_frozen BK594.out 3
        have hns47_0 := NB579_594.out
        have hns47_1 := NB580_594.out
        have hns47_2 := NB588_594.out
        have hms47_0 := NB594_579.out
        have hms47_1 := NB594_580.out
        have hms47_2 := NB594_588.out
        refine skip_ (w1 := ?_) (by rfl) rfl ?_ ?_
        rotate_left
        ·go_simp
         rfl
        refine hK.out _ _ ⟨(cF NB579_594.out hHeld.1), (cF NB579_594.out hHeld.2.1), (cF NB579_594.out hHeld.2.2.1), (cF (nB (Kd.own_blk (Kd.R_ne HO591.out BK594.out (by decide)))) hHeld.2.2.2.1), (cF (nD hw593_0 GW594.out) hHeld.2.2.2.2.1), (cF (nD hw593_1 GW594.out) hHeld.2.2.2.2.2.1), (cF (nD hw593_2 GW594.out) hHeld.2.2.2.2.2.2.1), (cF (nD hw593_3 GW594.out) hHeld.2.2.2.2.2.2.2)⟩ (fun hHeld => ?_)
        clear hK K
        refine done_ (done_of HT_.out (by kernel_rfl)) ?_
        try go_wp2
        have n0_ : Aside0 (Kd.R k145 145 ((((w43.setCell ⟨gb594, 0, none⟩ (.int .i64 ((rd_T145 l0_0 (rd t589 0)).f0))).setCell ⟨gb594, 1, none⟩ (.int .i64 ((rd_T145 l0_0 (rd t589 0)).f1))).setCell ⟨gb594, 2, none⟩ (.int .i64 ((rd_T145 l0_0 (rd t589 0)).f2))).setCell ⟨gb594, 3, none⟩ (.int .i64 ((rd_T145 l0_0 (rd t589 0)).f3))) w.heap.size (fun k_ => k_ ≠ gb594) (.slice Ao34 t581.length co34) t581) := ⟨by (with_reducible repeat (first | apply Kd.R_alloc | apply Kd.R_drewN | apply Kd.R_drew)); exact Kd.R_mono (Kd.R_far (p := ⟨gb594, 3, none⟩) (Kd.R_far (p := ⟨gb594, 2, none⟩) (Kd.R_far (p := ⟨gb594, 1, none⟩) (Kd.R_far (p := ⟨gb594, 0, none⟩) (Kd.R_mono HO583.out (fun k_ hk => (⟨hk, hk.2⟩ : _ ∧ k_ ≠ gb594))) (fun _ hk => hk.2) (.int .i64 ((rd_T145 l0_0 (rd t589 0)).f0))) (fun _ hk => hk.2) (.int .i64 ((rd_T145 l0_0 (rd t589 0)).f1))) (fun _ hk => hk.2) (.int .i64 ((rd_T145 l0_0 (rd t589 0)).f2))) (fun _ hk => hk.2) (.int .i64 ((rd_T145 l0_0 (rd t589 0)).f3))) (fun _ hk => hk.1.2)⟩
        have n1_ : Aside0 (Kd.R (Kd.int .i64) 3 ((((w43.setCell ⟨gb594, 0, none⟩ (.int .i64 ((rd_T145 l0_0 (rd t589 0)).f0))).setCell ⟨gb594, 1, none⟩ (.int .i64 ((rd_T145 l0_0 (rd t589 0)).f1))).setCell ⟨gb594, 2, none⟩ (.int .i64 ((rd_T145 l0_0 (rd t589 0)).f2))).setCell ⟨gb594, 3, none⟩ (.int .i64 ((rd_T145 l0_0 (rd t589 0)).f3))) w.heap.size (fun k_ => some k_ ≠ (.slice (some ad592) t589.length co41 : Value).ownBlock) (.slice Ao38 t585.length co38) t585) := ⟨by (with_reducible repeat (first | apply Kd.R_alloc | apply Kd.R_drewN | apply Kd.R_drew)); exact Kd.R_mono (Kd.R_far (p := ⟨gb594, 3, none⟩) (Kd.R_far (p := ⟨gb594, 2, none⟩) (Kd.R_far (p := ⟨gb594, 1, none⟩) (Kd.R_far (p := ⟨gb594, 0, none⟩) (Kd.R_types HO587.out BK594.out (by decide)) (fun _ hk => hk.2) (.int .i64 ((rd_T145 l0_0 (rd t589 0)).f0))) (fun _ hk => hk.2) (.int .i64 ((rd_T145 l0_0 (rd t589 0)).f1))) (fun _ hk => hk.2) (.int .i64 ((rd_T145 l0_0 (rd t589 0)).f2))) (fun _ hk => hk.2) (.int .i64 ((rd_T145 l0_0 (rd t589 0)).f3))) (fun _ hk => hk.1.2)⟩
        have n2_ : Aside0 (Kd.R (Kd.int .i64) 3 ((((w43.setCell ⟨gb594, 0, none⟩ (.int .i64 ((rd_T145 l0_0 (rd t589 0)).f0))).setCell ⟨gb594, 1, none⟩ (.int .i64 ((rd_T145 l0_0 (rd t589 0)).f1))).setCell ⟨gb594, 2, none⟩ (.int .i64 ((rd_T145 l0_0 (rd t589 0)).f2))).setCell ⟨gb594, 3, none⟩ (.int .i64 ((rd_T145 l0_0 (rd t589 0)).f3))) w.heap.size (fun k_ => some k_ ≠ (.slice Ao38 t585.length co38 : Value).ownBlock) (.slice (some ad592) t589.length co41) t589) := ⟨by (with_reducible repeat (first | apply Kd.R_alloc | apply Kd.R_drewN | apply Kd.R_drew)); exact Kd.R_mono (Kd.R_far (p := ⟨gb594, 3, none⟩) (Kd.R_far (p := ⟨gb594, 2, none⟩) (Kd.R_far (p := ⟨gb594, 1, none⟩) (Kd.R_far (p := ⟨gb594, 0, none⟩) (Kd.R_types HO591.out BK594.out (by decide)) (fun _ hk => hk.2) (.int .i64 ((rd_T145 l0_0 (rd t589 0)).f0))) (fun _ hk => hk.2) (.int .i64 ((rd_T145 l0_0 (rd t589 0)).f1))) (fun _ hk => hk.2) (.int .i64 ((rd_T145 l0_0 (rd t589 0)).f2))) (fun _ hk => hk.2) (.int .i64 ((rd_T145 l0_0 (rd t589 0)).f3))) (fun _ hk => hk.1.2)⟩
        have n3_ : Aside0 (((((w43.setCell ⟨gb594, 0, none⟩ (.int .i64 ((rd_T145 l0_0 (rd t589 0)).f0))).setCell ⟨gb594, 1, none⟩ (.int .i64 ((rd_T145 l0_0 (rd t589 0)).f1))).setCell ⟨gb594, 2, none⟩ (.int .i64 ((rd_T145 l0_0 (rd t589 0)).f2))).setCell ⟨gb594, 3, none⟩ (.int .i64 ((rd_T145 l0_0 (rd t589 0)).f3))).heap[gb579]? = some (.cells #[.slice (some ad593) l0_0.length c0_0, .int .i64 a0_1, .slice A0_2 l0_2.length c0_2] 41 (0, 0))) := ⟨by (with_reducible repeat (first | refine blk_drewN ?_ _ | refine blk_drew ?_ | refine blk_alloc ?_ _)); refine blk_far ?_ NB579_594.out _; (with_reducible repeat (first | refine blk_drewN ?_ _ | refine blk_drew ?_ | refine blk_alloc ?_ _)); refine blk_far ?_ NB579_594.out _; (with_reducible repeat (first | refine blk_drewN ?_ _ | refine blk_drew ?_ | refine blk_alloc ?_ _)); refine blk_far ?_ NB579_594.out _; (with_reducible repeat (first | refine blk_drewN ?_ _ | refine blk_drew ?_ | refine blk_alloc ?_ _)); refine blk_far ?_ NB579_594.out _; (with_reducible repeat (first | refine blk_drewN ?_ _ | refine blk_drew ?_ | refine blk_alloc ?_ _)); exact BK579.out⟩
        have n4_ : Aside0 (((((w43.setCell ⟨gb594, 0, none⟩ (.int .i64 ((rd_T145 l0_0 (rd t589 0)).f0))).setCell ⟨gb594, 1, none⟩ (.int .i64 ((rd_T145 l0_0 (rd t589 0)).f1))).setCell ⟨gb594, 2, none⟩ (.int .i64 ((rd_T145 l0_0 (rd t589 0)).f2))).setCell ⟨gb594, 3, none⟩ (.int .i64 ((rd_T145 l0_0 (rd t589 0)).f3))).heap[gb580]? = some (.cells #[.slice none 0 0, .int .i64 0, .slice none 0 0] 41 (0, 0))) := ⟨by (with_reducible repeat (first | refine blk_drewN ?_ _ | refine blk_drew ?_ | refine blk_alloc ?_ _)); refine blk_far ?_ NB580_594.out _; (with_reducible repeat (first | refine blk_drewN ?_ _ | refine blk_drew ?_ | refine blk_alloc ?_ _)); refine blk_far ?_ NB580_594.out _; (with_reducible repeat (first | refine blk_drewN ?_ _ | refine blk_drew ?_ | refine blk_alloc ?_ _)); refine blk_far ?_ NB580_594.out _; (with_reducible repeat (first | refine blk_drewN ?_ _ | refine blk_drew ?_ | refine blk_alloc ?_ _)); refine blk_far ?_ NB580_594.out _; (with_reducible repeat (first | refine blk_drewN ?_ _ | refine blk_drew ?_ | refine blk_alloc ?_ _)); exact BK580.out⟩
        have n5_ : Aside0 (((((w43.setCell ⟨gb594, 0, none⟩ (.int .i64 ((rd_T145 l0_0 (rd t589 0)).f0))).setCell ⟨gb594, 1, none⟩ (.int .i64 ((rd_T145 l0_0 (rd t589 0)).f1))).setCell ⟨gb594, 2, none⟩ (.int .i64 ((rd_T145 l0_0 (rd t589 0)).f2))).setCell ⟨gb594, 3, none⟩ (.int .i64 ((rd_T145 l0_0 (rd t589 0)).f3))).heap[gb588]? = some (.cells #[.slice Ao34 t581.length co34, .int .i64 t584, .slice Ao38 t585.length co38] 41 (0, 0))) := ⟨by (with_reducible repeat (first | refine blk_drewN ?_ _ | refine blk_drew ?_ | refine blk_alloc ?_ _)); refine blk_far ?_ NB588_594.out _; (with_reducible repeat (first | refine blk_drewN ?_ _ | refine blk_drew ?_ | refine blk_alloc ?_ _)); refine blk_far ?_ NB588_594.out _; (with_reducible repeat (first | refine blk_drewN ?_ _ | refine blk_drew ?_ | refine blk_alloc ?_ _)); refine blk_far ?_ NB588_594.out _; (with_reducible repeat (first | refine blk_drewN ?_ _ | refine blk_drew ?_ | refine blk_alloc ?_ _)); refine blk_far ?_ NB588_594.out _; (with_reducible repeat (first | refine blk_drewN ?_ _ | refine blk_drew ?_ | refine blk_alloc ?_ _)); exact BK588.out⟩
        have n6_ : Aside0 (((((w43.setCell ⟨gb594, 0, none⟩ (.int .i64 ((rd_T145 l0_0 (rd t589 0)).f0))).setCell ⟨gb594, 1, none⟩ (.int .i64 ((rd_T145 l0_0 (rd t589 0)).f1))).setCell ⟨gb594, 2, none⟩ (.int .i64 ((rd_T145 l0_0 (rd t589 0)).f2))).setCell ⟨gb594, 3, none⟩ (.int .i64 ((rd_T145 l0_0 (rd t589 0)).f3))).heap[gb594]? = some (.cells #[.int .i64 ((rd_T145 l0_0 (rd t589 0)).f0), .int .i64 ((rd_T145 l0_0 (rd t589 0)).f1), .int .i64 ((rd_T145 l0_0 (rd t589 0)).f2), .int .i64 ((rd_T145 l0_0 (rd t589 0)).f3)] 145 (0, 0))) := ⟨by (with_reducible repeat (first | refine blk_drewN ?_ _ | refine blk_drew ?_ | refine blk_alloc ?_ _)); refine blk_put (cs := #[.int .i64 ((rd_T145 l0_0 (rd t589 0)).f0), .int .i64 ((rd_T145 l0_0 (rd t589 0)).f1), .int .i64 ((rd_T145 l0_0 (rd t589 0)).f2), .int .i64 0]) ?_ 3 _ rfl; (with_reducible repeat (first | refine blk_drewN ?_ _ | refine blk_drew ?_ | refine blk_alloc ?_ _)); refine blk_put (cs := #[.int .i64 ((rd_T145 l0_0 (rd t589 0)).f0), .int .i64 ((rd_T145 l0_0 (rd t589 0)).f1), .int .i64 0, .int .i64 0]) ?_ 2 _ rfl; (with_reducible repeat (first | refine blk_drewN ?_ _ | refine blk_drew ?_ | refine blk_alloc ?_ _)); refine blk_put (cs := #[.int .i64 ((rd_T145 l0_0 (rd t589 0)).f0), .int .i64 0, .int .i64 0, .int .i64 0]) ?_ 1 _ rfl; (with_reducible repeat (first | refine blk_drewN ?_ _ | refine blk_drew ?_ | refine blk_alloc ?_ _)); refine blk_put (cs := #[.int .i64 0, .int .i64 0, .int .i64 0, .int .i64 0]) ?_ 0 _ rfl; (with_reducible repeat (first | refine blk_drewN ?_ _ | refine blk_drew ?_ | refine blk_alloc ?_ _)); exact BK594.out⟩
        have n7_ : Aside0 (Below w.heap.size w ((((w43.setCell ⟨gb594, 0, none⟩ (.int .i64 ((rd_T145 l0_0 (rd t589 0)).f0))).setCell ⟨gb594, 1, none⟩ (.int .i64 ((rd_T145 l0_0 (rd t589 0)).f1))).setCell ⟨gb594, 2, none⟩ (.int .i64 ((rd_T145 l0_0 (rd t589 0)).f2))).setCell ⟨gb594, 3, none⟩ (.int .i64 ((rd_T145 l0_0 (rd t589 0)).f3)))) := ⟨oB HB⟩
        (try clear HO583)
        (try clear HO587)
        (try clear HO591)
        (try clear BK579)
        (try clear BK580)
        (try clear BK588)
        (try clear BK594)
        (try clear HB)
        generalize ((((w43.setCell ⟨gb594, 0, none⟩ (.int .i64 ((rd_T145 l0_0 (rd t589 0)).f0))).setCell ⟨gb594, 1, none⟩ (.int .i64 ((rd_T145 l0_0 (rd t589 0)).f1))).setCell ⟨gb594, 2, none⟩ (.int .i64 ((rd_T145 l0_0 (rd t589 0)).f2))).setCell ⟨gb594, 3, none⟩ (.int .i64 ((rd_T145 l0_0 (rd t589 0)).f3))) = w48 at n0_ n1_ n2_ n3_ n4_ n5_ n6_ n7_ ⊢
        have HO583 := n0_
        have HO587 := n1_
        have HO591 := n2_
        have BK579 := n3_
        have BK580 := n4_
        have BK588 := n5_
        have BK594 := n6_
        have HB := n7_
        clear n0_ n1_ n2_ n3_ n4_ n5_ n6_ n7_
        have n0_ := A_ (Kd.R_drew HO583.out)
        have n1_ := A_ (Kd.R_drew HO587.out)
        have n2_ := A_ (Kd.R_drew HO591.out)
        have n3_ := A_ (blk_drew BK579.out)
        have n4_ := A_ (blk_drew BK580.out)
        have n5_ := A_ (blk_drew BK588.out)
        have n6_ := A_ (blk_drew BK594.out)
        have n7_ := A_ (below_drew1 HB.out)
        clear HO583
        clear HO587
        clear HO591
        clear BK579
        clear BK580
        clear BK588
        clear BK594
        clear HB
        have HO583 := n0_
        have HO587 := n1_
        have HO591 := n2_
        have BK579 := n3_
        have BK580 := n4_
        have BK588 := n5_
        have BK594 := n6_
        have HB := n7_
        clear n0_ n1_ n2_ n3_ n4_ n5_ n6_ n7_
        have p595 : 0 ≤ (((rd_T145 l0_0 (rd t589 0)).f0) : Int) := of_decide_eq_true (by first | (with_reducible assumption) | assumption)
        have q595 : ((rd_T145 l0_0 (rd t589 0)).f0) < (l0_2.length : Int) := of_decide_eq_true (by first | (with_reducible assumption) | assumption)
        obtain ⟨ad595, e595, hx595_0⟩ := Kd.at_int HR0_2.out ((rd_T145 l0_0 (rd t589 0)).f0) p595 q595
        have hw595_0 := hx595_0
        cases e595
        replace hx595_0 := (HB.out.cell (World.block_lt_of_cell? w _ hx595_0)).trans hx595_0
        replace p595 := eq_true p595
        replace q595 := eq_true q595
        refine start_ (n := 12) (S := fun w' => w'.cell? ⟨gb579, 0, none⟩ = some (.slice (some ad593) l0_0.length c0_0) ∧ w'.cell? ⟨gb579, 1, none⟩ = some (.int .i64 a0_1) ∧ w'.cell? ⟨gb579, 2, none⟩ = some (.slice (some ad595) l0_2.length c0_2) ∧ w'.cell? ⟨gb594, 0, none⟩ = some (.int .i64 ((rd_T145 l0_0 (rd t589 0)).f0)) ∧ w'.cell? ⟨gb594, 1, none⟩ = some (.int .i64 ((rd_T145 l0_0 (rd t589 0)).f1)) ∧ w'.cell? ⟨gb594, 2, none⟩ = some (.int .i64 ((rd_T145 l0_0 (rd t589 0)).f2)) ∧ w'.cell? ⟨gb594, 3, none⟩ = some (.int .i64 ((rd_T145 l0_0 (rd t589 0)).f3)) ∧ w'.cell? (ad595.add (((rd_T145 l0_0 (rd t589 0)).f0)).toNat) = some (.int .i64 (rd l0_2 ((rd_T145 l0_0 (rd t589 0)).f0)))) (ds := []) #[false, false, false, false, false, false, false, false, false, false, false, false] (by kernel_rfl) rfl rfl ⟨cz BK579 0, cz BK579 1, cz BK579 2, cz BK594 0, cz BK594 1, cz BK594 2, cz BK594 3, ((HB.out.cell (World.block_lt_of_cell? w _ hw595_0)).trans hw595_0)⟩ (fun hHeld => ?_); refine with_tabW spec_MendStep.tab6 spec_MendStep.bits6 (fun HT_ HW_ => ?_)
        generalize w48.drew = w49 at HO583 HO587 HO591 BK579 BK580 BK588 BK594 HB hx595_0 hHeld ⊢
        refine pA 0 (some 23) HT_.out ?_
        refine pA 2 (some 25) HT_.out ?_
        refine pA 6 (some 29) HT_.out ?_
        refine pA 8 (some 31) HT_.out ?_
        refine pT 1 (some 24) HT_.out HW_.out hHeld ?_
        refine pT 3 (some 26) HT_.out HW_.out hHeld ?_
        refine pA 4 (some 27) HT_.out ?_
        refine pT 5 (some 28) HT_.out HW_.out hHeld ?_
        refine pT 7 (some 30) HT_.out HW_.out hHeld ?_
        refine pT 9 (some 32) HT_.out HW_.out hHeld ?_
        refine one_ (i := 10) (N := some 33) #[true, true, true, true, true, true, true, true, true, true, true, false] rfl rfl (one_of HT_.out (by kernel_rfl)) (by decide) (fun K hK => ?_)
        refine goes_ Tryd.func138 (by kernel_rfl) rfl #[.int .i64 (rd l0_2 ((rd_T145 l0_0 (rd t589 0)).f0)), .int .i64 ((rd_T145 l0_0 (rd t589 0)).f2), .int .i64 ((rd_T145 l0_0 (rd t589 0)).f3)] (by rfl) rfl rfl (by (try simp only [List.map_toArray, List.map_cons, List.map_nil]); first | done | rfl | (simp only [List.length_drop, List.length_take]; rfl)) ?_
        with_reducible refine (spec_TunedPitch.calls k (rd l0_2 ((rd_T145 l0_0 (rd t589 0)).f0)) ((rd_T145 l0_0 (rd t589 0)).f2) ((rd_T145 l0_0 (rd t589 0)).f3) t596 _ A26.out).mono ?_
        rintro e w50 ⟨rfl, hb⟩
        refine ⟨_, rfl, ?_⟩
        have n0_ := A_ (Kd.R_below (oR HO583) hb)
        have n1_ := A_ (Kd.R_below (oR HO587) hb)
        have n2_ := A_ (Kd.R_below (oR HO591) hb)
        have n3_ := A_ (bb BK579 hb)
        have n4_ := A_ (bb BK580 hb)
        have n5_ := A_ (bb BK588 hb)
        have n6_ := A_ (bb BK594 hb)
        have n7_ := A_ (below_step (oB HB) hb)
        clear HO583
        clear HO587
        clear HO591
        clear BK579
        clear BK580
        clear BK588
        clear BK594
        clear HB
        have HO583 := n0_
        have HO587 := n1_
        have HO591 := n2_
        have BK579 := n3_
        have BK580 := n4_
        have BK588 := n5_
        have BK594 := n6_
        have HB := n7_
        clear n0_ n1_ n2_ n3_ n4_ n5_ n6_ n7_
        (try clear hb)
        (try clear hb2)
        (try clear hk)
        (try clear hi)
        refine hK.out _ _ ⟨cz BK579 0, cz BK579 1, cz BK579 2, cz BK594 0, cz BK594 1, cz BK594 2, cz BK594 3, ((HB.out.cell (World.block_lt_of_cell? w _ hw595_0)).trans hw595_0)⟩ (fun hHeld => ?_)
        clear hK K
        refine norm_ (a' := ?_) ?_ ?_
        rotate_left
        ·show Act.put _ (some 33) _ = _
         simp only [Act.put, List.setIfInBounds_toArray, List.set_cons_zero, List.set_cons_succ, i64_w, i32_w]
         rfl
        refine pA 11 (some 7) HT_.out ?_
        refine done_ (done_of HT_.out (by kernel_rfl)) ?_
        have hnb51 := NB588_594.out
        have hnc51 := NB594_588.out
        have hcz52_0 := cz BK588 0
        have hcz52_1 := cz BK588 1
        have hcz52_2 := cz BK588 2
        have hfz52_0 := blk_frozen BK588.out 0
        have hfz52_1 := blk_frozen BK588.out 1
        have hfz52_2 := blk_frozen BK588.out 2
        have hnb53 := NB580_594.out
        have hnc53 := NB594_580.out
        have hcz54_0 := cz BK580 0
        have hcz54_1 := cz BK580 1
        have hcz54_2 := cz BK580 2
        have hfz54_0 := blk_frozen BK580.out 0
        have hfz54_1 := blk_frozen BK580.out 1
        have hfz54_2 := blk_frozen BK580.out 2
        try go_wp2
        refine bodyPost_ret (results_ct rfl _ _ gb580 41 #[.slice Ao34 t581.length co34, .int .i64 t584, .slice Ao38 t585.length co38] (0, 0) _ rfl (by (with_reducible repeat (first | refine blk_drewN ?_ _ | refine blk_drew ?_ | refine blk_alloc ?_ _)); refine blk_put (cs := #[.slice Ao34 t581.length co34, .int .i64 t584, .slice none 0 0]) ?_ 2 _ rfl; (with_reducible repeat (first | refine blk_drewN ?_ _ | refine blk_drew ?_ | refine blk_alloc ?_ _)); refine blk_put (cs := #[.slice Ao34 t581.length co34, .int .i64 0, .slice none 0 0]) ?_ 1 _ rfl; (with_reducible repeat (first | refine blk_drewN ?_ _ | refine blk_drew ?_ | refine blk_alloc ?_ _)); refine blk_put (cs := #[.slice none 0 0, .int .i64 0, .slice none 0 0]) ?_ 0 _ rfl; (with_reducible repeat (first | refine blk_drewN ?_ _ | refine blk_drew ?_ | refine blk_alloc ?_ _)); exact BK580.out) Tryd.underlying41 rfl (by kernel_rfl)) rfl ?_
        exact ⟨_, _, eR, by (with_reducible repeat (first | apply Kd.R_alloc | apply Kd.R_drewN | apply Kd.R_drew)); exact Kd.R_mono (Kd.R_far (p := ⟨gb580, 2, none⟩) (Kd.R_far (p := ⟨gb580, 1, none⟩) (Kd.R_far (p := ⟨gb580, 0, none⟩) (Kd.R_types HO583.out BK580.out (by decide)) (fun _ hk => hk.2) (.slice Ao34 t581.length co34)) (fun _ hk => hk.2) (.int .i64 t584)) (fun _ hk => hk.2) (.slice Ao38 t585.length co38)) (fun _ hk => trivial), by (with_reducible repeat (first | apply Kd.R_alloc | apply Kd.R_drewN | apply Kd.R_drew)); exact Kd.R_mono (Kd.R_far (p := ⟨gb580, 2, none⟩) (Kd.R_far (p := ⟨gb580, 1, none⟩) (Kd.R_far (p := ⟨gb580, 0, none⟩) (Kd.R_types HO587.out BK580.out (by decide)) (fun _ hk => hk.2) (.slice Ao34 t581.length co34)) (fun _ hk => hk.2) (.int .i64 t584)) (fun _ hk => hk.2) (.slice Ao38 t585.length co38)) (fun _ hk => trivial), oB HB⟩
       ·rw [if_neg c27] at H
        have c27b0 : (t596 == 0) = false := beq_eq_false_iff_ne.mpr c27
        have c27b1 : (t596 != 0) = true := bne_iff_ne.mpr c27
        by_cases c55 : 0 ≤ ((rd_T145 l0_0 (rd t589 0)).f1)
        ·rw [if_pos c55] at H
         have c55b0 : decide (0 ≤ ((rd_T145 l0_0 (rd t589 0)).f1)) = true := decide_eq_true c55
         clear c55
         by_cases c56 : ((rd_T145 l0_0 (rd t589 0)).f1) < (t585.length : Int)
         ·rw [if_pos c56] at H
          have c56b0 : decide (((rd_T145 l0_0 (rd t589 0)).f1) < (t585.length : Int)) = true := decide_eq_true c56
          clear c56
          obtain ⟨y597, hy597⟩ : ∃ y_ : List Int, y_ = (t585.set (((rd_T145 l0_0 (rd t589 0)).f1) : Int).toNat t596) := ⟨_, rfl⟩
          replace H : (some (t581, t584, y597, true)) = some (r1, r2, r3, r4) := by first | (rw [hy597]; with_reducible exact H) | (have H2_ := (Option.bind_some _ _).symm.trans H; rw [hy597]; with_reducible exact H2_) | (have H2_ := (Option.bind_some _ _).symm.trans H; with_reducible exact H2_) | with_reducible exact H | (rw [hy597]; exact H) | exact H
          have Ny597 := A_ hy597
          clear hy597
          simp only [Option.some.injEq, Prod.mk.injEq] at H
          obtain ⟨rfl, rfl, rfl, rfl⟩ := H
          go_enter Tryd.func121, Tryd.ntmps121
          try go_wp2_with (first | ((with_reducible refine gate_dst (N := 1) rfl ?_); refine bX (N := 1) (cs := #[.slice A0_0 l0_0.length c0_0, .int .i64 a0_1, .slice A0_2 l0_2.length c0_2]) (t := 41) ?_; intro gb579 hg w58 hbox hb; have n0_ := A_ (below_step (oB HB) hb); have n1_ := A_ (hbox); have n2_ := A_ ((by rw [hg]; exact (below_size (oB HB)) : w.heap.size ≤ gb579)); have n3_ := A_ ((by rw [hg]; exact (below_size (oB HB)) : w.heap.size ≤ gb579)); clear HB; have HB := n0_; have BK579 := n1_; have GW579 := n2_; have GE579 := n3_; clear n0_ n1_ n2_ n3_; clear hb hbox hg) | ((with_reducible refine gate_dst (N := 2) rfl ?_); refine bX (N := 2) (cs := #[.slice none 0 0, .int .i64 0, .slice none 0 0]) (t := 41) ?_; intro gb580 hg w59 hbox hb; have n0_ := A_ (bb BK579 hb); have n1_ := A_ (below_step (oB HB) hb); have n2_ := A_ (hbox); have n3_ := A_ ((by rw [hg]; exact (below_size (oB HB)) : w.heap.size ≤ gb580)); have n4_ := A_ ((by rw [hg]; exact (below_size (oB HB)) : w.heap.size ≤ gb580)); have n5_ := A_ (nL BK579 hg); have n6_ := A_ (nG BK579 hg); clear BK579; clear HB; have BK579 := n0_; have HB := n1_; have BK580 := n2_; have GW580 := n3_; have GE580 := n4_; have NB579_580 := n5_; have NB580_579 := n6_; clear n0_ n1_ n2_ n3_ n4_ n5_ n6_; clear hb hbox hg; have hnb60 := NB579_580.out; have hnc60 := NB580_579.out; have hcz61_0 := cz BK579 0; have hcz61_1 := cz BK579 1; have hcz61_2 := cz BK579 2; have hfz61_0 := blk_frozen BK579.out 0; have hfz61_1 := blk_frozen BK579.out 1; have hfz61_2 := blk_frozen BK579.out 2) | ((with_reducible refine gate_callee (f := 136) rfl ?_); refine gL (some 9) Tryd.func136 #[.agg #[.slice A0_0 l0_0.length c0_0, .int .i64 a0_1, .slice A0_2 l0_2.length c0_2]] ?_; (with_reducible refine (spec_l36Copy.calls _ _ l0_0 a0_1 _ _ l0_2 t581 t584 t585 _ ?side1 ?side2 ?side3 ?side4 A2.out).mono ?_); (case side1 => exact oc_ HR0_0.out); (case side2 => exact HC0_0.out); (case side3 => exact oc_ HR0_2.out); (case side4 => exact HC0_2.out); rintro e w62 ⟨v582, v586, rfl, ho0, ho1, hb⟩; refine ⟨_, rfl, ?_⟩; have n0_ := A_ (Kd.R_lower ho0 (below_size (oB HB))); have n1_ := A_ (Kd.R_lower ho1 (below_size (oB HB))); have n2_ := A_ (bb BK579 hb); have n3_ := A_ (bb BK580 hb); have n4_ := A_ (below_step (oB HB) hb); clear BK579; clear BK580; clear HB; have HO583 := n0_; have HO587 := n1_; have BK579 := n2_; have BK580 := n3_; have HB := n4_; clear n0_ n1_ n2_ n3_ n4_; (try clear hb); (try clear hb2); (try clear hk); (try clear hi); (try clear ho0); (try clear ho1)) | ((with_reducible refine gate_dst (N := 4) rfl ?_); refine bX (N := 4) (cs := #[.slice none 0 0, .int .i64 0, .slice none 0 0]) (t := 41) ?_; intro gb588 hg w63 hbox hb; have n0_ := A_ (Kd.R_below (oR HO583) hb); have n1_ := A_ (Kd.R_below (oR HO587) hb); have n2_ := A_ (bb BK579 hb); have n3_ := A_ (bb BK580 hb); have n4_ := A_ (below_step (oB HB) hb); have n5_ := A_ (hbox); have n6_ := A_ ((by rw [hg]; exact (below_size (oB HB)) : w.heap.size ≤ gb588)); have n7_ := A_ ((by rw [hg]; exact (below_size (oB HB)) : w.heap.size ≤ gb588)); have n8_ := A_ (nL BK579 hg); have n9_ := A_ (nG BK579 hg); have n10_ := A_ (nL BK580 hg); have n11_ := A_ (nG BK580 hg); clear HO583; clear HO587; clear BK579; clear BK580; clear HB; have HO583 := n0_; have HO587 := n1_; have BK579 := n2_; have BK580 := n3_; have HB := n4_; have BK588 := n5_; have GW588 := n6_; have GE588 := n7_; have NB579_588 := n8_; have NB588_579 := n9_; have NB580_588 := n10_; have NB588_580 := n11_; clear n0_ n1_ n2_ n3_ n4_ n5_ n6_ n7_ n8_ n9_ n10_ n11_; clear hb hbox hg; obtain ⟨Ao64, co64, eo64⟩ := Kd.R_slice HO583.out; subst eo64; have hnb65 := NB588_579.out; have hnc65 := NB579_588.out; have hnb66 := NB588_580.out; have hnc66 := NB580_588.out; have hcz67_0 := cz BK588 0; have hcz67_1 := cz BK588 1; have hcz67_2 := cz BK588 2; have hfz67_0 := blk_frozen BK588.out 0; have hfz67_1 := blk_frozen BK588.out 1; have hfz67_2 := blk_frozen BK588.out 2; obtain ⟨Ao68, co68, eo68⟩ := Kd.R_slice HO587.out; subst eo68; have hcz69_0 := cz BK579 0; have hcz69_1 := cz BK579 1; have hcz69_2 := cz BK579 2; have hfz69_0 := blk_frozen BK579.out 0; have hfz69_1 := blk_frozen BK579.out 1; have hfz69_2 := blk_frozen BK579.out 2) | ((with_reducible refine gate_callee (f := 120) rfl ?_); refine gL (some 11) Tryd.func120 #[.agg #[.slice A0_0 l0_0.length c0_0, .int .i64 a0_1, .slice A0_2 l0_2.length c0_2]] ?_; (with_reducible refine (spec_WrongSteps.calls k _ _ l0_0 a0_1 _ _ l0_2 t589 _ ?side1 ?side2 ?side3 ?side4 A3.out).mono ?_); (case side1 => exact Kd.C_below HR0_0.out (oB HB)); (case side2 => exact HC0_0.out); (case side3 => exact Kd.C_below HR0_2.out (oB HB)); (case side4 => exact HC0_2.out); rintro e w70 ⟨v590, rfl, ho0, hb⟩; refine ⟨_, rfl, ?_⟩; have n0_ := A_ (Kd.R_below (by (with_reducible repeat (first | apply Kd.R_alloc | apply Kd.R_drewN | apply Kd.R_drew)); exact (Kd.R_mono (Kd.R_far (p := ⟨gb588, 2, none⟩) (Kd.R_far (p := ⟨gb588, 1, none⟩) (Kd.R_far (p := ⟨gb588, 0, none⟩) (Kd.R_types HO583.out BK588.out (by decide)) (fun _ hk => hk.2) (.slice Ao64 t581.length co64)) (fun _ hk => hk.2) (.int .i64 t584)) (fun _ hk => hk.2) (.slice Ao68 t585.length co68)) (fun _ h_ => h_.1))) hb); have n1_ := A_ (Kd.R_elder' (by (with_reducible repeat (first | apply Kd.R_alloc | apply Kd.R_drewN | apply Kd.R_drew)); exact (Kd.R_mono (Kd.R_far (p := ⟨gb588, 2, none⟩) (Kd.R_far (p := ⟨gb588, 1, none⟩) (Kd.R_far (p := ⟨gb588, 0, none⟩) (Kd.R_types HO587.out BK588.out (by decide)) (fun _ hk => hk.2) (.slice Ao64 t581.length co64)) (fun _ hk => hk.2) (.int .i64 t584)) (fun _ hk => hk.2) (.slice Ao68 t585.length co68)) (fun _ h_ => h_.1))) (Kd.R_base ho0) hb); have n2_ := A_ (Kd.R_lower (Kd.R_new' ho0 (Kd.R_lt (by (with_reducible repeat (first | apply Kd.R_alloc | apply Kd.R_drewN | apply Kd.R_drew)); exact (Kd.R_mono (Kd.R_far (p := ⟨gb588, 2, none⟩) (Kd.R_far (p := ⟨gb588, 1, none⟩) (Kd.R_far (p := ⟨gb588, 0, none⟩) (Kd.R_types HO587.out BK588.out (by decide)) (fun _ hk => hk.2) (.slice Ao64 t581.length co64)) (fun _ hk => hk.2) (.int .i64 t584)) (fun _ hk => hk.2) (.slice Ao68 t585.length co68)) (fun _ h_ => h_.1))))) (below_size (oB HB))); have n3_ := A_ (blk_below (g := gb579) (o := .cells #[.slice A0_0 l0_0.length c0_0, .int .i64 a0_1, .slice A0_2 l0_2.length c0_2] 41 (0, 0)) (by (with_reducible repeat (first | refine blk_drewN ?_ _ | refine blk_drew ?_ | refine blk_alloc ?_ _)); refine blk_far ?_ NB579_588.out _; (with_reducible repeat (first | refine blk_drewN ?_ _ | refine blk_drew ?_ | refine blk_alloc ?_ _)); refine blk_far ?_ NB579_588.out _; (with_reducible repeat (first | refine blk_drewN ?_ _ | refine blk_drew ?_ | refine blk_alloc ?_ _)); refine blk_far ?_ NB579_588.out _; (with_reducible repeat (first | refine blk_drewN ?_ _ | refine blk_drew ?_ | refine blk_alloc ?_ _)); exact BK579.out) hb); have n4_ := A_ (blk_below (g := gb580) (o := .cells #[.slice none 0 0, .int .i64 0, .slice none 0 0] 41 (0, 0)) (by (with_reducible repeat (first | refine blk_drewN ?_ _ | refine blk_drew ?_ | refine blk_alloc ?_ _)); refine blk_far ?_ NB580_588.out _; (with_reducible repeat (first | refine blk_drewN ?_ _ | refine blk_drew ?_ | refine blk_alloc ?_ _)); refine blk_far ?_ NB580_588.out _; (with_reducible repeat (first | refine blk_drewN ?_ _ | refine blk_drew ?_ | refine blk_alloc ?_ _)); refine blk_far ?_ NB580_588.out _; (with_reducible repeat (first | refine blk_drewN ?_ _ | refine blk_drew ?_ | refine blk_alloc ?_ _)); exact BK580.out) hb); have n5_ := A_ (blk_below (g := gb588) (o := .cells #[.slice Ao64 t581.length co64, .int .i64 t584, .slice Ao68 t585.length co68] 41 (0, 0)) (by (with_reducible repeat (first | refine blk_drewN ?_ _ | refine blk_drew ?_ | refine blk_alloc ?_ _)); refine blk_put (cs := #[.slice Ao64 t581.length co64, .int .i64 t584, .slice none 0 0]) ?_ 2 _ rfl; (with_reducible repeat (first | refine blk_drewN ?_ _ | refine blk_drew ?_ | refine blk_alloc ?_ _)); refine blk_put (cs := #[.slice Ao64 t581.length co64, .int .i64 0, .slice none 0 0]) ?_ 1 _ rfl; (with_reducible repeat (first | refine blk_drewN ?_ _ | refine blk_drew ?_ | refine blk_alloc ?_ _)); refine blk_put (cs := #[.slice none 0 0, .int .i64 0, .slice none 0 0]) ?_ 0 _ rfl; (with_reducible repeat (first | refine blk_drewN ?_ _ | refine blk_drew ?_ | refine blk_alloc ?_ _)); exact BK588.out) hb); have n6_ := A_ (below_step (oB HB) hb); clear HO583; clear HO587; clear BK579; clear BK580; clear BK588; clear HB; have HO583 := n0_; have HO587 := n1_; have HO591 := n2_; have BK579 := n3_; have BK580 := n4_; have BK588 := n5_; have HB := n6_; clear n0_ n1_ n2_ n3_ n4_ n5_ n6_; (try clear hb); (try clear hb2); (try clear hk); (try clear hi); (try clear ho0); obtain ⟨Ao71, co71, eo71⟩ := Kd.R_slice HO591.out; subst eo71))
          have n0_ := A_ (Kd.R_drew HO583.out)
          have n1_ := A_ (Kd.R_drew HO587.out)
          have n2_ := A_ (Kd.R_drew HO591.out)
          have n3_ := A_ (blk_drew BK579.out)
          have n4_ := A_ (blk_drew BK580.out)
          have n5_ := A_ (blk_drew BK588.out)
          have n6_ := A_ (below_drew1 HB.out)
          clear HO583
          clear HO587
          clear HO591
          clear BK579
          clear BK580
          clear BK588
          clear HB
          have HO583 := n0_
          have HO587 := n1_
          have HO591 := n2_
          have BK579 := n3_
          have BK580 := n4_
          have BK588 := n5_
          have HB := n6_
          clear n0_ n1_ n2_ n3_ n4_ n5_ n6_
          have p592 : 0 ≤ (0 : Int) := (by omega)
          have q592 : 0 < (t589.length : Int) := of_decide_eq_true (by first | (with_reducible assumption) | assumption)
          obtain ⟨ad592, e592, hx592_0⟩ := Kd.at_int (Kd.R_reads' HO591.out).2.2 0 p592 q592
          cases e592
          have qi592 : (0 < t589.length) = True := eq_true (by omega)
          (try rw [show ((0 : Int)).toNat = 0 from rfl] at hx592_0)
          (try rw [Addr.add_zero'] at hx592_0)
          replace p592 := eq_true p592
          replace q592 := eq_true q592
          have p593 : 0 ≤ ((rd t589 0) : Int) := of_decide_eq_true (by first | (with_reducible assumption) | assumption)
          have q593 : (rd t589 0) < (l0_0.length : Int) := of_decide_eq_true (by first | (with_reducible assumption) | assumption)
          obtain ⟨ad593, e593, hx593_0, hx593_1, hx593_2, hx593_3⟩ := at_T145 HR0_0.out (rd t589 0) p593 q593
          have hw593_3 := hx593_3
          have hw593_2 := hx593_2
          have hw593_1 := hx593_1
          have hw593_0 := hx593_0
          cases e593
          replace hx593_0 := (HB.out.cell (World.block_lt_of_cell? w _ hx593_0)).trans hx593_0
          replace hx593_1 := (HB.out.cell (World.block_lt_of_cell? w _ hx593_1)).trans hx593_1
          replace hx593_2 := (HB.out.cell (World.block_lt_of_cell? w _ hx593_2)).trans hx593_2
          replace hx593_3 := (HB.out.cell (World.block_lt_of_cell? w _ hx593_3)).trans hx593_3
          replace p593 := eq_true p593
          replace q593 := eq_true q593
          refine start_ (n := 9) (S := fun w' => w'.cell? ⟨gb579, 0, none⟩ = some (.slice (some ad593) l0_0.length c0_0) ∧ w'.cell? ⟨gb579, 1, none⟩ = some (.int .i64 a0_1) ∧ w'.cell? ⟨gb579, 2, none⟩ = some (.slice A0_2 l0_2.length c0_2) ∧ w'.cell? ad592 = some (.int .i64 (rd t589 0)) ∧ w'.cell? (ad593.add (((rd t589 0)).toNat * 4)) = some (.int .i64 ((rd_T145 l0_0 (rd t589 0)).f0)) ∧ w'.cell? ⟨(ad593.add (((rd t589 0)).toNat * 4)).block, (ad593.add (((rd t589 0)).toNat * 4)).off + 1, none⟩ = some (.int .i64 ((rd_T145 l0_0 (rd t589 0)).f1)) ∧ w'.cell? ⟨(ad593.add (((rd t589 0)).toNat * 4)).block, (ad593.add (((rd t589 0)).toNat * 4)).off + 2, none⟩ = some (.int .i64 ((rd_T145 l0_0 (rd t589 0)).f2)) ∧ w'.cell? ⟨(ad593.add (((rd t589 0)).toNat * 4)).block, (ad593.add (((rd t589 0)).toNat * 4)).off + 3, none⟩ = some (.int .i64 ((rd_T145 l0_0 (rd t589 0)).f3))) (ds := []) #[false, false, false, false, false, false, false, false, false] (by kernel_rfl) rfl rfl ⟨cz BK579 0, cz BK579 1, cz BK579 2, hx592_0, ((HB.out.cell (World.block_lt_of_cell? w _ hw593_0)).trans hw593_0), ((HB.out.cell (World.block_lt_of_cell? w _ hw593_1)).trans hw593_1), ((HB.out.cell (World.block_lt_of_cell? w _ hw593_2)).trans hw593_2), ((HB.out.cell (World.block_lt_of_cell? w _ hw593_3)).trans hw593_3)⟩ (fun hHeld => ?_); refine with_tabW spec_MendStep.tab5 spec_MendStep.bits5 (fun HT_ HW_ => ?_)
          generalize w70.drew = w72 at HO583 HO587 HO591 BK579 BK580 BK588 HB hx592_0 hx593_0 hx593_1 hx593_2 hx593_3 hHeld ⊢
          refine pA 0 (some 16) HT_.out ?_
          refine pA 2 (some 18) HT_.out ?_
          refine pA 3 (some 19) HT_.out ?_
          refine pT 1 (some 17) HT_.out HW_.out hHeld ?_
          refine pT 4 (some 20) HT_.out HW_.out hHeld ?_
          refine pA 5 (some 21) HT_.out ?_
          refine pT 6 (some 22) HT_.out HW_.out hHeld ?_
          refine one_ (i := 7) (N := some 6) #[true, true, true, true, true, true, true, true, false] rfl rfl (one_of HT_.out (by kernel_rfl)) (by decide) (fun K hK => ?_)
          refine box_step ?hg (N := 6) ?hd (cs := #[.int .i64 0, .int .i64 0, .int .i64 0, .int .i64 0]) (t := 145) ?hr ?_; (case hd => rfl); (case hg => rfl); (case hr => first | (go_simp; done) | (go_simp; rfl))
          intro gb594 hg w73 hbox hb
          have HS3_ := (hb.cell (World.block_lt_of_cell? _ _ (hHeld.2.2.2.1))).trans (hHeld.2.2.2.1)
          have n0_ := A_ (Kd.R_below (Kd.R_elderB (oR HO583) gb594 (Nat.le_of_eq hg.symm)) hb)
          have n1_ := A_ (Kd.R_below (oR HO587) hb)
          have n2_ := A_ (Kd.R_below (oR HO591) hb)
          have n3_ := A_ (bb BK579 hb)
          have n4_ := A_ (bb BK580 hb)
          have n5_ := A_ (bb BK588 hb)
          have n6_ := A_ (below_step (oB HB) hb)
          have n7_ := A_ (hbox)
          have n8_ := A_ ((by rw [hg]; exact (below_size (oB HB)) : w.heap.size ≤ gb594))
          have n9_ := A_ ((by rw [hg]; exact (below_size (oB HB)) : w.heap.size ≤ gb594))
          have n10_ := A_ (nL BK579 hg)
          have n11_ := A_ (nG BK579 hg)
          have n12_ := A_ (nL BK580 hg)
          have n13_ := A_ (nG BK580 hg)
          have n14_ := A_ (nL BK588 hg)
          have n15_ := A_ (nG BK588 hg)
          clear HO583
          clear HO587
          clear HO591
          clear BK579
          clear BK580
          clear BK588
          clear HB
          have HO583 := n0_
          have HO587 := n1_
          have HO591 := n2_
          have BK579 := n3_
          have BK580 := n4_
          have BK588 := n5_
          have HB := n6_
          have BK594 := n7_
          have GW594 := n8_
          have GE594 := n9_
          have NB579_594 := n10_
          have NB594_579 := n11_
          have NB580_594 := n12_
          have NB594_580 := n13_
          have NB588_594 := n14_
          have NB594_588 := n15_
          clear n0_ n1_ n2_ n3_ n4_ n5_ n6_ n7_ n8_ n9_ n10_ n11_ n12_ n13_ n14_ n15_
          clear hb hbox hg
          refine hK.out _ _ ⟨cz BK579 0, cz BK579 1, cz BK579 2, HS3_, ((HB.out.cell (World.block_lt_of_cell? w _ hw593_0)).trans hw593_0), ((HB.out.cell (World.block_lt_of_cell? w _ hw593_1)).trans hw593_1), ((HB.out.cell (World.block_lt_of_cell? w _ hw593_2)).trans hw593_2), ((HB.out.cell (World.block_lt_of_cell? w _ hw593_3)).trans hw593_3)⟩ (fun hHeld => ?_)
          clear hK K
          refine norm_ (a' := ?_) ?_ ?_
          rotate_left
          ·show Act.put _ (some 6) _ = _
           simp only [Act.put, List.setIfInBounds_toArray, List.set_cons_zero, List.set_cons_succ, i64_w, i32_w]
           rfl
          refine one_ (i := 8) (N := none) #[true, true, true, true, true, true, true, true, true] rfl rfl (one_of HT_.out (by kernel_rfl)) (by decide) (fun K hK => ?_)
          have hs74 := cz BK594 0
          have hfs74 := blk_frozen BK594.out 0
          have hns74_0 := NB579_594.out
          have hns74_1 := NB580_594.out
          have hns74_2 := NB588_594.out
          have hms74_0 := NB594_579.out
          have hms74_1 := NB594_580.out
          have hms74_2 := NB594_588.out
          have hs75 := cz BK594 1
          have hfs75 := blk_frozen BK594.out 1
          have hns75_0 := NB579_594.out
          have hns75_1 := NB580_594.out
          have hns75_2 := NB588_594.out
          have hms75_0 := NB594_579.out
          have hms75_1 := NB594_580.out
          have hms75_2 := NB594_588.out
          have hs76 := cz BK594 2
          have hfs76 := blk_frozen BK594.out 2
          have hns76_0 := NB579_594.out
          have hns76_1 := NB580_594.out
          have hns76_2 := NB588_594.out
          have hms76_0 := NB594_579.out
          have hms76_1 := NB594_580.out
          have hms76_2 := NB594_588.out
          have hs77 := cz BK594 3
          have hfs77 := blk_frozen BK594.out 3
          have hns77_0 := NB579_594.out
          have hns77_1 := NB580_594.out
          have hns77_2 := NB588_594.out
          have hms77_0 := NB594_579.out
          have hms77_1 := NB594_580.out
          have hms77_2 := NB594_588.out
          refine skip_ (w1 := ?_) (by rfl) rfl ?_ ?_
          rotate_left
          ·go_simp
           rfl
          refine hK.out _ _ ⟨(cF NB579_594.out hHeld.1), (cF NB579_594.out hHeld.2.1), (cF NB579_594.out hHeld.2.2.1), (cF (nB (Kd.own_blk (Kd.R_ne HO591.out BK594.out (by decide)))) hHeld.2.2.2.1), (cF (nD hw593_0 GW594.out) hHeld.2.2.2.2.1), (cF (nD hw593_1 GW594.out) hHeld.2.2.2.2.2.1), (cF (nD hw593_2 GW594.out) hHeld.2.2.2.2.2.2.1), (cF (nD hw593_3 GW594.out) hHeld.2.2.2.2.2.2.2)⟩ (fun hHeld => ?_)
          clear hK K
          refine done_ (done_of HT_.out (by kernel_rfl)) ?_
          try go_wp2
          have n0_ : Aside0 (Kd.R k145 145 ((((w73.setCell ⟨gb594, 0, none⟩ (.int .i64 ((rd_T145 l0_0 (rd t589 0)).f0))).setCell ⟨gb594, 1, none⟩ (.int .i64 ((rd_T145 l0_0 (rd t589 0)).f1))).setCell ⟨gb594, 2, none⟩ (.int .i64 ((rd_T145 l0_0 (rd t589 0)).f2))).setCell ⟨gb594, 3, none⟩ (.int .i64 ((rd_T145 l0_0 (rd t589 0)).f3))) w.heap.size (fun k_ => k_ ≠ gb594) (.slice Ao64 t581.length co64) t581) := ⟨by (with_reducible repeat (first | apply Kd.R_alloc | apply Kd.R_drewN | apply Kd.R_drew)); exact Kd.R_mono (Kd.R_far (p := ⟨gb594, 3, none⟩) (Kd.R_far (p := ⟨gb594, 2, none⟩) (Kd.R_far (p := ⟨gb594, 1, none⟩) (Kd.R_far (p := ⟨gb594, 0, none⟩) (Kd.R_mono HO583.out (fun k_ hk => (⟨hk, hk.2⟩ : _ ∧ k_ ≠ gb594))) (fun _ hk => hk.2) (.int .i64 ((rd_T145 l0_0 (rd t589 0)).f0))) (fun _ hk => hk.2) (.int .i64 ((rd_T145 l0_0 (rd t589 0)).f1))) (fun _ hk => hk.2) (.int .i64 ((rd_T145 l0_0 (rd t589 0)).f2))) (fun _ hk => hk.2) (.int .i64 ((rd_T145 l0_0 (rd t589 0)).f3))) (fun _ hk => hk.1.2)⟩
          have n1_ : Aside0 (Kd.R (Kd.int .i64) 3 ((((w73.setCell ⟨gb594, 0, none⟩ (.int .i64 ((rd_T145 l0_0 (rd t589 0)).f0))).setCell ⟨gb594, 1, none⟩ (.int .i64 ((rd_T145 l0_0 (rd t589 0)).f1))).setCell ⟨gb594, 2, none⟩ (.int .i64 ((rd_T145 l0_0 (rd t589 0)).f2))).setCell ⟨gb594, 3, none⟩ (.int .i64 ((rd_T145 l0_0 (rd t589 0)).f3))) w.heap.size (fun k_ => some k_ ≠ (.slice (some ad592) t589.length co71 : Value).ownBlock) (.slice Ao68 t585.length co68) t585) := ⟨by (with_reducible repeat (first | apply Kd.R_alloc | apply Kd.R_drewN | apply Kd.R_drew)); exact Kd.R_mono (Kd.R_far (p := ⟨gb594, 3, none⟩) (Kd.R_far (p := ⟨gb594, 2, none⟩) (Kd.R_far (p := ⟨gb594, 1, none⟩) (Kd.R_far (p := ⟨gb594, 0, none⟩) (Kd.R_types HO587.out BK594.out (by decide)) (fun _ hk => hk.2) (.int .i64 ((rd_T145 l0_0 (rd t589 0)).f0))) (fun _ hk => hk.2) (.int .i64 ((rd_T145 l0_0 (rd t589 0)).f1))) (fun _ hk => hk.2) (.int .i64 ((rd_T145 l0_0 (rd t589 0)).f2))) (fun _ hk => hk.2) (.int .i64 ((rd_T145 l0_0 (rd t589 0)).f3))) (fun _ hk => hk.1.2)⟩
          have n2_ : Aside0 (Kd.R (Kd.int .i64) 3 ((((w73.setCell ⟨gb594, 0, none⟩ (.int .i64 ((rd_T145 l0_0 (rd t589 0)).f0))).setCell ⟨gb594, 1, none⟩ (.int .i64 ((rd_T145 l0_0 (rd t589 0)).f1))).setCell ⟨gb594, 2, none⟩ (.int .i64 ((rd_T145 l0_0 (rd t589 0)).f2))).setCell ⟨gb594, 3, none⟩ (.int .i64 ((rd_T145 l0_0 (rd t589 0)).f3))) w.heap.size (fun k_ => some k_ ≠ (.slice Ao68 t585.length co68 : Value).ownBlock) (.slice (some ad592) t589.length co71) t589) := ⟨by (with_reducible repeat (first | apply Kd.R_alloc | apply Kd.R_drewN | apply Kd.R_drew)); exact Kd.R_mono (Kd.R_far (p := ⟨gb594, 3, none⟩) (Kd.R_far (p := ⟨gb594, 2, none⟩) (Kd.R_far (p := ⟨gb594, 1, none⟩) (Kd.R_far (p := ⟨gb594, 0, none⟩) (Kd.R_types HO591.out BK594.out (by decide)) (fun _ hk => hk.2) (.int .i64 ((rd_T145 l0_0 (rd t589 0)).f0))) (fun _ hk => hk.2) (.int .i64 ((rd_T145 l0_0 (rd t589 0)).f1))) (fun _ hk => hk.2) (.int .i64 ((rd_T145 l0_0 (rd t589 0)).f2))) (fun _ hk => hk.2) (.int .i64 ((rd_T145 l0_0 (rd t589 0)).f3))) (fun _ hk => hk.1.2)⟩
          have n3_ : Aside0 (((((w73.setCell ⟨gb594, 0, none⟩ (.int .i64 ((rd_T145 l0_0 (rd t589 0)).f0))).setCell ⟨gb594, 1, none⟩ (.int .i64 ((rd_T145 l0_0 (rd t589 0)).f1))).setCell ⟨gb594, 2, none⟩ (.int .i64 ((rd_T145 l0_0 (rd t589 0)).f2))).setCell ⟨gb594, 3, none⟩ (.int .i64 ((rd_T145 l0_0 (rd t589 0)).f3))).heap[gb579]? = some (.cells #[.slice (some ad593) l0_0.length c0_0, .int .i64 a0_1, .slice A0_2 l0_2.length c0_2] 41 (0, 0))) := ⟨by (with_reducible repeat (first | refine blk_drewN ?_ _ | refine blk_drew ?_ | refine blk_alloc ?_ _)); refine blk_far ?_ NB579_594.out _; (with_reducible repeat (first | refine blk_drewN ?_ _ | refine blk_drew ?_ | refine blk_alloc ?_ _)); refine blk_far ?_ NB579_594.out _; (with_reducible repeat (first | refine blk_drewN ?_ _ | refine blk_drew ?_ | refine blk_alloc ?_ _)); refine blk_far ?_ NB579_594.out _; (with_reducible repeat (first | refine blk_drewN ?_ _ | refine blk_drew ?_ | refine blk_alloc ?_ _)); refine blk_far ?_ NB579_594.out _; (with_reducible repeat (first | refine blk_drewN ?_ _ | refine blk_drew ?_ | refine blk_alloc ?_ _)); exact BK579.out⟩
          have n4_ : Aside0 (((((w73.setCell ⟨gb594, 0, none⟩ (.int .i64 ((rd_T145 l0_0 (rd t589 0)).f0))).setCell ⟨gb594, 1, none⟩ (.int .i64 ((rd_T145 l0_0 (rd t589 0)).f1))).setCell ⟨gb594, 2, none⟩ (.int .i64 ((rd_T145 l0_0 (rd t589 0)).f2))).setCell ⟨gb594, 3, none⟩ (.int .i64 ((rd_T145 l0_0 (rd t589 0)).f3))).heap[gb580]? = some (.cells #[.slice none 0 0, .int .i64 0, .slice none 0 0] 41 (0, 0))) := ⟨by (with_reducible repeat (first | refine blk_drewN ?_ _ | refine blk_drew ?_ | refine blk_alloc ?_ _)); refine blk_far ?_ NB580_594.out _; (with_reducible repeat (first | refine blk_drewN ?_ _ | refine blk_drew ?_ | refine blk_alloc ?_ _)); refine blk_far ?_ NB580_594.out _; (with_reducible repeat (first | refine blk_drewN ?_ _ | refine blk_drew ?_ | refine blk_alloc ?_ _)); refine blk_far ?_ NB580_594.out _; (with_reducible repeat (first | refine blk_drewN ?_ _ | refine blk_drew ?_ | refine blk_alloc ?_ _)); refine blk_far ?_ NB580_594.out _; (with_reducible repeat (first | refine blk_drewN ?_ _ | refine blk_drew ?_ | refine blk_alloc ?_ _)); exact BK580.out⟩
          have n5_ : Aside0 (((((w73.setCell ⟨gb594, 0, none⟩ (.int .i64 ((rd_T145 l0_0 (rd t589 0)).f0))).setCell ⟨gb594, 1, none⟩ (.int .i64 ((rd_T145 l0_0 (rd t589 0)).f1))).setCell ⟨gb594, 2, none⟩ (.int .i64 ((rd_T145 l0_0 (rd t589 0)).f2))).setCell ⟨gb594, 3, none⟩ (.int .i64 ((rd_T145 l0_0 (rd t589 0)).f3))).heap[gb588]? = some (.cells #[.slice Ao64 t581.length co64, .int .i64 t584, .slice Ao68 t585.length co68] 41 (0, 0))) := ⟨by (with_reducible repeat (first | refine blk_drewN ?_ _ | refine blk_drew ?_ | refine blk_alloc ?_ _)); refine blk_far ?_ NB588_594.out _; (with_reducible repeat (first | refine blk_drewN ?_ _ | refine blk_drew ?_ | refine blk_alloc ?_ _)); refine blk_far ?_ NB588_594.out _; (with_reducible repeat (first | refine blk_drewN ?_ _ | refine blk_drew ?_ | refine blk_alloc ?_ _)); refine blk_far ?_ NB588_594.out _; (with_reducible repeat (first | refine blk_drewN ?_ _ | refine blk_drew ?_ | refine blk_alloc ?_ _)); refine blk_far ?_ NB588_594.out _; (with_reducible repeat (first | refine blk_drewN ?_ _ | refine blk_drew ?_ | refine blk_alloc ?_ _)); exact BK588.out⟩
          have n6_ : Aside0 (((((w73.setCell ⟨gb594, 0, none⟩ (.int .i64 ((rd_T145 l0_0 (rd t589 0)).f0))).setCell ⟨gb594, 1, none⟩ (.int .i64 ((rd_T145 l0_0 (rd t589 0)).f1))).setCell ⟨gb594, 2, none⟩ (.int .i64 ((rd_T145 l0_0 (rd t589 0)).f2))).setCell ⟨gb594, 3, none⟩ (.int .i64 ((rd_T145 l0_0 (rd t589 0)).f3))).heap[gb594]? = some (.cells #[.int .i64 ((rd_T145 l0_0 (rd t589 0)).f0), .int .i64 ((rd_T145 l0_0 (rd t589 0)).f1), .int .i64 ((rd_T145 l0_0 (rd t589 0)).f2), .int .i64 ((rd_T145 l0_0 (rd t589 0)).f3)] 145 (0, 0))) := ⟨by (with_reducible repeat (first | refine blk_drewN ?_ _ | refine blk_drew ?_ | refine blk_alloc ?_ _)); refine blk_put (cs := #[.int .i64 ((rd_T145 l0_0 (rd t589 0)).f0), .int .i64 ((rd_T145 l0_0 (rd t589 0)).f1), .int .i64 ((rd_T145 l0_0 (rd t589 0)).f2), .int .i64 0]) ?_ 3 _ rfl; (with_reducible repeat (first | refine blk_drewN ?_ _ | refine blk_drew ?_ | refine blk_alloc ?_ _)); refine blk_put (cs := #[.int .i64 ((rd_T145 l0_0 (rd t589 0)).f0), .int .i64 ((rd_T145 l0_0 (rd t589 0)).f1), .int .i64 0, .int .i64 0]) ?_ 2 _ rfl; (with_reducible repeat (first | refine blk_drewN ?_ _ | refine blk_drew ?_ | refine blk_alloc ?_ _)); refine blk_put (cs := #[.int .i64 ((rd_T145 l0_0 (rd t589 0)).f0), .int .i64 0, .int .i64 0, .int .i64 0]) ?_ 1 _ rfl; (with_reducible repeat (first | refine blk_drewN ?_ _ | refine blk_drew ?_ | refine blk_alloc ?_ _)); refine blk_put (cs := #[.int .i64 0, .int .i64 0, .int .i64 0, .int .i64 0]) ?_ 0 _ rfl; (with_reducible repeat (first | refine blk_drewN ?_ _ | refine blk_drew ?_ | refine blk_alloc ?_ _)); exact BK594.out⟩
          have n7_ : Aside0 (Below w.heap.size w ((((w73.setCell ⟨gb594, 0, none⟩ (.int .i64 ((rd_T145 l0_0 (rd t589 0)).f0))).setCell ⟨gb594, 1, none⟩ (.int .i64 ((rd_T145 l0_0 (rd t589 0)).f1))).setCell ⟨gb594, 2, none⟩ (.int .i64 ((rd_T145 l0_0 (rd t589 0)).f2))).setCell ⟨gb594, 3, none⟩ (.int .i64 ((rd_T145 l0_0 (rd t589 0)).f3)))) := ⟨oB HB⟩
          (try clear HO583)
          (try clear HO587)
          (try clear HO591)
          (try clear BK579)
          (try clear BK580)
          (try clear BK588)
          (try clear BK594)
          (try clear HB)
          generalize ((((w73.setCell ⟨gb594, 0, none⟩ (.int .i64 ((rd_T145 l0_0 (rd t589 0)).f0))).setCell ⟨gb594, 1, none⟩ (.int .i64 ((rd_T145 l0_0 (rd t589 0)).f1))).setCell ⟨gb594, 2, none⟩ (.int .i64 ((rd_T145 l0_0 (rd t589 0)).f2))).setCell ⟨gb594, 3, none⟩ (.int .i64 ((rd_T145 l0_0 (rd t589 0)).f3))) = w78 at n0_ n1_ n2_ n3_ n4_ n5_ n6_ n7_ ⊢
          have HO583 := n0_
          have HO587 := n1_
          have HO591 := n2_
          have BK579 := n3_
          have BK580 := n4_
          have BK588 := n5_
          have BK594 := n6_
          have HB := n7_
          clear n0_ n1_ n2_ n3_ n4_ n5_ n6_ n7_
          have n0_ := A_ (Kd.R_drew HO583.out)
          have n1_ := A_ (Kd.R_drew HO587.out)
          have n2_ := A_ (Kd.R_drew HO591.out)
          have n3_ := A_ (blk_drew BK579.out)
          have n4_ := A_ (blk_drew BK580.out)
          have n5_ := A_ (blk_drew BK588.out)
          have n6_ := A_ (blk_drew BK594.out)
          have n7_ := A_ (below_drew1 HB.out)
          clear HO583
          clear HO587
          clear HO591
          clear BK579
          clear BK580
          clear BK588
          clear BK594
          clear HB
          have HO583 := n0_
          have HO587 := n1_
          have HO591 := n2_
          have BK579 := n3_
          have BK580 := n4_
          have BK588 := n5_
          have BK594 := n6_
          have HB := n7_
          clear n0_ n1_ n2_ n3_ n4_ n5_ n6_ n7_
          have p595 : 0 ≤ (((rd_T145 l0_0 (rd t589 0)).f0) : Int) := of_decide_eq_true (by first | (with_reducible assumption) | assumption)
          have q595 : ((rd_T145 l0_0 (rd t589 0)).f0) < (l0_2.length : Int) := of_decide_eq_true (by first | (with_reducible assumption) | assumption)
          obtain ⟨ad595, e595, hx595_0⟩ := Kd.at_int HR0_2.out ((rd_T145 l0_0 (rd t589 0)).f0) p595 q595
          have hw595_0 := hx595_0
          cases e595
          replace hx595_0 := (HB.out.cell (World.block_lt_of_cell? w _ hx595_0)).trans hx595_0
          replace p595 := eq_true p595
          replace q595 := eq_true q595
          refine start_ (n := 12) (S := fun w' => w'.cell? ⟨gb579, 0, none⟩ = some (.slice (some ad593) l0_0.length c0_0) ∧ w'.cell? ⟨gb579, 1, none⟩ = some (.int .i64 a0_1) ∧ w'.cell? ⟨gb579, 2, none⟩ = some (.slice (some ad595) l0_2.length c0_2) ∧ w'.cell? ⟨gb594, 0, none⟩ = some (.int .i64 ((rd_T145 l0_0 (rd t589 0)).f0)) ∧ w'.cell? ⟨gb594, 1, none⟩ = some (.int .i64 ((rd_T145 l0_0 (rd t589 0)).f1)) ∧ w'.cell? ⟨gb594, 2, none⟩ = some (.int .i64 ((rd_T145 l0_0 (rd t589 0)).f2)) ∧ w'.cell? ⟨gb594, 3, none⟩ = some (.int .i64 ((rd_T145 l0_0 (rd t589 0)).f3)) ∧ w'.cell? (ad595.add (((rd_T145 l0_0 (rd t589 0)).f0)).toNat) = some (.int .i64 (rd l0_2 ((rd_T145 l0_0 (rd t589 0)).f0)))) (ds := []) #[false, false, false, false, false, false, false, false, false, false, false, false] (by kernel_rfl) rfl rfl ⟨cz BK579 0, cz BK579 1, cz BK579 2, cz BK594 0, cz BK594 1, cz BK594 2, cz BK594 3, ((HB.out.cell (World.block_lt_of_cell? w _ hw595_0)).trans hw595_0)⟩ (fun hHeld => ?_); refine with_tabW spec_MendStep.tab6 spec_MendStep.bits6 (fun HT_ HW_ => ?_)
          generalize w78.drew = w79 at HO583 HO587 HO591 BK579 BK580 BK588 BK594 HB hx595_0 hHeld ⊢
          refine pA 0 (some 23) HT_.out ?_
          refine pA 2 (some 25) HT_.out ?_
          refine pA 6 (some 29) HT_.out ?_
          refine pA 8 (some 31) HT_.out ?_
          refine pT 1 (some 24) HT_.out HW_.out hHeld ?_
          refine pT 3 (some 26) HT_.out HW_.out hHeld ?_
          refine pA 4 (some 27) HT_.out ?_
          refine pT 5 (some 28) HT_.out HW_.out hHeld ?_
          refine pT 7 (some 30) HT_.out HW_.out hHeld ?_
          refine pT 9 (some 32) HT_.out HW_.out hHeld ?_
          refine one_ (i := 10) (N := some 33) #[true, true, true, true, true, true, true, true, true, true, true, false] rfl rfl (one_of HT_.out (by kernel_rfl)) (by decide) (fun K hK => ?_)
          refine goes_ Tryd.func138 (by kernel_rfl) rfl #[.int .i64 (rd l0_2 ((rd_T145 l0_0 (rd t589 0)).f0)), .int .i64 ((rd_T145 l0_0 (rd t589 0)).f2), .int .i64 ((rd_T145 l0_0 (rd t589 0)).f3)] (by rfl) rfl rfl (by (try simp only [List.map_toArray, List.map_cons, List.map_nil]); first | done | rfl | (simp only [List.length_drop, List.length_take]; rfl)) ?_
          with_reducible refine (spec_TunedPitch.calls k (rd l0_2 ((rd_T145 l0_0 (rd t589 0)).f0)) ((rd_T145 l0_0 (rd t589 0)).f2) ((rd_T145 l0_0 (rd t589 0)).f3) t596 _ A26.out).mono ?_
          rintro e w80 ⟨rfl, hb⟩
          refine ⟨_, rfl, ?_⟩
          have n0_ := A_ (Kd.R_below (oR HO583) hb)
          have n1_ := A_ (Kd.R_below (oR HO587) hb)
          have n2_ := A_ (Kd.R_below (oR HO591) hb)
          have n3_ := A_ (bb BK579 hb)
          have n4_ := A_ (bb BK580 hb)
          have n5_ := A_ (bb BK588 hb)
          have n6_ := A_ (bb BK594 hb)
          have n7_ := A_ (below_step (oB HB) hb)
          clear HO583
          clear HO587
          clear HO591
          clear BK579
          clear BK580
          clear BK588
          clear BK594
          clear HB
          have HO583 := n0_
          have HO587 := n1_
          have HO591 := n2_
          have BK579 := n3_
          have BK580 := n4_
          have BK588 := n5_
          have BK594 := n6_
          have HB := n7_
          clear n0_ n1_ n2_ n3_ n4_ n5_ n6_ n7_
          (try clear hb)
          (try clear hb2)
          (try clear hk)
          (try clear hi)
          refine hK.out _ _ ⟨cz BK579 0, cz BK579 1, cz BK579 2, cz BK594 0, cz BK594 1, cz BK594 2, cz BK594 3, ((HB.out.cell (World.block_lt_of_cell? w _ hw595_0)).trans hw595_0)⟩ (fun hHeld => ?_)
          clear hK K
          refine norm_ (a' := ?_) ?_ ?_
          rotate_left
          ·show Act.put _ (some 33) _ = _
           simp only [Act.put, List.setIfInBounds_toArray, List.set_cons_zero, List.set_cons_succ, i64_w, i32_w]
           rfl
          refine pA 11 (some 7) HT_.out ?_
          refine done_ (done_of HT_.out (by kernel_rfl)) ?_
          have hnb81 := NB588_594.out
          have hnc81 := NB594_588.out
          have hcz82_0 := cz BK588 0
          have hcz82_1 := cz BK588 1
          have hcz82_2 := cz BK588 2
          have hfz82_0 := blk_frozen BK588.out 0
          have hfz82_1 := blk_frozen BK588.out 1
          have hfz82_2 := blk_frozen BK588.out 2
          have hnb83 := NB594_579.out
          have hnc83 := NB579_594.out
          have hnb84 := NB594_580.out
          have hnc84 := NB580_594.out
          have hcz85_0 := cz BK594 0
          have hcz85_1 := cz BK594 1
          have hcz85_2 := cz BK594 2
          have hcz85_3 := cz BK594 3
          have hfz85_0 := blk_frozen BK594.out 0
          have hfz85_1 := blk_frozen BK594.out 1
          have hfz85_2 := blk_frozen BK594.out 2
          have hfz85_3 := blk_frozen BK594.out 3
          have p57 : 0 ≤ (((rd_T145 l0_0 (rd t589 0)).f1) : Int) := of_decide_eq_true (by first | (with_reducible assumption) | assumption)
          have q57 : (((rd_T145 l0_0 (rd t589 0)).f1) : Int) < ((t585.length : Int) : Int) := of_decide_eq_true (by first | (with_reducible assumption) | assumption)
          obtain ⟨go57, co57, eo57, gb57, gl57, cl57, HG57⟩ := Kd.R_form HO587.out (by omega)
          (first | cases eo57 | (injection eo57 with ea_ en_ ec_; (first | subst ea_ | (injection ea_ with ea_; subst ea_)); subst ec_; clear en_))
          have GB57 := A_ gb57
          have GG57 := A_ HG57
          clear gb57 gl57 HG57
          obtain ⟨hx57_0, hf57_0⟩ := Kd.R_celln 0 HO587.out (((rd_T145 l0_0 (rd t589 0)).f1) : Int) p57 q57
          replace p57 := eq_true p57
          replace q57 := eq_true q57
          obtain ⟨hy86_, hz86_⟩ := Kd.R_celln 0 HO587.out (((rd_T145 l0_0 (rd t589 0)).f1) : Int) (of_decide_eq_true (by first | (with_reducible assumption) | assumption)) (of_decide_eq_true (by first | (with_reducible assumption) | assumption))
          have HP86 := Kd.R_putg HO587.out (((rd_T145 l0_0 (rd t589 0)).f1) : Int) t596
          try go_wp2_with (first | ((with_reducible refine gate_store (t := 3) (p := 42) rfl ?_); refine store_event (t := 3) (p := 42) (v := ?vo_w87) (w1 := (w80.setCell ⟨go57, (((rd_T145 l0_0 (rd t589 0)).f1) : Int).toNat, none⟩ (.int .i64 t596))) ?hg ?ho ?hn ?hr ?_; (case ho => rfl); (case hg => rfl); (case hn => rfl); (case hr => first | (go_simp; done) | (go_simp; rfl)); intro w87 hw; have hg : w80.grownBy w87 (some go57) := (by rw [hw]; exact HP86.2); have hp_ : Kd.R (Kd.int .i64) 3 w87 w.heap.size (fun k_ => some k_ ≠ (.slice (some ad592) t589.length co71 : Value).ownBlock) (.slice (some ⟨go57, 0, none⟩) t585.length co68) y597 := (by rw [hw, Ny597.out]; exact HP86.1); clear HP86; have n0_ := A_ (bg BK579 hg (Kd.R_ne HO587.out BK579.out (by decide))); have n1_ := A_ (bg BK580 hg (Kd.R_ne HO587.out BK580.out (by decide))); have n2_ := A_ (Kd.R_over' (v := (.slice (some ⟨go57, 0, none⟩) t585.length co68)) (oR HO583) (Kd.R_typed HO587.out) (by decide) hg); have n3_ := A_ (hp_); have n4_ := A_ (bg BK588 hg (Kd.R_ne HO587.out BK588.out (by decide))); have n5_ := A_ (Kd.R_after (v := (.slice (some ⟨go57, 0, none⟩) t585.length co68)) (v1 := (.slice (some ⟨go57, 0, none⟩) t585.length co68)) (ok := (fun _ => True)) (by (with_reducible repeat (first | apply Kd.R_alloc | apply Kd.R_drewN | apply Kd.R_drew)); exact Kd.R_mono HO591.out (fun _ hk => ⟨trivial, hk⟩)) hg (.inl rfl)); have n6_ := A_ (bg BK594 hg (Kd.R_ne HO587.out BK594.out (by decide))); have n7_ := A_ ((by rw [hw]; exact below_set (HB.out) GB57.out : Below w.heap.size w w87)); clear BK579; clear BK580; clear HO583; clear HO587; clear BK588; clear HO591; clear BK594; clear HB; have BK579 := n0_; have BK580 := n1_; have HO583 := n2_; have HO587 := n3_; have BK588 := n4_; have HO591 := n5_; have BK594 := n6_; have HB := n7_; clear n0_ n1_ n2_ n3_ n4_ n5_ n6_ n7_; clear hg hw hp_; have hcz88_0 := cz BK588 0; have hcz88_1 := cz BK588 1; have hcz88_2 := cz BK588 2; have hfz88_0 := blk_frozen BK588.out 0; have hfz88_1 := blk_frozen BK588.out 1; have hfz88_2 := blk_frozen BK588.out 2; have hcz89_0 := cz BK580 0; have hcz89_1 := cz BK580 1; have hcz89_2 := cz BK580 2; have hfz89_0 := blk_frozen BK580.out 0; have hfz89_1 := blk_frozen BK580.out 1; have hfz89_2 := blk_frozen BK580.out 2))
          refine bodyPost_ret (results_ct rfl _ _ gb580 41 #[.slice Ao64 t581.length co64, .int .i64 t584, .slice (some ⟨go57, 0, none⟩) t585.length co68] (0, 0) _ rfl (by (with_reducible repeat (first | refine blk_drewN ?_ _ | refine blk_drew ?_ | refine blk_alloc ?_ _)); refine blk_put (cs := #[.slice Ao64 t581.length co64, .int .i64 t584, .slice none 0 0]) ?_ 2 _ rfl; (with_reducible repeat (first | refine blk_drewN ?_ _ | refine blk_drew ?_ | refine blk_alloc ?_ _)); refine blk_put (cs := #[.slice Ao64 t581.length co64, .int .i64 0, .slice none 0 0]) ?_ 1 _ rfl; (with_reducible repeat (first | refine blk_drewN ?_ _ | refine blk_drew ?_ | refine blk_alloc ?_ _)); refine blk_put (cs := #[.slice none 0 0, .int .i64 0, .slice none 0 0]) ?_ 0 _ rfl; (with_reducible repeat (first | refine blk_drewN ?_ _ | refine blk_drew ?_ | refine blk_alloc ?_ _)); exact BK580.out) Tryd.underlying41 rfl (by kernel_rfl)) rfl ?_
          exact ⟨_, _, eR, by (with_reducible repeat (first | apply Kd.R_alloc | apply Kd.R_drewN | apply Kd.R_drew)); exact Kd.R_mono (Kd.R_far (p := ⟨gb580, 2, none⟩) (Kd.R_far (p := ⟨gb580, 1, none⟩) (Kd.R_far (p := ⟨gb580, 0, none⟩) (Kd.R_types HO583.out BK580.out (by decide)) (fun _ hk => hk.2) (.slice Ao64 t581.length co64)) (fun _ hk => hk.2) (.int .i64 t584)) (fun _ hk => hk.2) (.slice (some ⟨go57, 0, none⟩) t585.length co68)) (fun _ hk => trivial), by (with_reducible repeat (first | apply Kd.R_alloc | apply Kd.R_drewN | apply Kd.R_drew)); exact Kd.R_mono (Kd.R_far (p := ⟨gb580, 2, none⟩) (Kd.R_far (p := ⟨gb580, 1, none⟩) (Kd.R_far (p := ⟨gb580, 0, none⟩) (Kd.R_types HO587.out BK580.out (by decide)) (fun _ hk => hk.2) (.slice Ao64 t581.length co64)) (fun _ hk => hk.2) (.int .i64 t584)) (fun _ hk => hk.2) (.slice (some ⟨go57, 0, none⟩) t585.length co68)) (fun _ hk => trivial), oB HB⟩
         ·rw [if_neg c56] at H
          exact absurd H (by simp)
        ·rw [if_neg c55] at H
         exact absurd H (by simp)
      ·rw [if_neg c25] at H
       exact absurd H (by simp)
     ·rw [if_neg c24] at H
      exact absurd H (by simp)
    ·rw [if_neg c23] at H
     exact absurd H (by simp)
   ·rw [if_neg c22] at H
    exact absurd H (by simp)
  ·rw [if_neg c21] at H
   exact absurd H (by simp)
end Go.Proofs.YtojiighpkppckaaDoor.P


namespace Go.Proofs.YtojiighpkppckaaDoor.P
open Go.RowKit Go.Proofs.YtojiighpkppckaaDoorW.PrintWords Go.Proofs.YtojiighpkppckaaDoorW.PrintLast Go.Proofs.YtojiighpkppckaaDoorW.PrintMore
attribute [local go_sem] max2_int min2_int max_two min_two max_three min_three max_four min_four
set_option linter.unusedVariables false
set_option linter.unusedSimpArgs false
def spec_WorkStep.j0 : Nat → Bool → List (S145) → Int → List Int → List (S145) → Int → List Int → Option ((List (S145)) × Int × List Int × Bool)
 | 0, _, _, _, _, _, _, _ => none
 | k + 1, x19, x599000, x599001, x599002, x608000, x608001, x608002 => if x19 = true then (some (x608000, x608001, x608002, false)) else (if 0 ≤ x599001 then (if x599001 < (x599000.length : Int) then (if 0 ≤ ((rd_T145 x599000 x599001).f0) then (if ((rd_T145 x599000 x599001).f0) < (x599002.length : Int) then ((spec_TunedPitch.f k (rd x599002 ((rd_T145 x599000 x599001).f0)) ((rd_T145 x599000 x599001).f2) ((rd_T145 x599000 x599001).f3)).bind fun t612 => (if t612 = 0 then (some (x608000, x608001, x608002, false)) else (if 0 ≤ ((rd_T145 x599000 x599001).f1) then (if ((rd_T145 x599000 x599001).f1) < (x608002.length : Int) then (some (x608000, wrap64 (x599001 + 1), (x608002.set (((rd_T145 x599000 x599001).f1) : Int).toNat t612), true)) else (none)) else (none)))) else (none)) else (none)) else (none)) else (none))
def spec_WorkStep.f (k : Nat) (l0_0 : List (S145)) (a0_1 : Int) (l0_2 : List Int) : Option ((List (S145)) × Int × List Int × Bool) := (spec_l36Copy.f l0_0 a0_1 l0_2).bind fun bt600 => ((spec_WorkOk.f k l0_0 a0_1 l0_2).bind fun t608 => (if t608 = true then (spec_WorkStep.j0 k (a0_1 == (l0_0.length : Int)) l0_0 a0_1 l0_2 bt600.1 bt600.2.1 bt600.2.2) else (spec_WorkStep.j0 k true l0_0 a0_1 l0_2 bt600.1 bt600.2.1 bt600.2.2)))
def spec_WorkStep.T5 : Bool × List (List Nat × List Nat) := (true, [([], []), ([0], [0]), ([], []), ([2], [2]), ([1, 3], [1, 3]), ([4], [4]), ([], []), ([6], [6]), ([], []), ([8], [8]), ([5, 7, 9], [5, 7, 9]), ([10, 10, 0, 1, 2, 3, 4, 5, 6, 7, 8, 9, 10], [10])])
def spec_WorkStep.B5 : List Nat := [0, 1, 0, 4, 15, 31, 0, 64, 0, 256, 1023, 2047]
theorem spec_WorkStep.tab5 : rtab .any (opsOf Tryd.f122 5) = spec_WorkStep.T5 := by kernel_rfl
theorem spec_WorkStep.bits5 : waitsOk spec_WorkStep.T5.2 spec_WorkStep.B5 = true := by kernel_rfl
set_option maxHeartbeats 8000000 in
set_option maxRecDepth 100000 in
theorem spec_WorkStep.calls (k : Nat) (A0_0 : Option Addr) (c0_0 : Nat) (l0_0 : List (S145)) (a0_1 : Int) (A0_2 : Option Addr) (c0_2 : Nat) (l0_2 : List Int) (r1 : List (S145)) (r2 : Int) (r3 : List Int) (r4 : Bool) (w : World) (hr0_0 : Kd.C k145 w A0_0 l0_0.length l0_0) (hc0_0 : l0_0.length ≤ c0_0) (hr0_2 : Kd.C (Kd.int .i64) w A0_2 l0_2.length l0_2) (hc0_2 : l0_2.length ≤ c0_2) (h : spec_WorkStep.f k l0_0 a0_1 l0_2 = some (r1, r2, r3, r4)) :
  Calls Tryd.prog 122 #[.agg #[.slice A0_0 l0_0.length c0_0, .int .i64 a0_1, .slice A0_2 l0_2.length c0_2]] w fun e w' => ∃ v0_ v2_ : Value, e = .returned (.tuple #[.agg #[v0_, .int .i64 r2, v2_], .bool r4]) ∧ Kd.R k145 145 w' w.heap.size (fun _ => True) v0_ r1 ∧ Kd.R (Kd.int .i64) 3 w' w.heap.size (fun _ => True) v2_ r3 ∧ Below w.heap.size w w' := by
 have hu41 := Tryd.underlying41
 have hu145 := Tryd.underlying145
 have HR0_0 := A_ hr0_0
 have HC0_0 := A_ hc0_0
 clear hr0_0 hc0_0
 have HR0_2 := A_ hr0_2
 have HC0_2 := A_ hc0_2
 clear hr0_2 hc0_2
 have HB := A_ (Below.refl w.heap.size w)
 have H : ((spec_l36Copy.f l0_0 a0_1 l0_2).bind fun bt600 => ((spec_WorkOk.f k l0_0 a0_1 l0_2).bind fun t608 => (if t608 = true then (spec_WorkStep.j0 k (a0_1 == (l0_0.length : Int)) l0_0 a0_1 l0_2 bt600.1 bt600.2.1 bt600.2.2) else (spec_WorkStep.j0 k true l0_0 a0_1 l0_2 bt600.1 bt600.2.1 bt600.2.2)))) = some (r1, r2, r3, r4) := h
 clear h
 replace H := Option.bind_eq_some_iff.mp H
 obtain ⟨⟨t600, t603, t604⟩, A20, H⟩ := H
 (try dsimp only at H)
 have A2 := A_ A20
 clear A20
 have HC3 := A_ H
 clear H
 go_enter Tryd.func122, Tryd.ntmps122
 go_upto_region 2 with (first | ((with_reducible refine gate_dst (N := 1) rfl ?_); (try (refine gate_guard (by rfl) ?_; dsimp only)); refine bX (N := 1) (cs := #[.slice A0_0 l0_0.length c0_0, .int .i64 a0_1, .slice A0_2 l0_2.length c0_2]) (t := 41) ?_; intro gb598 hg w4 hbox hb; have n0_ := A_ (below_step (oB HB) hb); have n1_ := A_ (hbox); have n2_ := A_ ((by rw [hg]; exact (below_size (oB HB)) : w.heap.size ≤ gb598)); have n3_ := A_ ((by rw [hg]; exact (below_size (oB HB)) : w.heap.size ≤ gb598)); clear HB; have HB := n0_; have BK598 := n1_; have GW598 := n2_; have GE598 := n3_; clear n0_ n1_ n2_ n3_; clear hb hbox hg) | ((with_reducible refine gate_dst (N := 2) rfl ?_); (try (refine gate_guard (by rfl) ?_; dsimp only)); refine bX (N := 2) (cs := #[.slice none 0 0, .int .i64 0, .slice none 0 0]) (t := 41) ?_; intro gb599 hg w5 hbox hb; have n0_ := A_ (bb BK598 hb); have n1_ := A_ (below_step (oB HB) hb); have n2_ := A_ (hbox); have n3_ := A_ ((by rw [hg]; exact (below_size (oB HB)) : w.heap.size ≤ gb599)); have n4_ := A_ ((by rw [hg]; exact (below_size (oB HB)) : w.heap.size ≤ gb599)); have n5_ := A_ (nL BK598 hg); have n6_ := A_ (nG BK598 hg); clear BK598; clear HB; have BK598 := n0_; have HB := n1_; have BK599 := n2_; have GW599 := n3_; have GE599 := n4_; have NB598_599 := n5_; have NB599_598 := n6_; clear n0_ n1_ n2_ n3_ n4_ n5_ n6_; clear hb hbox hg; have hnb6 := NB598_599.out; have hnc6 := NB599_598.out; have hcz7_0 := cz BK598 0; have hcz7_1 := cz BK598 1; have hcz7_2 := cz BK598 2; have hfz7_0 := blk_frozen BK598.out 0; have hfz7_1 := blk_frozen BK598.out 1; have hfz7_2 := blk_frozen BK598.out 2) | ((with_reducible refine gate_callee (f := 136) rfl ?_); refine gL (some 8) Tryd.func136 #[.agg #[.slice A0_0 l0_0.length c0_0, .int .i64 a0_1, .slice A0_2 l0_2.length c0_2]] ?_; (with_reducible refine (spec_l36Copy.calls _ _ l0_0 a0_1 _ _ l0_2 t600 t603 t604 _ ?side1 ?side2 ?side3 ?side4 A2.out).mono ?_); (case side1 => exact oc_ HR0_0.out); (case side2 => exact HC0_0.out); (case side3 => exact oc_ HR0_2.out); (case side4 => exact HC0_2.out); rintro e w8 ⟨v601, v605, rfl, ho0, ho1, hb⟩; refine ⟨_, rfl, ?_⟩; have n0_ := A_ (Kd.R_lower ho0 (below_size (oB HB))); have n1_ := A_ (Kd.R_lower ho1 (below_size (oB HB))); have n2_ := A_ (bb BK598 hb); have n3_ := A_ (bb BK599 hb); have n4_ := A_ (below_step (oB HB) hb); clear BK598; clear BK599; clear HB; have HO602 := n0_; have HO606 := n1_; have BK598 := n2_; have BK599 := n3_; have HB := n4_; clear n0_ n1_ n2_ n3_ n4_; (try clear hb); (try clear hb2); (try clear hk); (try clear hi); (try clear ho0); (try clear ho1)) | ((with_reducible refine gate_dst (N := 4) rfl ?_); (try (refine gate_guard (by rfl) ?_; dsimp only)); refine bX (N := 4) (cs := #[.slice none 0 0, .int .i64 0, .slice none 0 0]) (t := 41) ?_; intro gb607 hg w9 hbox hb; have n0_ := A_ (Kd.R_below (oR HO602) hb); have n1_ := A_ (Kd.R_below (oR HO606) hb); have n2_ := A_ (bb BK598 hb); have n3_ := A_ (bb BK599 hb); have n4_ := A_ (below_step (oB HB) hb); have n5_ := A_ (hbox); have n6_ := A_ ((by rw [hg]; exact (below_size (oB HB)) : w.heap.size ≤ gb607)); have n7_ := A_ ((by rw [hg]; exact (below_size (oB HB)) : w.heap.size ≤ gb607)); have n8_ := A_ (nL BK598 hg); have n9_ := A_ (nG BK598 hg); have n10_ := A_ (nL BK599 hg); have n11_ := A_ (nG BK599 hg); clear HO602; clear HO606; clear BK598; clear BK599; clear HB; have HO602 := n0_; have HO606 := n1_; have BK598 := n2_; have BK599 := n3_; have HB := n4_; have BK607 := n5_; have GW607 := n6_; have GE607 := n7_; have NB598_607 := n8_; have NB607_598 := n9_; have NB599_607 := n10_; have NB607_599 := n11_; clear n0_ n1_ n2_ n3_ n4_ n5_ n6_ n7_ n8_ n9_ n10_ n11_; clear hb hbox hg; obtain ⟨Ao10, co10, eo10⟩ := Kd.R_slice HO602.out; subst eo10; have hnb11 := NB607_598.out; have hnc11 := NB598_607.out; have hnb12 := NB607_599.out; have hnc12 := NB599_607.out; have hcz13_0 := cz BK607 0; have hcz13_1 := cz BK607 1; have hcz13_2 := cz BK607 2; have hfz13_0 := blk_frozen BK607.out 0; have hfz13_1 := blk_frozen BK607.out 1; have hfz13_2 := blk_frozen BK607.out 2; obtain ⟨Ao14, co14, eo14⟩ := Kd.R_slice HO606.out; subst eo14))
 (try simp only [Act.put, List.setIfInBounds_toArray, List.set_cons_zero, List.set_cons_succ])
 go_cut [19] (fun v19 wc => ∃ (kq : Nat) (x19_2 : Bool), v19 = .bool x19_2 ∧ Aside0 (spec_WorkStep.j0 kq x19_2 l0_0 a0_1 l0_2 t600 t603 t604 = some (r1, r2, r3, r4)) ∧ Aside0 (kq ≤ k) ∧ Aside0 (Kd.R k145 145 wc w.heap.size (fun _ => True) (.slice Ao10 t600.length co10) t600) ∧ Aside0 (Kd.R (Kd.int .i64) 3 wc w.heap.size (fun _ => True) (.slice Ao14 t604.length co14) t604) ∧ Aside0 (wc.heap[gb598]? = some (.cells #[(.slice A0_0 l0_0.length c0_0), .int .i64 a0_1, (.slice A0_2 l0_2.length c0_2)] 41 (0, 0))) ∧ Aside0 (wc.heap[gb599]? = some (.cells #[(.slice none 0 0), .int .i64 0, (.slice none 0 0)] 41 (0, 0))) ∧ Aside0 (wc.heap[gb607]? = some (.cells #[(.slice Ao10 t600.length co10), .int .i64 t603, (.slice Ao14 t604.length co14)] 41 (0, 0))) ∧ Aside0 (Below w.heap.size w wc))
 case first =>
  have H := HC3.out
  clear HC3
  replace H := Option.bind_eq_some_iff.mp H
  obtain ⟨t608, A150, H⟩ := H
  (try dsimp only at H)
  have A15 := A_ A150
  clear A150
  by_cases c16 : t608 = true
  ·subst c16
   rw [if_pos rfl] at H
   have H' := A_ H
   clear H
   have hnb17 := NB598_599.out
   have hnc17 := NB599_598.out
   have hnb18 := NB598_607.out
   have hnc18 := NB607_598.out
   have hcz19_0 := cz BK598 0
   have hcz19_1 := cz BK598 1
   have hcz19_2 := cz BK598 2
   have hfz19_0 := blk_frozen BK598.out 0
   have hfz19_1 := blk_frozen BK598.out 1
   have hfz19_2 := blk_frozen BK598.out 2
   go_wp2_with (first | ((with_reducible refine gate_callee (f := 73) rfl ?_); refine gL (some 10) Tryd.func73 #[.agg #[.slice A0_0 l0_0.length c0_0, .int .i64 a0_1, .slice A0_2 l0_2.length c0_2]] ?_; (with_reducible refine (spec_WorkOk.calls k _ _ l0_0 a0_1 _ _ l0_2 true _ ?side1 ?side2 ?side3 ?side4 A15.out).mono ?_); (case side1 => exact Kd.C_below HR0_0.out (oB HB)); (case side2 => exact HC0_0.out); (case side3 => exact Kd.C_below HR0_2.out (oB HB)); (case side4 => exact HC0_2.out); rintro e w20 ⟨rfl, hb⟩; refine ⟨_, rfl, ?_⟩; have n0_ := A_ (Kd.R_below (by (with_reducible repeat (first | apply Kd.R_alloc | apply Kd.R_drewN | apply Kd.R_drew)); exact (Kd.R_mono (Kd.R_far (p := ⟨gb607, 2, none⟩) (Kd.R_far (p := ⟨gb607, 1, none⟩) (Kd.R_far (p := ⟨gb607, 0, none⟩) (Kd.R_types HO602.out BK607.out (by decide)) (fun _ hk => hk.2) (.slice Ao10 t600.length co10)) (fun _ hk => hk.2) (.int .i64 t603)) (fun _ hk => hk.2) (.slice Ao14 t604.length co14)) (fun _ h_ => h_.1))) hb); have n1_ := A_ (Kd.R_below (by (with_reducible repeat (first | apply Kd.R_alloc | apply Kd.R_drewN | apply Kd.R_drew)); exact (Kd.R_mono (Kd.R_far (p := ⟨gb607, 2, none⟩) (Kd.R_far (p := ⟨gb607, 1, none⟩) (Kd.R_far (p := ⟨gb607, 0, none⟩) (Kd.R_types HO606.out BK607.out (by decide)) (fun _ hk => hk.2) (.slice Ao10 t600.length co10)) (fun _ hk => hk.2) (.int .i64 t603)) (fun _ hk => hk.2) (.slice Ao14 t604.length co14)) (fun _ h_ => h_.1))) hb); have n2_ := A_ (blk_below (g := gb598) (o := .cells #[.slice A0_0 l0_0.length c0_0, .int .i64 a0_1, .slice A0_2 l0_2.length c0_2] 41 (0, 0)) (by (with_reducible repeat (first | refine blk_drewN ?_ _ | refine blk_drew ?_ | refine blk_alloc ?_ _)); refine blk_far ?_ NB598_607.out _; (with_reducible repeat (first | refine blk_drewN ?_ _ | refine blk_drew ?_ | refine blk_alloc ?_ _)); refine blk_far ?_ NB598_607.out _; (with_reducible repeat (first | refine blk_drewN ?_ _ | refine blk_drew ?_ | refine blk_alloc ?_ _)); refine blk_far ?_ NB598_607.out _; (with_reducible repeat (first | refine blk_drewN ?_ _ | refine blk_drew ?_ | refine blk_alloc ?_ _)); exact BK598.out) hb); have n3_ := A_ (blk_below (g := gb599) (o := .cells #[.slice none 0 0, .int .i64 0, .slice none 0 0] 41 (0, 0)) (by (with_reducible repeat (first | refine blk_drewN ?_ _ | refine blk_drew ?_ | refine blk_alloc ?_ _)); refine blk_far ?_ NB599_607.out _; (with_reducible repeat (first | refine blk_drewN ?_ _ | refine blk_drew ?_ | refine blk_alloc ?_ _)); refine blk_far ?_ NB599_607.out _; (with_reducible repeat (first | refine blk_drewN ?_ _ | refine blk_drew ?_ | refine blk_alloc ?_ _)); refine blk_far ?_ NB599_607.out _; (with_reducible repeat (first | refine blk_drewN ?_ _ | refine blk_drew ?_ | refine blk_alloc ?_ _)); exact BK599.out) hb); have n4_ := A_ (blk_below (g := gb607) (o := .cells #[.slice Ao10 t600.length co10, .int .i64 t603, .slice Ao14 t604.length co14] 41 (0, 0)) (by (with_reducible repeat (first | refine blk_drewN ?_ _ | refine blk_drew ?_ | refine blk_alloc ?_ _)); refine blk_put (cs := #[.slice Ao10 t600.length co10, .int .i64 t603, .slice none 0 0]) ?_ 2 _ rfl; (with_reducible repeat (first | refine blk_drewN ?_ _ | refine blk_drew ?_ | refine blk_alloc ?_ _)); refine blk_put (cs := #[.slice Ao10 t600.length co10, .int .i64 0, .slice none 0 0]) ?_ 1 _ rfl; (with_reducible repeat (first | refine blk_drewN ?_ _ | refine blk_drew ?_ | refine blk_alloc ?_ _)); refine blk_put (cs := #[.slice none 0 0, .int .i64 0, .slice none 0 0]) ?_ 0 _ rfl; (with_reducible repeat (first | refine blk_drewN ?_ _ | refine blk_drew ?_ | refine blk_alloc ?_ _)); exact BK607.out) hb); have n5_ := A_ (below_step (oB HB) hb); clear HO602; clear HO606; clear BK598; clear BK599; clear BK607; clear HB; have HO602 := n0_; have HO606 := n1_; have BK598 := n2_; have BK599 := n3_; have BK607 := n4_; have HB := n5_; clear n0_ n1_ n2_ n3_ n4_ n5_; (try clear hb); (try clear hb2); (try clear hk); (try clear hi); have hcz21_0 := cz BK598 0; have hcz21_1 := cz BK598 1; have hcz21_2 := cz BK598 2; have hfz21_0 := blk_frozen BK598.out 0; have hfz21_1 := blk_frozen BK598.out 1; have hfz21_2 := blk_frozen BK598.out 2))
   go_meet
   case rel => exact ⟨_, ((a0_1 == (l0_0.length : Int))), (by first | rfl | (simp; done) | (simp [*]; done)), H', ⟨by first | omega | exact Nat.le_refl _⟩, ⟨oR HO602⟩, ⟨oR HO606⟩, ⟨oK BK598⟩, ⟨oK BK599⟩, ⟨oK BK607⟩, ⟨oB HB⟩⟩
  ·replace c16 := Bool.eq_false_iff.mpr c16
   subst c16
   rw [if_neg (show ¬ (false = true) by decide)] at H
   have H' := A_ H
   clear H
   have hnb22 := NB598_599.out
   have hnc22 := NB599_598.out
   have hnb23 := NB598_607.out
   have hnc23 := NB607_598.out
   have hcz24_0 := cz BK598 0
   have hcz24_1 := cz BK598 1
   have hcz24_2 := cz BK598 2
   have hfz24_0 := blk_frozen BK598.out 0
   have hfz24_1 := blk_frozen BK598.out 1
   have hfz24_2 := blk_frozen BK598.out 2
   go_wp2_with (first | ((with_reducible refine gate_callee (f := 73) rfl ?_); refine gL (some 10) Tryd.func73 #[.agg #[.slice A0_0 l0_0.length c0_0, .int .i64 a0_1, .slice A0_2 l0_2.length c0_2]] ?_; (with_reducible refine (spec_WorkOk.calls k _ _ l0_0 a0_1 _ _ l0_2 false _ ?side1 ?side2 ?side3 ?side4 A15.out).mono ?_); (case side1 => exact Kd.C_below HR0_0.out (oB HB)); (case side2 => exact HC0_0.out); (case side3 => exact Kd.C_below HR0_2.out (oB HB)); (case side4 => exact HC0_2.out); rintro e w25 ⟨rfl, hb⟩; refine ⟨_, rfl, ?_⟩; have n0_ := A_ (Kd.R_below (by (with_reducible repeat (first | apply Kd.R_alloc | apply Kd.R_drewN | apply Kd.R_drew)); exact (Kd.R_mono (Kd.R_far (p := ⟨gb607, 2, none⟩) (Kd.R_far (p := ⟨gb607, 1, none⟩) (Kd.R_far (p := ⟨gb607, 0, none⟩) (Kd.R_types HO602.out BK607.out (by decide)) (fun _ hk => hk.2) (.slice Ao10 t600.length co10)) (fun _ hk => hk.2) (.int .i64 t603)) (fun _ hk => hk.2) (.slice Ao14 t604.length co14)) (fun _ h_ => h_.1))) hb); have n1_ := A_ (Kd.R_below (by (with_reducible repeat (first | apply Kd.R_alloc | apply Kd.R_drewN | apply Kd.R_drew)); exact (Kd.R_mono (Kd.R_far (p := ⟨gb607, 2, none⟩) (Kd.R_far (p := ⟨gb607, 1, none⟩) (Kd.R_far (p := ⟨gb607, 0, none⟩) (Kd.R_types HO606.out BK607.out (by decide)) (fun _ hk => hk.2) (.slice Ao10 t600.length co10)) (fun _ hk => hk.2) (.int .i64 t603)) (fun _ hk => hk.2) (.slice Ao14 t604.length co14)) (fun _ h_ => h_.1))) hb); have n2_ := A_ (blk_below (g := gb598) (o := .cells #[.slice A0_0 l0_0.length c0_0, .int .i64 a0_1, .slice A0_2 l0_2.length c0_2] 41 (0, 0)) (by (with_reducible repeat (first | refine blk_drewN ?_ _ | refine blk_drew ?_ | refine blk_alloc ?_ _)); refine blk_far ?_ NB598_607.out _; (with_reducible repeat (first | refine blk_drewN ?_ _ | refine blk_drew ?_ | refine blk_alloc ?_ _)); refine blk_far ?_ NB598_607.out _; (with_reducible repeat (first | refine blk_drewN ?_ _ | refine blk_drew ?_ | refine blk_alloc ?_ _)); refine blk_far ?_ NB598_607.out _; (with_reducible repeat (first | refine blk_drewN ?_ _ | refine blk_drew ?_ | refine blk_alloc ?_ _)); exact BK598.out) hb); have n3_ := A_ (blk_below (g := gb599) (o := .cells #[.slice none 0 0, .int .i64 0, .slice none 0 0] 41 (0, 0)) (by (with_reducible repeat (first | refine blk_drewN ?_ _ | refine blk_drew ?_ | refine blk_alloc ?_ _)); refine blk_far ?_ NB599_607.out _; (with_reducible repeat (first | refine blk_drewN ?_ _ | refine blk_drew ?_ | refine blk_alloc ?_ _)); refine blk_far ?_ NB599_607.out _; (with_reducible repeat (first | refine blk_drewN ?_ _ | refine blk_drew ?_ | refine blk_alloc ?_ _)); refine blk_far ?_ NB599_607.out _; (with_reducible repeat (first | refine blk_drewN ?_ _ | refine blk_drew ?_ | refine blk_alloc ?_ _)); exact BK599.out) hb); have n4_ := A_ (blk_below (g := gb607) (o := .cells #[.slice Ao10 t600.length co10, .int .i64 t603, .slice Ao14 t604.length co14] 41 (0, 0)) (by (with_reducible repeat (first | refine blk_drewN ?_ _ | refine blk_drew ?_ | refine blk_alloc ?_ _)); refine blk_put (cs := #[.slice Ao10 t600.length co10, .int .i64 t603, .slice none 0 0]) ?_ 2 _ rfl; (with_reducible repeat (first | refine blk_drewN ?_ _ | refine blk_drew ?_ | refine blk_alloc ?_ _)); refine blk_put (cs := #[.slice Ao10 t600.length co10, .int .i64 0, .slice none 0 0]) ?_ 1 _ rfl; (with_reducible repeat (first | refine blk_drewN ?_ _ | refine blk_drew ?_ | refine blk_alloc ?_ _)); refine blk_put (cs := #[.slice none 0 0, .int .i64 0, .slice none 0 0]) ?_ 0 _ rfl; (with_reducible repeat (first | refine blk_drewN ?_ _ | refine blk_drew ?_ | refine blk_alloc ?_ _)); exact BK607.out) hb); have n5_ := A_ (below_step (oB HB) hb); clear HO602; clear HO606; clear BK598; clear BK599; clear BK607; clear HB; have HO602 := n0_; have HO606 := n1_; have BK598 := n2_; have BK599 := n3_; have BK607 := n4_; have HB := n5_; clear n0_ n1_ n2_ n3_ n4_ n5_; (try clear hb); (try clear hb2); (try clear hk); (try clear hi)))
   go_meet
   case rel => exact ⟨_, (true), (by first | rfl | (simp; done) | (simp [*]; done)), H', ⟨by first | omega | exact Nat.le_refl _⟩, ⟨oR HO602⟩, ⟨oR HO606⟩, ⟨oK BK598⟩, ⟨oK BK599⟩, ⟨oK BK607⟩, ⟨oB HB⟩⟩
 case rest =>
  clear HC3
  try clear c1
  try clear c2
  try clear p2
  try clear c6
  try clear c7
  try clear c11
  try clear c12
  try clear c13
  try clear c16
  try clear c17
  try clear c18
  try clear c22
  try clear c23
  try clear hcz13_0
  try clear hcz13_1
  try clear hcz13_2
  try clear hcz19_0
  try clear hcz19_1
  try clear hcz19_2
  try clear hcz21_0
  try clear hcz21_1
  try clear hcz21_2
  try clear hcz24_0
  try clear hcz24_1
  try clear hcz24_2
  try clear hcz7_0
  try clear hcz7_1
  try clear hcz7_2
  try clear hfz13_0
  try clear hfz13_1
  try clear hfz13_2
  try clear hfz19_0
  try clear hfz19_1
  try clear hfz19_2
  try clear hfz21_0
  try clear hfz21_1
  try clear hfz21_2
  try clear hfz24_0
  try clear hfz24_1
  try clear hfz24_2
  try clear hfz7_0
  try clear hfz7_1
  try clear hfz7_2
  obtain ⟨kq, x19_2, rfl, HA, HJ2, HO_608000, HO_608002, BK598, BK599, BK607, HB⟩ := hcut
  cases kq with
  | zero => exact absurd HA.out (by simp [spec_WorkStep.j0])
  | succ kj2 =>
   have H := HA.out
   clear HA
   simp only [spec_WorkStep.j0] at H
   by_cases c26 : x19_2 = true
   ·subst c26
    rw [if_pos rfl] at H
    simp only [Option.some.injEq, Prod.mk.injEq] at H
    obtain ⟨rfl, rfl, rfl, rfl⟩ := H
    have hnb27 := NB607_598.out
    have hnc27 := NB598_607.out
    have hnb28 := NB607_599.out
    have hnc28 := NB599_607.out
    have hcz29_0 := cz BK607 0
    have hcz29_1 := cz BK607 1
    have hcz29_2 := cz BK607 2
    have hfz29_0 := blk_frozen BK607.out 0
    have hfz29_1 := blk_frozen BK607.out 1
    have hfz29_2 := blk_frozen BK607.out 2
    have hnb30 := NB599_598.out
    have hnc30 := NB598_599.out
    have hcz31_0 := cz BK599 0
    have hcz31_1 := cz BK599 1
    have hcz31_2 := cz BK599 2
    have hfz31_0 := blk_frozen BK599.out 0
    have hfz31_1 := blk_frozen BK599.out 1
    have hfz31_2 := blk_frozen BK599.out 2
    go_wp2
    refine bodyPost_ret (results_ct rfl _ _ gb599 41 #[.slice Ao10 t600.length co10, .int .i64 t603, .slice Ao14 t604.length co14] (0, 0) _ rfl (by (with_reducible repeat (first | refine blk_drewN ?_ _ | refine blk_drew ?_ | refine blk_alloc ?_ _)); refine blk_put (cs := #[.slice Ao10 t600.length co10, .int .i64 t603, .slice none 0 0]) ?_ 2 _ rfl; (with_reducible repeat (first | refine blk_drewN ?_ _ | refine blk_drew ?_ | refine blk_alloc ?_ _)); refine blk_put (cs := #[.slice Ao10 t600.length co10, .int .i64 0, .slice none 0 0]) ?_ 1 _ rfl; (with_reducible repeat (first | refine blk_drewN ?_ _ | refine blk_drew ?_ | refine blk_alloc ?_ _)); refine blk_put (cs := #[.slice none 0 0, .int .i64 0, .slice none 0 0]) ?_ 0 _ rfl; (with_reducible repeat (first | refine blk_drewN ?_ _ | refine blk_drew ?_ | refine blk_alloc ?_ _)); exact BK599.out) Tryd.underlying41 rfl (by kernel_rfl)) rfl ?_
    exact ⟨_, _, eR, by (with_reducible repeat (first | apply Kd.R_alloc | apply Kd.R_drewN | apply Kd.R_drew)); exact Kd.R_mono (Kd.R_far (p := ⟨gb599, 2, none⟩) (Kd.R_far (p := ⟨gb599, 1, none⟩) (Kd.R_far (p := ⟨gb599, 0, none⟩) (Kd.R_types HO_608000.out BK599.out (by decide)) (fun _ hk => hk.2) (.slice Ao10 t600.length co10)) (fun _ hk => hk.2) (.int .i64 t603)) (fun _ hk => hk.2) (.slice Ao14 t604.length co14)) (fun _ hk => trivial), by (with_reducible repeat (first | apply Kd.R_alloc | apply Kd.R_drewN | apply Kd.R_drew)); exact Kd.R_mono (Kd.R_far (p := ⟨gb599, 2, none⟩) (Kd.R_far (p := ⟨gb599, 1, none⟩) (Kd.R_far (p := ⟨gb599, 0, none⟩) (Kd.R_types HO_608002.out BK599.out (by decide)) (fun _ hk => hk.2) (.slice Ao10 t600.length co10)) (fun _ hk => hk.2) (.int .i64 t603)) (fun _ hk => hk.2) (.slice Ao14 t604.length co14)) (fun _ hk => trivial), oB HB⟩
   ·replace c26 := Bool.eq_false_iff.mpr c26
    subst c26
    rw [if_neg (show ¬ (false = true) by decide)] at H
    by_cases c32 : 0 ≤ a0_1
    ·rw [if_pos c32] at H
     have c32b0 : decide (0 ≤ a0_1) = true := decide_eq_true c32
     clear c32
     by_cases c33 : a0_1 < (l0_0.length : Int)
     ·rw [if_pos c33] at H
      have c33b0 : decide (a0_1 < (l0_0.length : Int)) = true := decide_eq_true c33
      clear c33
      by_cases c34 : 0 ≤ ((rd_T145 l0_0 a0_1).f0)
      ·rw [if_pos c34] at H
       have c34b0 : decide (0 ≤ ((rd_T145 l0_0 a0_1).f0)) = true := decide_eq_true c34
       clear c34
       by_cases c35 : ((rd_T145 l0_0 a0_1).f0) < (l0_2.length : Int)
       ·rw [if_pos c35] at H
        have c35b0 : decide (((rd_T145 l0_0 a0_1).f0) < (l0_2.length : Int)) = true := decide_eq_true c35
        clear c35
        replace H := Option.bind_eq_some_iff.mp H
        obtain ⟨t612, A360, H⟩ := H
        (try dsimp only at H)
        have A36 := A_ A360
        clear A360
        by_cases c37 : t612 = 0
        ·rw [if_pos c37] at H
         have c37b0 : (t612 == 0) = true := beq_iff_eq.mpr c37
         have c37b1 : (t612 != 0) = false := bne_eq_false_iff_eq.mpr c37
         clear c37
         simp only [Option.some.injEq, Prod.mk.injEq] at H
         obtain ⟨rfl, rfl, rfl, rfl⟩ := H
         have hnb38 := NB598_599.out
         have hnc38 := NB599_598.out
         have hnb39 := NB598_607.out
         have hnc39 := NB607_598.out
         have hcz40_0 := cz BK598 0
         have hcz40_1 := cz BK598 1
         have hcz40_2 := cz BK598 2
         have hfz40_0 := blk_frozen BK598.out 0
         have hfz40_1 := blk_frozen BK598.out 1
         have hfz40_2 := blk_frozen BK598.out 2
         have p609 : 0 ≤ (a0_1 : Int) := of_decide_eq_true (by first | (with_reducible assumption) | assumption)
         have q609 : a0_1 < (l0_0.length : Int) := of_decide_eq_true (by first | (with_reducible assumption) | assumption)
         obtain ⟨ad609, e609, hx609_0, hx609_1, hx609_2, hx609_3⟩ := at_T145 HR0_0.out a0_1 p609 q609
         cases e609
         replace hx609_0 := (HB.out.cell (World.block_lt_of_cell? w _ hx609_0)).trans hx609_0
         replace hx609_1 := (HB.out.cell (World.block_lt_of_cell? w _ hx609_1)).trans hx609_1
         replace hx609_2 := (HB.out.cell (World.block_lt_of_cell? w _ hx609_2)).trans hx609_2
         replace hx609_3 := (HB.out.cell (World.block_lt_of_cell? w _ hx609_3)).trans hx609_3
         replace p609 := eq_true p609
         replace q609 := eq_true q609
         try go_wp2_with (first | ((with_reducible refine gate_dst (N := 5) rfl ?_); (try (refine gate_guard (by rfl) ?_; dsimp only)); refine bX (N := 5) (cs := #[.int .i64 0, .int .i64 0, .int .i64 0, .int .i64 0]) (t := 145) ?_; intro gb610 hg w41 hbox hb; have n0_ := A_ (Kd.R_below (Kd.R_elderB (oR HO_608000) gb610 (Nat.le_of_eq hg.symm)) hb); have n1_ := A_ (Kd.R_below (oR HO_608002) hb); have n2_ := A_ (bb BK598 hb); have n3_ := A_ (bb BK599 hb); have n4_ := A_ (bb BK607 hb); have n5_ := A_ (below_step (oB HB) hb); have n6_ := A_ (hbox); have n7_ := A_ ((by rw [hg]; exact (below_size (oB HB)) : w.heap.size ≤ gb610)); have n8_ := A_ ((by rw [hg]; exact (below_size (oB HB)) : w.heap.size ≤ gb610)); have n9_ := A_ (nL BK598 hg); have n10_ := A_ (nG BK598 hg); have n11_ := A_ (nL BK599 hg); have n12_ := A_ (nG BK599 hg); have n13_ := A_ (nL BK607 hg); have n14_ := A_ (nG BK607 hg); clear HO_608000; clear HO_608002; clear BK598; clear BK599; clear BK607; clear HB; have HO_608000 := n0_; have HO_608002 := n1_; have BK598 := n2_; have BK599 := n3_; have BK607 := n4_; have HB := n5_; have BK610 := n6_; have GW610 := n7_; have GE610 := n8_; have NB598_610 := n9_; have NB610_598 := n10_; have NB599_610 := n11_; have NB610_599 := n12_; have NB607_610 := n13_; have NB610_607 := n14_; clear n0_ n1_ n2_ n3_ n4_ n5_ n6_ n7_ n8_ n9_ n10_ n11_ n12_ n13_ n14_; clear hb hbox hg; have hnb42 := NB610_598.out; have hnc42 := NB598_610.out; have hnb43 := NB610_599.out; have hnc43 := NB599_610.out; have hnb44 := NB610_607.out; have hnc44 := NB607_610.out; have hcz45_0 := cz BK610 0; have hcz45_1 := cz BK610 1; have hcz45_2 := cz BK610 2; have hcz45_3 := cz BK610 3; have hfz45_0 := blk_frozen BK610.out 0; have hfz45_1 := blk_frozen BK610.out 1; have hfz45_2 := blk_frozen BK610.out 2; have hfz45_3 := blk_frozen BK610.out 3))
         have n0_ : Aside0 (Kd.R k145 145 ((((w41.setCell ⟨gb610, 0, none⟩ (.int .i64 ((rd_T145 l0_0 a0_1).f0))).setCell ⟨gb610, 1, none⟩ (.int .i64 ((rd_T145 l0_0 a0_1).f1))).setCell ⟨gb610, 2, none⟩ (.int .i64 ((rd_T145 l0_0 a0_1).f2))).setCell ⟨gb610, 3, none⟩ (.int .i64 ((rd_T145 l0_0 a0_1).f3))) w.heap.size (fun k_ => k_ ≠ gb610) (.slice Ao10 t600.length co10) t600) := ⟨by (with_reducible repeat (first | apply Kd.R_alloc | apply Kd.R_drewN | apply Kd.R_drew)); exact Kd.R_mono (Kd.R_far (p := ⟨gb610, 3, none⟩) (Kd.R_far (p := ⟨gb610, 2, none⟩) (Kd.R_far (p := ⟨gb610, 1, none⟩) (Kd.R_far (p := ⟨gb610, 0, none⟩) (Kd.R_mono HO_608000.out (fun k_ hk => (⟨hk, hk.2⟩ : _ ∧ k_ ≠ gb610))) (fun _ hk => hk.2) (.int .i64 ((rd_T145 l0_0 a0_1).f0))) (fun _ hk => hk.2) (.int .i64 ((rd_T145 l0_0 a0_1).f1))) (fun _ hk => hk.2) (.int .i64 ((rd_T145 l0_0 a0_1).f2))) (fun _ hk => hk.2) (.int .i64 ((rd_T145 l0_0 a0_1).f3))) (fun _ hk => hk.1.2)⟩
         have n1_ : Aside0 (Kd.R (Kd.int .i64) 3 ((((w41.setCell ⟨gb610, 0, none⟩ (.int .i64 ((rd_T145 l0_0 a0_1).f0))).setCell ⟨gb610, 1, none⟩ (.int .i64 ((rd_T145 l0_0 a0_1).f1))).setCell ⟨gb610, 2, none⟩ (.int .i64 ((rd_T145 l0_0 a0_1).f2))).setCell ⟨gb610, 3, none⟩ (.int .i64 ((rd_T145 l0_0 a0_1).f3))) w.heap.size (fun _ => True) (.slice Ao14 t604.length co14) t604) := ⟨by (with_reducible repeat (first | apply Kd.R_alloc | apply Kd.R_drewN | apply Kd.R_drew)); exact Kd.R_mono (Kd.R_far (p := ⟨gb610, 3, none⟩) (Kd.R_far (p := ⟨gb610, 2, none⟩) (Kd.R_far (p := ⟨gb610, 1, none⟩) (Kd.R_far (p := ⟨gb610, 0, none⟩) (Kd.R_types HO_608002.out BK610.out (by decide)) (fun _ hk => hk.2) (.int .i64 ((rd_T145 l0_0 a0_1).f0))) (fun _ hk => hk.2) (.int .i64 ((rd_T145 l0_0 a0_1).f1))) (fun _ hk => hk.2) (.int .i64 ((rd_T145 l0_0 a0_1).f2))) (fun _ hk => hk.2) (.int .i64 ((rd_T145 l0_0 a0_1).f3))) (fun _ hk => trivial)⟩
         have n2_ : Aside0 (((((w41.setCell ⟨gb610, 0, none⟩ (.int .i64 ((rd_T145 l0_0 a0_1).f0))).setCell ⟨gb610, 1, none⟩ (.int .i64 ((rd_T145 l0_0 a0_1).f1))).setCell ⟨gb610, 2, none⟩ (.int .i64 ((rd_T145 l0_0 a0_1).f2))).setCell ⟨gb610, 3, none⟩ (.int .i64 ((rd_T145 l0_0 a0_1).f3))).heap[gb598]? = some (.cells #[.slice (some ad609) l0_0.length c0_0, .int .i64 a0_1, .slice A0_2 l0_2.length c0_2] 41 (0, 0))) := ⟨by (with_reducible repeat (first | refine blk_drewN ?_ _ | refine blk_drew ?_ | refine blk_alloc ?_ _)); refine blk_far ?_ NB598_610.out _; (with_reducible repeat (first | refine blk_drewN ?_ _ | refine blk_drew ?_ | refine blk_alloc ?_ _)); refine blk_far ?_ NB598_610.out _; (with_reducible repeat (first | refine blk_drewN ?_ _ | refine blk_drew ?_ | refine blk_alloc ?_ _)); refine blk_far ?_ NB598_610.out _; (with_reducible repeat (first | refine blk_drewN ?_ _ | refine blk_drew ?_ | refine blk_alloc ?_ _)); refine blk_far ?_ NB598_610.out _; (with_reducible repeat (first | refine blk_drewN ?_ _ | refine blk_drew ?_ | refine blk_alloc ?_ _)); exact BK598.out⟩
         have n3_ : Aside0 (((((w41.setCell ⟨gb610, 0, none⟩ (.int .i64 ((rd_T145 l0_0 a0_1).f0))).setCell ⟨gb610, 1, none⟩ (.int .i64 ((rd_T145 l0_0 a0_1).f1))).setCell ⟨gb610, 2, none⟩ (.int .i64 ((rd_T145 l0_0 a0_1).f2))).setCell ⟨gb610, 3, none⟩ (.int .i64 ((rd_T145 l0_0 a0_1).f3))).heap[gb599]? = some (.cells #[.slice none 0 0, .int .i64 0, .slice none 0 0] 41 (0, 0))) := ⟨by (with_reducible repeat (first | refine blk_drewN ?_ _ | refine blk_drew ?_ | refine blk_alloc ?_ _)); refine blk_far ?_ NB599_610.out _; (with_reducible repeat (first | refine blk_drewN ?_ _ | refine blk_drew ?_ | refine blk_alloc ?_ _)); refine blk_far ?_ NB599_610.out _; (with_reducible repeat (first | refine blk_drewN ?_ _ | refine blk_drew ?_ | refine blk_alloc ?_ _)); refine blk_far ?_ NB599_610.out _; (with_reducible repeat (first | refine blk_drewN ?_ _ | refine blk_drew ?_ | refine blk_alloc ?_ _)); refine blk_far ?_ NB599_610.out _; (with_reducible repeat (first | refine blk_drewN ?_ _ | refine blk_drew ?_ | refine blk_alloc ?_ _)); exact BK599.out⟩
         have n4_ : Aside0 (((((w41.setCell ⟨gb610, 0, none⟩ (.int .i64 ((rd_T145 l0_0 a0_1).f0))).setCell ⟨gb610, 1, none⟩ (.int .i64 ((rd_T145 l0_0 a0_1).f1))).setCell ⟨gb610, 2, none⟩ (.int .i64 ((rd_T145 l0_0 a0_1).f2))).setCell ⟨gb610, 3, none⟩ (.int .i64 ((rd_T145 l0_0 a0_1).f3))).heap[gb607]? = some (.cells #[.slice Ao10 t600.length co10, .int .i64 t603, .slice Ao14 t604.length co14] 41 (0, 0))) := ⟨by (with_reducible repeat (first | refine blk_drewN ?_ _ | refine blk_drew ?_ | refine blk_alloc ?_ _)); refine blk_far ?_ NB607_610.out _; (with_reducible repeat (first | refine blk_drewN ?_ _ | refine blk_drew ?_ | refine blk_alloc ?_ _)); refine blk_far ?_ NB607_610.out _; (with_reducible repeat (first | refine blk_drewN ?_ _ | refine blk_drew ?_ | refine blk_alloc ?_ _)); refine blk_far ?_ NB607_610.out _; (with_reducible repeat (first | refine blk_drewN ?_ _ | refine blk_drew ?_ | refine blk_alloc ?_ _)); refine blk_far ?_ NB607_610.out _; (with_reducible repeat (first | refine blk_drewN ?_ _ | refine blk_drew ?_ | refine blk_alloc ?_ _)); exact BK607.out⟩
         have n5_ : Aside0 (((((w41.setCell ⟨gb610, 0, none⟩ (.int .i64 ((rd_T145 l0_0 a0_1).f0))).setCell ⟨gb610, 1, none⟩ (.int .i64 ((rd_T145 l0_0 a0_1).f1))).setCell ⟨gb610, 2, none⟩ (.int .i64 ((rd_T145 l0_0 a0_1).f2))).setCell ⟨gb610, 3, none⟩ (.int .i64 ((rd_T145 l0_0 a0_1).f3))).heap[gb610]? = some (.cells #[.int .i64 ((rd_T145 l0_0 a0_1).f0), .int .i64 ((rd_T145 l0_0 a0_1).f1), .int .i64 ((rd_T145 l0_0 a0_1).f2), .int .i64 ((rd_T145 l0_0 a0_1).f3)] 145 (0, 0))) := ⟨by (with_reducible repeat (first | refine blk_drewN ?_ _ | refine blk_drew ?_ | refine blk_alloc ?_ _)); refine blk_put (cs := #[.int .i64 ((rd_T145 l0_0 a0_1).f0), .int .i64 ((rd_T145 l0_0 a0_1).f1), .int .i64 ((rd_T145 l0_0 a0_1).f2), .int .i64 0]) ?_ 3 _ rfl; (with_reducible repeat (first | refine blk_drewN ?_ _ | refine blk_drew ?_ | refine blk_alloc ?_ _)); refine blk_put (cs := #[.int .i64 ((rd_T145 l0_0 a0_1).f0), .int .i64 ((rd_T145 l0_0 a0_1).f1), .int .i64 0, .int .i64 0]) ?_ 2 _ rfl; (with_reducible repeat (first | refine blk_drewN ?_ _ | refine blk_drew ?_ | refine blk_alloc ?_ _)); refine blk_put (cs := #[.int .i64 ((rd_T145 l0_0 a0_1).f0), .int .i64 0, .int .i64 0, .int .i64 0]) ?_ 1 _ rfl; (with_reducible repeat (first | refine blk_drewN ?_ _ | refine blk_drew ?_ | refine blk_alloc ?_ _)); refine blk_put (cs := #[.int .i64 0, .int .i64 0, .int .i64 0, .int .i64 0]) ?_ 0 _ rfl; (with_reducible repeat (first | refine blk_drewN ?_ _ | refine blk_drew ?_ | refine blk_alloc ?_ _)); exact BK610.out⟩
         have n6_ : Aside0 (Below w.heap.size w ((((w41.setCell ⟨gb610, 0, none⟩ (.int .i64 ((rd_T145 l0_0 a0_1).f0))).setCell ⟨gb610, 1, none⟩ (.int .i64 ((rd_T145 l0_0 a0_1).f1))).setCell ⟨gb610, 2, none⟩ (.int .i64 ((rd_T145 l0_0 a0_1).f2))).setCell ⟨gb610, 3, none⟩ (.int .i64 ((rd_T145 l0_0 a0_1).f3)))) := ⟨oB HB⟩
         (try clear HO_608000)
         (try clear HO_608002)
         (try clear BK598)
         (try clear BK599)
         (try clear BK607)
         (try clear BK610)
         (try clear HB)
         generalize ((((w41.setCell ⟨gb610, 0, none⟩ (.int .i64 ((rd_T145 l0_0 a0_1).f0))).setCell ⟨gb610, 1, none⟩ (.int .i64 ((rd_T145 l0_0 a0_1).f1))).setCell ⟨gb610, 2, none⟩ (.int .i64 ((rd_T145 l0_0 a0_1).f2))).setCell ⟨gb610, 3, none⟩ (.int .i64 ((rd_T145 l0_0 a0_1).f3))) = w46 at n0_ n1_ n2_ n3_ n4_ n5_ n6_ ⊢
         have HO_608000 := n0_
         have HO_608002 := n1_
         have BK598 := n2_
         have BK599 := n3_
         have BK607 := n4_
         have BK610 := n5_
         have HB := n6_
         clear n0_ n1_ n2_ n3_ n4_ n5_ n6_
         have n0_ := A_ (Kd.R_drew HO_608000.out)
         have n1_ := A_ (Kd.R_drew HO_608002.out)
         have n2_ := A_ (blk_drew BK598.out)
         have n3_ := A_ (blk_drew BK599.out)
         have n4_ := A_ (blk_drew BK607.out)
         have n5_ := A_ (blk_drew BK610.out)
         have n6_ := A_ (below_drew1 HB.out)
         clear HO_608000
         clear HO_608002
         clear BK598
         clear BK599
         clear BK607
         clear BK610
         clear HB
         have HO_608000 := n0_
         have HO_608002 := n1_
         have BK598 := n2_
         have BK599 := n3_
         have BK607 := n4_
         have BK610 := n5_
         have HB := n6_
         clear n0_ n1_ n2_ n3_ n4_ n5_ n6_
         have p611 : 0 ≤ (((rd_T145 l0_0 a0_1).f0) : Int) := of_decide_eq_true (by first | (with_reducible assumption) | assumption)
         have q611 : ((rd_T145 l0_0 a0_1).f0) < (l0_2.length : Int) := of_decide_eq_true (by first | (with_reducible assumption) | assumption)
         obtain ⟨ad611, e611, hx611_0⟩ := Kd.at_int HR0_2.out ((rd_T145 l0_0 a0_1).f0) p611 q611
         have hw611_0 := hx611_0
         cases e611
         replace hx611_0 := (HB.out.cell (World.block_lt_of_cell? w _ hx611_0)).trans hx611_0
         replace p611 := eq_true p611
         replace q611 := eq_true q611
         refine start_ (n := 12) (S := fun w' => w'.cell? ⟨gb598, 0, none⟩ = some (.slice (some ad609) l0_0.length c0_0) ∧ w'.cell? ⟨gb598, 1, none⟩ = some (.int .i64 a0_1) ∧ w'.cell? ⟨gb598, 2, none⟩ = some (.slice (some ad611) l0_2.length c0_2) ∧ w'.cell? ⟨gb610, 0, none⟩ = some (.int .i64 ((rd_T145 l0_0 a0_1).f0)) ∧ w'.cell? ⟨gb610, 1, none⟩ = some (.int .i64 ((rd_T145 l0_0 a0_1).f1)) ∧ w'.cell? ⟨gb610, 2, none⟩ = some (.int .i64 ((rd_T145 l0_0 a0_1).f2)) ∧ w'.cell? ⟨gb610, 3, none⟩ = some (.int .i64 ((rd_T145 l0_0 a0_1).f3)) ∧ w'.cell? (ad611.add (((rd_T145 l0_0 a0_1).f0)).toNat) = some (.int .i64 (rd l0_2 ((rd_T145 l0_0 a0_1).f0)))) (ds := []) #[false, false, false, false, false, false, false, false, false, false, false, false] (by kernel_rfl) rfl rfl ⟨cz BK598 0, cz BK598 1, cz BK598 2, cz BK610 0, cz BK610 1, cz BK610 2, cz BK610 3, ((HB.out.cell (World.block_lt_of_cell? w _ hw611_0)).trans hw611_0)⟩ (fun hHeld => ?_); refine with_tabW spec_WorkStep.tab5 spec_WorkStep.bits5 (fun HT_ HW_ => ?_)
         generalize w46.drew = w47 at HO_608000 HO_608002 BK598 BK599 BK607 BK610 HB hx611_0 hHeld ⊢
         refine pA 0 (some 27) HT_.out ?_
         refine pA 2 (some 29) HT_.out ?_
         refine pA 6 (some 33) HT_.out ?_
         refine pA 8 (some 35) HT_.out ?_
         refine pT 1 (some 28) HT_.out HW_.out hHeld ?_
         refine pT 3 (some 30) HT_.out HW_.out hHeld ?_
         refine pA 4 (some 31) HT_.out ?_
         refine pT 5 (some 32) HT_.out HW_.out hHeld ?_
         refine pT 7 (some 34) HT_.out HW_.out hHeld ?_
         refine pT 9 (some 36) HT_.out HW_.out hHeld ?_
         refine one_ (i := 10) (N := some 37) #[true, true, true, true, true, true, true, true, true, true, true, false] rfl rfl (one_of HT_.out (by kernel_rfl)) (by decide) (fun K hK => ?_)
         refine goes_ Tryd.func138 (by kernel_rfl) rfl #[.int .i64 (rd l0_2 ((rd_T145 l0_0 a0_1).f0)), .int .i64 ((rd_T145 l0_0 a0_1).f2), .int .i64 ((rd_T145 l0_0 a0_1).f3)] (by rfl) rfl rfl (by (try simp only [List.map_toArray, List.map_cons, List.map_nil]); first | done | rfl | (simp only [List.length_drop, List.length_take]; rfl)) ?_
         with_reducible refine (spec_TunedPitch.calls kj2 (rd l0_2 ((rd_T145 l0_0 a0_1).f0)) ((rd_T145 l0_0 a0_1).f2) ((rd_T145 l0_0 a0_1).f3) t612 _ A36.out).mono ?_
         rintro e w48 ⟨rfl, hb⟩
         refine ⟨_, rfl, ?_⟩
         have n0_ := A_ (Kd.R_below (oR HO_608000) hb)
         have n1_ := A_ (Kd.R_below (oR HO_608002) hb)
         have n2_ := A_ (bb BK598 hb)
         have n3_ := A_ (bb BK599 hb)
         have n4_ := A_ (bb BK607 hb)
         have n5_ := A_ (bb BK610 hb)
         have n6_ := A_ (below_step (oB HB) hb)
         clear HO_608000
         clear HO_608002
         clear BK598
         clear BK599
         clear BK607
         clear BK610
         clear HB
         have HO_608000 := n0_
         have HO_608002 := n1_
         have BK598 := n2_
         have BK599 := n3_
         have BK607 := n4_
         have BK610 := n5_
         have HB := n6_
         clear n0_ n1_ n2_ n3_ n4_ n5_ n6_
         (try clear hb)
         (try clear hb2)
         (try clear hk)
         (try clear hi)
         refine hK.out _ _ ⟨cz BK598 0, cz BK598 1, cz BK598 2, cz BK610 0, cz BK610 1, cz BK610 2, cz BK610 3, ((HB.out.cell (World.block_lt_of_cell? w _ hw611_0)).trans hw611_0)⟩ (fun hHeld => ?_)
         clear hK K
         refine norm_ (a' := ?_) ?_ ?_
         rotate_left
         ·show Act.put _ (some 37) _ = _
          simp only [Act.put, List.setIfInBounds_toArray, List.set_cons_zero, List.set_cons_succ, i64_w, i32_w]
          rfl
         refine pA 11 (some 6) HT_.out ?_
         refine done_ (done_of HT_.out (by kernel_rfl)) ?_
         have hnb49 := NB607_599.out
         have hnc49 := NB599_607.out
         have hcz50_0 := cz BK607 0
         have hcz50_1 := cz BK607 1
         have hcz50_2 := cz BK607 2
         have hfz50_0 := blk_frozen BK607.out 0
         have hfz50_1 := blk_frozen BK607.out 1
         have hfz50_2 := blk_frozen BK607.out 2
         have hcz51_0 := cz BK599 0
         have hcz51_1 := cz BK599 1
         have hcz51_2 := cz BK599 2
         have hfz51_0 := blk_frozen BK599.out 0
         have hfz51_1 := blk_frozen BK599.out 1
         have hfz51_2 := blk_frozen BK599.out 2
         try go_wp2
         refine bodyPost_ret (results_ct rfl _ _ gb599 41 #[.slice Ao10 t600.length co10, .int .i64 t603, .slice Ao14 t604.length co14] (0, 0) _ rfl (by (with_reducible repeat (first | refine blk_drewN ?_ _ | refine blk_drew ?_ | refine blk_alloc ?_ _)); refine blk_put (cs := #[.slice Ao10 t600.length co10, .int .i64 t603, .slice none 0 0]) ?_ 2 _ rfl; (with_reducible repeat (first | refine blk_drewN ?_ _ | refine blk_drew ?_ | refine blk_alloc ?_ _)); refine blk_put (cs := #[.slice Ao10 t600.length co10, .int .i64 0, .slice none 0 0]) ?_ 1 _ rfl; (with_reducible repeat (first | refine blk_drewN ?_ _ | refine blk_drew ?_ | refine blk_alloc ?_ _)); refine blk_put (cs := #[.slice none 0 0, .int .i64 0, .slice none 0 0]) ?_ 0 _ rfl; (with_reducible repeat (first | refine blk_drewN ?_ _ | refine blk_drew ?_ | refine blk_alloc ?_ _)); exact BK599.out) Tryd.underlying41 rfl (by kernel_rfl)) rfl ?_
         exact ⟨_, _, eR, by (with_reducible repeat (first | apply Kd.R_alloc | apply Kd.R_drewN | apply Kd.R_drew)); exact Kd.R_mono (Kd.R_far (p := ⟨gb599, 2, none⟩) (Kd.R_far (p := ⟨gb599, 1, none⟩) (Kd.R_far (p := ⟨gb599, 0, none⟩) (Kd.R_types HO_608000.out BK599.out (by decide)) (fun _ hk => hk.2) (.slice Ao10 t600.length co10)) (fun _ hk => hk.2) (.int .i64 t603)) (fun _ hk => hk.2) (.slice Ao14 t604.length co14)) (fun _ hk => trivial), by (with_reducible repeat (first | apply Kd.R_alloc | apply Kd.R_drewN | apply Kd.R_drew)); exact Kd.R_mono (Kd.R_far (p := ⟨gb599, 2, none⟩) (Kd.R_far (p := ⟨gb599, 1, none⟩) (Kd.R_far (p := ⟨gb599, 0, none⟩) (Kd.R_types HO_608002.out BK599.out (by decide)) (fun _ hk => hk.2) (.slice Ao10 t600.length co10)) (fun _ hk => hk.2) (.int .i64 t603)) (fun _ hk => hk.2) (.slice Ao14 t604.length co14)) (fun _ hk => trivial), oB HB⟩
        ·rw [if_neg c37] at H
         have c37b0 : (t612 == 0) = false := beq_eq_false_iff_ne.mpr c37
         have c37b1 : (t612 != 0) = true := bne_iff_ne.mpr c37
         by_cases c52 : 0 ≤ ((rd_T145 l0_0 a0_1).f1)
         ·rw [if_pos c52] at H
          have c52b0 : decide (0 ≤ ((rd_T145 l0_0 a0_1).f1)) = true := decide_eq_true c52
          clear c52
          by_cases c53 : ((rd_T145 l0_0 a0_1).f1) < (t604.length : Int)
          ·rw [if_pos c53] at H
           have c53b0 : decide (((rd_T145 l0_0 a0_1).f1) < (t604.length : Int)) = true := decide_eq_true c53
           clear c53
           obtain ⟨y613, hy613⟩ : ∃ y_ : List Int, y_ = (t604.set (((rd_T145 l0_0 a0_1).f1) : Int).toNat t612) := ⟨_, rfl⟩
           replace H : (some (t600, wrap64 (a0_1 + 1), y613, true)) = some (r1, r2, r3, r4) := by first | (rw [hy613]; with_reducible exact H) | (have H2_ := (Option.bind_some _ _).symm.trans H; rw [hy613]; with_reducible exact H2_) | (have H2_ := (Option.bind_some _ _).symm.trans H; with_reducible exact H2_) | with_reducible exact H | (rw [hy613]; exact H) | exact H
           have Ny613 := A_ hy613
           clear hy613
           simp only [Option.some.injEq, Prod.mk.injEq] at H
           obtain ⟨rfl, rfl, rfl, rfl⟩ := H
           have hnb55 := NB598_599.out
           have hnc55 := NB599_598.out
           have hnb56 := NB598_607.out
           have hnc56 := NB607_598.out
           have hcz57_0 := cz BK598 0
           have hcz57_1 := cz BK598 1
           have hcz57_2 := cz BK598 2
           have hfz57_0 := blk_frozen BK598.out 0
           have hfz57_1 := blk_frozen BK598.out 1
           have hfz57_2 := blk_frozen BK598.out 2
           have p609 : 0 ≤ (a0_1 : Int) := of_decide_eq_true (by first | (with_reducible assumption) | assumption)
           have q609 : a0_1 < (l0_0.length : Int) := of_decide_eq_true (by first | (with_reducible assumption) | assumption)
           obtain ⟨ad609, e609, hx609_0, hx609_1, hx609_2, hx609_3⟩ := at_T145 HR0_0.out a0_1 p609 q609
           cases e609
           replace hx609_0 := (HB.out.cell (World.block_lt_of_cell? w _ hx609_0)).trans hx609_0
           replace hx609_1 := (HB.out.cell (World.block_lt_of_cell? w _ hx609_1)).trans hx609_1
           replace hx609_2 := (HB.out.cell (World.block_lt_of_cell? w _ hx609_2)).trans hx609_2
           replace hx609_3 := (HB.out.cell (World.block_lt_of_cell? w _ hx609_3)).trans hx609_3
           replace p609 := eq_true p609
           replace q609 := eq_true q609
           try go_wp2_with (first | ((with_reducible refine gate_dst (N := 5) rfl ?_); (try (refine gate_guard (by rfl) ?_; dsimp only)); refine bX (N := 5) (cs := #[.int .i64 0, .int .i64 0, .int .i64 0, .int .i64 0]) (t := 145) ?_; intro gb610 hg w58 hbox hb; have n0_ := A_ (Kd.R_below (Kd.R_elderB (oR HO_608000) gb610 (Nat.le_of_eq hg.symm)) hb); have n1_ := A_ (Kd.R_below (oR HO_608002) hb); have n2_ := A_ (bb BK598 hb); have n3_ := A_ (bb BK599 hb); have n4_ := A_ (bb BK607 hb); have n5_ := A_ (below_step (oB HB) hb); have n6_ := A_ (hbox); have n7_ := A_ ((by rw [hg]; exact (below_size (oB HB)) : w.heap.size ≤ gb610)); have n8_ := A_ ((by rw [hg]; exact (below_size (oB HB)) : w.heap.size ≤ gb610)); have n9_ := A_ (nL BK598 hg); have n10_ := A_ (nG BK598 hg); have n11_ := A_ (nL BK599 hg); have n12_ := A_ (nG BK599 hg); have n13_ := A_ (nL BK607 hg); have n14_ := A_ (nG BK607 hg); clear HO_608000; clear HO_608002; clear BK598; clear BK599; clear BK607; clear HB; have HO_608000 := n0_; have HO_608002 := n1_; have BK598 := n2_; have BK599 := n3_; have BK607 := n4_; have HB := n5_; have BK610 := n6_; have GW610 := n7_; have GE610 := n8_; have NB598_610 := n9_; have NB610_598 := n10_; have NB599_610 := n11_; have NB610_599 := n12_; have NB607_610 := n13_; have NB610_607 := n14_; clear n0_ n1_ n2_ n3_ n4_ n5_ n6_ n7_ n8_ n9_ n10_ n11_ n12_ n13_ n14_; clear hb hbox hg; have hnb59 := NB610_598.out; have hnc59 := NB598_610.out; have hnb60 := NB610_599.out; have hnc60 := NB599_610.out; have hnb61 := NB610_607.out; have hnc61 := NB607_610.out; have hcz62_0 := cz BK610 0; have hcz62_1 := cz BK610 1; have hcz62_2 := cz BK610 2; have hcz62_3 := cz BK610 3; have hfz62_0 := blk_frozen BK610.out 0; have hfz62_1 := blk_frozen BK610.out 1; have hfz62_2 := blk_frozen BK610.out 2; have hfz62_3 := blk_frozen BK610.out 3))
           have n0_ : Aside0 (Kd.R k145 145 ((((w58.setCell ⟨gb610, 0, none⟩ (.int .i64 ((rd_T145 l0_0 a0_1).f0))).setCell ⟨gb610, 1, none⟩ (.int .i64 ((rd_T145 l0_0 a0_1).f1))).setCell ⟨gb610, 2, none⟩ (.int .i64 ((rd_T145 l0_0 a0_1).f2))).setCell ⟨gb610, 3, none⟩ (.int .i64 ((rd_T145 l0_0 a0_1).f3))) w.heap.size (fun k_ => k_ ≠ gb610) (.slice Ao10 t600.length co10) t600) := ⟨by (with_reducible repeat (first | apply Kd.R_alloc | apply Kd.R_drewN | apply Kd.R_drew)); exact Kd.R_mono (Kd.R_far (p := ⟨gb610, 3, none⟩) (Kd.R_far (p := ⟨gb610, 2, none⟩) (Kd.R_far (p := ⟨gb610, 1, none⟩) (Kd.R_far (p := ⟨gb610, 0, none⟩) (Kd.R_mono HO_608000.out (fun k_ hk => (⟨hk, hk.2⟩ : _ ∧ k_ ≠ gb610))) (fun _ hk => hk.2) (.int .i64 ((rd_T145 l0_0 a0_1).f0))) (fun _ hk => hk.2) (.int .i64 ((rd_T145 l0_0 a0_1).f1))) (fun _ hk => hk.2) (.int .i64 ((rd_T145 l0_0 a0_1).f2))) (fun _ hk => hk.2) (.int .i64 ((rd_T145 l0_0 a0_1).f3))) (fun _ hk => hk.1.2)⟩
           have n1_ : Aside0 (Kd.R (Kd.int .i64) 3 ((((w58.setCell ⟨gb610, 0, none⟩ (.int .i64 ((rd_T145 l0_0 a0_1).f0))).setCell ⟨gb610, 1, none⟩ (.int .i64 ((rd_T145 l0_0 a0_1).f1))).setCell ⟨gb610, 2, none⟩ (.int .i64 ((rd_T145 l0_0 a0_1).f2))).setCell ⟨gb610, 3, none⟩ (.int .i64 ((rd_T145 l0_0 a0_1).f3))) w.heap.size (fun _ => True) (.slice Ao14 t604.length co14) t604) := ⟨by (with_reducible repeat (first | apply Kd.R_alloc | apply Kd.R_drewN | apply Kd.R_drew)); exact Kd.R_mono (Kd.R_far (p := ⟨gb610, 3, none⟩) (Kd.R_far (p := ⟨gb610, 2, none⟩) (Kd.R_far (p := ⟨gb610, 1, none⟩) (Kd.R_far (p := ⟨gb610, 0, none⟩) (Kd.R_types HO_608002.out BK610.out (by decide)) (fun _ hk => hk.2) (.int .i64 ((rd_T145 l0_0 a0_1).f0))) (fun _ hk => hk.2) (.int .i64 ((rd_T145 l0_0 a0_1).f1))) (fun _ hk => hk.2) (.int .i64 ((rd_T145 l0_0 a0_1).f2))) (fun _ hk => hk.2) (.int .i64 ((rd_T145 l0_0 a0_1).f3))) (fun _ hk => trivial)⟩
           have n2_ : Aside0 (((((w58.setCell ⟨gb610, 0, none⟩ (.int .i64 ((rd_T145 l0_0 a0_1).f0))).setCell ⟨gb610, 1, none⟩ (.int .i64 ((rd_T145 l0_0 a0_1).f1))).setCell ⟨gb610, 2, none⟩ (.int .i64 ((rd_T145 l0_0 a0_1).f2))).setCell ⟨gb610, 3, none⟩ (.int .i64 ((rd_T145 l0_0 a0_1).f3))).heap[gb598]? = some (.cells #[.slice (some ad609) l0_0.length c0_0, .int .i64 a0_1, .slice A0_2 l0_2.length c0_2] 41 (0, 0))) := ⟨by (with_reducible repeat (first | refine blk_drewN ?_ _ | refine blk_drew ?_ | refine blk_alloc ?_ _)); refine blk_far ?_ NB598_610.out _; (with_reducible repeat (first | refine blk_drewN ?_ _ | refine blk_drew ?_ | refine blk_alloc ?_ _)); refine blk_far ?_ NB598_610.out _; (with_reducible repeat (first | refine blk_drewN ?_ _ | refine blk_drew ?_ | refine blk_alloc ?_ _)); refine blk_far ?_ NB598_610.out _; (with_reducible repeat (first | refine blk_drewN ?_ _ | refine blk_drew ?_ | refine blk_alloc ?_ _)); refine blk_far ?_ NB598_610.out _; (with_reducible repeat (first | refine blk_drewN ?_ _ | refine blk_drew ?_ | refine blk_alloc ?_ _)); exact BK598.out⟩
           have n3_ : Aside0 (((((w58.setCell ⟨gb610, 0, none⟩ (.int .i64 ((rd_T145 l0_0 a0_1).f0))).setCell ⟨gb610, 1, none⟩ (.int .i64 ((rd_T145 l0_0 a0_1).f1))).setCell ⟨gb610, 2, none⟩ (.int .i64 ((rd_T145 l0_0 a0_1).f2))).setCell ⟨gb610, 3, none⟩ (.int .i64 ((rd_T145 l0_0 a0_1).f3))).heap[gb599]? = some (.cells #[.slice none 0 0, .int .i64 0, .slice none 0 0] 41 (0, 0))) := ⟨by (with_reducible repeat (first | refine blk_drewN ?_ _ | refine blk_drew ?_ | refine blk_alloc ?_ _)); refine blk_far ?_ NB599_610.out _; (with_reducible repeat (first | refine blk_drewN ?_ _ | refine blk_drew ?_ | refine blk_alloc ?_ _)); refine blk_far ?_ NB599_610.out _; (with_reducible repeat (first | refine blk_drewN ?_ _ | refine blk_drew ?_ | refine blk_alloc ?_ _)); refine blk_far ?_ NB599_610.out _; (with_reducible repeat (first | refine blk_drewN ?_ _ | refine blk_drew ?_ | refine blk_alloc ?_ _)); refine blk_far ?_ NB599_610.out _; (with_reducible repeat (first | refine blk_drewN ?_ _ | refine blk_drew ?_ | refine blk_alloc ?_ _)); exact BK599.out⟩
           have n4_ : Aside0 (((((w58.setCell ⟨gb610, 0, none⟩ (.int .i64 ((rd_T145 l0_0 a0_1).f0))).setCell ⟨gb610, 1, none⟩ (.int .i64 ((rd_T145 l0_0 a0_1).f1))).setCell ⟨gb610, 2, none⟩ (.int .i64 ((rd_T145 l0_0 a0_1).f2))).setCell ⟨gb610, 3, none⟩ (.int .i64 ((rd_T145 l0_0 a0_1).f3))).heap[gb607]? = some (.cells #[.slice Ao10 t600.length co10, .int .i64 t603, .slice Ao14 t604.length co14] 41 (0, 0))) := ⟨by (with_reducible repeat (first | refine blk_drewN ?_ _ | refine blk_drew ?_ | refine blk_alloc ?_ _)); refine blk_far ?_ NB607_610.out _; (with_reducible repeat (first | refine blk_drewN ?_ _ | refine blk_drew ?_ | refine blk_alloc ?_ _)); refine blk_far ?_ NB607_610.out _; (with_reducible repeat (first | refine blk_drewN ?_ _ | refine blk_drew ?_ | refine blk_alloc ?_ _)); refine blk_far ?_ NB607_610.out _; (with_reducible repeat (first | refine blk_drewN ?_ _ | refine blk_drew ?_ | refine blk_alloc ?_ _)); refine blk_far ?_ NB607_610.out _; (with_reducible repeat (first | refine blk_drewN ?_ _ | refine blk_drew ?_ | refine blk_alloc ?_ _)); exact BK607.out⟩
           have n5_ : Aside0 (((((w58.setCell ⟨gb610, 0, none⟩ (.int .i64 ((rd_T145 l0_0 a0_1).f0))).setCell ⟨gb610, 1, none⟩ (.int .i64 ((rd_T145 l0_0 a0_1).f1))).setCell ⟨gb610, 2, none⟩ (.int .i64 ((rd_T145 l0_0 a0_1).f2))).setCell ⟨gb610, 3, none⟩ (.int .i64 ((rd_T145 l0_0 a0_1).f3))).heap[gb610]? = some (.cells #[.int .i64 ((rd_T145 l0_0 a0_1).f0), .int .i64 ((rd_T145 l0_0 a0_1).f1), .int .i64 ((rd_T145 l0_0 a0_1).f2), .int .i64 ((rd_T145 l0_0 a0_1).f3)] 145 (0, 0))) := ⟨by (with_reducible repeat (first | refine blk_drewN ?_ _ | refine blk_drew ?_ | refine blk_alloc ?_ _)); refine blk_put (cs := #[.int .i64 ((rd_T145 l0_0 a0_1).f0), .int .i64 ((rd_T145 l0_0 a0_1).f1), .int .i64 ((rd_T145 l0_0 a0_1).f2), .int .i64 0]) ?_ 3 _ rfl; (with_reducible repeat (first | refine blk_drewN ?_ _ | refine blk_drew ?_ | refine blk_alloc ?_ _)); refine blk_put (cs := #[.int .i64 ((rd_T145 l0_0 a0_1).f0), .int .i64 ((rd_T145 l0_0 a0_1).f1), .int .i64 0, .int .i64 0]) ?_ 2 _ rfl; (with_reducible repeat (first | refine blk_drewN ?_ _ | refine blk_drew ?_ | refine blk_alloc ?_ _)); refine blk_put (cs := #[.int .i64 ((rd_T145 l0_0 a0_1).f0), .int .i64 0, .int .i64 0, .int .i64 0]) ?_ 1 _ rfl; (with_reducible repeat (first | refine blk_drewN ?_ _ | refine blk_drew ?_ | refine blk_alloc ?_ _)); refine blk_put (cs := #[.int .i64 0, .int .i64 0, .int .i64 0, .int .i64 0]) ?_ 0 _ rfl; (with_reducible repeat (first | refine blk_drewN ?_ _ | refine blk_drew ?_ | refine blk_alloc ?_ _)); exact BK610.out⟩
           have n6_ : Aside0 (Below w.heap.size w ((((w58.setCell ⟨gb610, 0, none⟩ (.int .i64 ((rd_T145 l0_0 a0_1).f0))).setCell ⟨gb610, 1, none⟩ (.int .i64 ((rd_T145 l0_0 a0_1).f1))).setCell ⟨gb610, 2, none⟩ (.int .i64 ((rd_T145 l0_0 a0_1).f2))).setCell ⟨gb610, 3, none⟩ (.int .i64 ((rd_T145 l0_0 a0_1).f3)))) := ⟨oB HB⟩
           (try clear HO_608000)
           (try clear HO_608002)
           (try clear BK598)
           (try clear BK599)
           (try clear BK607)
           (try clear BK610)
           (try clear HB)
           generalize ((((w58.setCell ⟨gb610, 0, none⟩ (.int .i64 ((rd_T145 l0_0 a0_1).f0))).setCell ⟨gb610, 1, none⟩ (.int .i64 ((rd_T145 l0_0 a0_1).f1))).setCell ⟨gb610, 2, none⟩ (.int .i64 ((rd_T145 l0_0 a0_1).f2))).setCell ⟨gb610, 3, none⟩ (.int .i64 ((rd_T145 l0_0 a0_1).f3))) = w63 at n0_ n1_ n2_ n3_ n4_ n5_ n6_ ⊢
           have HO_608000 := n0_
           have HO_608002 := n1_
           have BK598 := n2_
           have BK599 := n3_
           have BK607 := n4_
           have BK610 := n5_
           have HB := n6_
           clear n0_ n1_ n2_ n3_ n4_ n5_ n6_
           have n0_ := A_ (Kd.R_drew HO_608000.out)
           have n1_ := A_ (Kd.R_drew HO_608002.out)
           have n2_ := A_ (blk_drew BK598.out)
           have n3_ := A_ (blk_drew BK599.out)
           have n4_ := A_ (blk_drew BK607.out)
           have n5_ := A_ (blk_drew BK610.out)
           have n6_ := A_ (below_drew1 HB.out)
           clear HO_608000
           clear HO_608002
           clear BK598
           clear BK599
           clear BK607
           clear BK610
           clear HB
           have HO_608000 := n0_
           have HO_608002 := n1_
           have BK598 := n2_
           have BK599 := n3_
           have BK607 := n4_
           have BK610 := n5_
           have HB := n6_
           clear n0_ n1_ n2_ n3_ n4_ n5_ n6_
           have p611 : 0 ≤ (((rd_T145 l0_0 a0_1).f0) : Int) := of_decide_eq_true (by first | (with_reducible assumption) | assumption)
           have q611 : ((rd_T145 l0_0 a0_1).f0) < (l0_2.length : Int) := of_decide_eq_true (by first | (with_reducible assumption) | assumption)
           obtain ⟨ad611, e611, hx611_0⟩ := Kd.at_int HR0_2.out ((rd_T145 l0_0 a0_1).f0) p611 q611
           have hw611_0 := hx611_0
           cases e611
           replace hx611_0 := (HB.out.cell (World.block_lt_of_cell? w _ hx611_0)).trans hx611_0
           replace p611 := eq_true p611
           replace q611 := eq_true q611
           refine start_ (n := 12) (S := fun w' => w'.cell? ⟨gb598, 0, none⟩ = some (.slice (some ad609) l0_0.length c0_0) ∧ w'.cell? ⟨gb598, 1, none⟩ = some (.int .i64 a0_1) ∧ w'.cell? ⟨gb598, 2, none⟩ = some (.slice (some ad611) l0_2.length c0_2) ∧ w'.cell? ⟨gb610, 0, none⟩ = some (.int .i64 ((rd_T145 l0_0 a0_1).f0)) ∧ w'.cell? ⟨gb610, 1, none⟩ = some (.int .i64 ((rd_T145 l0_0 a0_1).f1)) ∧ w'.cell? ⟨gb610, 2, none⟩ = some (.int .i64 ((rd_T145 l0_0 a0_1).f2)) ∧ w'.cell? ⟨gb610, 3, none⟩ = some (.int .i64 ((rd_T145 l0_0 a0_1).f3)) ∧ w'.cell? (ad611.add (((rd_T145 l0_0 a0_1).f0)).toNat) = some (.int .i64 (rd l0_2 ((rd_T145 l0_0 a0_1).f0)))) (ds := []) #[false, false, false, false, false, false, false, false, false, false, false, false] (by kernel_rfl) rfl rfl ⟨cz BK598 0, cz BK598 1, cz BK598 2, cz BK610 0, cz BK610 1, cz BK610 2, cz BK610 3, ((HB.out.cell (World.block_lt_of_cell? w _ hw611_0)).trans hw611_0)⟩ (fun hHeld => ?_); refine with_tabW spec_WorkStep.tab5 spec_WorkStep.bits5 (fun HT_ HW_ => ?_)
           generalize w63.drew = w64 at HO_608000 HO_608002 BK598 BK599 BK607 BK610 HB hx611_0 hHeld ⊢
           refine pA 0 (some 27) HT_.out ?_
           refine pA 2 (some 29) HT_.out ?_
           refine pA 6 (some 33) HT_.out ?_
           refine pA 8 (some 35) HT_.out ?_
           refine pT 1 (some 28) HT_.out HW_.out hHeld ?_
           refine pT 3 (some 30) HT_.out HW_.out hHeld ?_
           refine pA 4 (some 31) HT_.out ?_
           refine pT 5 (some 32) HT_.out HW_.out hHeld ?_
           refine pT 7 (some 34) HT_.out HW_.out hHeld ?_
           refine pT 9 (some 36) HT_.out HW_.out hHeld ?_
           refine one_ (i := 10) (N := some 37) #[true, true, true, true, true, true, true, true, true, true, true, false] rfl rfl (one_of HT_.out (by kernel_rfl)) (by decide) (fun K hK => ?_)
           refine goes_ Tryd.func138 (by kernel_rfl) rfl #[.int .i64 (rd l0_2 ((rd_T145 l0_0 a0_1).f0)), .int .i64 ((rd_T145 l0_0 a0_1).f2), .int .i64 ((rd_T145 l0_0 a0_1).f3)] (by rfl) rfl rfl (by (try simp only [List.map_toArray, List.map_cons, List.map_nil]); first | done | rfl | (simp only [List.length_drop, List.length_take]; rfl)) ?_
           with_reducible refine (spec_TunedPitch.calls kj2 (rd l0_2 ((rd_T145 l0_0 a0_1).f0)) ((rd_T145 l0_0 a0_1).f2) ((rd_T145 l0_0 a0_1).f3) t612 _ A36.out).mono ?_
           rintro e w65 ⟨rfl, hb⟩
           refine ⟨_, rfl, ?_⟩
           have n0_ := A_ (Kd.R_below (oR HO_608000) hb)
           have n1_ := A_ (Kd.R_below (oR HO_608002) hb)
           have n2_ := A_ (bb BK598 hb)
           have n3_ := A_ (bb BK599 hb)
           have n4_ := A_ (bb BK607 hb)
           have n5_ := A_ (bb BK610 hb)
           have n6_ := A_ (below_step (oB HB) hb)
           clear HO_608000
           clear HO_608002
           clear BK598
           clear BK599
           clear BK607
           clear BK610
           clear HB
           have HO_608000 := n0_
           have HO_608002 := n1_
           have BK598 := n2_
           have BK599 := n3_
           have BK607 := n4_
           have BK610 := n5_
           have HB := n6_
           clear n0_ n1_ n2_ n3_ n4_ n5_ n6_
           (try clear hb)
           (try clear hb2)
           (try clear hk)
           (try clear hi)
           refine hK.out _ _ ⟨cz BK598 0, cz BK598 1, cz BK598 2, cz BK610 0, cz BK610 1, cz BK610 2, cz BK610 3, ((HB.out.cell (World.block_lt_of_cell? w _ hw611_0)).trans hw611_0)⟩ (fun hHeld => ?_)
           clear hK K
           refine norm_ (a' := ?_) ?_ ?_
           rotate_left
           ·show Act.put _ (some 37) _ = _
            simp only [Act.put, List.setIfInBounds_toArray, List.set_cons_zero, List.set_cons_succ, i64_w, i32_w]
            rfl
           refine pA 11 (some 6) HT_.out ?_
           refine done_ (done_of HT_.out (by kernel_rfl)) ?_
           have hnb66 := NB607_599.out
           have hnc66 := NB599_607.out
           have hcz67_0 := cz BK607 0
           have hcz67_1 := cz BK607 1
           have hcz67_2 := cz BK607 2
           have hfz67_0 := blk_frozen BK607.out 0
           have hfz67_1 := blk_frozen BK607.out 1
           have hfz67_2 := blk_frozen BK607.out 2
           have hcz68_0 := cz BK610 0
           have hcz68_1 := cz BK610 1
           have hcz68_2 := cz BK610 2
           have hcz68_3 := cz BK610 3
           have hfz68_0 := blk_frozen BK610.out 0
           have hfz68_1 := blk_frozen BK610.out 1
           have hfz68_2 := blk_frozen BK610.out 2
           have hfz68_3 := blk_frozen BK610.out 3
           have p54 : 0 ≤ (((rd_T145 l0_0 a0_1).f1) : Int) := of_decide_eq_true (by first | (with_reducible assumption) | assumption)
           have q54 : (((rd_T145 l0_0 a0_1).f1) : Int) < ((t604.length : Int) : Int) := of_decide_eq_true (by first | (with_reducible assumption) | assumption)
           obtain ⟨go54, co54, eo54, gb54, gl54, cl54, HG54⟩ := Kd.R_form HO_608002.out (by omega)
           (first | cases eo54 | (injection eo54 with ea_ en_ ec_; (first | subst ea_ | (injection ea_ with ea_; subst ea_)); subst ec_; clear en_))
           have GB54 := A_ gb54
           have GG54 := A_ HG54
           clear gb54 gl54 HG54
           obtain ⟨hx54_0, hf54_0⟩ := Kd.R_celln 0 HO_608002.out (((rd_T145 l0_0 a0_1).f1) : Int) p54 q54
           replace p54 := eq_true p54
           replace q54 := eq_true q54
           obtain ⟨hy69_, hz69_⟩ := Kd.R_celln 0 HO_608002.out (((rd_T145 l0_0 a0_1).f1) : Int) (of_decide_eq_true (by first | (with_reducible assumption) | assumption)) (of_decide_eq_true (by first | (with_reducible assumption) | assumption))
           have HP69 := Kd.R_putg HO_608002.out (((rd_T145 l0_0 a0_1).f1) : Int) t612
           try go_wp2_with (first | ((with_reducible refine gate_store (t := 3) (p := 46) rfl ?_); refine store_event (t := 3) (p := 46) (v := ?vo_w70) (w1 := (w65.setCell ⟨go54, (((rd_T145 l0_0 a0_1).f1) : Int).toNat, none⟩ (.int .i64 t612))) ?hg ?ho ?hn ?hr ?_; (case ho => rfl); (case hg => rfl); (case hn => rfl); (case hr => first | (go_simp; done) | (go_simp; rfl)); intro w70 hw; have hg : w65.grownBy w70 (some go54) := (by rw [hw]; exact HP69.2); have hp_ : Kd.R (Kd.int .i64) 3 w70 w.heap.size (fun _ => True) (.slice (some ⟨go54, 0, none⟩) t604.length co14) y613 := (by rw [hw, Ny613.out]; exact HP69.1); clear HP69; have n0_ := A_ (Kd.R_over' (v := (.slice (some ⟨go54, 0, none⟩) t604.length co14)) (oR HO_608000) (Kd.R_typed HO_608002.out) (by decide) hg); have n1_ := A_ (hp_); have n2_ := A_ (bg BK598 hg (Kd.R_ne HO_608002.out BK598.out (by decide))); have n3_ := A_ (bg BK599 hg (Kd.R_ne HO_608002.out BK599.out (by decide))); have n4_ := A_ (bg BK607 hg (Kd.R_ne HO_608002.out BK607.out (by decide))); have n5_ := A_ (bg BK610 hg (Kd.R_ne HO_608002.out BK610.out (by decide))); have n6_ := A_ ((by rw [hw]; exact below_set (HB.out) GB54.out : Below w.heap.size w w70)); clear HO_608000; clear HO_608002; clear BK598; clear BK599; clear BK607; clear BK610; clear HB; have HO_608000 := n0_; have HO_608002 := n1_; have BK598 := n2_; have BK599 := n3_; have BK607 := n4_; have BK610 := n5_; have HB := n6_; clear n0_ n1_ n2_ n3_ n4_ n5_ n6_; clear hg hw hp_; have hcz71_0 := cz BK598 0; have hcz71_1 := cz BK598 1; have hcz71_2 := cz BK598 2; have hfz71_0 := blk_frozen BK598.out 0; have hfz71_1 := blk_frozen BK598.out 1; have hfz71_2 := blk_frozen BK598.out 2; have hcz72_0 := cz BK607 0; have hcz72_1 := cz BK607 1; have hcz72_2 := cz BK607 2; have hfz72_0 := blk_frozen BK607.out 0; have hfz72_1 := blk_frozen BK607.out 1; have hfz72_2 := blk_frozen BK607.out 2; have hcz73_0 := cz BK599 0; have hcz73_1 := cz BK599 1; have hcz73_2 := cz BK599 2; have hfz73_0 := blk_frozen BK599.out 0; have hfz73_1 := blk_frozen BK599.out 1; have hfz73_2 := blk_frozen BK599.out 2))
           refine bodyPost_ret (results_ct rfl _ _ gb599 41 #[.slice Ao10 t600.length co10, .int .i64 (wrap64 (a0_1 + 1)), .slice (some ⟨go54, 0, none⟩) t604.length co14] (0, 0) _ rfl (by (with_reducible repeat (first | refine blk_drewN ?_ _ | refine blk_drew ?_ | refine blk_alloc ?_ _)); refine blk_put (cs := #[.slice Ao10 t600.length co10, .int .i64 (wrap64 (a0_1 + 1)), .slice none 0 0]) ?_ 2 _ rfl; (with_reducible repeat (first | refine blk_drewN ?_ _ | refine blk_drew ?_ | refine blk_alloc ?_ _)); refine blk_put (cs := #[.slice Ao10 t600.length co10, .int .i64 0, .slice none 0 0]) ?_ 1 _ rfl; (with_reducible repeat (first | refine blk_drewN ?_ _ | refine blk_drew ?_ | refine blk_alloc ?_ _)); refine blk_put (cs := #[.slice none 0 0, .int .i64 0, .slice none 0 0]) ?_ 0 _ rfl; (with_reducible repeat (first | refine blk_drewN ?_ _ | refine blk_drew ?_ | refine blk_alloc ?_ _)); refine blk_far ?_ NB599_607.out _; (with_reducible repeat (first | refine blk_drewN ?_ _ | refine blk_drew ?_ | refine blk_alloc ?_ _)); exact BK599.out) Tryd.underlying41 rfl (by kernel_rfl)) rfl ?_
           exact ⟨_, _, eR, by (with_reducible repeat (first | apply Kd.R_alloc | apply Kd.R_drewN | apply Kd.R_drew)); exact Kd.R_mono (Kd.R_far (p := ⟨gb599, 2, none⟩) (Kd.R_far (p := ⟨gb599, 1, none⟩) (Kd.R_far (p := ⟨gb599, 0, none⟩) (Kd.R_far (p := ⟨gb607, 1, none⟩) (Kd.R_types (Kd.R_types HO_608000.out BK607.out (by decide)) BK599.out (by decide)) (fun _ hk => hk.1.2) (.int .i64 (wrap64 (a0_1 + 1)))) (fun _ hk => hk.2) (.slice Ao10 t600.length co10)) (fun _ hk => hk.2) (.int .i64 (wrap64 (a0_1 + 1)))) (fun _ hk => hk.2) (.slice (some ⟨go54, 0, none⟩) t604.length co14)) (fun _ hk => trivial), by (with_reducible repeat (first | apply Kd.R_alloc | apply Kd.R_drewN | apply Kd.R_drew)); exact Kd.R_mono (Kd.R_far (p := ⟨gb599, 2, none⟩) (Kd.R_far (p := ⟨gb599, 1, none⟩) (Kd.R_far (p := ⟨gb599, 0, none⟩) (Kd.R_far (p := ⟨gb607, 1, none⟩) (Kd.R_types (Kd.R_types HO_608002.out BK607.out (by decide)) BK599.out (by decide)) (fun _ hk => hk.1.2) (.int .i64 (wrap64 (a0_1 + 1)))) (fun _ hk => hk.2) (.slice Ao10 t600.length co10)) (fun _ hk => hk.2) (.int .i64 (wrap64 (a0_1 + 1)))) (fun _ hk => hk.2) (.slice (some ⟨go54, 0, none⟩) t604.length co14)) (fun _ hk => trivial), oB HB⟩
          ·rw [if_neg c53] at H
           exact absurd H (by simp)
         ·rw [if_neg c52] at H
          exact absurd H (by simp)
       ·rw [if_neg c35] at H
        exact absurd H (by simp)
      ·rw [if_neg c34] at H
       exact absurd H (by simp)
     ·rw [if_neg c33] at H
      exact absurd H (by simp)
    ·rw [if_neg c32] at H
     exact absurd H (by simp)
end Go.Proofs.YtojiighpkppckaaDoor.P


namespace Go.Proofs.YtojiighpkppckaaDoor.P
open Go.RowKit Go.Proofs.YtojiighpkppckaaDoorW.PrintWords Go.Proofs.YtojiighpkppckaaDoorW.PrintLast Go.Proofs.YtojiighpkppckaaDoorW.PrintMore Go.Proofs.YtojiighpkppckaaDoor.V
attribute [local go_sem] cell_b frozen_b
attribute [local go_sem] max2_int min2_int max_two min_two max_three min_three max_four min_four
set_option linter.unusedVariables false
set_option linter.unusedSimpArgs false
def spec_ShopTune.f (k : Nat) (l0_0 : List (S145)) (a0_1 : Int) (l0_2 : List Int) (a0_3 : Int) (a0_4 : Int) (l0_5 : List (S85)) : Option ((List (S145)) × Int × List Int × Int × Int × (List (S85)) × Bool) := (spec_l38Copy.f l0_0 a0_1 l0_2 a0_3 a0_4 l0_5).bind fun bt616 => ((spec_ShopOk.f k l0_0 a0_1 l0_2 a0_3 a0_4 l0_5).bind fun t629 => (if t629 = true then ((spec_WrongSteps.f k l0_0 a0_1 l0_2).bind fun t630 => (if (t630.length : Int) > 0 then ((spec_MendStep.f k l0_0 a0_1 l0_2).bind fun bt633 => (some (bt633.1, bt633.2.1, bt633.2.2.1, bt616.2.2.2.1, bt616.2.2.2.2.1, bt616.2.2.2.2.2, bt633.2.2.2))) else ((spec_WorkStep.f k l0_0 a0_1 l0_2).bind fun bt641 => (some (bt641.1, bt641.2.1, bt641.2.2.1, bt616.2.2.2.1, bt616.2.2.2.2.1, bt616.2.2.2.2.2, bt641.2.2.2))))) else (some (bt616.1, bt616.2.1, bt616.2.2.1, bt616.2.2.2.1, bt616.2.2.2.2.1, bt616.2.2.2.2.2, false))))
set_option maxHeartbeats 8000000 in
set_option maxRecDepth 100000 in
set_option synthInstance.maxHeartbeats 400000 in
set_option synthInstance.maxSize 100000 in
theorem spec_ShopTune.calls (k : Nat) (A0_0 : Option Addr) (c0_0 : Nat) (l0_0 : List (S145)) (a0_1 : Int) (A0_2 : Option Addr) (c0_2 : Nat) (l0_2 : List Int) (a0_3 : Int) (a0_4 : Int) (A0_5 : Option Addr) (c0_5 : Nat) (l0_5 : List (S85)) (r1 : List (S145)) (r2 : Int) (r3 : List Int) (r4 : Int) (r5 : Int) (r6 : List (S85)) (r7 : Bool) (w : World) (hr0_0 : Kd.C k145 w A0_0 l0_0.length l0_0) (hc0_0 : l0_0.length ≤ c0_0) (hr0_2 : Kd.C (Kd.int .i64) w A0_2 l0_2.length l0_2) (hc0_2 : l0_2.length ≤ c0_2) (hr0_5 : Kd.C k85 w A0_5 l0_5.length l0_5) (hc0_5 : l0_5.length ≤ c0_5) (h : spec_ShopTune.f k l0_0 a0_1 l0_2 a0_3 a0_4 l0_5 = some (r1, r2, r3, r4, r5, r6, r7)) :
  Calls Tryd.prog 96 #[.agg #[.slice A0_0 l0_0.length c0_0, .int .i64 a0_1, .slice A0_2 l0_2.length c0_2, .int .i64 a0_3, .int .i64 a0_4, .slice A0_5 l0_5.length c0_5]] w fun e w' => ∃ v0_ v2_ v5_ : Value, e = .returned (.tuple #[.agg #[v0_, .int .i64 r2, v2_, .int .i64 r4, .int .i64 r5, v5_], .bool r7]) ∧ Kd.R k145 145 w' w.heap.size (fun _ => True) v0_ r1 ∧ Kd.R (Kd.int .i64) 3 w' w.heap.size (fun _ => True) v2_ r3 ∧ Kd.R k85 85 w' w.heap.size (fun _ => True) v5_ r6 ∧ Below w.heap.size w w' := by
 have ihr0_0 := RdE.mk hr0_0
 have ihc0_0 := LeI.mk hc0_0
 have ihr0_2 := RdE.mk hr0_2
 have ihc0_2 := LeI.mk hc0_2
 have ihr0_5 := RdE.mk hr0_5
 have ihc0_5 := LeI.mk hc0_5
 clear hr0_0 hc0_0 hr0_2 hc0_2 hr0_5 hc0_5
 unfold spec_ShopTune.f at h
 have hu44 := Tryd.underlying44
 (repeat' first | ((with_reducible replace h := ite_some h); rcases h with ⟨hc, h⟩ | ⟨hc, h⟩ <;> first | exact (none_some h).elim | exact absurd hc (by decide) | subst hc | (replace hc := Bool.eq_false_iff.mpr hc; subst hc) | (have hd := beq_iff_eq.mpr hc; have he := bne_eq_false_iff_eq.mpr hc; clear hc) | (have hd := beq_eq_false_iff_ne.mpr hc; have he := bne_iff_ne.mpr hc) | (have hd := decide_eq_false hc) | (have hd := decide_eq_true hc) | skip))
 all_goals go_enter Tryd.func96, Tryd.ntmps96
 all_goals go_wp2_with (first
  | ((with_reducible refine gate_dst (N := 1) rfl ?_); refine box_event rfl (N := 1) rfl (cs := #[.slice A0_0 l0_0.length c0_0, .int .i64 a0_1, .slice A0_2 l0_2.length c0_2, .int .i64 a0_3, .int .i64 a0_4, .slice A0_5 l0_5.length c0_5]) (t := 44) (by first | (go_simp; done) | (go_simp; rfl)) ?_; intro g hg w1 hk hb; have j1 := Born.mk hg; have j2 := Bel.mk hb; have j3 := Blk.mk hk; clear hg hb hk)
  | ((with_reducible refine gate_dst (N := 2) rfl ?_); refine box_event rfl (N := 2) rfl (cs := #[.slice none 0 0, .int .i64 0, .slice none 0 0, .int .i64 0, .int .i64 0, .slice none 0 0]) (t := 44) (by first | (go_simp; done) | (go_simp; rfl)) ?_; intro g hg w1 hk hb; have j1 := Born.mk hg; have j2 := Bel.mk hb; have j3 := Blk.mk hk; clear hg hb hk)
  | ((with_reducible refine gate_dst (N := 4) rfl ?_); refine box_event rfl (N := 4) rfl (cs := #[.slice none 0 0, .int .i64 0, .slice none 0 0, .int .i64 0, .int .i64 0, .slice none 0 0]) (t := 44) (by first | (go_simp; done) | (go_simp; rfl)) ?_; intro g hg w1 hk hb; have j1 := Born.mk hg; have j2 := Bel.mk hb; have j3 := Blk.mk hk; clear hg hb hk)
  | (go_at_call 117; replace h := Option.bind_eq_some_iff.mp h; obtain ⟨⟨t1, t2, t3, t4, t5, t6⟩, A, h⟩ := h; (try dsimp only at h); refine (spec_l38Copy.calls _ _ _ _ _ _ _ _ _ _ _ _ _ _ _ _ _ _ _ Rd.out LeI.out Rd.out LeI.out Rd.out LeI.out A).mono ?_; rintro e w2 ⟨v0, v1, v2, rfl, ho0, ho1, ho2, hb⟩; obtain ⟨B0, b0, rfl⟩ := Kd.R_slice ho0; have j0 := RowE.mk ho0; have q0 := LeI.mk (rowLe j0); obtain ⟨B1, b1, rfl⟩ := Kd.R_slice ho1; have j1 := RowE.mk ho1; have q1 := LeI.mk (rowLe j1); obtain ⟨B2, b2, rfl⟩ := Kd.R_slice ho2; have j2 := RowE.mk ho2; have q2 := LeI.mk (rowLe j2); have jb := Bel.mk hb; clear A ho0 ho1 ho2 hb; (repeat' first | ((with_reducible replace h := ite_some h); rcases h with ⟨hc, h⟩ | ⟨hc, h⟩ <;> first | exact (none_some h).elim | exact absurd hc (by decide) | subst hc | (replace hc := Bool.eq_false_iff.mpr hc; subst hc) | (have hd := beq_iff_eq.mpr hc; have he := bne_eq_false_iff_eq.mpr hc; clear hc) | (have hd := beq_eq_false_iff_ne.mpr hc; have he := bne_iff_ne.mpr hc) | (have hd := decide_eq_false hc) | (have hd := decide_eq_true hc) | skip)))
  | (go_at_call 44; replace h := Option.bind_eq_some_iff.mp h; obtain ⟨t, A, h⟩ := h; (try dsimp only at h); refine (spec_ShopOk.calls _ _ _ _ _ _ _ _ _ _ _ _ _ _ _ Rd.out LeI.out Rd.out LeI.out Rd.out LeI.out A).mono ?_; rintro e w2 ⟨rfl, hb⟩; have jb := Bel.mk hb; clear A hb; (repeat' first | ((with_reducible replace h := ite_some h); rcases h with ⟨hc, h⟩ | ⟨hc, h⟩ <;> first | exact (none_some h).elim | exact absurd hc (by decide) | subst hc | (replace hc := Bool.eq_false_iff.mpr hc; subst hc) | (have hd := beq_iff_eq.mpr hc; have he := bne_eq_false_iff_eq.mpr hc; clear hc) | (have hd := beq_eq_false_iff_ne.mpr hc; have he := bne_iff_ne.mpr hc) | (have hd := decide_eq_false hc) | (have hd := decide_eq_true hc) | skip)))
  | (go_at_call 120; replace h := Option.bind_eq_some_iff.mp h; obtain ⟨t, A, h⟩ := h; (try dsimp only at h); refine (spec_WrongSteps.calls _ _ _ _ _ _ _ _ _ _ Rd.out LeI.out Rd.out LeI.out A).mono ?_; rintro e w2 ⟨v0, rfl, ho0, hb⟩; obtain ⟨B0, b0, rfl⟩ := Kd.R_slice ho0; have j0 := RowE.mk ho0; have q0 := LeI.mk (rowLe j0); have jb := Bel.mk hb; clear A ho0 hb; (repeat' first | ((with_reducible replace h := ite_some h); rcases h with ⟨hc, h⟩ | ⟨hc, h⟩ <;> first | exact (none_some h).elim | exact absurd hc (by decide) | subst hc | (replace hc := Bool.eq_false_iff.mpr hc; subst hc) | (have hd := beq_iff_eq.mpr hc; have he := bne_eq_false_iff_eq.mpr hc; clear hc) | (have hd := beq_eq_false_iff_ne.mpr hc; have he := bne_iff_ne.mpr hc) | (have hd := decide_eq_false hc) | (have hd := decide_eq_true hc) | skip)); (try have hn : decide (0 < t.length) = true := decide_eq_true (by omega)); (try have hn : decide (0 < t.length) = false := decide_eq_false (by omega)))
  | (go_at_call 121; replace h := Option.bind_eq_some_iff.mp h; obtain ⟨⟨t1, t2, t3, t4⟩, A, h⟩ := h; (try dsimp only at h); refine (spec_MendStep.calls _ _ _ _ _ _ _ _ _ _ _ _ _ Rd.out LeI.out Rd.out LeI.out A).mono ?_; rintro e w2 ⟨v0, v1, rfl, ho0, ho1, hb⟩; obtain ⟨B0, b0, rfl⟩ := Kd.R_slice ho0; have j0 := RowE.mk ho0; have q0 := LeI.mk (rowLe j0); obtain ⟨B1, b1, rfl⟩ := Kd.R_slice ho1; have j1 := RowE.mk ho1; have q1 := LeI.mk (rowLe j1); have jb := Bel.mk hb; clear A ho0 ho1 hb; (repeat' first | ((with_reducible replace h := ite_some h); rcases h with ⟨hc, h⟩ | ⟨hc, h⟩ <;> first | exact (none_some h).elim | exact absurd hc (by decide) | subst hc | (replace hc := Bool.eq_false_iff.mpr hc; subst hc) | (have hd := beq_iff_eq.mpr hc; have he := bne_eq_false_iff_eq.mpr hc; clear hc) | (have hd := beq_eq_false_iff_ne.mpr hc; have he := bne_iff_ne.mpr hc) | (have hd := decide_eq_false hc) | (have hd := decide_eq_true hc) | skip)))
  | (go_at_call 122; replace h := Option.bind_eq_some_iff.mp h; obtain ⟨⟨t1, t2, t3, t4⟩, A, h⟩ := h; (try dsimp only at h); refine (spec_WorkStep.calls _ _ _ _ _ _ _ _ _ _ _ _ _ Rd.out LeI.out Rd.out LeI.out A).mono ?_; rintro e w2 ⟨v0, v1, rfl, ho0, ho1, hb⟩; obtain ⟨B0, b0, rfl⟩ := Kd.R_slice ho0; have j0 := RowE.mk ho0; have q0 := LeI.mk (rowLe j0); obtain ⟨B1, b1, rfl⟩ := Kd.R_slice ho1; have j1 := RowE.mk ho1; have q1 := LeI.mk (rowLe j1); have jb := Bel.mk hb; clear A ho0 ho1 hb; (repeat' first | ((with_reducible replace h := ite_some h); rcases h with ⟨hc, h⟩ | ⟨hc, h⟩ <;> first | exact (none_some h).elim | exact absurd hc (by decide) | subst hc | (replace hc := Bool.eq_false_iff.mpr hc; subst hc) | (have hd := beq_iff_eq.mpr hc; have he := bne_eq_false_iff_eq.mpr hc; clear hc) | (have hd := beq_eq_false_iff_ne.mpr hc; have he := bne_iff_ne.mpr hc) | (have hd := decide_eq_false hc) | (have hd := decide_eq_true hc) | skip))))
 all_goals (repeat' first | ((with_reducible replace h := ite_some h); rcases h with ⟨hc, h⟩ | ⟨hc, h⟩ <;> first | exact (none_some h).elim | exact absurd hc (by decide) | subst hc | (replace hc := Bool.eq_false_iff.mpr hc; subst hc) | (have hd := beq_iff_eq.mpr hc; have he := bne_eq_false_iff_eq.mpr hc; clear hc) | (have hd := beq_eq_false_iff_ne.mpr hc; have he := bne_iff_ne.mpr hc) | (have hd := decide_eq_false hc) | (have hd := decide_eq_true hc) | skip))
 all_goals simp only [Option.some.injEq, Prod.mk.injEq] at h
 all_goals obtain ⟨rfl, rfl, rfl, rfl, rfl, rfl, rfl⟩ := h
 all_goals refine bodyPost_ret (results_ct rfl _ _ _ _ _ (0, 0) _ rfl Blk.out Tryd.underlying44 rfl (by kernel_rfl)) rfl ?_
 all_goals exact ⟨_, _, _, rfl, (by first | exact rowFin | exact Kd.R_nil _ _ _ _ _), (by first | exact rowFin | exact Kd.R_nil _ _ _ _ _), (by first | exact rowFin | exact Kd.R_nil _ _ _ _ _), From.out⟩
end Go.Proofs.YtojiighpkppckaaDoor.P

