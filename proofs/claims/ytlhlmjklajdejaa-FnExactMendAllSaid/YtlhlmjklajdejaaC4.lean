/- What functions of the program come to (f), that their calls come to just this (calls), and the plain laws over lists and numbers. No condition but those of the given row. -/
import Derived.Test.YtlhlmjklajdejaaC3
namespace Go.Proofs.Ytlhlmjklajdejaa.P
open Go.RowKit Go.Proofs.YtlhlmjklajdejaaW.PrintWords Go.Proofs.YtlhlmjklajdejaaW.PrintLast Go.Proofs.YtlhlmjklajdejaaW.PrintMore
attribute [local go_sem] max2_int min2_int max_two min_two max_three min_three max_four min_four
set_option linter.unusedVariables false
set_option linter.unusedSimpArgs false
def impl_MendStep.f (k : Nat) (l0_0 : List (S67)) (a0_1 : Int) (l0_2 : List Int) : Option ((List (S67)) × Int × List Int × Bool) := (impl_copyWork.f l0_0 a0_1 l0_2).bind fun bt870 => ((impl_WrongSteps.f k l0_0 a0_1 l0_2).bind fun t878 => (if (t878.length : Int) = 0 then (some (bt870.1, bt870.2.1, bt870.2.2, false)) else (if 0 < (t878.length : Int) then ((impl_tunedBy.f k l0_0 a0_1 l0_2 (rd t878 0)).bind fun t882 => (if t882 = 0 then (some (bt870.1, bt870.2.1, bt870.2.2, false)) else (if 0 ≤ (rd t878 0) then (if (rd t878 0) < (l0_0.length : Int) then (if 0 ≤ ((rd_T67 l0_0 (rd t878 0)).f1) then (if ((rd_T67 l0_0 (rd t878 0)).f1) < (bt870.2.2.length : Int) then (some (bt870.1, bt870.2.1, (bt870.2.2.set (((rd_T67 l0_0 (rd t878 0)).f1) : Int).toNat t882), true)) else (none)) else (none)) else (none)) else (none)))) else (none))))
def impl_MendStep.T8 : Bool × List (List Nat × List Nat) := (true, [([], []), ([0], [0]), ([], []), ([2], [2]), ([], []), ([4], [4]), ([5], [5]), ([3, 6], [3, 6]), ([7], [7]), ([8], [8]), ([], []), ([1, 9, 0, 1, 2, 3, 4, 5, 6, 7, 8, 9, 10], [1, 9]), ([11, 10, 0, 1, 2, 3, 4, 5, 6, 7, 8, 9, 10], [10, 11])])
def impl_MendStep.B8 : List Nat := [0, 1, 0, 4, 0, 16, 48, 124, 252, 508, 0, 2047, 4095]
theorem impl_MendStep.tab8 : rtab .any (opsOf Try.f44 8) = impl_MendStep.T8 := by kernel_rfl
theorem impl_MendStep.bits8 : waitsOk impl_MendStep.T8.2 impl_MendStep.B8 = true := by kernel_rfl
set_option maxHeartbeats 8000000 in
set_option maxRecDepth 100000 in
theorem impl_MendStep.calls (k : Nat) (A0_0 : Option Addr) (c0_0 : Nat) (l0_0 : List (S67)) (a0_1 : Int) (A0_2 : Option Addr) (c0_2 : Nat) (l0_2 : List Int) (r1 : List (S67)) (r2 : Int) (r3 : List Int) (r4 : Bool) (w : World) (hr0_0 : Kd.C k67 w A0_0 l0_0.length l0_0) (hc0_0 : l0_0.length ≤ c0_0) (hr0_2 : Kd.C (Kd.int .i64) w A0_2 l0_2.length l0_2) (hc0_2 : l0_2.length ≤ c0_2) (h : impl_MendStep.f k l0_0 a0_1 l0_2 = some (r1, r2, r3, r4)) :
    Calls Try.prog 44 #[.agg #[.slice A0_0 l0_0.length c0_0, .int .i64 a0_1, .slice A0_2 l0_2.length c0_2]] w fun e w' => ∃ v0_ v2_ : Value, e = .returned (.tuple #[.agg #[v0_, .int .i64 r2, v2_], .bool r4]) ∧ Kd.R k67 67 w' w.heap.size (fun _ => True) v0_ r1 ∧ Kd.R (Kd.int .i64) 3 w' w.heap.size (fun _ => True) v2_ r3 ∧ Below w.heap.size w w' := by
  have hu30 := Try.underlying30
  have HR0_0 := Aside0.mk hr0_0
  have HC0_0 := Aside0.mk hc0_0
  clear hr0_0 hc0_0
  have HR0_2 := Aside0.mk hr0_2
  have HC0_2 := Aside0.mk hc0_2
  clear hr0_2 hc0_2
  have HB := Aside0.mk (Below.refl w.heap.size w)
  have H : ((impl_copyWork.f l0_0 a0_1 l0_2).bind fun bt870 => ((impl_WrongSteps.f k l0_0 a0_1 l0_2).bind fun t878 => (if (t878.length : Int) = 0 then (some (bt870.1, bt870.2.1, bt870.2.2, false)) else (if 0 < (t878.length : Int) then ((impl_tunedBy.f k l0_0 a0_1 l0_2 (rd t878 0)).bind fun t882 => (if t882 = 0 then (some (bt870.1, bt870.2.1, bt870.2.2, false)) else (if 0 ≤ (rd t878 0) then (if (rd t878 0) < (l0_0.length : Int) then (if 0 ≤ ((rd_T67 l0_0 (rd t878 0)).f1) then (if ((rd_T67 l0_0 (rd t878 0)).f1) < (bt870.2.2.length : Int) then (some (bt870.1, bt870.2.1, (bt870.2.2.set (((rd_T67 l0_0 (rd t878 0)).f1) : Int).toNat t882), true)) else (none)) else (none)) else (none)) else (none)))) else (none))))) = some (r1, r2, r3, r4) := h
  clear h
  replace H := Option.bind_eq_some_iff.mp H
  obtain ⟨⟨t870, t873, t874⟩, A20, H⟩ := H
  (try dsimp only at H)
  have A2 := Aside0.mk A20
  clear A20
  replace H := Option.bind_eq_some_iff.mp H
  obtain ⟨t878, A30, H⟩ := H
  (try dsimp only at H)
  have A3 := Aside0.mk A30
  clear A30
  by_cases c4 : (t878.length : Int) = 0
  · rw [if_pos c4] at H
    have c4b0 : ((t878.length : Int) == 0) = true := beq_iff_eq.mpr c4
    have c4b1 : ((t878.length : Int) != 0) = false := bne_eq_false_iff_eq.mpr c4
    clear c4
    simp only [Option.some.injEq, Prod.mk.injEq] at H
    obtain ⟨rfl, rfl, rfl, rfl⟩ := H
    go_enter Try.func44, Try.ntmps44
    go_wp2_with (first | ((with_reducible refine gate_dst (N := 1) rfl ?_); refine box_event ?hg (N := 1) ?hd (cs := #[.slice A0_0 l0_0.length c0_0, .int .i64 a0_1, .slice A0_2 l0_2.length c0_2]) (t := 30) ?hr ?_; (case hd => rfl); (case hg => rfl); (case hr => first | (go_simp; done) | (go_simp; rfl)); intro gb868 hg w5 hbox hb; have n0_ := Aside0.mk (below_step (oB HB) hb); have n1_ := Aside0.mk (hbox); have n2_ := Aside0.mk ((by rw [hg]; exact (below_size (oB HB)) : w.heap.size ≤ gb868)); have n3_ := Aside0.mk ((by rw [hg]; exact (below_size (oB HB)) : w.heap.size ≤ gb868)); clear HB; have HB := n0_; have BK868 := n1_; have GW868 := n2_; have GE868 := n3_; clear n0_ n1_ n2_ n3_; clear hb hbox hg) | ((with_reducible refine gate_dst (N := 2) rfl ?_); refine box_event ?hg (N := 2) ?hd (cs := #[.slice none 0 0, .int .i64 0, .slice none 0 0]) (t := 30) ?hr ?_; (case hd => rfl); (case hg => rfl); (case hr => first | (go_simp; done) | (go_simp; rfl)); intro gb869 hg w6 hbox hb; have n0_ := Aside0.mk (blk_below (g := gb868) (o := .cells #[.slice A0_0 l0_0.length c0_0, .int .i64 a0_1, .slice A0_2 l0_2.length c0_2] 30 (0, 0)) (oK BK868) hb); have n1_ := Aside0.mk (below_step (oB HB) hb); have n2_ := Aside0.mk (hbox); have n3_ := Aside0.mk ((by rw [hg]; exact (below_size (oB HB)) : w.heap.size ≤ gb869)); have n4_ := Aside0.mk ((by rw [hg]; exact (below_size (oB HB)) : w.heap.size ≤ gb869)); have n5_ := Aside0.mk ((by rw [hg]; exact Nat.ne_of_lt (blk_lt (g := gb868) (o := .cells #[.slice A0_0 l0_0.length c0_0, .int .i64 a0_1, .slice A0_2 l0_2.length c0_2] 30 (0, 0)) (oK BK868)) : gb868 ≠ gb869)); have n6_ := Aside0.mk ((by rw [hg]; exact Nat.ne_of_gt (blk_lt (g := gb868) (o := .cells #[.slice A0_0 l0_0.length c0_0, .int .i64 a0_1, .slice A0_2 l0_2.length c0_2] 30 (0, 0)) (oK BK868)) : gb869 ≠ gb868)); clear BK868; clear HB; have BK868 := n0_; have HB := n1_; have BK869 := n2_; have GW869 := n3_; have GE869 := n4_; have NB868_869 := n5_; have NB869_868 := n6_; clear n0_ n1_ n2_ n3_ n4_ n5_ n6_; clear hb hbox hg; have hnb7 := NB868_869.out; have hnc7 := NB869_868.out; have hcz8_0 : w6.cell? ⟨gb868, 0, none⟩ = some (.slice A0_0 l0_0.length c0_0) := (blk_cell BK868.out 0).trans rfl; have hcz8_1 : w6.cell? ⟨gb868, 1, none⟩ = some (.int .i64 a0_1) := (blk_cell BK868.out 1).trans rfl; have hcz8_2 : w6.cell? ⟨gb868, 2, none⟩ = some (.slice A0_2 l0_2.length c0_2) := (blk_cell BK868.out 2).trans rfl; have hfz8_0 := blk_frozen BK868.out 0; have hfz8_1 := blk_frozen BK868.out 1; have hfz8_2 := blk_frozen BK868.out 2) | ((with_reducible refine gate_callee (f := 69) rfl ?_); refine goesL_ (some 8) rfl rfl Try.func69 (by kernel_rfl) rfl #[.agg #[.slice A0_0 l0_0.length c0_0, .int .i64 a0_1, .slice A0_2 l0_2.length c0_2]] rfl (by (try simp only [List.map_toArray, List.map_cons, List.map_nil]); first | done | rfl | (simp only [List.length_drop, List.length_take]; rfl)) ?_; (with_reducible refine (impl_copyWork.calls _ _ l0_0 a0_1 _ _ l0_2 t870 t873 t874 _ ?side1 ?side2 ?side3 ?side4 A2.out).mono ?_); (case side1 => exact oc_ HR0_0.out); (case side2 => exact HC0_0.out); (case side3 => exact oc_ HR0_2.out); (case side4 => exact HC0_2.out); rintro e w9 ⟨v871, v875, rfl, ho0, ho1, hb⟩; refine ⟨_, rfl, ?_⟩; have n0_ := Aside0.mk (Kd.R_lower ho0 (below_size (oB HB))); have n1_ := Aside0.mk (Kd.R_lower ho1 (below_size (oB HB))); have n2_ := Aside0.mk (blk_below (g := gb868) (o := .cells #[.slice A0_0 l0_0.length c0_0, .int .i64 a0_1, .slice A0_2 l0_2.length c0_2] 30 (0, 0)) (oK BK868) hb); have n3_ := Aside0.mk (blk_below (g := gb869) (o := .cells #[.slice none 0 0, .int .i64 0, .slice none 0 0] 30 (0, 0)) (oK BK869) hb); have n4_ := Aside0.mk (below_step (oB HB) hb); clear BK868; clear BK869; clear HB; have HO872 := n0_; have HO876 := n1_; have BK868 := n2_; have BK869 := n3_; have HB := n4_; clear n0_ n1_ n2_ n3_ n4_; (try clear hb); (try clear hb2); (try clear hk); (try clear hi); (try clear ho0); (try clear ho1)) | ((with_reducible refine gate_dst (N := 4) rfl ?_); refine box_event ?hg (N := 4) ?hd (cs := #[.slice none 0 0, .int .i64 0, .slice none 0 0]) (t := 30) ?hr ?_; (case hd => rfl); (case hg => rfl); (case hr => first | (go_simp; done) | (go_simp; rfl)); intro gb877 hg w10 hbox hb; have n0_ := Aside0.mk (Kd.R_below (oR HO872) hb); have n1_ := Aside0.mk (Kd.R_below (oR HO876) hb); have n2_ := Aside0.mk (blk_below (g := gb868) (o := .cells #[.slice A0_0 l0_0.length c0_0, .int .i64 a0_1, .slice A0_2 l0_2.length c0_2] 30 (0, 0)) (oK BK868) hb); have n3_ := Aside0.mk (blk_below (g := gb869) (o := .cells #[.slice none 0 0, .int .i64 0, .slice none 0 0] 30 (0, 0)) (oK BK869) hb); have n4_ := Aside0.mk (below_step (oB HB) hb); have n5_ := Aside0.mk (hbox); have n6_ := Aside0.mk ((by rw [hg]; exact (below_size (oB HB)) : w.heap.size ≤ gb877)); have n7_ := Aside0.mk ((by rw [hg]; exact (below_size (oB HB)) : w.heap.size ≤ gb877)); have n8_ := Aside0.mk ((by rw [hg]; exact Nat.ne_of_lt (blk_lt (g := gb868) (o := .cells #[.slice A0_0 l0_0.length c0_0, .int .i64 a0_1, .slice A0_2 l0_2.length c0_2] 30 (0, 0)) (oK BK868)) : gb868 ≠ gb877)); have n9_ := Aside0.mk ((by rw [hg]; exact Nat.ne_of_gt (blk_lt (g := gb868) (o := .cells #[.slice A0_0 l0_0.length c0_0, .int .i64 a0_1, .slice A0_2 l0_2.length c0_2] 30 (0, 0)) (oK BK868)) : gb877 ≠ gb868)); have n10_ := Aside0.mk ((by rw [hg]; exact Nat.ne_of_lt (blk_lt (g := gb869) (o := .cells #[.slice none 0 0, .int .i64 0, .slice none 0 0] 30 (0, 0)) (oK BK869)) : gb869 ≠ gb877)); have n11_ := Aside0.mk ((by rw [hg]; exact Nat.ne_of_gt (blk_lt (g := gb869) (o := .cells #[.slice none 0 0, .int .i64 0, .slice none 0 0] 30 (0, 0)) (oK BK869)) : gb877 ≠ gb869)); clear HO872; clear HO876; clear BK868; clear BK869; clear HB; have HO872 := n0_; have HO876 := n1_; have BK868 := n2_; have BK869 := n3_; have HB := n4_; have BK877 := n5_; have GW877 := n6_; have GE877 := n7_; have NB868_877 := n8_; have NB877_868 := n9_; have NB869_877 := n10_; have NB877_869 := n11_; clear n0_ n1_ n2_ n3_ n4_ n5_ n6_ n7_ n8_ n9_ n10_ n11_; clear hb hbox hg; obtain ⟨Ao11, co11, eo11⟩ := Kd.R_slice HO872.out; subst eo11; have hnb12 := NB877_868.out; have hnc12 := NB868_877.out; have hnb13 := NB877_869.out; have hnc13 := NB869_877.out; have hcz14_0 : w10.cell? ⟨gb877, 0, none⟩ = some (.slice none 0 0) := (blk_cell BK877.out 0).trans rfl; have hcz14_1 : w10.cell? ⟨gb877, 1, none⟩ = some (.int .i64 0) := (blk_cell BK877.out 1).trans rfl; have hcz14_2 : w10.cell? ⟨gb877, 2, none⟩ = some (.slice none 0 0) := (blk_cell BK877.out 2).trans rfl; have hfz14_0 := blk_frozen BK877.out 0; have hfz14_1 := blk_frozen BK877.out 1; have hfz14_2 := blk_frozen BK877.out 2; obtain ⟨Ao15, co15, eo15⟩ := Kd.R_slice HO876.out; subst eo15; have hcz16_0 : w10.cell? ⟨gb868, 0, none⟩ = some (.slice A0_0 l0_0.length c0_0) := (blk_cell BK868.out 0).trans rfl; have hcz16_1 : w10.cell? ⟨gb868, 1, none⟩ = some (.int .i64 a0_1) := (blk_cell BK868.out 1).trans rfl; have hcz16_2 : w10.cell? ⟨gb868, 2, none⟩ = some (.slice A0_2 l0_2.length c0_2) := (blk_cell BK868.out 2).trans rfl; have hfz16_0 := blk_frozen BK868.out 0; have hfz16_1 := blk_frozen BK868.out 1; have hfz16_2 := blk_frozen BK868.out 2) | ((with_reducible refine gate_callee (f := 35) rfl ?_); refine goesL_ (some 10) rfl rfl Try.func35 (by kernel_rfl) rfl #[.agg #[.slice A0_0 l0_0.length c0_0, .int .i64 a0_1, .slice A0_2 l0_2.length c0_2]] rfl (by (try simp only [List.map_toArray, List.map_cons, List.map_nil]); first | done | rfl | (simp only [List.length_drop, List.length_take]; rfl)) ?_; (with_reducible refine (impl_WrongSteps.calls k _ _ l0_0 a0_1 _ _ l0_2 t878 _ ?side1 ?side2 ?side3 ?side4 A3.out).mono ?_); (case side1 => exact Kd.C_below HR0_0.out (oB HB)); (case side2 => exact HC0_0.out); (case side3 => exact Kd.C_below HR0_2.out (oB HB)); (case side4 => exact HC0_2.out); rintro e w17 ⟨v879, rfl, ho0, hb⟩; refine ⟨_, rfl, ?_⟩; have n0_ := Aside0.mk (Kd.R_below (by (with_reducible repeat (first | apply Kd.R_alloc | apply Kd.R_drewN | apply Kd.R_drew)); exact (Kd.R_mono (Kd.R_far (p := ⟨gb877, 2, none⟩) (Kd.R_far (p := ⟨gb877, 1, none⟩) (Kd.R_far (p := ⟨gb877, 0, none⟩) (Kd.R_types HO872.out BK877.out (by decide)) (fun _ hk => hk.2) (.slice Ao11 t870.length co11)) (fun _ hk => hk.2) (.int .i64 t873)) (fun _ hk => hk.2) (.slice Ao15 t874.length co15)) (fun _ h_ => h_.1))) hb); have n1_ := Aside0.mk (Kd.R_elder' (by (with_reducible repeat (first | apply Kd.R_alloc | apply Kd.R_drewN | apply Kd.R_drew)); exact (Kd.R_mono (Kd.R_far (p := ⟨gb877, 2, none⟩) (Kd.R_far (p := ⟨gb877, 1, none⟩) (Kd.R_far (p := ⟨gb877, 0, none⟩) (Kd.R_types HO876.out BK877.out (by decide)) (fun _ hk => hk.2) (.slice Ao11 t870.length co11)) (fun _ hk => hk.2) (.int .i64 t873)) (fun _ hk => hk.2) (.slice Ao15 t874.length co15)) (fun _ h_ => h_.1))) (Kd.R_base ho0) hb); have n2_ := Aside0.mk (Kd.R_lower (Kd.R_new' ho0 (Kd.R_lt (by (with_reducible repeat (first | apply Kd.R_alloc | apply Kd.R_drewN | apply Kd.R_drew)); exact (Kd.R_mono (Kd.R_far (p := ⟨gb877, 2, none⟩) (Kd.R_far (p := ⟨gb877, 1, none⟩) (Kd.R_far (p := ⟨gb877, 0, none⟩) (Kd.R_types HO876.out BK877.out (by decide)) (fun _ hk => hk.2) (.slice Ao11 t870.length co11)) (fun _ hk => hk.2) (.int .i64 t873)) (fun _ hk => hk.2) (.slice Ao15 t874.length co15)) (fun _ h_ => h_.1))))) (below_size (oB HB))); have n3_ := Aside0.mk (blk_below (g := gb868) (o := .cells #[.slice A0_0 l0_0.length c0_0, .int .i64 a0_1, .slice A0_2 l0_2.length c0_2] 30 (0, 0)) (by (with_reducible repeat (first | refine blk_drewN ?_ _ | refine blk_drew ?_ | refine blk_alloc ?_ _)); refine blk_far ?_ NB868_877.out _; (with_reducible repeat (first | refine blk_drewN ?_ _ | refine blk_drew ?_ | refine blk_alloc ?_ _)); refine blk_far ?_ NB868_877.out _; (with_reducible repeat (first | refine blk_drewN ?_ _ | refine blk_drew ?_ | refine blk_alloc ?_ _)); refine blk_far ?_ NB868_877.out _; (with_reducible repeat (first | refine blk_drewN ?_ _ | refine blk_drew ?_ | refine blk_alloc ?_ _)); exact BK868.out) hb); have n4_ := Aside0.mk (blk_below (g := gb869) (o := .cells #[.slice none 0 0, .int .i64 0, .slice none 0 0] 30 (0, 0)) (by (with_reducible repeat (first | refine blk_drewN ?_ _ | refine blk_drew ?_ | refine blk_alloc ?_ _)); refine blk_far ?_ NB869_877.out _; (with_reducible repeat (first | refine blk_drewN ?_ _ | refine blk_drew ?_ | refine blk_alloc ?_ _)); refine blk_far ?_ NB869_877.out _; (with_reducible repeat (first | refine blk_drewN ?_ _ | refine blk_drew ?_ | refine blk_alloc ?_ _)); refine blk_far ?_ NB869_877.out _; (with_reducible repeat (first | refine blk_drewN ?_ _ | refine blk_drew ?_ | refine blk_alloc ?_ _)); exact BK869.out) hb); have n5_ := Aside0.mk (blk_below (g := gb877) (o := .cells #[.slice Ao11 t870.length co11, .int .i64 t873, .slice Ao15 t874.length co15] 30 (0, 0)) (by (with_reducible repeat (first | refine blk_drewN ?_ _ | refine blk_drew ?_ | refine blk_alloc ?_ _)); refine blk_put (cs := #[.slice Ao11 t870.length co11, .int .i64 t873, .slice none 0 0]) ?_ 2 _ rfl; (with_reducible repeat (first | refine blk_drewN ?_ _ | refine blk_drew ?_ | refine blk_alloc ?_ _)); refine blk_put (cs := #[.slice Ao11 t870.length co11, .int .i64 0, .slice none 0 0]) ?_ 1 _ rfl; (with_reducible repeat (first | refine blk_drewN ?_ _ | refine blk_drew ?_ | refine blk_alloc ?_ _)); refine blk_put (cs := #[.slice none 0 0, .int .i64 0, .slice none 0 0]) ?_ 0 _ rfl; (with_reducible repeat (first | refine blk_drewN ?_ _ | refine blk_drew ?_ | refine blk_alloc ?_ _)); exact BK877.out) hb); have n6_ := Aside0.mk (below_step (oB HB) hb); clear HO872; clear HO876; clear BK868; clear BK869; clear BK877; clear HB; have HO872 := n0_; have HO876 := n1_; have HO880 := n2_; have BK868 := n3_; have BK869 := n4_; have BK877 := n5_; have HB := n6_; clear n0_ n1_ n2_ n3_ n4_ n5_ n6_; (try clear hb); (try clear hb2); (try clear hk); (try clear hi); (try clear ho0); obtain ⟨Ao18, co18, eo18⟩ := Kd.R_slice HO880.out; subst eo18; have hcz19_0 : w17.cell? ⟨gb877, 0, none⟩ = some (.slice Ao11 t870.length co11) := (blk_cell BK877.out 0).trans rfl; have hcz19_1 : w17.cell? ⟨gb877, 1, none⟩ = some (.int .i64 t873) := (blk_cell BK877.out 1).trans rfl; have hcz19_2 : w17.cell? ⟨gb877, 2, none⟩ = some (.slice Ao15 t874.length co15) := (blk_cell BK877.out 2).trans rfl; have hfz19_0 := blk_frozen BK877.out 0; have hfz19_1 := blk_frozen BK877.out 1; have hfz19_2 := blk_frozen BK877.out 2; have hcz20_0 : w17.cell? ⟨gb869, 0, none⟩ = some (.slice none 0 0) := (blk_cell BK869.out 0).trans rfl; have hcz20_1 : w17.cell? ⟨gb869, 1, none⟩ = some (.int .i64 0) := (blk_cell BK869.out 1).trans rfl; have hcz20_2 : w17.cell? ⟨gb869, 2, none⟩ = some (.slice none 0 0) := (blk_cell BK869.out 2).trans rfl; have hfz20_0 := blk_frozen BK869.out 0; have hfz20_1 := blk_frozen BK869.out 1; have hfz20_2 := blk_frozen BK869.out 2))
    refine bodyPost_ret (results_ct rfl _ _ gb869 30 #[.slice Ao11 t870.length co11, .int .i64 t873, .slice Ao15 t874.length co15] (0, 0) _ rfl (by (with_reducible repeat (first | refine blk_drewN ?_ _ | refine blk_drew ?_ | refine blk_alloc ?_ _)); refine blk_put (cs := #[.slice Ao11 t870.length co11, .int .i64 t873, .slice none 0 0]) ?_ 2 _ rfl; (with_reducible repeat (first | refine blk_drewN ?_ _ | refine blk_drew ?_ | refine blk_alloc ?_ _)); refine blk_put (cs := #[.slice Ao11 t870.length co11, .int .i64 0, .slice none 0 0]) ?_ 1 _ rfl; (with_reducible repeat (first | refine blk_drewN ?_ _ | refine blk_drew ?_ | refine blk_alloc ?_ _)); refine blk_put (cs := #[.slice none 0 0, .int .i64 0, .slice none 0 0]) ?_ 0 _ rfl; (with_reducible repeat (first | refine blk_drewN ?_ _ | refine blk_drew ?_ | refine blk_alloc ?_ _)); exact BK869.out) Try.underlying30 rfl (by kernel_rfl)) rfl ?_
    exact ⟨_, _, by first | rfl | (simp [errW_none, errW_some] <;> rfl) | (simp [*, errW_none, errW_some] <;> rfl), by (with_reducible repeat (first | apply Kd.R_alloc | apply Kd.R_drewN | apply Kd.R_drew)); exact Kd.R_mono (Kd.R_far (p := ⟨gb869, 2, none⟩) (Kd.R_far (p := ⟨gb869, 1, none⟩) (Kd.R_far (p := ⟨gb869, 0, none⟩) (Kd.R_types HO872.out BK869.out (by decide)) (fun _ hk => hk.2) (.slice Ao11 t870.length co11)) (fun _ hk => hk.2) (.int .i64 t873)) (fun _ hk => hk.2) (.slice Ao15 t874.length co15)) (fun _ hk => trivial), by (with_reducible repeat (first | apply Kd.R_alloc | apply Kd.R_drewN | apply Kd.R_drew)); exact Kd.R_mono (Kd.R_far (p := ⟨gb869, 2, none⟩) (Kd.R_far (p := ⟨gb869, 1, none⟩) (Kd.R_far (p := ⟨gb869, 0, none⟩) (Kd.R_types HO876.out BK869.out (by decide)) (fun _ hk => hk.2) (.slice Ao11 t870.length co11)) (fun _ hk => hk.2) (.int .i64 t873)) (fun _ hk => hk.2) (.slice Ao15 t874.length co15)) (fun _ hk => trivial), oB HB⟩
  · rw [if_neg c4] at H
    have c4b0 : ((t878.length : Int) == 0) = false := beq_eq_false_iff_ne.mpr c4
    have c4b1 : ((t878.length : Int) != 0) = true := bne_iff_ne.mpr c4
    have c4b2 : ¬ (t878 = []) := fun h_ => c4 (by rw [h_]; rfl)
    by_cases c21 : 0 < (t878.length : Int)
    · rw [if_pos c21] at H
      have c21b0 : decide (0 < (t878.length : Int)) = true := decide_eq_true c21
      have c21b1 : decide (0 < t878.length) = true := decide_eq_true (by omega)
      clear c21
      replace H := Option.bind_eq_some_iff.mp H
      obtain ⟨t882, A220, H⟩ := H
      (try dsimp only at H)
      have A22 := Aside0.mk A220
      clear A220
      by_cases c23 : t882 = 0
      · rw [if_pos c23] at H
        have c23b0 : (t882 == 0) = true := beq_iff_eq.mpr c23
        have c23b1 : (t882 != 0) = false := bne_eq_false_iff_eq.mpr c23
        clear c23
        simp only [Option.some.injEq, Prod.mk.injEq] at H
        obtain ⟨rfl, rfl, rfl, rfl⟩ := H
        go_enter Try.func44, Try.ntmps44
        try go_wp2_with (first | ((with_reducible refine gate_dst (N := 1) rfl ?_); refine box_event ?hg (N := 1) ?hd (cs := #[.slice A0_0 l0_0.length c0_0, .int .i64 a0_1, .slice A0_2 l0_2.length c0_2]) (t := 30) ?hr ?_; (case hd => rfl); (case hg => rfl); (case hr => first | (go_simp; done) | (go_simp; rfl)); intro gb868 hg w24 hbox hb; have n0_ := Aside0.mk (below_step (oB HB) hb); have n1_ := Aside0.mk (hbox); have n2_ := Aside0.mk ((by rw [hg]; exact (below_size (oB HB)) : w.heap.size ≤ gb868)); have n3_ := Aside0.mk ((by rw [hg]; exact (below_size (oB HB)) : w.heap.size ≤ gb868)); clear HB; have HB := n0_; have BK868 := n1_; have GW868 := n2_; have GE868 := n3_; clear n0_ n1_ n2_ n3_; clear hb hbox hg) | ((with_reducible refine gate_dst (N := 2) rfl ?_); refine box_event ?hg (N := 2) ?hd (cs := #[.slice none 0 0, .int .i64 0, .slice none 0 0]) (t := 30) ?hr ?_; (case hd => rfl); (case hg => rfl); (case hr => first | (go_simp; done) | (go_simp; rfl)); intro gb869 hg w25 hbox hb; have n0_ := Aside0.mk (blk_below (g := gb868) (o := .cells #[.slice A0_0 l0_0.length c0_0, .int .i64 a0_1, .slice A0_2 l0_2.length c0_2] 30 (0, 0)) (oK BK868) hb); have n1_ := Aside0.mk (below_step (oB HB) hb); have n2_ := Aside0.mk (hbox); have n3_ := Aside0.mk ((by rw [hg]; exact (below_size (oB HB)) : w.heap.size ≤ gb869)); have n4_ := Aside0.mk ((by rw [hg]; exact (below_size (oB HB)) : w.heap.size ≤ gb869)); have n5_ := Aside0.mk ((by rw [hg]; exact Nat.ne_of_lt (blk_lt (g := gb868) (o := .cells #[.slice A0_0 l0_0.length c0_0, .int .i64 a0_1, .slice A0_2 l0_2.length c0_2] 30 (0, 0)) (oK BK868)) : gb868 ≠ gb869)); have n6_ := Aside0.mk ((by rw [hg]; exact Nat.ne_of_gt (blk_lt (g := gb868) (o := .cells #[.slice A0_0 l0_0.length c0_0, .int .i64 a0_1, .slice A0_2 l0_2.length c0_2] 30 (0, 0)) (oK BK868)) : gb869 ≠ gb868)); clear BK868; clear HB; have BK868 := n0_; have HB := n1_; have BK869 := n2_; have GW869 := n3_; have GE869 := n4_; have NB868_869 := n5_; have NB869_868 := n6_; clear n0_ n1_ n2_ n3_ n4_ n5_ n6_; clear hb hbox hg; have hnb26 := NB868_869.out; have hnc26 := NB869_868.out; have hcz27_0 : w25.cell? ⟨gb868, 0, none⟩ = some (.slice A0_0 l0_0.length c0_0) := (blk_cell BK868.out 0).trans rfl; have hcz27_1 : w25.cell? ⟨gb868, 1, none⟩ = some (.int .i64 a0_1) := (blk_cell BK868.out 1).trans rfl; have hcz27_2 : w25.cell? ⟨gb868, 2, none⟩ = some (.slice A0_2 l0_2.length c0_2) := (blk_cell BK868.out 2).trans rfl; have hfz27_0 := blk_frozen BK868.out 0; have hfz27_1 := blk_frozen BK868.out 1; have hfz27_2 := blk_frozen BK868.out 2) | ((with_reducible refine gate_callee (f := 69) rfl ?_); refine goesL_ (some 8) rfl rfl Try.func69 (by kernel_rfl) rfl #[.agg #[.slice A0_0 l0_0.length c0_0, .int .i64 a0_1, .slice A0_2 l0_2.length c0_2]] rfl (by (try simp only [List.map_toArray, List.map_cons, List.map_nil]); first | done | rfl | (simp only [List.length_drop, List.length_take]; rfl)) ?_; (with_reducible refine (impl_copyWork.calls _ _ l0_0 a0_1 _ _ l0_2 t870 t873 t874 _ ?side1 ?side2 ?side3 ?side4 A2.out).mono ?_); (case side1 => exact oc_ HR0_0.out); (case side2 => exact HC0_0.out); (case side3 => exact oc_ HR0_2.out); (case side4 => exact HC0_2.out); rintro e w28 ⟨v871, v875, rfl, ho0, ho1, hb⟩; refine ⟨_, rfl, ?_⟩; have n0_ := Aside0.mk (Kd.R_lower ho0 (below_size (oB HB))); have n1_ := Aside0.mk (Kd.R_lower ho1 (below_size (oB HB))); have n2_ := Aside0.mk (blk_below (g := gb868) (o := .cells #[.slice A0_0 l0_0.length c0_0, .int .i64 a0_1, .slice A0_2 l0_2.length c0_2] 30 (0, 0)) (oK BK868) hb); have n3_ := Aside0.mk (blk_below (g := gb869) (o := .cells #[.slice none 0 0, .int .i64 0, .slice none 0 0] 30 (0, 0)) (oK BK869) hb); have n4_ := Aside0.mk (below_step (oB HB) hb); clear BK868; clear BK869; clear HB; have HO872 := n0_; have HO876 := n1_; have BK868 := n2_; have BK869 := n3_; have HB := n4_; clear n0_ n1_ n2_ n3_ n4_; (try clear hb); (try clear hb2); (try clear hk); (try clear hi); (try clear ho0); (try clear ho1)) | ((with_reducible refine gate_dst (N := 4) rfl ?_); refine box_event ?hg (N := 4) ?hd (cs := #[.slice none 0 0, .int .i64 0, .slice none 0 0]) (t := 30) ?hr ?_; (case hd => rfl); (case hg => rfl); (case hr => first | (go_simp; done) | (go_simp; rfl)); intro gb877 hg w29 hbox hb; have n0_ := Aside0.mk (Kd.R_below (oR HO872) hb); have n1_ := Aside0.mk (Kd.R_below (oR HO876) hb); have n2_ := Aside0.mk (blk_below (g := gb868) (o := .cells #[.slice A0_0 l0_0.length c0_0, .int .i64 a0_1, .slice A0_2 l0_2.length c0_2] 30 (0, 0)) (oK BK868) hb); have n3_ := Aside0.mk (blk_below (g := gb869) (o := .cells #[.slice none 0 0, .int .i64 0, .slice none 0 0] 30 (0, 0)) (oK BK869) hb); have n4_ := Aside0.mk (below_step (oB HB) hb); have n5_ := Aside0.mk (hbox); have n6_ := Aside0.mk ((by rw [hg]; exact (below_size (oB HB)) : w.heap.size ≤ gb877)); have n7_ := Aside0.mk ((by rw [hg]; exact (below_size (oB HB)) : w.heap.size ≤ gb877)); have n8_ := Aside0.mk ((by rw [hg]; exact Nat.ne_of_lt (blk_lt (g := gb868) (o := .cells #[.slice A0_0 l0_0.length c0_0, .int .i64 a0_1, .slice A0_2 l0_2.length c0_2] 30 (0, 0)) (oK BK868)) : gb868 ≠ gb877)); have n9_ := Aside0.mk ((by rw [hg]; exact Nat.ne_of_gt (blk_lt (g := gb868) (o := .cells #[.slice A0_0 l0_0.length c0_0, .int .i64 a0_1, .slice A0_2 l0_2.length c0_2] 30 (0, 0)) (oK BK868)) : gb877 ≠ gb868)); have n10_ := Aside0.mk ((by rw [hg]; exact Nat.ne_of_lt (blk_lt (g := gb869) (o := .cells #[.slice none 0 0, .int .i64 0, .slice none 0 0] 30 (0, 0)) (oK BK869)) : gb869 ≠ gb877)); have n11_ := Aside0.mk ((by rw [hg]; exact Nat.ne_of_gt (blk_lt (g := gb869) (o := .cells #[.slice none 0 0, .int .i64 0, .slice none 0 0] 30 (0, 0)) (oK BK869)) : gb877 ≠ gb869)); clear HO872; clear HO876; clear BK868; clear BK869; clear HB; have HO872 := n0_; have HO876 := n1_; have BK868 := n2_; have BK869 := n3_; have HB := n4_; have BK877 := n5_; have GW877 := n6_; have GE877 := n7_; have NB868_877 := n8_; have NB877_868 := n9_; have NB869_877 := n10_; have NB877_869 := n11_; clear n0_ n1_ n2_ n3_ n4_ n5_ n6_ n7_ n8_ n9_ n10_ n11_; clear hb hbox hg; obtain ⟨Ao30, co30, eo30⟩ := Kd.R_slice HO872.out; subst eo30; have hnb31 := NB877_868.out; have hnc31 := NB868_877.out; have hnb32 := NB877_869.out; have hnc32 := NB869_877.out; have hcz33_0 : w29.cell? ⟨gb877, 0, none⟩ = some (.slice none 0 0) := (blk_cell BK877.out 0).trans rfl; have hcz33_1 : w29.cell? ⟨gb877, 1, none⟩ = some (.int .i64 0) := (blk_cell BK877.out 1).trans rfl; have hcz33_2 : w29.cell? ⟨gb877, 2, none⟩ = some (.slice none 0 0) := (blk_cell BK877.out 2).trans rfl; have hfz33_0 := blk_frozen BK877.out 0; have hfz33_1 := blk_frozen BK877.out 1; have hfz33_2 := blk_frozen BK877.out 2; obtain ⟨Ao34, co34, eo34⟩ := Kd.R_slice HO876.out; subst eo34; have hcz35_0 : w29.cell? ⟨gb868, 0, none⟩ = some (.slice A0_0 l0_0.length c0_0) := (blk_cell BK868.out 0).trans rfl; have hcz35_1 : w29.cell? ⟨gb868, 1, none⟩ = some (.int .i64 a0_1) := (blk_cell BK868.out 1).trans rfl; have hcz35_2 : w29.cell? ⟨gb868, 2, none⟩ = some (.slice A0_2 l0_2.length c0_2) := (blk_cell BK868.out 2).trans rfl; have hfz35_0 := blk_frozen BK868.out 0; have hfz35_1 := blk_frozen BK868.out 1; have hfz35_2 := blk_frozen BK868.out 2) | ((with_reducible refine gate_callee (f := 35) rfl ?_); refine goesL_ (some 10) rfl rfl Try.func35 (by kernel_rfl) rfl #[.agg #[.slice A0_0 l0_0.length c0_0, .int .i64 a0_1, .slice A0_2 l0_2.length c0_2]] rfl (by (try simp only [List.map_toArray, List.map_cons, List.map_nil]); first | done | rfl | (simp only [List.length_drop, List.length_take]; rfl)) ?_; (with_reducible refine (impl_WrongSteps.calls k _ _ l0_0 a0_1 _ _ l0_2 t878 _ ?side1 ?side2 ?side3 ?side4 A3.out).mono ?_); (case side1 => exact Kd.C_below HR0_0.out (oB HB)); (case side2 => exact HC0_0.out); (case side3 => exact Kd.C_below HR0_2.out (oB HB)); (case side4 => exact HC0_2.out); rintro e w36 ⟨v879, rfl, ho0, hb⟩; refine ⟨_, rfl, ?_⟩; have n0_ := Aside0.mk (Kd.R_below (by (with_reducible repeat (first | apply Kd.R_alloc | apply Kd.R_drewN | apply Kd.R_drew)); exact (Kd.R_mono (Kd.R_far (p := ⟨gb877, 2, none⟩) (Kd.R_far (p := ⟨gb877, 1, none⟩) (Kd.R_far (p := ⟨gb877, 0, none⟩) (Kd.R_types HO872.out BK877.out (by decide)) (fun _ hk => hk.2) (.slice Ao30 t870.length co30)) (fun _ hk => hk.2) (.int .i64 t873)) (fun _ hk => hk.2) (.slice Ao34 t874.length co34)) (fun _ h_ => h_.1))) hb); have n1_ := Aside0.mk (Kd.R_elder' (by (with_reducible repeat (first | apply Kd.R_alloc | apply Kd.R_drewN | apply Kd.R_drew)); exact (Kd.R_mono (Kd.R_far (p := ⟨gb877, 2, none⟩) (Kd.R_far (p := ⟨gb877, 1, none⟩) (Kd.R_far (p := ⟨gb877, 0, none⟩) (Kd.R_types HO876.out BK877.out (by decide)) (fun _ hk => hk.2) (.slice Ao30 t870.length co30)) (fun _ hk => hk.2) (.int .i64 t873)) (fun _ hk => hk.2) (.slice Ao34 t874.length co34)) (fun _ h_ => h_.1))) (Kd.R_base ho0) hb); have n2_ := Aside0.mk (Kd.R_lower (Kd.R_new' ho0 (Kd.R_lt (by (with_reducible repeat (first | apply Kd.R_alloc | apply Kd.R_drewN | apply Kd.R_drew)); exact (Kd.R_mono (Kd.R_far (p := ⟨gb877, 2, none⟩) (Kd.R_far (p := ⟨gb877, 1, none⟩) (Kd.R_far (p := ⟨gb877, 0, none⟩) (Kd.R_types HO876.out BK877.out (by decide)) (fun _ hk => hk.2) (.slice Ao30 t870.length co30)) (fun _ hk => hk.2) (.int .i64 t873)) (fun _ hk => hk.2) (.slice Ao34 t874.length co34)) (fun _ h_ => h_.1))))) (below_size (oB HB))); have n3_ := Aside0.mk (blk_below (g := gb868) (o := .cells #[.slice A0_0 l0_0.length c0_0, .int .i64 a0_1, .slice A0_2 l0_2.length c0_2] 30 (0, 0)) (by (with_reducible repeat (first | refine blk_drewN ?_ _ | refine blk_drew ?_ | refine blk_alloc ?_ _)); refine blk_far ?_ NB868_877.out _; (with_reducible repeat (first | refine blk_drewN ?_ _ | refine blk_drew ?_ | refine blk_alloc ?_ _)); refine blk_far ?_ NB868_877.out _; (with_reducible repeat (first | refine blk_drewN ?_ _ | refine blk_drew ?_ | refine blk_alloc ?_ _)); refine blk_far ?_ NB868_877.out _; (with_reducible repeat (first | refine blk_drewN ?_ _ | refine blk_drew ?_ | refine blk_alloc ?_ _)); exact BK868.out) hb); have n4_ := Aside0.mk (blk_below (g := gb869) (o := .cells #[.slice none 0 0, .int .i64 0, .slice none 0 0] 30 (0, 0)) (by (with_reducible repeat (first | refine blk_drewN ?_ _ | refine blk_drew ?_ | refine blk_alloc ?_ _)); refine blk_far ?_ NB869_877.out _; (with_reducible repeat (first | refine blk_drewN ?_ _ | refine blk_drew ?_ | refine blk_alloc ?_ _)); refine blk_far ?_ NB869_877.out _; (with_reducible repeat (first | refine blk_drewN ?_ _ | refine blk_drew ?_ | refine blk_alloc ?_ _)); refine blk_far ?_ NB869_877.out _; (with_reducible repeat (first | refine blk_drewN ?_ _ | refine blk_drew ?_ | refine blk_alloc ?_ _)); exact BK869.out) hb); have n5_ := Aside0.mk (blk_below (g := gb877) (o := .cells #[.slice Ao30 t870.length co30, .int .i64 t873, .slice Ao34 t874.length co34] 30 (0, 0)) (by (with_reducible repeat (first | refine blk_drewN ?_ _ | refine blk_drew ?_ | refine blk_alloc ?_ _)); refine blk_put (cs := #[.slice Ao30 t870.length co30, .int .i64 t873, .slice none 0 0]) ?_ 2 _ rfl; (with_reducible repeat (first | refine blk_drewN ?_ _ | refine blk_drew ?_ | refine blk_alloc ?_ _)); refine blk_put (cs := #[.slice Ao30 t870.length co30, .int .i64 0, .slice none 0 0]) ?_ 1 _ rfl; (with_reducible repeat (first | refine blk_drewN ?_ _ | refine blk_drew ?_ | refine blk_alloc ?_ _)); refine blk_put (cs := #[.slice none 0 0, .int .i64 0, .slice none 0 0]) ?_ 0 _ rfl; (with_reducible repeat (first | refine blk_drewN ?_ _ | refine blk_drew ?_ | refine blk_alloc ?_ _)); exact BK877.out) hb); have n6_ := Aside0.mk (below_step (oB HB) hb); clear HO872; clear HO876; clear BK868; clear BK869; clear BK877; clear HB; have HO872 := n0_; have HO876 := n1_; have HO880 := n2_; have BK868 := n3_; have BK869 := n4_; have BK877 := n5_; have HB := n6_; clear n0_ n1_ n2_ n3_ n4_ n5_ n6_; (try clear hb); (try clear hb2); (try clear hk); (try clear hi); (try clear ho0); obtain ⟨Ao37, co37, eo37⟩ := Kd.R_slice HO880.out; subst eo37))
        have n0_ := Aside0.mk (Kd.R_drew HO872.out)
        have n1_ := Aside0.mk (Kd.R_drew HO876.out)
        have n2_ := Aside0.mk (Kd.R_drew HO880.out)
        have n3_ := Aside0.mk (blk_drew BK868.out)
        have n4_ := Aside0.mk (blk_drew BK869.out)
        have n5_ := Aside0.mk (blk_drew BK877.out)
        have n6_ := Aside0.mk (below_drew1 HB.out)
        clear HO872
        clear HO876
        clear HO880
        clear BK868
        clear BK869
        clear BK877
        clear HB
        have HO872 := n0_
        have HO876 := n1_
        have HO880 := n2_
        have BK868 := n3_
        have BK869 := n4_
        have BK877 := n5_
        have HB := n6_
        clear n0_ n1_ n2_ n3_ n4_ n5_ n6_
        have p881 : 0 ≤ (0 : Int) := (by omega)
        have q881 : 0 < (t878.length : Int) := of_decide_eq_true (by first | (with_reducible assumption) | assumption)
        obtain ⟨ad881, e881, hx881_0⟩ := Kd.at_int (Kd.R_reads' HO880.out).2.2 0 p881 q881
        cases e881
        have qi881 : (0 < t878.length) = True := eq_true (by omega)
        (try rw [show ((0 : Int)).toNat = 0 from rfl] at hx881_0)
        (try rw [Addr.add_zero'] at hx881_0)
        replace p881 := eq_true p881
        replace q881 := eq_true q881
        refine start_ (n := 6) (S := fun w' => w'.cell? ⟨gb868, 0, none⟩ = some (.slice A0_0 l0_0.length c0_0) ∧ w'.cell? ⟨gb868, 1, none⟩ = some (.int .i64 a0_1) ∧ w'.cell? ⟨gb868, 2, none⟩ = some (.slice A0_2 l0_2.length c0_2) ∧ w'.cell? ad881 = some (.int .i64 (rd t878 0))) (ds := []) #[false, false, false, false, false, false] (by kernel_rfl) rfl rfl ⟨(blk_cell BK868.out 0).trans rfl, (blk_cell BK868.out 1).trans rfl, (blk_cell BK868.out 2).trans rfl, hx881_0⟩ (fun hHeld => ?_)
        generalize w36.drew = w38 at HO872 HO876 HO880 BK868 BK869 BK877 HB hx881_0 hHeld ⊢
        refine pure_ (i := 1) (N := some 16) (v := ?_) (a' := ?_) #[false, true, false, false, false, false] rfl rfl (by kernel_rfl) (fun _ _ _ h => h) (Or.inl ⟨by rfl, ?_⟩) ?_ ?_
        rotate_left
        · intro w'
          go_simp
          with_reducible rfl
        rotate_left
        · simp only [Act.put, List.setIfInBounds_toArray, List.set_cons_zero, List.set_cons_succ, i64_w, i32_w]
          rfl
        refine pure_ (i := 2) (N := some 17) (v := ?_) (a' := ?_) #[false, true, true, false, false, false] rfl rfl (by kernel_rfl) (fun _ _ _ h => h) (Or.inl ⟨by rfl, ?_⟩) ?_ ?_
        rotate_left
        · intro w'
          go_simp
          with_reducible rfl
        rotate_left
        · simp only [Act.put, List.setIfInBounds_toArray, List.set_cons_zero, List.set_cons_succ, i64_w, i32_w]
          rfl
        refine take_ (i := 0) (N := some 15) (v := ?_) (a' := ?_) #[true, true, true, false, false, false] rfl rfl (by kernel_rfl) (fun _ _ _ h => h) (Or.inl ⟨by rfl, ?_⟩) hHeld ?_ ?_
        rotate_left
        · rintro w' ⟨s0, s1, s2, s3⟩
          go_simp
          with_reducible rfl
        rotate_left
        · simp only [Act.put, List.setIfInBounds_toArray, List.set_cons_zero, List.set_cons_succ, i64_w, i32_w]
          rfl
        refine take_ (i := 3) (N := some 18) (v := ?_) (a' := ?_) #[true, true, true, true, false, false] rfl rfl (by kernel_rfl) (fun _ _ _ h => h) (Or.inl ⟨by rfl, ?_⟩) hHeld ?_ ?_
        rotate_left
        · rintro w' ⟨s0, s1, s2, s3⟩
          go_simp
          with_reducible rfl
        rotate_left
        · simp only [Act.put, List.setIfInBounds_toArray, List.set_cons_zero, List.set_cons_succ, i64_w, i32_w]
          rfl
        refine one_ (i := 4) (N := some 19) #[true, true, true, true, true, false] rfl rfl (by kernel_rfl) (by decide) (fun K hK => ?_)
        refine goes_ Try.func73 (by kernel_rfl) rfl #[.agg #[.slice A0_0 l0_0.length c0_0, .int .i64 a0_1, .slice A0_2 l0_2.length c0_2], .int .i64 (rd t878 0)] (by rfl) rfl rfl (by (try simp only [List.map_toArray, List.map_cons, List.map_nil]); first | done | rfl | (simp only [List.length_drop, List.length_take]; rfl)) ?_
        with_reducible refine (impl_tunedBy.calls k _ _ l0_0 a0_1 _ _ l0_2 (rd t878 0) t882 _ ?side1 ?side2 ?side3 ?side4 A22.out).mono ?_
        (case side1 => exact oc_ HR0_0.out)
        (case side2 => exact HC0_0.out)
        (case side3 => exact oc_ HR0_2.out)
        (case side4 => exact HC0_2.out)
        rintro e w39 ⟨rfl, hb⟩
        have HS3_ := (hb.cell (World.block_lt_of_cell? _ _ (hHeld.2.2.2))).trans (hHeld.2.2.2)
        refine ⟨_, rfl, ?_⟩
        have n0_ := Aside0.mk (Kd.R_below (oR HO872) hb)
        have n1_ := Aside0.mk (Kd.R_below (oR HO876) hb)
        have n2_ := Aside0.mk (Kd.R_below (oR HO880) hb)
        have n3_ := Aside0.mk (blk_below (g := gb868) (o := .cells #[.slice A0_0 l0_0.length c0_0, .int .i64 a0_1, .slice A0_2 l0_2.length c0_2] 30 (0, 0)) (oK BK868) hb)
        have n4_ := Aside0.mk (blk_below (g := gb869) (o := .cells #[.slice none 0 0, .int .i64 0, .slice none 0 0] 30 (0, 0)) (oK BK869) hb)
        have n5_ := Aside0.mk (blk_below (g := gb877) (o := .cells #[.slice Ao30 t870.length co30, .int .i64 t873, .slice Ao34 t874.length co34] 30 (0, 0)) (oK BK877) hb)
        have n6_ := Aside0.mk (below_step (oB HB) hb)
        clear HO872
        clear HO876
        clear HO880
        clear BK868
        clear BK869
        clear BK877
        clear HB
        have HO872 := n0_
        have HO876 := n1_
        have HO880 := n2_
        have BK868 := n3_
        have BK869 := n4_
        have BK877 := n5_
        have HB := n6_
        clear n0_ n1_ n2_ n3_ n4_ n5_ n6_
        (try clear hb)
        (try clear hb2)
        (try clear hk)
        (try clear hi)
        refine hK.out _ _ ⟨(blk_cell BK868.out 0).trans rfl, (blk_cell BK868.out 1).trans rfl, (blk_cell BK868.out 2).trans rfl, HS3_⟩ (fun hHeld => ?_)
        clear hK K
        refine norm_ (a' := ?_) ?_ ?_
        rotate_left
        · show Act.put _ (some 19) _ = _
          simp only [Act.put, List.setIfInBounds_toArray, List.set_cons_zero, List.set_cons_succ, i64_w, i32_w]
          rfl
        refine pure_ (i := 5) (N := some 6) (v := ?_) (a' := ?_) #[true, true, true, true, true, true] rfl rfl (by kernel_rfl) (fun _ _ _ h => h) (Or.inl ⟨by rfl, ?_⟩) ?_ ?_
        rotate_left
        · intro w'
          go_simp
          with_reducible rfl
        rotate_left
        · simp only [Act.put, List.setIfInBounds_toArray, List.set_cons_zero, List.set_cons_succ, i64_w, i32_w]
          rfl
        refine done_ (by kernel_rfl) ?_
        have hcz40_0 : w39.cell? ⟨gb877, 0, none⟩ = some (.slice Ao30 t870.length co30) := (blk_cell BK877.out 0).trans rfl
        have hcz40_1 : w39.cell? ⟨gb877, 1, none⟩ = some (.int .i64 t873) := (blk_cell BK877.out 1).trans rfl
        have hcz40_2 : w39.cell? ⟨gb877, 2, none⟩ = some (.slice Ao34 t874.length co34) := (blk_cell BK877.out 2).trans rfl
        have hfz40_0 := blk_frozen BK877.out 0
        have hfz40_1 := blk_frozen BK877.out 1
        have hfz40_2 := blk_frozen BK877.out 2
        have hcz41_0 : w39.cell? ⟨gb869, 0, none⟩ = some (.slice none 0 0) := (blk_cell BK869.out 0).trans rfl
        have hcz41_1 : w39.cell? ⟨gb869, 1, none⟩ = some (.int .i64 0) := (blk_cell BK869.out 1).trans rfl
        have hcz41_2 : w39.cell? ⟨gb869, 2, none⟩ = some (.slice none 0 0) := (blk_cell BK869.out 2).trans rfl
        have hfz41_0 := blk_frozen BK869.out 0
        have hfz41_1 := blk_frozen BK869.out 1
        have hfz41_2 := blk_frozen BK869.out 2
        try go_wp2
        refine bodyPost_ret (results_ct rfl _ _ gb869 30 #[.slice Ao30 t870.length co30, .int .i64 t873, .slice Ao34 t874.length co34] (0, 0) _ rfl (by (with_reducible repeat (first | refine blk_drewN ?_ _ | refine blk_drew ?_ | refine blk_alloc ?_ _)); refine blk_put (cs := #[.slice Ao30 t870.length co30, .int .i64 t873, .slice none 0 0]) ?_ 2 _ rfl; (with_reducible repeat (first | refine blk_drewN ?_ _ | refine blk_drew ?_ | refine blk_alloc ?_ _)); refine blk_put (cs := #[.slice Ao30 t870.length co30, .int .i64 0, .slice none 0 0]) ?_ 1 _ rfl; (with_reducible repeat (first | refine blk_drewN ?_ _ | refine blk_drew ?_ | refine blk_alloc ?_ _)); refine blk_put (cs := #[.slice none 0 0, .int .i64 0, .slice none 0 0]) ?_ 0 _ rfl; (with_reducible repeat (first | refine blk_drewN ?_ _ | refine blk_drew ?_ | refine blk_alloc ?_ _)); exact BK869.out) Try.underlying30 rfl (by kernel_rfl)) rfl ?_
        exact ⟨_, _, by first | rfl | (simp [errW_none, errW_some] <;> rfl) | (simp [*, errW_none, errW_some] <;> rfl), by (with_reducible repeat (first | apply Kd.R_alloc | apply Kd.R_drewN | apply Kd.R_drew)); exact Kd.R_mono (Kd.R_far (p := ⟨gb869, 2, none⟩) (Kd.R_far (p := ⟨gb869, 1, none⟩) (Kd.R_far (p := ⟨gb869, 0, none⟩) (Kd.R_types HO872.out BK869.out (by decide)) (fun _ hk => hk.2) (.slice Ao30 t870.length co30)) (fun _ hk => hk.2) (.int .i64 t873)) (fun _ hk => hk.2) (.slice Ao34 t874.length co34)) (fun _ hk => trivial), by (with_reducible repeat (first | apply Kd.R_alloc | apply Kd.R_drewN | apply Kd.R_drew)); exact Kd.R_mono (Kd.R_far (p := ⟨gb869, 2, none⟩) (Kd.R_far (p := ⟨gb869, 1, none⟩) (Kd.R_far (p := ⟨gb869, 0, none⟩) (Kd.R_types HO876.out BK869.out (by decide)) (fun _ hk => hk.2) (.slice Ao30 t870.length co30)) (fun _ hk => hk.2) (.int .i64 t873)) (fun _ hk => hk.2) (.slice Ao34 t874.length co34)) (fun _ hk => trivial), oB HB⟩
      · rw [if_neg c23] at H
        have c23b0 : (t882 == 0) = false := beq_eq_false_iff_ne.mpr c23
        have c23b1 : (t882 != 0) = true := bne_iff_ne.mpr c23
        by_cases c42 : 0 ≤ (rd t878 0)
        · rw [if_pos c42] at H
          have c42b0 : decide (0 ≤ (rd t878 0)) = true := decide_eq_true c42
          clear c42
          by_cases c43 : (rd t878 0) < (l0_0.length : Int)
          · rw [if_pos c43] at H
            have c43b0 : decide ((rd t878 0) < (l0_0.length : Int)) = true := decide_eq_true c43
            clear c43
            by_cases c44 : 0 ≤ ((rd_T67 l0_0 (rd t878 0)).f1)
            · rw [if_pos c44] at H
              have c44b0 : decide (0 ≤ ((rd_T67 l0_0 (rd t878 0)).f1)) = true := decide_eq_true c44
              clear c44
              by_cases c45 : ((rd_T67 l0_0 (rd t878 0)).f1) < (t874.length : Int)
              · rw [if_pos c45] at H
                have c45b0 : decide (((rd_T67 l0_0 (rd t878 0)).f1) < (t874.length : Int)) = true := decide_eq_true c45
                clear c45
                obtain ⟨y885, hy885⟩ : ∃ y_ : List Int, y_ = (t874.set (((rd_T67 l0_0 (rd t878 0)).f1) : Int).toNat t882) := ⟨_, rfl⟩
                replace H : (some (t870, t873, y885, true)) = some (r1, r2, r3, r4) := by first | (rw [hy885]; with_reducible exact H) | (have H2_ := (Option.bind_some _ _).symm.trans H; rw [hy885]; with_reducible exact H2_) | (have H2_ := (Option.bind_some _ _).symm.trans H; with_reducible exact H2_) | with_reducible exact H | (rw [hy885]; exact H) | exact H
                have Ny885 := Aside0.mk hy885
                clear hy885
                simp only [Option.some.injEq, Prod.mk.injEq] at H
                obtain ⟨rfl, rfl, rfl, rfl⟩ := H
                go_enter Try.func44, Try.ntmps44
                try go_wp2_with (first | ((with_reducible refine gate_dst (N := 1) rfl ?_); refine box_event ?hg (N := 1) ?hd (cs := #[.slice A0_0 l0_0.length c0_0, .int .i64 a0_1, .slice A0_2 l0_2.length c0_2]) (t := 30) ?hr ?_; (case hd => rfl); (case hg => rfl); (case hr => first | (go_simp; done) | (go_simp; rfl)); intro gb868 hg w47 hbox hb; have n0_ := Aside0.mk (below_step (oB HB) hb); have n1_ := Aside0.mk (hbox); have n2_ := Aside0.mk ((by rw [hg]; exact (below_size (oB HB)) : w.heap.size ≤ gb868)); have n3_ := Aside0.mk ((by rw [hg]; exact (below_size (oB HB)) : w.heap.size ≤ gb868)); clear HB; have HB := n0_; have BK868 := n1_; have GW868 := n2_; have GE868 := n3_; clear n0_ n1_ n2_ n3_; clear hb hbox hg) | ((with_reducible refine gate_dst (N := 2) rfl ?_); refine box_event ?hg (N := 2) ?hd (cs := #[.slice none 0 0, .int .i64 0, .slice none 0 0]) (t := 30) ?hr ?_; (case hd => rfl); (case hg => rfl); (case hr => first | (go_simp; done) | (go_simp; rfl)); intro gb869 hg w48 hbox hb; have n0_ := Aside0.mk (blk_below (g := gb868) (o := .cells #[.slice A0_0 l0_0.length c0_0, .int .i64 a0_1, .slice A0_2 l0_2.length c0_2] 30 (0, 0)) (oK BK868) hb); have n1_ := Aside0.mk (below_step (oB HB) hb); have n2_ := Aside0.mk (hbox); have n3_ := Aside0.mk ((by rw [hg]; exact (below_size (oB HB)) : w.heap.size ≤ gb869)); have n4_ := Aside0.mk ((by rw [hg]; exact (below_size (oB HB)) : w.heap.size ≤ gb869)); have n5_ := Aside0.mk ((by rw [hg]; exact Nat.ne_of_lt (blk_lt (g := gb868) (o := .cells #[.slice A0_0 l0_0.length c0_0, .int .i64 a0_1, .slice A0_2 l0_2.length c0_2] 30 (0, 0)) (oK BK868)) : gb868 ≠ gb869)); have n6_ := Aside0.mk ((by rw [hg]; exact Nat.ne_of_gt (blk_lt (g := gb868) (o := .cells #[.slice A0_0 l0_0.length c0_0, .int .i64 a0_1, .slice A0_2 l0_2.length c0_2] 30 (0, 0)) (oK BK868)) : gb869 ≠ gb868)); clear BK868; clear HB; have BK868 := n0_; have HB := n1_; have BK869 := n2_; have GW869 := n3_; have GE869 := n4_; have NB868_869 := n5_; have NB869_868 := n6_; clear n0_ n1_ n2_ n3_ n4_ n5_ n6_; clear hb hbox hg; have hnb49 := NB868_869.out; have hnc49 := NB869_868.out; have hcz50_0 : w48.cell? ⟨gb868, 0, none⟩ = some (.slice A0_0 l0_0.length c0_0) := (blk_cell BK868.out 0).trans rfl; have hcz50_1 : w48.cell? ⟨gb868, 1, none⟩ = some (.int .i64 a0_1) := (blk_cell BK868.out 1).trans rfl; have hcz50_2 : w48.cell? ⟨gb868, 2, none⟩ = some (.slice A0_2 l0_2.length c0_2) := (blk_cell BK868.out 2).trans rfl; have hfz50_0 := blk_frozen BK868.out 0; have hfz50_1 := blk_frozen BK868.out 1; have hfz50_2 := blk_frozen BK868.out 2) | ((with_reducible refine gate_callee (f := 69) rfl ?_); refine goesL_ (some 8) rfl rfl Try.func69 (by kernel_rfl) rfl #[.agg #[.slice A0_0 l0_0.length c0_0, .int .i64 a0_1, .slice A0_2 l0_2.length c0_2]] rfl (by (try simp only [List.map_toArray, List.map_cons, List.map_nil]); first | done | rfl | (simp only [List.length_drop, List.length_take]; rfl)) ?_; (with_reducible refine (impl_copyWork.calls _ _ l0_0 a0_1 _ _ l0_2 t870 t873 t874 _ ?side1 ?side2 ?side3 ?side4 A2.out).mono ?_); (case side1 => exact oc_ HR0_0.out); (case side2 => exact HC0_0.out); (case side3 => exact oc_ HR0_2.out); (case side4 => exact HC0_2.out); rintro e w51 ⟨v871, v875, rfl, ho0, ho1, hb⟩; refine ⟨_, rfl, ?_⟩; have n0_ := Aside0.mk (Kd.R_lower ho0 (below_size (oB HB))); have n1_ := Aside0.mk (Kd.R_lower ho1 (below_size (oB HB))); have n2_ := Aside0.mk (blk_below (g := gb868) (o := .cells #[.slice A0_0 l0_0.length c0_0, .int .i64 a0_1, .slice A0_2 l0_2.length c0_2] 30 (0, 0)) (oK BK868) hb); have n3_ := Aside0.mk (blk_below (g := gb869) (o := .cells #[.slice none 0 0, .int .i64 0, .slice none 0 0] 30 (0, 0)) (oK BK869) hb); have n4_ := Aside0.mk (below_step (oB HB) hb); clear BK868; clear BK869; clear HB; have HO872 := n0_; have HO876 := n1_; have BK868 := n2_; have BK869 := n3_; have HB := n4_; clear n0_ n1_ n2_ n3_ n4_; (try clear hb); (try clear hb2); (try clear hk); (try clear hi); (try clear ho0); (try clear ho1)) | ((with_reducible refine gate_dst (N := 4) rfl ?_); refine box_event ?hg (N := 4) ?hd (cs := #[.slice none 0 0, .int .i64 0, .slice none 0 0]) (t := 30) ?hr ?_; (case hd => rfl); (case hg => rfl); (case hr => first | (go_simp; done) | (go_simp; rfl)); intro gb877 hg w52 hbox hb; have n0_ := Aside0.mk (Kd.R_below (oR HO872) hb); have n1_ := Aside0.mk (Kd.R_below (oR HO876) hb); have n2_ := Aside0.mk (blk_below (g := gb868) (o := .cells #[.slice A0_0 l0_0.length c0_0, .int .i64 a0_1, .slice A0_2 l0_2.length c0_2] 30 (0, 0)) (oK BK868) hb); have n3_ := Aside0.mk (blk_below (g := gb869) (o := .cells #[.slice none 0 0, .int .i64 0, .slice none 0 0] 30 (0, 0)) (oK BK869) hb); have n4_ := Aside0.mk (below_step (oB HB) hb); have n5_ := Aside0.mk (hbox); have n6_ := Aside0.mk ((by rw [hg]; exact (below_size (oB HB)) : w.heap.size ≤ gb877)); have n7_ := Aside0.mk ((by rw [hg]; exact (below_size (oB HB)) : w.heap.size ≤ gb877)); have n8_ := Aside0.mk ((by rw [hg]; exact Nat.ne_of_lt (blk_lt (g := gb868) (o := .cells #[.slice A0_0 l0_0.length c0_0, .int .i64 a0_1, .slice A0_2 l0_2.length c0_2] 30 (0, 0)) (oK BK868)) : gb868 ≠ gb877)); have n9_ := Aside0.mk ((by rw [hg]; exact Nat.ne_of_gt (blk_lt (g := gb868) (o := .cells #[.slice A0_0 l0_0.length c0_0, .int .i64 a0_1, .slice A0_2 l0_2.length c0_2] 30 (0, 0)) (oK BK868)) : gb877 ≠ gb868)); have n10_ := Aside0.mk ((by rw [hg]; exact Nat.ne_of_lt (blk_lt (g := gb869) (o := .cells #[.slice none 0 0, .int .i64 0, .slice none 0 0] 30 (0, 0)) (oK BK869)) : gb869 ≠ gb877)); have n11_ := Aside0.mk ((by rw [hg]; exact Nat.ne_of_gt (blk_lt (g := gb869) (o := .cells #[.slice none 0 0, .int .i64 0, .slice none 0 0] 30 (0, 0)) (oK BK869)) : gb877 ≠ gb869)); clear HO872; clear HO876; clear BK868; clear BK869; clear HB; have HO872 := n0_; have HO876 := n1_; have BK868 := n2_; have BK869 := n3_; have HB := n4_; have BK877 := n5_; have GW877 := n6_; have GE877 := n7_; have NB868_877 := n8_; have NB877_868 := n9_; have NB869_877 := n10_; have NB877_869 := n11_; clear n0_ n1_ n2_ n3_ n4_ n5_ n6_ n7_ n8_ n9_ n10_ n11_; clear hb hbox hg; obtain ⟨Ao53, co53, eo53⟩ := Kd.R_slice HO872.out; subst eo53; have hnb54 := NB877_868.out; have hnc54 := NB868_877.out; have hnb55 := NB877_869.out; have hnc55 := NB869_877.out; have hcz56_0 : w52.cell? ⟨gb877, 0, none⟩ = some (.slice none 0 0) := (blk_cell BK877.out 0).trans rfl; have hcz56_1 : w52.cell? ⟨gb877, 1, none⟩ = some (.int .i64 0) := (blk_cell BK877.out 1).trans rfl; have hcz56_2 : w52.cell? ⟨gb877, 2, none⟩ = some (.slice none 0 0) := (blk_cell BK877.out 2).trans rfl; have hfz56_0 := blk_frozen BK877.out 0; have hfz56_1 := blk_frozen BK877.out 1; have hfz56_2 := blk_frozen BK877.out 2; obtain ⟨Ao57, co57, eo57⟩ := Kd.R_slice HO876.out; subst eo57; have hcz58_0 : w52.cell? ⟨gb868, 0, none⟩ = some (.slice A0_0 l0_0.length c0_0) := (blk_cell BK868.out 0).trans rfl; have hcz58_1 : w52.cell? ⟨gb868, 1, none⟩ = some (.int .i64 a0_1) := (blk_cell BK868.out 1).trans rfl; have hcz58_2 : w52.cell? ⟨gb868, 2, none⟩ = some (.slice A0_2 l0_2.length c0_2) := (blk_cell BK868.out 2).trans rfl; have hfz58_0 := blk_frozen BK868.out 0; have hfz58_1 := blk_frozen BK868.out 1; have hfz58_2 := blk_frozen BK868.out 2) | ((with_reducible refine gate_callee (f := 35) rfl ?_); refine goesL_ (some 10) rfl rfl Try.func35 (by kernel_rfl) rfl #[.agg #[.slice A0_0 l0_0.length c0_0, .int .i64 a0_1, .slice A0_2 l0_2.length c0_2]] rfl (by (try simp only [List.map_toArray, List.map_cons, List.map_nil]); first | done | rfl | (simp only [List.length_drop, List.length_take]; rfl)) ?_; (with_reducible refine (impl_WrongSteps.calls k _ _ l0_0 a0_1 _ _ l0_2 t878 _ ?side1 ?side2 ?side3 ?side4 A3.out).mono ?_); (case side1 => exact Kd.C_below HR0_0.out (oB HB)); (case side2 => exact HC0_0.out); (case side3 => exact Kd.C_below HR0_2.out (oB HB)); (case side4 => exact HC0_2.out); rintro e w59 ⟨v879, rfl, ho0, hb⟩; refine ⟨_, rfl, ?_⟩; have n0_ := Aside0.mk (Kd.R_below (by (with_reducible repeat (first | apply Kd.R_alloc | apply Kd.R_drewN | apply Kd.R_drew)); exact (Kd.R_mono (Kd.R_far (p := ⟨gb877, 2, none⟩) (Kd.R_far (p := ⟨gb877, 1, none⟩) (Kd.R_far (p := ⟨gb877, 0, none⟩) (Kd.R_types HO872.out BK877.out (by decide)) (fun _ hk => hk.2) (.slice Ao53 t870.length co53)) (fun _ hk => hk.2) (.int .i64 t873)) (fun _ hk => hk.2) (.slice Ao57 t874.length co57)) (fun _ h_ => h_.1))) hb); have n1_ := Aside0.mk (Kd.R_elder' (by (with_reducible repeat (first | apply Kd.R_alloc | apply Kd.R_drewN | apply Kd.R_drew)); exact (Kd.R_mono (Kd.R_far (p := ⟨gb877, 2, none⟩) (Kd.R_far (p := ⟨gb877, 1, none⟩) (Kd.R_far (p := ⟨gb877, 0, none⟩) (Kd.R_types HO876.out BK877.out (by decide)) (fun _ hk => hk.2) (.slice Ao53 t870.length co53)) (fun _ hk => hk.2) (.int .i64 t873)) (fun _ hk => hk.2) (.slice Ao57 t874.length co57)) (fun _ h_ => h_.1))) (Kd.R_base ho0) hb); have n2_ := Aside0.mk (Kd.R_lower (Kd.R_new' ho0 (Kd.R_lt (by (with_reducible repeat (first | apply Kd.R_alloc | apply Kd.R_drewN | apply Kd.R_drew)); exact (Kd.R_mono (Kd.R_far (p := ⟨gb877, 2, none⟩) (Kd.R_far (p := ⟨gb877, 1, none⟩) (Kd.R_far (p := ⟨gb877, 0, none⟩) (Kd.R_types HO876.out BK877.out (by decide)) (fun _ hk => hk.2) (.slice Ao53 t870.length co53)) (fun _ hk => hk.2) (.int .i64 t873)) (fun _ hk => hk.2) (.slice Ao57 t874.length co57)) (fun _ h_ => h_.1))))) (below_size (oB HB))); have n3_ := Aside0.mk (blk_below (g := gb868) (o := .cells #[.slice A0_0 l0_0.length c0_0, .int .i64 a0_1, .slice A0_2 l0_2.length c0_2] 30 (0, 0)) (by (with_reducible repeat (first | refine blk_drewN ?_ _ | refine blk_drew ?_ | refine blk_alloc ?_ _)); refine blk_far ?_ NB868_877.out _; (with_reducible repeat (first | refine blk_drewN ?_ _ | refine blk_drew ?_ | refine blk_alloc ?_ _)); refine blk_far ?_ NB868_877.out _; (with_reducible repeat (first | refine blk_drewN ?_ _ | refine blk_drew ?_ | refine blk_alloc ?_ _)); refine blk_far ?_ NB868_877.out _; (with_reducible repeat (first | refine blk_drewN ?_ _ | refine blk_drew ?_ | refine blk_alloc ?_ _)); exact BK868.out) hb); have n4_ := Aside0.mk (blk_below (g := gb869) (o := .cells #[.slice none 0 0, .int .i64 0, .slice none 0 0] 30 (0, 0)) (by (with_reducible repeat (first | refine blk_drewN ?_ _ | refine blk_drew ?_ | refine blk_alloc ?_ _)); refine blk_far ?_ NB869_877.out _; (with_reducible repeat (first | refine blk_drewN ?_ _ | refine blk_drew ?_ | refine blk_alloc ?_ _)); refine blk_far ?_ NB869_877.out _; (with_reducible repeat (first | refine blk_drewN ?_ _ | refine blk_drew ?_ | refine blk_alloc ?_ _)); refine blk_far ?_ NB869_877.out _; (with_reducible repeat (first | refine blk_drewN ?_ _ | refine blk_drew ?_ | refine blk_alloc ?_ _)); exact BK869.out) hb); have n5_ := Aside0.mk (blk_below (g := gb877) (o := .cells #[.slice Ao53 t870.length co53, .int .i64 t873, .slice Ao57 t874.length co57] 30 (0, 0)) (by (with_reducible repeat (first | refine blk_drewN ?_ _ | refine blk_drew ?_ | refine blk_alloc ?_ _)); refine blk_put (cs := #[.slice Ao53 t870.length co53, .int .i64 t873, .slice none 0 0]) ?_ 2 _ rfl; (with_reducible repeat (first | refine blk_drewN ?_ _ | refine blk_drew ?_ | refine blk_alloc ?_ _)); refine blk_put (cs := #[.slice Ao53 t870.length co53, .int .i64 0, .slice none 0 0]) ?_ 1 _ rfl; (with_reducible repeat (first | refine blk_drewN ?_ _ | refine blk_drew ?_ | refine blk_alloc ?_ _)); refine blk_put (cs := #[.slice none 0 0, .int .i64 0, .slice none 0 0]) ?_ 0 _ rfl; (with_reducible repeat (first | refine blk_drewN ?_ _ | refine blk_drew ?_ | refine blk_alloc ?_ _)); exact BK877.out) hb); have n6_ := Aside0.mk (below_step (oB HB) hb); clear HO872; clear HO876; clear BK868; clear BK869; clear BK877; clear HB; have HO872 := n0_; have HO876 := n1_; have HO880 := n2_; have BK868 := n3_; have BK869 := n4_; have BK877 := n5_; have HB := n6_; clear n0_ n1_ n2_ n3_ n4_ n5_ n6_; (try clear hb); (try clear hb2); (try clear hk); (try clear hi); (try clear ho0); obtain ⟨Ao60, co60, eo60⟩ := Kd.R_slice HO880.out; subst eo60))
                have n0_ := Aside0.mk (Kd.R_drew HO872.out)
                have n1_ := Aside0.mk (Kd.R_drew HO876.out)
                have n2_ := Aside0.mk (Kd.R_drew HO880.out)
                have n3_ := Aside0.mk (blk_drew BK868.out)
                have n4_ := Aside0.mk (blk_drew BK869.out)
                have n5_ := Aside0.mk (blk_drew BK877.out)
                have n6_ := Aside0.mk (below_drew1 HB.out)
                clear HO872
                clear HO876
                clear HO880
                clear BK868
                clear BK869
                clear BK877
                clear HB
                have HO872 := n0_
                have HO876 := n1_
                have HO880 := n2_
                have BK868 := n3_
                have BK869 := n4_
                have BK877 := n5_
                have HB := n6_
                clear n0_ n1_ n2_ n3_ n4_ n5_ n6_
                have p881 : 0 ≤ (0 : Int) := (by omega)
                have q881 : 0 < (t878.length : Int) := of_decide_eq_true (by first | (with_reducible assumption) | assumption)
                obtain ⟨ad881, e881, hx881_0⟩ := Kd.at_int (Kd.R_reads' HO880.out).2.2 0 p881 q881
                cases e881
                have qi881 : (0 < t878.length) = True := eq_true (by omega)
                (try rw [show ((0 : Int)).toNat = 0 from rfl] at hx881_0)
                (try rw [Addr.add_zero'] at hx881_0)
                replace p881 := eq_true p881
                replace q881 := eq_true q881
                refine start_ (n := 6) (S := fun w' => w'.cell? ⟨gb868, 0, none⟩ = some (.slice A0_0 l0_0.length c0_0) ∧ w'.cell? ⟨gb868, 1, none⟩ = some (.int .i64 a0_1) ∧ w'.cell? ⟨gb868, 2, none⟩ = some (.slice A0_2 l0_2.length c0_2) ∧ w'.cell? ad881 = some (.int .i64 (rd t878 0))) (ds := []) #[false, false, false, false, false, false] (by kernel_rfl) rfl rfl ⟨(blk_cell BK868.out 0).trans rfl, (blk_cell BK868.out 1).trans rfl, (blk_cell BK868.out 2).trans rfl, hx881_0⟩ (fun hHeld => ?_)
                generalize w59.drew = w61 at HO872 HO876 HO880 BK868 BK869 BK877 HB hx881_0 hHeld ⊢
                refine pure_ (i := 1) (N := some 16) (v := ?_) (a' := ?_) #[false, true, false, false, false, false] rfl rfl (by kernel_rfl) (fun _ _ _ h => h) (Or.inl ⟨by rfl, ?_⟩) ?_ ?_
                rotate_left
                · intro w'
                  go_simp
                  with_reducible rfl
                rotate_left
                · simp only [Act.put, List.setIfInBounds_toArray, List.set_cons_zero, List.set_cons_succ, i64_w, i32_w]
                  rfl
                refine pure_ (i := 2) (N := some 17) (v := ?_) (a' := ?_) #[false, true, true, false, false, false] rfl rfl (by kernel_rfl) (fun _ _ _ h => h) (Or.inl ⟨by rfl, ?_⟩) ?_ ?_
                rotate_left
                · intro w'
                  go_simp
                  with_reducible rfl
                rotate_left
                · simp only [Act.put, List.setIfInBounds_toArray, List.set_cons_zero, List.set_cons_succ, i64_w, i32_w]
                  rfl
                refine take_ (i := 0) (N := some 15) (v := ?_) (a' := ?_) #[true, true, true, false, false, false] rfl rfl (by kernel_rfl) (fun _ _ _ h => h) (Or.inl ⟨by rfl, ?_⟩) hHeld ?_ ?_
                rotate_left
                · rintro w' ⟨s0, s1, s2, s3⟩
                  go_simp
                  with_reducible rfl
                rotate_left
                · simp only [Act.put, List.setIfInBounds_toArray, List.set_cons_zero, List.set_cons_succ, i64_w, i32_w]
                  rfl
                refine take_ (i := 3) (N := some 18) (v := ?_) (a' := ?_) #[true, true, true, true, false, false] rfl rfl (by kernel_rfl) (fun _ _ _ h => h) (Or.inl ⟨by rfl, ?_⟩) hHeld ?_ ?_
                rotate_left
                · rintro w' ⟨s0, s1, s2, s3⟩
                  go_simp
                  with_reducible rfl
                rotate_left
                · simp only [Act.put, List.setIfInBounds_toArray, List.set_cons_zero, List.set_cons_succ, i64_w, i32_w]
                  rfl
                refine one_ (i := 4) (N := some 19) #[true, true, true, true, true, false] rfl rfl (by kernel_rfl) (by decide) (fun K hK => ?_)
                refine goes_ Try.func73 (by kernel_rfl) rfl #[.agg #[.slice A0_0 l0_0.length c0_0, .int .i64 a0_1, .slice A0_2 l0_2.length c0_2], .int .i64 (rd t878 0)] (by rfl) rfl rfl (by (try simp only [List.map_toArray, List.map_cons, List.map_nil]); first | done | rfl | (simp only [List.length_drop, List.length_take]; rfl)) ?_
                with_reducible refine (impl_tunedBy.calls k _ _ l0_0 a0_1 _ _ l0_2 (rd t878 0) t882 _ ?side1 ?side2 ?side3 ?side4 A22.out).mono ?_
                (case side1 => exact oc_ HR0_0.out)
                (case side2 => exact HC0_0.out)
                (case side3 => exact oc_ HR0_2.out)
                (case side4 => exact HC0_2.out)
                rintro e w62 ⟨rfl, hb⟩
                have HS3_ := (hb.cell (World.block_lt_of_cell? _ _ (hHeld.2.2.2))).trans (hHeld.2.2.2)
                refine ⟨_, rfl, ?_⟩
                have n0_ := Aside0.mk (Kd.R_below (oR HO872) hb)
                have n1_ := Aside0.mk (Kd.R_below (oR HO876) hb)
                have n2_ := Aside0.mk (Kd.R_below (oR HO880) hb)
                have n3_ := Aside0.mk (blk_below (g := gb868) (o := .cells #[.slice A0_0 l0_0.length c0_0, .int .i64 a0_1, .slice A0_2 l0_2.length c0_2] 30 (0, 0)) (oK BK868) hb)
                have n4_ := Aside0.mk (blk_below (g := gb869) (o := .cells #[.slice none 0 0, .int .i64 0, .slice none 0 0] 30 (0, 0)) (oK BK869) hb)
                have n5_ := Aside0.mk (blk_below (g := gb877) (o := .cells #[.slice Ao53 t870.length co53, .int .i64 t873, .slice Ao57 t874.length co57] 30 (0, 0)) (oK BK877) hb)
                have n6_ := Aside0.mk (below_step (oB HB) hb)
                clear HO872
                clear HO876
                clear HO880
                clear BK868
                clear BK869
                clear BK877
                clear HB
                have HO872 := n0_
                have HO876 := n1_
                have HO880 := n2_
                have BK868 := n3_
                have BK869 := n4_
                have BK877 := n5_
                have HB := n6_
                clear n0_ n1_ n2_ n3_ n4_ n5_ n6_
                (try clear hb)
                (try clear hb2)
                (try clear hk)
                (try clear hi)
                refine hK.out _ _ ⟨(blk_cell BK868.out 0).trans rfl, (blk_cell BK868.out 1).trans rfl, (blk_cell BK868.out 2).trans rfl, HS3_⟩ (fun hHeld => ?_)
                clear hK K
                refine norm_ (a' := ?_) ?_ ?_
                rotate_left
                · show Act.put _ (some 19) _ = _
                  simp only [Act.put, List.setIfInBounds_toArray, List.set_cons_zero, List.set_cons_succ, i64_w, i32_w]
                  rfl
                refine pure_ (i := 5) (N := some 6) (v := ?_) (a' := ?_) #[true, true, true, true, true, true] rfl rfl (by kernel_rfl) (fun _ _ _ h => h) (Or.inl ⟨by rfl, ?_⟩) ?_ ?_
                rotate_left
                · intro w'
                  go_simp
                  with_reducible rfl
                rotate_left
                · simp only [Act.put, List.setIfInBounds_toArray, List.set_cons_zero, List.set_cons_succ, i64_w, i32_w]
                  rfl
                refine done_ (by kernel_rfl) ?_
                try go_wp2
                have n0_ := Aside0.mk (Kd.R_drew HO872.out)
                have n1_ := Aside0.mk (Kd.R_drew HO876.out)
                have n2_ := Aside0.mk (Kd.R_drew HO880.out)
                have n3_ := Aside0.mk (blk_drew BK868.out)
                have n4_ := Aside0.mk (blk_drew BK869.out)
                have n5_ := Aside0.mk (blk_drew BK877.out)
                have n6_ := Aside0.mk (below_drew1 HB.out)
                clear HO872
                clear HO876
                clear HO880
                clear BK868
                clear BK869
                clear BK877
                clear HB
                have HO872 := n0_
                have HO876 := n1_
                have HO880 := n2_
                have BK868 := n3_
                have BK869 := n4_
                have BK877 := n5_
                have HB := n6_
                clear n0_ n1_ n2_ n3_ n4_ n5_ n6_
                have p883 : 0 ≤ (0 : Int) := (by omega)
                have q883 : 0 < (t878.length : Int) := of_decide_eq_true (by first | (with_reducible assumption) | assumption)
                obtain ⟨ad883, e883, hx883_0⟩ := Kd.at_int (Kd.R_reads' HO880.out).2.2 0 p883 q883
                obtain rfl : ad881 = ad883 := (by injection e883)
                have qi883 : (0 < t878.length) = True := eq_true (by omega)
                (try rw [show ((0 : Int)).toNat = 0 from rfl] at hx883_0)
                (try rw [Addr.add_zero'] at hx883_0)
                replace p883 := eq_true p883
                replace q883 := eq_true q883
                have p884 : 0 ≤ ((rd t878 0) : Int) := of_decide_eq_true (by first | (with_reducible assumption) | assumption)
                have q884 : (rd t878 0) < (l0_0.length : Int) := of_decide_eq_true (by first | (with_reducible assumption) | assumption)
                obtain ⟨ad884, e884, hx884_0, hx884_1, hx884_2, hx884_3⟩ := at_T67 HR0_0.out (rd t878 0) p884 q884
                have hw884_3 := hx884_3
                have hw884_2 := hx884_2
                have hw884_1 := hx884_1
                have hw884_0 := hx884_0
                cases e884
                replace hx884_0 := (HB.out.cell (World.block_lt_of_cell? w _ hx884_0)).trans hx884_0
                replace hx884_1 := (HB.out.cell (World.block_lt_of_cell? w _ hx884_1)).trans hx884_1
                replace hx884_2 := (HB.out.cell (World.block_lt_of_cell? w _ hx884_2)).trans hx884_2
                replace hx884_3 := (HB.out.cell (World.block_lt_of_cell? w _ hx884_3)).trans hx884_3
                replace p884 := eq_true p884
                replace q884 := eq_true q884
                have p46 : 0 ≤ (((rd_T67 l0_0 (rd t878 0)).f1) : Int) := of_decide_eq_true (by first | (with_reducible assumption) | assumption)
                have q46 : (((rd_T67 l0_0 (rd t878 0)).f1) : Int) < ((t874.length : Int) : Int) := of_decide_eq_true (by first | (with_reducible assumption) | assumption)
                obtain ⟨go46, co46, eo46, gb46, gl46, cl46, HG46⟩ := Kd.R_form HO876.out (by omega)
                (first | cases eo46 | (injection eo46 with ea_ en_ ec_; (first | subst ea_ | (injection ea_ with ea_; subst ea_)); subst ec_; clear en_))
                have GB46 := Aside0.mk gb46
                have GG46 := Aside0.mk HG46
                clear gb46 gl46 HG46
                obtain ⟨hx46_0, hf46_0⟩ := Kd.R_celln 0 HO876.out (((rd_T67 l0_0 (rd t878 0)).f1) : Int) p46 q46
                replace p46 := eq_true p46
                replace q46 := eq_true q46
                have HP64 := Kd.R_putn HO876.out (((rd_T67 l0_0 (rd t878 0)).f1) : Int) t882
                rw [← Ny885.out] at HP64
                have HQ64 := Aside0.mk HP64
                clear HP64
                refine start_ (n := 13) (S := fun w' => w'.cell? ⟨gb877, 0, none⟩ = some (.slice Ao53 t870.length co53) ∧ w'.cell? ⟨gb877, 1, none⟩ = some (.int .i64 t873) ∧ w'.cell? ⟨gb877, 2, none⟩ = some (.slice (some ⟨go46, 0, none⟩) t874.length co57) ∧ w'.cell? ⟨gb868, 0, none⟩ = some (.slice (some ad884) l0_0.length c0_0) ∧ w'.cell? ⟨gb868, 1, none⟩ = some (.int .i64 a0_1) ∧ w'.cell? ⟨gb868, 2, none⟩ = some (.slice A0_2 l0_2.length c0_2) ∧ w'.cell? ad881 = some (.int .i64 (rd t878 0)) ∧ w'.cell? (ad884.add (((rd t878 0)).toNat * 4)) = some (.int .i64 ((rd_T67 l0_0 (rd t878 0)).f0)) ∧ w'.cell? ⟨(ad884.add (((rd t878 0)).toNat * 4)).block, (ad884.add (((rd t878 0)).toNat * 4)).off + 1, none⟩ = some (.int .i64 ((rd_T67 l0_0 (rd t878 0)).f1)) ∧ w'.cell? ⟨(ad884.add (((rd t878 0)).toNat * 4)).block, (ad884.add (((rd t878 0)).toNat * 4)).off + 2, none⟩ = some (.int .i64 ((rd_T67 l0_0 (rd t878 0)).f2)) ∧ w'.cell? ⟨(ad884.add (((rd t878 0)).toNat * 4)).block, (ad884.add (((rd t878 0)).toNat * 4)).off + 3, none⟩ = some (.int .i64 ((rd_T67 l0_0 (rd t878 0)).f3))) (ds := [12]) #[false, false, false, false, false, false, false, false, false, false, false, false, false] (by kernel_rfl) rfl rfl ⟨(blk_cell BK877.out 0).trans rfl, (blk_cell BK877.out 1).trans rfl, (blk_cell BK877.out 2).trans rfl, (blk_cell BK868.out 0).trans rfl, (blk_cell BK868.out 1).trans rfl, (blk_cell BK868.out 2).trans rfl, hx883_0, ((HB.out.cell (World.block_lt_of_cell? w _ hw884_0)).trans hw884_0), ((HB.out.cell (World.block_lt_of_cell? w _ hw884_1)).trans hw884_1), ((HB.out.cell (World.block_lt_of_cell? w _ hw884_2)).trans hw884_2), ((HB.out.cell (World.block_lt_of_cell? w _ hw884_3)).trans hw884_3)⟩ (fun hHeld => ?_); refine with_tabW impl_MendStep.tab8 impl_MendStep.bits8 (fun HT_ HW_ => ?_)
                generalize w62.drew = w63 at HO872 HO876 HO880 BK868 BK869 BK877 HB GG46 HQ64 hf46_0 hx46_0 hx883_0 hx884_0 hx884_1 hx884_2 hx884_3 hHeld ⊢
                refine pure_ (i := 0) (N := some 23) (v := ?_) (a' := ?_) #[true, false, false, false, false, false, false, false, false, false, false, false, false] rfl rfl (any_of HT_.out (by kernel_rfl)) (fun _ _ _ h => h) (Or.inl ⟨by rfl, ?_⟩) ?_ ?_
                rotate_left
                · intro w'
                  go_simp
                  with_reducible rfl
                rotate_left
                · simp only [Act.put, List.setIfInBounds_toArray, List.set_cons_zero, List.set_cons_succ, i64_w, i32_w]
                  rfl
                refine pure_ (i := 2) (N := some 25) (v := ?_) (a' := ?_) #[true, false, true, false, false, false, false, false, false, false, false, false, false] rfl rfl (any_of HT_.out (by kernel_rfl)) (fun _ _ _ h => h) (Or.inl ⟨by rfl, ?_⟩) ?_ ?_
                rotate_left
                · intro w'
                  go_simp
                  with_reducible rfl
                rotate_left
                · simp only [Act.put, List.setIfInBounds_toArray, List.set_cons_zero, List.set_cons_succ, i64_w, i32_w]
                  rfl
                refine pure_ (i := 4) (N := some 27) (v := ?_) (a' := ?_) #[true, false, true, false, true, false, false, false, false, false, false, false, false] rfl rfl (any_of HT_.out (by kernel_rfl)) (fun _ _ _ h => h) (Or.inl ⟨by rfl, ?_⟩) ?_ ?_
                rotate_left
                · intro w'
                  go_simp
                  with_reducible rfl
                rotate_left
                · simp only [Act.put, List.setIfInBounds_toArray, List.set_cons_zero, List.set_cons_succ, i64_w, i32_w]
                  rfl
                refine pure_ (i := 5) (N := some 28) (v := ?_) (a' := ?_) #[true, false, true, false, true, true, false, false, false, false, false, false, false] rfl rfl (any_of HT_.out (by kernel_rfl)) (fun _ _ _ h => h) (Or.inl ⟨by rfl, ?_⟩) ?_ ?_
                rotate_left
                · intro w'
                  go_simp
                  with_reducible rfl
                rotate_left
                · simp only [Act.put, List.setIfInBounds_toArray, List.set_cons_zero, List.set_cons_succ, i64_w, i32_w]
                  rfl
                refine pure_ (i := 10) (N := some 33) (v := ?_) (a' := ?_) #[true, false, true, false, true, true, false, false, false, false, true, false, false] rfl rfl (any_of HT_.out (by kernel_rfl)) (fun _ _ _ h => h) (Or.inl ⟨by rfl, ?_⟩) ?_ ?_
                rotate_left
                · intro w'
                  go_simp
                  with_reducible rfl
                rotate_left
                · simp only [Act.put, List.setIfInBounds_toArray, List.set_cons_zero, List.set_cons_succ, i64_w, i32_w]
                  rfl
                refine take_ (i := 1) (N := some 24) (v := ?_) (a' := ?_) #[true, true, true, false, true, true, false, false, false, false, true, false, false] rfl rfl (take_ofW HT_.out HW_.out (by kernel_rfl)) (fun _ _ _ h => h) (Or.inl ⟨by rfl, ?_⟩) hHeld ?_ ?_
                rotate_left
                · rintro w' ⟨s0, s1, s2, s3, s4, s5, s6, s7, s8, s9, s10⟩
                  go_simp
                  with_reducible rfl
                rotate_left
                · simp only [Act.put, List.setIfInBounds_toArray, List.set_cons_zero, List.set_cons_succ, i64_w, i32_w]
                  rfl
                refine take_ (i := 3) (N := some 26) (v := ?_) (a' := ?_) #[true, true, true, true, true, true, false, false, false, false, true, false, false] rfl rfl (take_ofW HT_.out HW_.out (by kernel_rfl)) (fun _ _ _ h => h) (Or.inl ⟨by rfl, ?_⟩) hHeld ?_ ?_
                rotate_left
                · rintro w' ⟨s0, s1, s2, s3, s4, s5, s6, s7, s8, s9, s10⟩
                  go_simp
                  with_reducible rfl
                rotate_left
                · simp only [Act.put, List.setIfInBounds_toArray, List.set_cons_zero, List.set_cons_succ, i64_w, i32_w]
                  rfl
                refine take_ (i := 6) (N := some 29) (v := ?_) (a' := ?_) #[true, true, true, true, true, true, true, false, false, false, true, false, false] rfl rfl (take_ofW HT_.out HW_.out (by kernel_rfl)) (fun _ _ _ h => h) (Or.inl ⟨by rfl, ?_⟩) hHeld ?_ ?_
                rotate_left
                · rintro w' ⟨s0, s1, s2, s3, s4, s5, s6, s7, s8, s9, s10⟩
                  go_simp
                  with_reducible rfl
                rotate_left
                · simp only [Act.put, List.setIfInBounds_toArray, List.set_cons_zero, List.set_cons_succ, i64_w, i32_w]
                  rfl
                refine pure_ (i := 7) (N := some 30) (v := ?_) (a' := ?_) #[true, true, true, true, true, true, true, true, false, false, true, false, false] rfl rfl (any_of HT_.out (by kernel_rfl)) (fun _ _ _ h => h) (Or.inl ⟨by rfl, ?_⟩) ?_ ?_
                rotate_left
                · intro w'
                  go_simp
                  with_reducible rfl
                rotate_left
                · simp only [Act.put, List.setIfInBounds_toArray, List.set_cons_zero, List.set_cons_succ, i64_w, i32_w]
                  rfl
                refine pure_ (i := 8) (N := some 31) (v := ?_) (a' := ?_) #[true, true, true, true, true, true, true, true, true, false, true, false, false] rfl rfl (any_of HT_.out (by kernel_rfl)) (fun _ _ _ h => h) (Or.inl ⟨by rfl, ?_⟩) ?_ ?_
                rotate_left
                · intro w'
                  go_simp
                  with_reducible rfl
                rotate_left
                · simp only [Act.put, List.setIfInBounds_toArray, List.set_cons_zero, List.set_cons_succ, i64_w, i32_w]
                  rfl
                refine take_ (i := 9) (N := some 32) (v := ?_) (a' := ?_) #[true, true, true, true, true, true, true, true, true, true, true, false, false] rfl rfl (take_ofW HT_.out HW_.out (by kernel_rfl)) (fun _ _ _ h => h) (Or.inl ⟨by rfl, ?_⟩) hHeld ?_ ?_
                rotate_left
                · rintro w' ⟨s0, s1, s2, s3, s4, s5, s6, s7, s8, s9, s10⟩
                  go_simp
                  with_reducible rfl
                rotate_left
                · simp only [Act.put, List.setIfInBounds_toArray, List.set_cons_zero, List.set_cons_succ, i64_w, i32_w]
                  rfl
                refine pure_ (i := 11) (N := some 34) (v := ?_) (a' := ?_) #[true, true, true, true, true, true, true, true, true, true, true, true, false] rfl rfl (any_of HT_.out (by kernel_rfl)) (fun _ _ _ h => h) (Or.inl ⟨by rfl, ?_⟩) ?_ ?_
                rotate_left
                · intro w'
                  go_simp
                  with_reducible rfl
                rotate_left
                · simp only [Act.put, List.setIfInBounds_toArray, List.set_cons_zero, List.set_cons_succ, i64_w, i32_w]
                  rfl
                refine last_ (i := 12) (N := none) #[true, true, true, true, true, true, true, true, true, true, true, true, true] rfl rfl (one_of HT_.out (by kernel_rfl)) (by decide) (fun K hK => ?_)
                refine skip_ (w1 := ?_) (by rfl) rfl ?_ ?_
                rotate_left
                · go_simp
                  rfl
                refine hK.out _ _ ?_
                clear hK K
                refine done_ (done_of HT_.out (by kernel_rfl)) ?_
                have n0_ : Aside0 (Kd.R k67 67 (w63.setCell ⟨go46, (((rd_T67 l0_0 (rd t878 0)).f1) : Int).toNat, none⟩ (.int .i64 t882)) w.heap.size (fun _ => True) (.slice Ao53 t870.length co53) t870) := ⟨by (with_reducible repeat (first | apply Kd.R_alloc | apply Kd.R_drewN | apply Kd.R_drew)); exact Kd.R_mono (Kd.R_far (p := ⟨go46, (((rd_T67 l0_0 (rd t878 0)).f1) : Int).toNat, none⟩) (Kd.R_types HO872.out GG46.out (by decide)) (fun _ hk => hk.2) (.int .i64 t882)) (fun _ hk => trivial)⟩
                have n1_ : Aside0 (Kd.R (Kd.int .i64) 3 (w63.setCell ⟨go46, (((rd_T67 l0_0 (rd t878 0)).f1) : Int).toNat, none⟩ (.int .i64 t882)) w.heap.size (fun k_ => some k_ ≠ (.slice (some ad881) t878.length co60 : Value).ownBlock) (.slice (some ⟨go46, 0, none⟩) t874.length co57) y885) := ⟨by (with_reducible repeat (first | apply Kd.R_alloc | apply Kd.R_drewN | apply Kd.R_drew)); exact Kd.R_mono HQ64.out (fun _ hk => hk.2)⟩
                have n2_ : Aside0 (Kd.R (Kd.int .i64) 3 (w63.setCell ⟨go46, (((rd_T67 l0_0 (rd t878 0)).f1) : Int).toNat, none⟩ (.int .i64 t882)) w.heap.size (fun k_ => some k_ ≠ (.slice (some ⟨go46, 0, none⟩) t874.length co57 : Value).ownBlock) (.slice (some ad881) t878.length co60) t878) := ⟨by (with_reducible repeat (first | apply Kd.R_alloc | apply Kd.R_drewN | apply Kd.R_drew)); exact Kd.R_mono (Kd.R_far (p := ⟨go46, (((rd_T67 l0_0 (rd t878 0)).f1) : Int).toNat, none⟩) (Kd.R_mono HO880.out (fun k_ hk => (⟨hk, fun e_ => hk.2 (by rw [e_]; rfl)⟩ : _ ∧ k_ ≠ go46))) (fun _ hk => hk.2) (.int .i64 t882)) (fun _ hk => hk.1.2)⟩
                have n3_ : Aside0 ((w63.setCell ⟨go46, (((rd_T67 l0_0 (rd t878 0)).f1) : Int).toNat, none⟩ (.int .i64 t882)).heap[gb868]? = some (.cells #[.slice (some ad884) l0_0.length c0_0, .int .i64 a0_1, .slice A0_2 l0_2.length c0_2] 30 (0, 0))) := ⟨by (with_reducible repeat (first | refine blk_drewN ?_ _ | refine blk_drew ?_ | refine blk_alloc ?_ _)); refine blk_far ?_ (by have h_ := Kd.R_ne HO876.out BK868.out (by decide); intro e_; exact h_ (by rw [e_]; rfl)) _; (with_reducible repeat (first | refine blk_drewN ?_ _ | refine blk_drew ?_ | refine blk_alloc ?_ _)); exact BK868.out⟩
                have n4_ : Aside0 ((w63.setCell ⟨go46, (((rd_T67 l0_0 (rd t878 0)).f1) : Int).toNat, none⟩ (.int .i64 t882)).heap[gb869]? = some (.cells #[.slice none 0 0, .int .i64 0, .slice none 0 0] 30 (0, 0))) := ⟨by (with_reducible repeat (first | refine blk_drewN ?_ _ | refine blk_drew ?_ | refine blk_alloc ?_ _)); refine blk_far ?_ (by have h_ := Kd.R_ne HO876.out BK869.out (by decide); intro e_; exact h_ (by rw [e_]; rfl)) _; (with_reducible repeat (first | refine blk_drewN ?_ _ | refine blk_drew ?_ | refine blk_alloc ?_ _)); exact BK869.out⟩
                have n5_ : Aside0 ((w63.setCell ⟨go46, (((rd_T67 l0_0 (rd t878 0)).f1) : Int).toNat, none⟩ (.int .i64 t882)).heap[gb877]? = some (.cells #[.slice Ao53 t870.length co53, .int .i64 t873, .slice (some ⟨go46, 0, none⟩) t874.length co57] 30 (0, 0))) := ⟨by (with_reducible repeat (first | refine blk_drewN ?_ _ | refine blk_drew ?_ | refine blk_alloc ?_ _)); refine blk_far ?_ (by have h_ := Kd.R_ne HO876.out BK877.out (by decide); intro e_; exact h_ (by rw [e_]; rfl)) _; (with_reducible repeat (first | refine blk_drewN ?_ _ | refine blk_drew ?_ | refine blk_alloc ?_ _)); exact BK877.out⟩
                have n6_ : Aside0 (Below w.heap.size w (w63.setCell ⟨go46, (((rd_T67 l0_0 (rd t878 0)).f1) : Int).toNat, none⟩ (.int .i64 t882))) := ⟨oB HB⟩
                (try clear HO872)
                (try clear HO876)
                (try clear HO880)
                (try clear BK868)
                (try clear BK869)
                (try clear BK877)
                (try clear HB)
                generalize (w63.setCell ⟨go46, (((rd_T67 l0_0 (rd t878 0)).f1) : Int).toNat, none⟩ (.int .i64 t882)) = w65 at n0_ n1_ n2_ n3_ n4_ n5_ n6_ ⊢
                have HO872 := n0_
                have HO876 := n1_
                have HO880 := n2_
                have BK868 := n3_
                have BK869 := n4_
                have BK877 := n5_
                have HB := n6_
                clear n0_ n1_ n2_ n3_ n4_ n5_ n6_
                have hcz66_0 : w65.cell? ⟨gb877, 0, none⟩ = some (.slice Ao53 t870.length co53) := (blk_cell BK877.out 0).trans rfl
                have hcz66_1 : w65.cell? ⟨gb877, 1, none⟩ = some (.int .i64 t873) := (blk_cell BK877.out 1).trans rfl
                have hcz66_2 : w65.cell? ⟨gb877, 2, none⟩ = some (.slice (some ⟨go46, 0, none⟩) t874.length co57) := (blk_cell BK877.out 2).trans rfl
                have hfz66_0 := blk_frozen BK877.out 0
                have hfz66_1 := blk_frozen BK877.out 1
                have hfz66_2 := blk_frozen BK877.out 2
                have hcz67_0 : w65.cell? ⟨gb869, 0, none⟩ = some (.slice none 0 0) := (blk_cell BK869.out 0).trans rfl
                have hcz67_1 : w65.cell? ⟨gb869, 1, none⟩ = some (.int .i64 0) := (blk_cell BK869.out 1).trans rfl
                have hcz67_2 : w65.cell? ⟨gb869, 2, none⟩ = some (.slice none 0 0) := (blk_cell BK869.out 2).trans rfl
                have hfz67_0 := blk_frozen BK869.out 0
                have hfz67_1 := blk_frozen BK869.out 1
                have hfz67_2 := blk_frozen BK869.out 2
                try go_wp2
                refine bodyPost_ret (results_ct rfl _ _ gb869 30 #[.slice Ao53 t870.length co53, .int .i64 t873, .slice (some ⟨go46, 0, none⟩) t874.length co57] (0, 0) _ rfl (by (with_reducible repeat (first | refine blk_drewN ?_ _ | refine blk_drew ?_ | refine blk_alloc ?_ _)); refine blk_put (cs := #[.slice Ao53 t870.length co53, .int .i64 t873, .slice none 0 0]) ?_ 2 _ rfl; (with_reducible repeat (first | refine blk_drewN ?_ _ | refine blk_drew ?_ | refine blk_alloc ?_ _)); refine blk_put (cs := #[.slice Ao53 t870.length co53, .int .i64 0, .slice none 0 0]) ?_ 1 _ rfl; (with_reducible repeat (first | refine blk_drewN ?_ _ | refine blk_drew ?_ | refine blk_alloc ?_ _)); refine blk_put (cs := #[.slice none 0 0, .int .i64 0, .slice none 0 0]) ?_ 0 _ rfl; (with_reducible repeat (first | refine blk_drewN ?_ _ | refine blk_drew ?_ | refine blk_alloc ?_ _)); exact BK869.out) Try.underlying30 rfl (by kernel_rfl)) rfl ?_
                exact ⟨_, _, by first | rfl | (simp [errW_none, errW_some] <;> rfl) | (simp [*, errW_none, errW_some] <;> rfl), by (with_reducible repeat (first | apply Kd.R_alloc | apply Kd.R_drewN | apply Kd.R_drew)); exact Kd.R_mono (Kd.R_far (p := ⟨gb869, 2, none⟩) (Kd.R_far (p := ⟨gb869, 1, none⟩) (Kd.R_far (p := ⟨gb869, 0, none⟩) (Kd.R_types HO872.out BK869.out (by decide)) (fun _ hk => hk.2) (.slice Ao53 t870.length co53)) (fun _ hk => hk.2) (.int .i64 t873)) (fun _ hk => hk.2) (.slice (some ⟨go46, 0, none⟩) t874.length co57)) (fun _ hk => trivial), by (with_reducible repeat (first | apply Kd.R_alloc | apply Kd.R_drewN | apply Kd.R_drew)); exact Kd.R_mono (Kd.R_far (p := ⟨gb869, 2, none⟩) (Kd.R_far (p := ⟨gb869, 1, none⟩) (Kd.R_far (p := ⟨gb869, 0, none⟩) (Kd.R_types HO876.out BK869.out (by decide)) (fun _ hk => hk.2) (.slice Ao53 t870.length co53)) (fun _ hk => hk.2) (.int .i64 t873)) (fun _ hk => hk.2) (.slice (some ⟨go46, 0, none⟩) t874.length co57)) (fun _ hk => trivial), oB HB⟩
              · rw [if_neg c45] at H
                exact absurd H (by simp)
            · rw [if_neg c44] at H
              exact absurd H (by simp)
          · rw [if_neg c43] at H
            exact absurd H (by simp)
        · rw [if_neg c42] at H
          exact absurd H (by simp)
    · rw [if_neg c21] at H
      exact absurd H (by simp)
end Go.Proofs.Ytlhlmjklajdejaa.P


namespace Go.Proofs.Ytlhlmjklajdejaa.P
open Go.RowKit Go.Proofs.YtlhlmjklajdejaaW.PrintWords Go.Proofs.YtlhlmjklajdejaaW.PrintLast Go.Proofs.YtlhlmjklajdejaaW.PrintMore
attribute [local go_sem] max2_int min2_int max_two min_two max_three min_three max_four min_four
set_option linter.unusedVariables false
set_option linter.unusedSimpArgs false
def impl_MendAll.l0 : Nat → Int → List (S67) → Int → List Int → Option ((List (S67)) × Int × List Int × Int)
  | 0, _, _, _, _ => none
  | k + 1, x5, x985000, x985001, x985002 => if x5 < 100 then ((impl_MendStep.f k x985000 x985001 x985002).bind fun bt985 => (if bt985.2.2.2 = true then (impl_MendAll.l0 k (wrap64 (x5 + 1)) bt985.1 bt985.2.1 bt985.2.2.1) else (some (x985000, x985001, x985002, x5)))) else (some (x985000, x985001, x985002, x5))
def impl_MendAll.f (k : Nat) (l0_0 : List (S67)) (a0_1 : Int) (l0_2 : List Int) : Option ((List (S67)) × Int × List Int × Int) := (impl_copyWork.f l0_0 a0_1 l0_2).bind fun bt977 => (impl_MendAll.l0 k 0 bt977.1 bt977.2.1 bt977.2.2)
set_option maxHeartbeats 8000000 in
set_option maxRecDepth 100000 in
theorem impl_MendAll.calls (k : Nat) (A0_0 : Option Addr) (c0_0 : Nat) (l0_0 : List (S67)) (a0_1 : Int) (A0_2 : Option Addr) (c0_2 : Nat) (l0_2 : List Int) (r1 : List (S67)) (r2 : Int) (r3 : List Int) (r4 : Int) (w : World) (hr0_0 : Kd.C k67 w A0_0 l0_0.length l0_0) (hc0_0 : l0_0.length ≤ c0_0) (hr0_2 : Kd.C (Kd.int .i64) w A0_2 l0_2.length l0_2) (hc0_2 : l0_2.length ≤ c0_2) (h : impl_MendAll.f k l0_0 a0_1 l0_2 = some (r1, r2, r3, r4)) :
    Calls Try.prog 46 #[.agg #[.slice A0_0 l0_0.length c0_0, .int .i64 a0_1, .slice A0_2 l0_2.length c0_2]] w fun e w' => ∃ v0_ v2_ : Value, e = .returned (.tuple #[.agg #[v0_, .int .i64 r2, v2_], .int .i64 r4]) ∧ Kd.R k67 67 w' w.heap.size (fun _ => True) v0_ r1 ∧ Kd.R (Kd.int .i64) 3 w' w.heap.size (fun _ => True) v2_ r3 ∧ Below w.heap.size w w' := by
  have hu30 := Try.underlying30
  have HR0_0 := Aside0.mk hr0_0
  have HC0_0 := Aside0.mk hc0_0
  clear hr0_0 hc0_0
  have HR0_2 := Aside0.mk hr0_2
  have HC0_2 := Aside0.mk hc0_2
  clear hr0_2 hc0_2
  have HB := Aside0.mk (Below.refl w.heap.size w)
  have H : ((impl_copyWork.f l0_0 a0_1 l0_2).bind fun bt977 => (impl_MendAll.l0 k 0 bt977.1 bt977.2.1 bt977.2.2)) = some (r1, r2, r3, r4) := h
  clear h
  replace H := Option.bind_eq_some_iff.mp H
  obtain ⟨⟨t977, t980, t981⟩, A20, H⟩ := H
  (try dsimp only at H)
  have A2 := Aside0.mk A20
  clear A20
  have H' := Aside0.mk H
  clear H
  go_enter Try.func46, Try.ntmps46
  go_wp2_with (first | ((with_reducible refine gate_dst (N := 1) rfl ?_); refine box_event ?hg (N := 1) ?hd (cs := #[.slice A0_0 l0_0.length c0_0, .int .i64 a0_1, .slice A0_2 l0_2.length c0_2]) (t := 30) ?hr ?_; (case hd => rfl); (case hg => rfl); (case hr => first | (go_simp; done) | (go_simp; rfl)); intro gb975 hg w3 hbox hb; have n0_ := Aside0.mk (below_step (oB HB) hb); have n1_ := Aside0.mk (hbox); have n2_ := Aside0.mk ((by rw [hg]; exact (below_size (oB HB)) : w.heap.size ≤ gb975)); have n3_ := Aside0.mk ((by rw [hg]; exact (below_size (oB HB)) : w.heap.size ≤ gb975)); clear HB; have HB := n0_; have BK975 := n1_; have GW975 := n2_; have GE975 := n3_; clear n0_ n1_ n2_ n3_; clear hb hbox hg) | ((with_reducible refine gate_dst (N := 2) rfl ?_); refine box_event ?hg (N := 2) ?hd (cs := #[.slice none 0 0, .int .i64 0, .slice none 0 0]) (t := 30) ?hr ?_; (case hd => rfl); (case hg => rfl); (case hr => first | (go_simp; done) | (go_simp; rfl)); intro gb976 hg w4 hbox hb; have n0_ := Aside0.mk (blk_below (g := gb975) (o := .cells #[.slice A0_0 l0_0.length c0_0, .int .i64 a0_1, .slice A0_2 l0_2.length c0_2] 30 (0, 0)) (oK BK975) hb); have n1_ := Aside0.mk (below_step (oB HB) hb); have n2_ := Aside0.mk (hbox); have n3_ := Aside0.mk ((by rw [hg]; exact (below_size (oB HB)) : w.heap.size ≤ gb976)); have n4_ := Aside0.mk ((by rw [hg]; exact (below_size (oB HB)) : w.heap.size ≤ gb976)); have n5_ := Aside0.mk ((by rw [hg]; exact Nat.ne_of_lt (blk_lt (g := gb975) (o := .cells #[.slice A0_0 l0_0.length c0_0, .int .i64 a0_1, .slice A0_2 l0_2.length c0_2] 30 (0, 0)) (oK BK975)) : gb975 ≠ gb976)); have n6_ := Aside0.mk ((by rw [hg]; exact Nat.ne_of_gt (blk_lt (g := gb975) (o := .cells #[.slice A0_0 l0_0.length c0_0, .int .i64 a0_1, .slice A0_2 l0_2.length c0_2] 30 (0, 0)) (oK BK975)) : gb976 ≠ gb975)); clear BK975; clear HB; have BK975 := n0_; have HB := n1_; have BK976 := n2_; have GW976 := n3_; have GE976 := n4_; have NB975_976 := n5_; have NB976_975 := n6_; clear n0_ n1_ n2_ n3_ n4_ n5_ n6_; clear hb hbox hg; have hnb5 := NB975_976.out; have hnc5 := NB976_975.out; have hcz6_0 : w4.cell? ⟨gb975, 0, none⟩ = some (.slice A0_0 l0_0.length c0_0) := (blk_cell BK975.out 0).trans rfl; have hcz6_1 : w4.cell? ⟨gb975, 1, none⟩ = some (.int .i64 a0_1) := (blk_cell BK975.out 1).trans rfl; have hcz6_2 : w4.cell? ⟨gb975, 2, none⟩ = some (.slice A0_2 l0_2.length c0_2) := (blk_cell BK975.out 2).trans rfl; have hfz6_0 := blk_frozen BK975.out 0; have hfz6_1 := blk_frozen BK975.out 1; have hfz6_2 := blk_frozen BK975.out 2) | ((with_reducible refine gate_callee (f := 69) rfl ?_); refine goesL_ (some 9) rfl rfl Try.func69 (by kernel_rfl) rfl #[.agg #[.slice A0_0 l0_0.length c0_0, .int .i64 a0_1, .slice A0_2 l0_2.length c0_2]] rfl (by (try simp only [List.map_toArray, List.map_cons, List.map_nil]); first | done | rfl | (simp only [List.length_drop, List.length_take]; rfl)) ?_; (with_reducible refine (impl_copyWork.calls _ _ l0_0 a0_1 _ _ l0_2 t977 t980 t981 _ ?side1 ?side2 ?side3 ?side4 A2.out).mono ?_); (case side1 => exact oc_ HR0_0.out); (case side2 => exact HC0_0.out); (case side3 => exact oc_ HR0_2.out); (case side4 => exact HC0_2.out); rintro e w7 ⟨v978, v982, rfl, ho0, ho1, hb⟩; refine ⟨_, rfl, ?_⟩; have n0_ := Aside0.mk (Kd.R_lower ho0 (below_size (oB HB))); have n1_ := Aside0.mk (Kd.R_lower ho1 (below_size (oB HB))); have n2_ := Aside0.mk (blk_below (g := gb975) (o := .cells #[.slice A0_0 l0_0.length c0_0, .int .i64 a0_1, .slice A0_2 l0_2.length c0_2] 30 (0, 0)) (oK BK975) hb); have n3_ := Aside0.mk (blk_below (g := gb976) (o := .cells #[.slice none 0 0, .int .i64 0, .slice none 0 0] 30 (0, 0)) (oK BK976) hb); have n4_ := Aside0.mk (below_step (oB HB) hb); clear BK975; clear BK976; clear HB; have HO979 := n0_; have HO983 := n1_; have BK975 := n2_; have BK976 := n3_; have HB := n4_; clear n0_ n1_ n2_ n3_ n4_; (try clear hb); (try clear hb2); (try clear hk); (try clear hi); (try clear ho0); (try clear ho1)) | ((with_reducible refine gate_dst (N := 4) rfl ?_); refine box_event ?hg (N := 4) ?hd (cs := #[.slice none 0 0, .int .i64 0, .slice none 0 0]) (t := 30) ?hr ?_; (case hd => rfl); (case hg => rfl); (case hr => first | (go_simp; done) | (go_simp; rfl)); intro gb984 hg w8 hbox hb; have n0_ := Aside0.mk (Kd.R_below (oR HO979) hb); have n1_ := Aside0.mk (Kd.R_below (oR HO983) hb); have n2_ := Aside0.mk (blk_below (g := gb975) (o := .cells #[.slice A0_0 l0_0.length c0_0, .int .i64 a0_1, .slice A0_2 l0_2.length c0_2] 30 (0, 0)) (oK BK975) hb); have n3_ := Aside0.mk (blk_below (g := gb976) (o := .cells #[.slice none 0 0, .int .i64 0, .slice none 0 0] 30 (0, 0)) (oK BK976) hb); have n4_ := Aside0.mk (below_step (oB HB) hb); have n5_ := Aside0.mk (hbox); have n6_ := Aside0.mk ((by rw [hg]; exact (below_size (oB HB)) : w.heap.size ≤ gb984)); have n7_ := Aside0.mk ((by rw [hg]; exact (below_size (oB HB)) : w.heap.size ≤ gb984)); have n8_ := Aside0.mk ((by rw [hg]; exact Nat.ne_of_lt (blk_lt (g := gb975) (o := .cells #[.slice A0_0 l0_0.length c0_0, .int .i64 a0_1, .slice A0_2 l0_2.length c0_2] 30 (0, 0)) (oK BK975)) : gb975 ≠ gb984)); have n9_ := Aside0.mk ((by rw [hg]; exact Nat.ne_of_gt (blk_lt (g := gb975) (o := .cells #[.slice A0_0 l0_0.length c0_0, .int .i64 a0_1, .slice A0_2 l0_2.length c0_2] 30 (0, 0)) (oK BK975)) : gb984 ≠ gb975)); have n10_ := Aside0.mk ((by rw [hg]; exact Nat.ne_of_lt (blk_lt (g := gb976) (o := .cells #[.slice none 0 0, .int .i64 0, .slice none 0 0] 30 (0, 0)) (oK BK976)) : gb976 ≠ gb984)); have n11_ := Aside0.mk ((by rw [hg]; exact Nat.ne_of_gt (blk_lt (g := gb976) (o := .cells #[.slice none 0 0, .int .i64 0, .slice none 0 0] 30 (0, 0)) (oK BK976)) : gb984 ≠ gb976)); clear HO979; clear HO983; clear BK975; clear BK976; clear HB; have HO979 := n0_; have HO983 := n1_; have BK975 := n2_; have BK976 := n3_; have HB := n4_; have BK984 := n5_; have GW984 := n6_; have GE984 := n7_; have NB975_984 := n8_; have NB984_975 := n9_; have NB976_984 := n10_; have NB984_976 := n11_; clear n0_ n1_ n2_ n3_ n4_ n5_ n6_ n7_ n8_ n9_ n10_ n11_; clear hb hbox hg; obtain ⟨Ao9, co9, eo9⟩ := Kd.R_slice HO979.out; subst eo9; have hnb10 := NB984_975.out; have hnc10 := NB975_984.out; have hnb11 := NB984_976.out; have hnc11 := NB976_984.out; have hcz12_0 : w8.cell? ⟨gb984, 0, none⟩ = some (.slice none 0 0) := (blk_cell BK984.out 0).trans rfl; have hcz12_1 : w8.cell? ⟨gb984, 1, none⟩ = some (.int .i64 0) := (blk_cell BK984.out 1).trans rfl; have hcz12_2 : w8.cell? ⟨gb984, 2, none⟩ = some (.slice none 0 0) := (blk_cell BK984.out 2).trans rfl; have hfz12_0 := blk_frozen BK984.out 0; have hfz12_1 := blk_frozen BK984.out 1; have hfz12_2 := blk_frozen BK984.out 2; obtain ⟨Ao13, co13, eo13⟩ := Kd.R_slice HO983.out; subst eo13))
  go_loopg [5] k (fun kq v5 w' => ∃ (x5_1 : Int) (x985000_1 : List (S67)) (x985001_1 : Int) (x985002_1 : List Int) (u985000 : Value) (u985002 : Value), v5 = .int .i64 x5_1 ∧ Aside0 (impl_MendAll.l0 kq x5_1 x985000_1 x985001_1 x985002_1 = some (r1, r2, r3, r4)) ∧ Aside0 (kq ≤ k) ∧ Aside0 (Kd.R k67 67 w' w.heap.size (fun _ => True) u985000 x985000_1) ∧ Aside0 (Kd.R (Kd.int .i64) 3 w' w.heap.size (fun _ => True) u985002 x985002_1) ∧ Aside0 (w'.heap[gb975]? = some (.cells #[(.slice A0_0 l0_0.length c0_0), .int .i64 a0_1, (.slice A0_2 l0_2.length c0_2)] 30 (0, 0))) ∧ Aside0 (w'.heap[gb976]? = some (.cells #[(.slice none 0 0), .int .i64 0, (.slice none 0 0)] 30 (0, 0))) ∧ Aside0 (w'.heap[gb984]? = some (.cells #[u985000, .int .i64 x985001_1, u985002] 30 (0, 0))) ∧ Aside0 (Below w.heap.size w w'))
  case atStart => exact ⟨(0), (t977), (t980), (t981), (.slice Ao9 t977.length co9), (.slice Ao13 t981.length co13), (by first | rfl | (simp; done) | (simp [*]; done)), H', ⟨Nat.le_refl _⟩, ⟨by (with_reducible repeat (first | apply Kd.R_alloc | apply Kd.R_drewN | apply Kd.R_drew)); exact Kd.R_mono (Kd.R_far (p := ⟨gb984, 2, none⟩) (Kd.R_far (p := ⟨gb984, 1, none⟩) (Kd.R_far (p := ⟨gb984, 0, none⟩) (Kd.R_types HO979.out BK984.out (by decide)) (fun _ hk => hk.2) (.slice Ao9 t977.length co9)) (fun _ hk => hk.2) (.int .i64 t980)) (fun _ hk => hk.2) (.slice Ao13 t981.length co13)) (fun _ hk => trivial)⟩, ⟨by (with_reducible repeat (first | apply Kd.R_alloc | apply Kd.R_drewN | apply Kd.R_drew)); exact Kd.R_mono (Kd.R_far (p := ⟨gb984, 2, none⟩) (Kd.R_far (p := ⟨gb984, 1, none⟩) (Kd.R_far (p := ⟨gb984, 0, none⟩) (Kd.R_types HO983.out BK984.out (by decide)) (fun _ hk => hk.2) (.slice Ao9 t977.length co9)) (fun _ hk => hk.2) (.int .i64 t980)) (fun _ hk => hk.2) (.slice Ao13 t981.length co13)) (fun _ hk => trivial)⟩, ⟨by (with_reducible repeat (first | refine blk_drewN ?_ _ | refine blk_drew ?_ | refine blk_alloc ?_ _)); refine blk_far ?_ NB975_984.out _; (with_reducible repeat (first | refine blk_drewN ?_ _ | refine blk_drew ?_ | refine blk_alloc ?_ _)); refine blk_far ?_ NB975_984.out _; (with_reducible repeat (first | refine blk_drewN ?_ _ | refine blk_drew ?_ | refine blk_alloc ?_ _)); refine blk_far ?_ NB975_984.out _; (with_reducible repeat (first | refine blk_drewN ?_ _ | refine blk_drew ?_ | refine blk_alloc ?_ _)); exact BK975.out⟩, ⟨by (with_reducible repeat (first | refine blk_drewN ?_ _ | refine blk_drew ?_ | refine blk_alloc ?_ _)); refine blk_far ?_ NB976_984.out _; (with_reducible repeat (first | refine blk_drewN ?_ _ | refine blk_drew ?_ | refine blk_alloc ?_ _)); refine blk_far ?_ NB976_984.out _; (with_reducible repeat (first | refine blk_drewN ?_ _ | refine blk_drew ?_ | refine blk_alloc ?_ _)); refine blk_far ?_ NB976_984.out _; (with_reducible repeat (first | refine blk_drewN ?_ _ | refine blk_drew ?_ | refine blk_alloc ?_ _)); exact BK976.out⟩, ⟨by (with_reducible repeat (first | refine blk_drewN ?_ _ | refine blk_drew ?_ | refine blk_alloc ?_ _)); refine blk_put (cs := #[.slice Ao9 t977.length co9, .int .i64 t980, .slice none 0 0]) ?_ 2 _ rfl; (with_reducible repeat (first | refine blk_drewN ?_ _ | refine blk_drew ?_ | refine blk_alloc ?_ _)); refine blk_put (cs := #[.slice Ao9 t977.length co9, .int .i64 0, .slice none 0 0]) ?_ 1 _ rfl; (with_reducible repeat (first | refine blk_drewN ?_ _ | refine blk_drew ?_ | refine blk_alloc ?_ _)); refine blk_put (cs := #[.slice none 0 0, .int .i64 0, .slice none 0 0]) ?_ 0 _ rfl; (with_reducible repeat (first | refine blk_drewN ?_ _ | refine blk_drew ?_ | refine blk_alloc ?_ _)); exact BK984.out⟩, ⟨oB HB⟩⟩
  case round =>
    clear H'
    try clear c1
    try clear p2
    try clear c4
    try clear c5
    try clear c6
    try clear c10
    try clear c11
    try clear hcz12_0
    try clear hcz12_1
    try clear hcz12_2
    try clear hcz6_0
    try clear hcz6_1
    try clear hcz6_2
    try clear hfz12_0
    try clear hfz12_1
    try clear hfz12_2
    try clear hfz6_0
    try clear hfz6_1
    try clear hfz6_2
    obtain ⟨x5_1, x985000_1, x985001_1, x985002_1, u985000, u985002, rfl, HA, HK1, HO_985000, HO_985002, BK975, BK976, BK984, HB⟩ := hrel
    cases gk with
    | zero => exact absurd HA.out (by simp [impl_MendAll.l0])
    | succ k1 =>
      have H := HA.out
      clear HA
      simp only [impl_MendAll.l0] at H
      by_cases c14 : x5_1 < 100
      · rw [if_pos c14] at H
        have c14b0 : decide (x5_1 < 100) = true := decide_eq_true c14
        clear c14
        replace H := Option.bind_eq_some_iff.mp H
        obtain ⟨⟨t985, t988, t989, t992⟩, A150, H⟩ := H
        (try dsimp only at H)
        have A15 := Aside0.mk A150
        clear A150
        by_cases c16 : t992 = true
        · subst c16
          rw [if_pos rfl] at H
          have H' := Aside0.mk H
          clear H
          have hnb17 := NB984_975.out
          have hnc17 := NB975_984.out
          have hnb18 := NB984_976.out
          have hnc18 := NB976_984.out
          have hcz19_0 : wr.cell? ⟨gb984, 0, none⟩ = some (u985000) := (blk_cell BK984.out 0).trans rfl
          have hcz19_1 : wr.cell? ⟨gb984, 1, none⟩ = some (.int .i64 x985001_1) := (blk_cell BK984.out 1).trans rfl
          have hcz19_2 : wr.cell? ⟨gb984, 2, none⟩ = some (u985002) := (blk_cell BK984.out 2).trans rfl
          have hfz19_0 := blk_frozen BK984.out 0
          have hfz19_1 := blk_frozen BK984.out 1
          have hfz19_2 := blk_frozen BK984.out 2
          obtain ⟨Ao20, co20, eo20⟩ := Kd.R_slice HO_985000.out
          subst eo20
          obtain ⟨Ao21, co21, eo21⟩ := Kd.R_slice HO_985002.out
          subst eo21
          go_wp2_with (first | ((with_reducible refine gate_callee (f := 44) rfl ?_); refine goesL_ (some 14) rfl rfl Try.func44 (by kernel_rfl) rfl #[.agg #[.slice Ao20 x985000_1.length co20, .int .i64 x985001_1, .slice Ao21 x985002_1.length co21]] rfl (by (try simp only [List.map_toArray, List.map_cons, List.map_nil]); first | done | rfl | (simp only [List.length_drop, List.length_take]; rfl)) ?_; (with_reducible refine (impl_MendStep.calls k1 _ _ x985000_1 x985001_1 _ _ x985002_1 t985 t988 t989 true _ ?side1 ?side2 ?side3 ?side4 A15.out).mono ?_); (case side1 => repeat (first | exact (Kd.R_reads' HO_985000.out).2.2 | (with_reducible refine Kd.C_alloc ?_ _) | (with_reducible refine Kd.C_drewN ?_ _) | (with_reducible refine Kd.C_drew ?_))); (case side2 => exact (Kd.R_reads' HO_985000.out).2.1); (case side3 => repeat (first | exact (Kd.R_reads' HO_985002.out).2.2 | (with_reducible refine Kd.C_alloc ?_ _) | (with_reducible refine Kd.C_drewN ?_ _) | (with_reducible refine Kd.C_drew ?_))); (case side4 => exact (Kd.R_reads' HO_985002.out).2.1); rintro e w22 ⟨v986, v990, rfl, ho0, ho1, hb⟩; refine ⟨_, rfl, ?_⟩; have n0_ := Aside0.mk (Kd.R_elder' (oR HO_985000) (Kd.R_base ho0) hb); have n1_ := Aside0.mk (Kd.R_elder' (oR HO_985002) (Kd.R_base ho1) hb); have n2_ := Aside0.mk (Kd.R_lower (Kd.R_new' ho0 (Kd.R_lt (oR HO_985000))) (below_size (oB HB))); have n3_ := Aside0.mk (Kd.R_lower (Kd.R_new' ho1 (Kd.R_lt (oR HO_985002))) (below_size (oB HB))); have n4_ := Aside0.mk (blk_below (g := gb975) (o := .cells #[.slice A0_0 l0_0.length c0_0, .int .i64 a0_1, .slice A0_2 l0_2.length c0_2] 30 (0, 0)) (oK BK975) hb); have n5_ := Aside0.mk (blk_below (g := gb976) (o := .cells #[.slice none 0 0, .int .i64 0, .slice none 0 0] 30 (0, 0)) (oK BK976) hb); have n6_ := Aside0.mk (blk_below (g := gb984) (o := .cells #[.slice Ao20 x985000_1.length co20, .int .i64 x985001_1, .slice Ao21 x985002_1.length co21] 30 (0, 0)) (oK BK984) hb); have n7_ := Aside0.mk (below_step (oB HB) hb); clear HO_985000; clear HO_985002; clear BK975; clear BK976; clear BK984; clear HB; have HO_985000 := n0_; have HO_985002 := n1_; have HO987 := n2_; have HO991 := n3_; have BK975 := n4_; have BK976 := n5_; have BK984 := n6_; have HB := n7_; clear n0_ n1_ n2_ n3_ n4_ n5_ n6_ n7_; (try clear hb); (try clear hb2); (try clear hk); (try clear hi); (try clear ho0); (try clear ho1)) | ((with_reducible refine gate_dst (N := 6) rfl ?_); refine box_event ?hg (N := 6) ?hd (cs := #[.slice none 0 0, .int .i64 0, .slice none 0 0]) (t := 30) ?hr ?_; (case hd => rfl); (case hg => rfl); (case hr => first | (go_simp; done) | (go_simp; rfl)); intro gb993 hg w23 hbox hb; have n0_ := Aside0.mk (Kd.R_below (oR HO_985000) hb); have n1_ := Aside0.mk (Kd.R_below (oR HO_985002) hb); have n2_ := Aside0.mk (Kd.R_below (oR HO987) hb); have n3_ := Aside0.mk (Kd.R_below (oR HO991) hb); have n4_ := Aside0.mk (blk_below (g := gb975) (o := .cells #[.slice A0_0 l0_0.length c0_0, .int .i64 a0_1, .slice A0_2 l0_2.length c0_2] 30 (0, 0)) (oK BK975) hb); have n5_ := Aside0.mk (blk_below (g := gb976) (o := .cells #[.slice none 0 0, .int .i64 0, .slice none 0 0] 30 (0, 0)) (oK BK976) hb); have n6_ := Aside0.mk (blk_below (g := gb984) (o := .cells #[.slice Ao20 x985000_1.length co20, .int .i64 x985001_1, .slice Ao21 x985002_1.length co21] 30 (0, 0)) (oK BK984) hb); have n7_ := Aside0.mk (below_step (oB HB) hb); have n8_ := Aside0.mk (hbox); have n9_ := Aside0.mk ((by rw [hg]; exact (below_size (oB HB)) : w.heap.size ≤ gb993)); have n10_ := Aside0.mk ((by rw [hg]; exact (below_size (oB HB)) : w.heap.size ≤ gb993)); have n11_ := Aside0.mk ((by rw [hg]; exact Nat.ne_of_lt (blk_lt (g := gb975) (o := .cells #[.slice A0_0 l0_0.length c0_0, .int .i64 a0_1, .slice A0_2 l0_2.length c0_2] 30 (0, 0)) (oK BK975)) : gb975 ≠ gb993)); have n12_ := Aside0.mk ((by rw [hg]; exact Nat.ne_of_gt (blk_lt (g := gb975) (o := .cells #[.slice A0_0 l0_0.length c0_0, .int .i64 a0_1, .slice A0_2 l0_2.length c0_2] 30 (0, 0)) (oK BK975)) : gb993 ≠ gb975)); have n13_ := Aside0.mk ((by rw [hg]; exact Nat.ne_of_lt (blk_lt (g := gb976) (o := .cells #[.slice none 0 0, .int .i64 0, .slice none 0 0] 30 (0, 0)) (oK BK976)) : gb976 ≠ gb993)); have n14_ := Aside0.mk ((by rw [hg]; exact Nat.ne_of_gt (blk_lt (g := gb976) (o := .cells #[.slice none 0 0, .int .i64 0, .slice none 0 0] 30 (0, 0)) (oK BK976)) : gb993 ≠ gb976)); have n15_ := Aside0.mk ((by rw [hg]; exact Nat.ne_of_lt (blk_lt (g := gb984) (o := .cells #[.slice Ao20 x985000_1.length co20, .int .i64 x985001_1, .slice Ao21 x985002_1.length co21] 30 (0, 0)) (oK BK984)) : gb984 ≠ gb993)); have n16_ := Aside0.mk ((by rw [hg]; exact Nat.ne_of_gt (blk_lt (g := gb984) (o := .cells #[.slice Ao20 x985000_1.length co20, .int .i64 x985001_1, .slice Ao21 x985002_1.length co21] 30 (0, 0)) (oK BK984)) : gb993 ≠ gb984)); clear HO_985000; clear HO_985002; clear HO987; clear HO991; clear BK975; clear BK976; clear BK984; clear HB; have HO_985000 := n0_; have HO_985002 := n1_; have HO987 := n2_; have HO991 := n3_; have BK975 := n4_; have BK976 := n5_; have BK984 := n6_; have HB := n7_; have BK993 := n8_; have GW993 := n9_; have GE993 := n10_; have NB975_993 := n11_; have NB993_975 := n12_; have NB976_993 := n13_; have NB993_976 := n14_; have NB984_993 := n15_; have NB993_984 := n16_; clear n0_ n1_ n2_ n3_ n4_ n5_ n6_ n7_ n8_ n9_ n10_ n11_ n12_ n13_ n14_ n15_ n16_; clear hb hbox hg; obtain ⟨Ao24, co24, eo24⟩ := Kd.R_slice HO987.out; subst eo24; have hnb25 := NB993_975.out; have hnc25 := NB975_993.out; have hnb26 := NB993_976.out; have hnc26 := NB976_993.out; have hnb27 := NB993_984.out; have hnc27 := NB984_993.out; have hcz28_0 : w23.cell? ⟨gb993, 0, none⟩ = some (.slice none 0 0) := (blk_cell BK993.out 0).trans rfl; have hcz28_1 : w23.cell? ⟨gb993, 1, none⟩ = some (.int .i64 0) := (blk_cell BK993.out 1).trans rfl; have hcz28_2 : w23.cell? ⟨gb993, 2, none⟩ = some (.slice none 0 0) := (blk_cell BK993.out 2).trans rfl; have hfz28_0 := blk_frozen BK993.out 0; have hfz28_1 := blk_frozen BK993.out 1; have hfz28_2 := blk_frozen BK993.out 2; obtain ⟨Ao29, co29, eo29⟩ := Kd.R_slice HO991.out; subst eo29; have hcz30_0 : w23.cell? ⟨gb984, 0, none⟩ = some (.slice Ao20 x985000_1.length co20) := (blk_cell BK984.out 0).trans rfl; have hcz30_1 : w23.cell? ⟨gb984, 1, none⟩ = some (.int .i64 x985001_1) := (blk_cell BK984.out 1).trans rfl; have hcz30_2 : w23.cell? ⟨gb984, 2, none⟩ = some (.slice Ao21 x985002_1.length co21) := (blk_cell BK984.out 2).trans rfl; have hfz30_0 := blk_frozen BK984.out 0; have hfz30_1 := blk_frozen BK984.out 1; have hfz30_2 := blk_frozen BK984.out 2))
          go_roundg k1
          case measure => have := HK1.out; omega
          case rel => exact ⟨(wrap64 (x5_1 + 1)), (t985), (t988), (t989), (.slice Ao24 t985.length co24), (.slice Ao29 t989.length co29), (by first | rfl | (simp; done) | (simp [*]; done)), H', ⟨by have := HK1.out; omega⟩, ⟨by (with_reducible repeat (first | apply Kd.R_alloc | apply Kd.R_drewN | apply Kd.R_drew)); exact Kd.R_mono (Kd.R_far (p := ⟨gb984, 2, none⟩) (Kd.R_far (p := ⟨gb984, 1, none⟩) (Kd.R_far (p := ⟨gb984, 0, none⟩) (Kd.R_far (p := ⟨gb993, 2, none⟩) (Kd.R_far (p := ⟨gb993, 1, none⟩) (Kd.R_far (p := ⟨gb993, 0, none⟩) (Kd.R_types (Kd.R_types HO987.out BK993.out (by decide)) BK984.out (by decide)) (fun _ hk => hk.1.2) (.slice Ao24 t985.length co24)) (fun _ hk => hk.1.2) (.int .i64 t988)) (fun _ hk => hk.1.2) (.slice Ao29 t989.length co29)) (fun _ hk => hk.2) (.slice Ao24 t985.length co24)) (fun _ hk => hk.2) (.int .i64 t988)) (fun _ hk => hk.2) (.slice Ao29 t989.length co29)) (fun _ hk => trivial)⟩, ⟨by (with_reducible repeat (first | apply Kd.R_alloc | apply Kd.R_drewN | apply Kd.R_drew)); exact Kd.R_mono (Kd.R_far (p := ⟨gb984, 2, none⟩) (Kd.R_far (p := ⟨gb984, 1, none⟩) (Kd.R_far (p := ⟨gb984, 0, none⟩) (Kd.R_far (p := ⟨gb993, 2, none⟩) (Kd.R_far (p := ⟨gb993, 1, none⟩) (Kd.R_far (p := ⟨gb993, 0, none⟩) (Kd.R_types (Kd.R_types HO991.out BK993.out (by decide)) BK984.out (by decide)) (fun _ hk => hk.1.2) (.slice Ao24 t985.length co24)) (fun _ hk => hk.1.2) (.int .i64 t988)) (fun _ hk => hk.1.2) (.slice Ao29 t989.length co29)) (fun _ hk => hk.2) (.slice Ao24 t985.length co24)) (fun _ hk => hk.2) (.int .i64 t988)) (fun _ hk => hk.2) (.slice Ao29 t989.length co29)) (fun _ hk => trivial)⟩, ⟨by (with_reducible repeat (first | refine blk_drewN ?_ _ | refine blk_drew ?_ | refine blk_alloc ?_ _)); refine blk_far ?_ NB975_984.out _; (with_reducible repeat (first | refine blk_drewN ?_ _ | refine blk_drew ?_ | refine blk_alloc ?_ _)); refine blk_far ?_ NB975_984.out _; (with_reducible repeat (first | refine blk_drewN ?_ _ | refine blk_drew ?_ | refine blk_alloc ?_ _)); refine blk_far ?_ NB975_984.out _; (with_reducible repeat (first | refine blk_drewN ?_ _ | refine blk_drew ?_ | refine blk_alloc ?_ _)); refine blk_far ?_ NB975_993.out _; (with_reducible repeat (first | refine blk_drewN ?_ _ | refine blk_drew ?_ | refine blk_alloc ?_ _)); refine blk_far ?_ NB975_993.out _; (with_reducible repeat (first | refine blk_drewN ?_ _ | refine blk_drew ?_ | refine blk_alloc ?_ _)); refine blk_far ?_ NB975_993.out _; (with_reducible repeat (first | refine blk_drewN ?_ _ | refine blk_drew ?_ | refine blk_alloc ?_ _)); exact BK975.out⟩, ⟨by (with_reducible repeat (first | refine blk_drewN ?_ _ | refine blk_drew ?_ | refine blk_alloc ?_ _)); refine blk_far ?_ NB976_984.out _; (with_reducible repeat (first | refine blk_drewN ?_ _ | refine blk_drew ?_ | refine blk_alloc ?_ _)); refine blk_far ?_ NB976_984.out _; (with_reducible repeat (first | refine blk_drewN ?_ _ | refine blk_drew ?_ | refine blk_alloc ?_ _)); refine blk_far ?_ NB976_984.out _; (with_reducible repeat (first | refine blk_drewN ?_ _ | refine blk_drew ?_ | refine blk_alloc ?_ _)); refine blk_far ?_ NB976_993.out _; (with_reducible repeat (first | refine blk_drewN ?_ _ | refine blk_drew ?_ | refine blk_alloc ?_ _)); refine blk_far ?_ NB976_993.out _; (with_reducible repeat (first | refine blk_drewN ?_ _ | refine blk_drew ?_ | refine blk_alloc ?_ _)); refine blk_far ?_ NB976_993.out _; (with_reducible repeat (first | refine blk_drewN ?_ _ | refine blk_drew ?_ | refine blk_alloc ?_ _)); exact BK976.out⟩, ⟨by (with_reducible repeat (first | refine blk_drewN ?_ _ | refine blk_drew ?_ | refine blk_alloc ?_ _)); refine blk_put (cs := #[.slice Ao24 t985.length co24, .int .i64 t988, .slice Ao21 x985002_1.length co21]) ?_ 2 _ rfl; (with_reducible repeat (first | refine blk_drewN ?_ _ | refine blk_drew ?_ | refine blk_alloc ?_ _)); refine blk_put (cs := #[.slice Ao24 t985.length co24, .int .i64 x985001_1, .slice Ao21 x985002_1.length co21]) ?_ 1 _ rfl; (with_reducible repeat (first | refine blk_drewN ?_ _ | refine blk_drew ?_ | refine blk_alloc ?_ _)); refine blk_put (cs := #[.slice Ao20 x985000_1.length co20, .int .i64 x985001_1, .slice Ao21 x985002_1.length co21]) ?_ 0 _ rfl; (with_reducible repeat (first | refine blk_drewN ?_ _ | refine blk_drew ?_ | refine blk_alloc ?_ _)); refine blk_far ?_ NB984_993.out _; (with_reducible repeat (first | refine blk_drewN ?_ _ | refine blk_drew ?_ | refine blk_alloc ?_ _)); refine blk_far ?_ NB984_993.out _; (with_reducible repeat (first | refine blk_drewN ?_ _ | refine blk_drew ?_ | refine blk_alloc ?_ _)); refine blk_far ?_ NB984_993.out _; (with_reducible repeat (first | refine blk_drewN ?_ _ | refine blk_drew ?_ | refine blk_alloc ?_ _)); exact BK984.out⟩, ⟨oB HB⟩⟩
        · replace c16 := Bool.eq_false_iff.mpr c16
          subst c16
          rw [if_neg (show ¬ (false = true) by decide)] at H
          simp only [Option.some.injEq, Prod.mk.injEq] at H
          obtain ⟨rfl, rfl, rfl, rfl⟩ := H
          have hnb31 := NB984_975.out
          have hnc31 := NB975_984.out
          have hnb32 := NB984_976.out
          have hnc32 := NB976_984.out
          have hcz33_0 : wr.cell? ⟨gb984, 0, none⟩ = some (u985000) := (blk_cell BK984.out 0).trans rfl
          have hcz33_1 : wr.cell? ⟨gb984, 1, none⟩ = some (.int .i64 x985001_1) := (blk_cell BK984.out 1).trans rfl
          have hcz33_2 : wr.cell? ⟨gb984, 2, none⟩ = some (u985002) := (blk_cell BK984.out 2).trans rfl
          have hfz33_0 := blk_frozen BK984.out 0
          have hfz33_1 := blk_frozen BK984.out 1
          have hfz33_2 := blk_frozen BK984.out 2
          obtain ⟨Ao34, co34, eo34⟩ := Kd.R_slice HO_985000.out
          subst eo34
          obtain ⟨Ao35, co35, eo35⟩ := Kd.R_slice HO_985002.out
          subst eo35
          go_wp2_with (first | ((with_reducible refine gate_callee (f := 44) rfl ?_); refine goesL_ (some 14) rfl rfl Try.func44 (by kernel_rfl) rfl #[.agg #[.slice Ao34 x985000_1.length co34, .int .i64 x985001_1, .slice Ao35 x985002_1.length co35]] rfl (by (try simp only [List.map_toArray, List.map_cons, List.map_nil]); first | done | rfl | (simp only [List.length_drop, List.length_take]; rfl)) ?_; (with_reducible refine (impl_MendStep.calls k1 _ _ x985000_1 x985001_1 _ _ x985002_1 t985 t988 t989 false _ ?side1 ?side2 ?side3 ?side4 A15.out).mono ?_); (case side1 => repeat (first | exact (Kd.R_reads' HO_985000.out).2.2 | (with_reducible refine Kd.C_alloc ?_ _) | (with_reducible refine Kd.C_drewN ?_ _) | (with_reducible refine Kd.C_drew ?_))); (case side2 => exact (Kd.R_reads' HO_985000.out).2.1); (case side3 => repeat (first | exact (Kd.R_reads' HO_985002.out).2.2 | (with_reducible refine Kd.C_alloc ?_ _) | (with_reducible refine Kd.C_drewN ?_ _) | (with_reducible refine Kd.C_drew ?_))); (case side4 => exact (Kd.R_reads' HO_985002.out).2.1); rintro e w36 ⟨v986, v990, rfl, ho0, ho1, hb⟩; refine ⟨_, rfl, ?_⟩; have n0_ := Aside0.mk (Kd.R_elder' (oR HO_985000) (Kd.R_base ho0) hb); have n1_ := Aside0.mk (Kd.R_elder' (oR HO_985002) (Kd.R_base ho1) hb); have n2_ := Aside0.mk (Kd.R_lower (Kd.R_new' ho0 (Kd.R_lt (oR HO_985000))) (below_size (oB HB))); have n3_ := Aside0.mk (Kd.R_lower (Kd.R_new' ho1 (Kd.R_lt (oR HO_985002))) (below_size (oB HB))); have n4_ := Aside0.mk (blk_below (g := gb975) (o := .cells #[.slice A0_0 l0_0.length c0_0, .int .i64 a0_1, .slice A0_2 l0_2.length c0_2] 30 (0, 0)) (oK BK975) hb); have n5_ := Aside0.mk (blk_below (g := gb976) (o := .cells #[.slice none 0 0, .int .i64 0, .slice none 0 0] 30 (0, 0)) (oK BK976) hb); have n6_ := Aside0.mk (blk_below (g := gb984) (o := .cells #[.slice Ao34 x985000_1.length co34, .int .i64 x985001_1, .slice Ao35 x985002_1.length co35] 30 (0, 0)) (oK BK984) hb); have n7_ := Aside0.mk (below_step (oB HB) hb); clear HO_985000; clear HO_985002; clear BK975; clear BK976; clear BK984; clear HB; have HO_985000 := n0_; have HO_985002 := n1_; have HO987 := n2_; have HO991 := n3_; have BK975 := n4_; have BK976 := n5_; have BK984 := n6_; have HB := n7_; clear n0_ n1_ n2_ n3_ n4_ n5_ n6_ n7_; (try clear hb); (try clear hb2); (try clear hk); (try clear hi); (try clear ho0); (try clear ho1)) | ((with_reducible refine gate_dst (N := 6) rfl ?_); refine box_event ?hg (N := 6) ?hd (cs := #[.slice none 0 0, .int .i64 0, .slice none 0 0]) (t := 30) ?hr ?_; (case hd => rfl); (case hg => rfl); (case hr => first | (go_simp; done) | (go_simp; rfl)); intro gb993 hg w37 hbox hb; have n0_ := Aside0.mk (Kd.R_below (oR HO_985000) hb); have n1_ := Aside0.mk (Kd.R_below (oR HO_985002) hb); have n2_ := Aside0.mk (Kd.R_below (oR HO987) hb); have n3_ := Aside0.mk (Kd.R_below (oR HO991) hb); have n4_ := Aside0.mk (blk_below (g := gb975) (o := .cells #[.slice A0_0 l0_0.length c0_0, .int .i64 a0_1, .slice A0_2 l0_2.length c0_2] 30 (0, 0)) (oK BK975) hb); have n5_ := Aside0.mk (blk_below (g := gb976) (o := .cells #[.slice none 0 0, .int .i64 0, .slice none 0 0] 30 (0, 0)) (oK BK976) hb); have n6_ := Aside0.mk (blk_below (g := gb984) (o := .cells #[.slice Ao34 x985000_1.length co34, .int .i64 x985001_1, .slice Ao35 x985002_1.length co35] 30 (0, 0)) (oK BK984) hb); have n7_ := Aside0.mk (below_step (oB HB) hb); have n8_ := Aside0.mk (hbox); have n9_ := Aside0.mk ((by rw [hg]; exact (below_size (oB HB)) : w.heap.size ≤ gb993)); have n10_ := Aside0.mk ((by rw [hg]; exact (below_size (oB HB)) : w.heap.size ≤ gb993)); have n11_ := Aside0.mk ((by rw [hg]; exact Nat.ne_of_lt (blk_lt (g := gb975) (o := .cells #[.slice A0_0 l0_0.length c0_0, .int .i64 a0_1, .slice A0_2 l0_2.length c0_2] 30 (0, 0)) (oK BK975)) : gb975 ≠ gb993)); have n12_ := Aside0.mk ((by rw [hg]; exact Nat.ne_of_gt (blk_lt (g := gb975) (o := .cells #[.slice A0_0 l0_0.length c0_0, .int .i64 a0_1, .slice A0_2 l0_2.length c0_2] 30 (0, 0)) (oK BK975)) : gb993 ≠ gb975)); have n13_ := Aside0.mk ((by rw [hg]; exact Nat.ne_of_lt (blk_lt (g := gb976) (o := .cells #[.slice none 0 0, .int .i64 0, .slice none 0 0] 30 (0, 0)) (oK BK976)) : gb976 ≠ gb993)); have n14_ := Aside0.mk ((by rw [hg]; exact Nat.ne_of_gt (blk_lt (g := gb976) (o := .cells #[.slice none 0 0, .int .i64 0, .slice none 0 0] 30 (0, 0)) (oK BK976)) : gb993 ≠ gb976)); have n15_ := Aside0.mk ((by rw [hg]; exact Nat.ne_of_lt (blk_lt (g := gb984) (o := .cells #[.slice Ao34 x985000_1.length co34, .int .i64 x985001_1, .slice Ao35 x985002_1.length co35] 30 (0, 0)) (oK BK984)) : gb984 ≠ gb993)); have n16_ := Aside0.mk ((by rw [hg]; exact Nat.ne_of_gt (blk_lt (g := gb984) (o := .cells #[.slice Ao34 x985000_1.length co34, .int .i64 x985001_1, .slice Ao35 x985002_1.length co35] 30 (0, 0)) (oK BK984)) : gb993 ≠ gb984)); clear HO_985000; clear HO_985002; clear HO987; clear HO991; clear BK975; clear BK976; clear BK984; clear HB; have HO_985000 := n0_; have HO_985002 := n1_; have HO987 := n2_; have HO991 := n3_; have BK975 := n4_; have BK976 := n5_; have BK984 := n6_; have HB := n7_; have BK993 := n8_; have GW993 := n9_; have GE993 := n10_; have NB975_993 := n11_; have NB993_975 := n12_; have NB976_993 := n13_; have NB993_976 := n14_; have NB984_993 := n15_; have NB993_984 := n16_; clear n0_ n1_ n2_ n3_ n4_ n5_ n6_ n7_ n8_ n9_ n10_ n11_ n12_ n13_ n14_ n15_ n16_; clear hb hbox hg; obtain ⟨Ao38, co38, eo38⟩ := Kd.R_slice HO987.out; subst eo38; have hnb39 := NB993_975.out; have hnc39 := NB975_993.out; have hnb40 := NB993_976.out; have hnc40 := NB976_993.out; have hnb41 := NB993_984.out; have hnc41 := NB984_993.out; have hcz42_0 : w37.cell? ⟨gb993, 0, none⟩ = some (.slice none 0 0) := (blk_cell BK993.out 0).trans rfl; have hcz42_1 : w37.cell? ⟨gb993, 1, none⟩ = some (.int .i64 0) := (blk_cell BK993.out 1).trans rfl; have hcz42_2 : w37.cell? ⟨gb993, 2, none⟩ = some (.slice none 0 0) := (blk_cell BK993.out 2).trans rfl; have hfz42_0 := blk_frozen BK993.out 0; have hfz42_1 := blk_frozen BK993.out 1; have hfz42_2 := blk_frozen BK993.out 2; obtain ⟨Ao43, co43, eo43⟩ := Kd.R_slice HO991.out; subst eo43; have hcz44_0 : w37.cell? ⟨gb984, 0, none⟩ = some (.slice Ao34 x985000_1.length co34) := (blk_cell BK984.out 0).trans rfl; have hcz44_1 : w37.cell? ⟨gb984, 1, none⟩ = some (.int .i64 x985001_1) := (blk_cell BK984.out 1).trans rfl; have hcz44_2 : w37.cell? ⟨gb984, 2, none⟩ = some (.slice Ao35 x985002_1.length co35) := (blk_cell BK984.out 2).trans rfl; have hfz44_0 := blk_frozen BK984.out 0; have hfz44_1 := blk_frozen BK984.out 1; have hfz44_2 := blk_frozen BK984.out 2; have hnb45 := NB976_975.out; have hnc45 := NB975_976.out; have hcz46_0 : w37.cell? ⟨gb976, 0, none⟩ = some (.slice none 0 0) := (blk_cell BK976.out 0).trans rfl; have hcz46_1 : w37.cell? ⟨gb976, 1, none⟩ = some (.int .i64 0) := (blk_cell BK976.out 1).trans rfl; have hcz46_2 : w37.cell? ⟨gb976, 2, none⟩ = some (.slice none 0 0) := (blk_cell BK976.out 2).trans rfl; have hfz46_0 := blk_frozen BK976.out 0; have hfz46_1 := blk_frozen BK976.out 1; have hfz46_2 := blk_frozen BK976.out 2))
          refine bodyPost_ret (results_ct rfl _ _ gb976 30 #[.slice Ao34 x985000_1.length co34, .int .i64 x985001_1, .slice Ao35 x985002_1.length co35] (0, 0) _ rfl (by (with_reducible repeat (first | refine blk_drewN ?_ _ | refine blk_drew ?_ | refine blk_alloc ?_ _)); refine blk_put (cs := #[.slice Ao34 x985000_1.length co34, .int .i64 x985001_1, .slice none 0 0]) ?_ 2 _ rfl; (with_reducible repeat (first | refine blk_drewN ?_ _ | refine blk_drew ?_ | refine blk_alloc ?_ _)); refine blk_put (cs := #[.slice Ao34 x985000_1.length co34, .int .i64 0, .slice none 0 0]) ?_ 1 _ rfl; (with_reducible repeat (first | refine blk_drewN ?_ _ | refine blk_drew ?_ | refine blk_alloc ?_ _)); refine blk_put (cs := #[.slice none 0 0, .int .i64 0, .slice none 0 0]) ?_ 0 _ rfl; (with_reducible repeat (first | refine blk_drewN ?_ _ | refine blk_drew ?_ | refine blk_alloc ?_ _)); refine blk_far ?_ NB976_993.out _; (with_reducible repeat (first | refine blk_drewN ?_ _ | refine blk_drew ?_ | refine blk_alloc ?_ _)); refine blk_far ?_ NB976_993.out _; (with_reducible repeat (first | refine blk_drewN ?_ _ | refine blk_drew ?_ | refine blk_alloc ?_ _)); refine blk_far ?_ NB976_993.out _; (with_reducible repeat (first | refine blk_drewN ?_ _ | refine blk_drew ?_ | refine blk_alloc ?_ _)); exact BK976.out) Try.underlying30 rfl (by kernel_rfl)) rfl ?_
          exact ⟨_, _, by first | rfl | (simp [errW_none, errW_some] <;> rfl) | (simp [*, errW_none, errW_some] <;> rfl), by (with_reducible repeat (first | apply Kd.R_alloc | apply Kd.R_drewN | apply Kd.R_drew)); exact Kd.R_mono (Kd.R_far (p := ⟨gb976, 2, none⟩) (Kd.R_far (p := ⟨gb976, 1, none⟩) (Kd.R_far (p := ⟨gb976, 0, none⟩) (Kd.R_far (p := ⟨gb993, 2, none⟩) (Kd.R_far (p := ⟨gb993, 1, none⟩) (Kd.R_far (p := ⟨gb993, 0, none⟩) (Kd.R_types (Kd.R_types HO_985000.out BK993.out (by decide)) BK976.out (by decide)) (fun _ hk => hk.1.2) (.slice Ao38 t985.length co38)) (fun _ hk => hk.1.2) (.int .i64 t988)) (fun _ hk => hk.1.2) (.slice Ao43 t989.length co43)) (fun _ hk => hk.2) (.slice Ao34 x985000_1.length co34)) (fun _ hk => hk.2) (.int .i64 x985001_1)) (fun _ hk => hk.2) (.slice Ao35 x985002_1.length co35)) (fun _ hk => trivial), by (with_reducible repeat (first | apply Kd.R_alloc | apply Kd.R_drewN | apply Kd.R_drew)); exact Kd.R_mono (Kd.R_far (p := ⟨gb976, 2, none⟩) (Kd.R_far (p := ⟨gb976, 1, none⟩) (Kd.R_far (p := ⟨gb976, 0, none⟩) (Kd.R_far (p := ⟨gb993, 2, none⟩) (Kd.R_far (p := ⟨gb993, 1, none⟩) (Kd.R_far (p := ⟨gb993, 0, none⟩) (Kd.R_types (Kd.R_types HO_985002.out BK993.out (by decide)) BK976.out (by decide)) (fun _ hk => hk.1.2) (.slice Ao38 t985.length co38)) (fun _ hk => hk.1.2) (.int .i64 t988)) (fun _ hk => hk.1.2) (.slice Ao43 t989.length co43)) (fun _ hk => hk.2) (.slice Ao34 x985000_1.length co34)) (fun _ hk => hk.2) (.int .i64 x985001_1)) (fun _ hk => hk.2) (.slice Ao35 x985002_1.length co35)) (fun _ hk => trivial), oB HB⟩
      · rw [if_neg c14] at H
        have c14b0 : decide (x5_1 < 100) = false := decide_eq_false c14
        clear c14
        simp only [Option.some.injEq, Prod.mk.injEq] at H
        obtain ⟨rfl, rfl, rfl, rfl⟩ := H
        have hnb47 := NB984_975.out
        have hnc47 := NB975_984.out
        have hnb48 := NB984_976.out
        have hnc48 := NB976_984.out
        have hcz49_0 : wr.cell? ⟨gb984, 0, none⟩ = some (u985000) := (blk_cell BK984.out 0).trans rfl
        have hcz49_1 : wr.cell? ⟨gb984, 1, none⟩ = some (.int .i64 x985001_1) := (blk_cell BK984.out 1).trans rfl
        have hcz49_2 : wr.cell? ⟨gb984, 2, none⟩ = some (u985002) := (blk_cell BK984.out 2).trans rfl
        have hfz49_0 := blk_frozen BK984.out 0
        have hfz49_1 := blk_frozen BK984.out 1
        have hfz49_2 := blk_frozen BK984.out 2
        obtain ⟨Ao50, co50, eo50⟩ := Kd.R_slice HO_985000.out
        subst eo50
        have hnb51 := NB976_975.out
        have hnc51 := NB975_976.out
        have hcz52_0 : wr.cell? ⟨gb976, 0, none⟩ = some (.slice none 0 0) := (blk_cell BK976.out 0).trans rfl
        have hcz52_1 : wr.cell? ⟨gb976, 1, none⟩ = some (.int .i64 0) := (blk_cell BK976.out 1).trans rfl
        have hcz52_2 : wr.cell? ⟨gb976, 2, none⟩ = some (.slice none 0 0) := (blk_cell BK976.out 2).trans rfl
        have hfz52_0 := blk_frozen BK976.out 0
        have hfz52_1 := blk_frozen BK976.out 1
        have hfz52_2 := blk_frozen BK976.out 2
        obtain ⟨Ao53, co53, eo53⟩ := Kd.R_slice HO_985002.out
        subst eo53
        go_wp2
        refine bodyPost_ret (results_ct rfl _ _ gb976 30 #[.slice Ao50 x985000_1.length co50, .int .i64 x985001_1, .slice Ao53 x985002_1.length co53] (0, 0) _ rfl (by (with_reducible repeat (first | refine blk_drewN ?_ _ | refine blk_drew ?_ | refine blk_alloc ?_ _)); refine blk_put (cs := #[.slice Ao50 x985000_1.length co50, .int .i64 x985001_1, .slice none 0 0]) ?_ 2 _ rfl; (with_reducible repeat (first | refine blk_drewN ?_ _ | refine blk_drew ?_ | refine blk_alloc ?_ _)); refine blk_put (cs := #[.slice Ao50 x985000_1.length co50, .int .i64 0, .slice none 0 0]) ?_ 1 _ rfl; (with_reducible repeat (first | refine blk_drewN ?_ _ | refine blk_drew ?_ | refine blk_alloc ?_ _)); refine blk_put (cs := #[.slice none 0 0, .int .i64 0, .slice none 0 0]) ?_ 0 _ rfl; (with_reducible repeat (first | refine blk_drewN ?_ _ | refine blk_drew ?_ | refine blk_alloc ?_ _)); exact BK976.out) Try.underlying30 rfl (by kernel_rfl)) rfl ?_
        exact ⟨_, _, by first | rfl | (simp [errW_none, errW_some] <;> rfl) | (simp [*, errW_none, errW_some] <;> rfl), by (with_reducible repeat (first | apply Kd.R_alloc | apply Kd.R_drewN | apply Kd.R_drew)); exact Kd.R_mono (Kd.R_far (p := ⟨gb976, 2, none⟩) (Kd.R_far (p := ⟨gb976, 1, none⟩) (Kd.R_far (p := ⟨gb976, 0, none⟩) (Kd.R_types HO_985000.out BK976.out (by decide)) (fun _ hk => hk.2) (.slice Ao50 x985000_1.length co50)) (fun _ hk => hk.2) (.int .i64 x985001_1)) (fun _ hk => hk.2) (.slice Ao53 x985002_1.length co53)) (fun _ hk => trivial), by (with_reducible repeat (first | apply Kd.R_alloc | apply Kd.R_drewN | apply Kd.R_drew)); exact Kd.R_mono (Kd.R_far (p := ⟨gb976, 2, none⟩) (Kd.R_far (p := ⟨gb976, 1, none⟩) (Kd.R_far (p := ⟨gb976, 0, none⟩) (Kd.R_types HO_985002.out BK976.out (by decide)) (fun _ hk => hk.2) (.slice Ao50 x985000_1.length co50)) (fun _ hk => hk.2) (.int .i64 x985001_1)) (fun _ hk => hk.2) (.slice Ao53 x985002_1.length co53)) (fun _ hk => trivial), oB HB⟩
end Go.Proofs.Ytlhlmjklajdejaa.P

