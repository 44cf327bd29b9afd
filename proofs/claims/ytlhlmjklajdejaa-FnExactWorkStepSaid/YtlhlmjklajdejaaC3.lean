/- What functions of the program come to (f), that their calls come to just this (calls), and the plain laws over lists and numbers. No condition but those of the given row. -/
import Derived.Test.YtlhlmjklajdejaaC2
namespace Go.Proofs.Ytlhlmjklajdejaa.P
open Go.RowKit Go.Proofs.YtlhlmjklajdejaaW.PrintWords Go.Proofs.YtlhlmjklajdejaaW.PrintLast Go.Proofs.YtlhlmjklajdejaaW.PrintMore
attribute [local go_sem] max2_int min2_int max_two min_two max_three min_three max_four min_four
set_option linter.unusedVariables false
set_option linter.unusedSimpArgs false
def impl_WorkStep.j0 : Nat → Bool → List (S67) → Int → List Int → List (S67) → Int → List Int → Option ((List (S67)) × Int × List Int × Bool)
  | 0, _, _, _, _, _, _, _ => none
  | k + 1, x18, x661000, x661001, x661002, x670000, x670001, x670002 => if x18 = true then (some (x670000, x670001, x670002, false)) else ((impl_tunedBy.f k x661000 x661001 x661002 x661001).bind fun t671 => (if t671 = 0 then (some (x670000, x670001, x670002, false)) else (if 0 ≤ x661001 then (if x661001 < (x661000.length : Int) then (if 0 ≤ ((rd_T67 x661000 x661001).f1) then (if ((rd_T67 x661000 x661001).f1) < (x670002.length : Int) then (some (x670000, wrap64 (x670001 + 1), (x670002.set (((rd_T67 x661000 x661001).f1) : Int).toNat t671), true)) else (none)) else (none)) else (none)) else (none))))
def impl_WorkStep.f (k : Nat) (l0_0 : List (S67)) (a0_1 : Int) (l0_2 : List Int) : Option ((List (S67)) × Int × List Int × Bool) := (impl_copyWork.f l0_0 a0_1 l0_2).bind fun bt662 => ((impl_WorkOk.f l0_0 a0_1 l0_2).bind fun t670 => (if t670 = true then (impl_WorkStep.j0 k (a0_1 == (l0_0.length : Int)) l0_0 a0_1 l0_2 bt662.1 bt662.2.1 bt662.2.2) else (impl_WorkStep.j0 k true l0_0 a0_1 l0_2 bt662.1 bt662.2.1 bt662.2.2)))
def impl_WorkStep.T7 : Bool × List (List Nat × List Nat) := (true, [([], []), ([0], [0]), ([], []), ([2], [2]), ([], []), ([4], [4]), ([3, 5], [3, 5]), ([6], [6]), ([7], [7]), ([], []), ([1, 8, 0, 1, 2, 3, 4, 5, 6, 7, 8, 9], [1, 8]), ([10, 9, 0, 1, 2, 3, 4, 5, 6, 7, 8, 9], [9, 10])])
def impl_WorkStep.B7 : List Nat := [0, 1, 0, 4, 0, 16, 60, 124, 252, 0, 1023, 2047]
theorem impl_WorkStep.tab7 : rtab .any (opsOf Try.f40 7) = impl_WorkStep.T7 := by kernel_rfl
theorem impl_WorkStep.bits7 : waitsOk impl_WorkStep.T7.2 impl_WorkStep.B7 = true := by kernel_rfl
set_option maxHeartbeats 8000000 in
set_option maxRecDepth 100000 in
theorem impl_WorkStep.calls (k : Nat) (A0_0 : Option Addr) (c0_0 : Nat) (l0_0 : List (S67)) (a0_1 : Int) (A0_2 : Option Addr) (c0_2 : Nat) (l0_2 : List Int) (r1 : List (S67)) (r2 : Int) (r3 : List Int) (r4 : Bool) (w : World) (hr0_0 : Kd.C k67 w A0_0 l0_0.length l0_0) (hc0_0 : l0_0.length ≤ c0_0) (hr0_2 : Kd.C (Kd.int .i64) w A0_2 l0_2.length l0_2) (hc0_2 : l0_2.length ≤ c0_2) (h : impl_WorkStep.f k l0_0 a0_1 l0_2 = some (r1, r2, r3, r4)) :
    Calls Try.prog 40 #[.agg #[.slice A0_0 l0_0.length c0_0, .int .i64 a0_1, .slice A0_2 l0_2.length c0_2]] w fun e w' => ∃ v0_ v2_ : Value, e = .returned (.tuple #[.agg #[v0_, .int .i64 r2, v2_], .bool r4]) ∧ Kd.R k67 67 w' w.heap.size (fun _ => True) v0_ r1 ∧ Kd.R (Kd.int .i64) 3 w' w.heap.size (fun _ => True) v2_ r3 ∧ Below w.heap.size w w' := by
  have hu30 := Try.underlying30
  have HR0_0 := Aside0.mk hr0_0
  have HC0_0 := Aside0.mk hc0_0
  clear hr0_0 hc0_0
  have HR0_2 := Aside0.mk hr0_2
  have HC0_2 := Aside0.mk hc0_2
  clear hr0_2 hc0_2
  have HB := Aside0.mk (Below.refl w.heap.size w)
  have H : ((impl_copyWork.f l0_0 a0_1 l0_2).bind fun bt662 => ((impl_WorkOk.f l0_0 a0_1 l0_2).bind fun t670 => (if t670 = true then (impl_WorkStep.j0 k (a0_1 == (l0_0.length : Int)) l0_0 a0_1 l0_2 bt662.1 bt662.2.1 bt662.2.2) else (impl_WorkStep.j0 k true l0_0 a0_1 l0_2 bt662.1 bt662.2.1 bt662.2.2)))) = some (r1, r2, r3, r4) := h
  clear h
  replace H := Option.bind_eq_some_iff.mp H
  obtain ⟨⟨t662, t665, t666⟩, A20, H⟩ := H
  (try dsimp only at H)
  have A2 := Aside0.mk A20
  clear A20
  have HC3 := Aside0.mk H
  clear H
  go_enter Try.func40, Try.ntmps40
  go_upto_region 2 with (first | ((with_reducible refine gate_dst (N := 1) rfl ?_); (try (refine gate_guard (by rfl) ?_; dsimp only)); refine box_event ?hg (N := 1) ?hd (cs := #[.slice A0_0 l0_0.length c0_0, .int .i64 a0_1, .slice A0_2 l0_2.length c0_2]) (t := 30) ?hr ?_; (case hd => rfl); (case hg => rfl); (case hr => first | (go_simp; done) | (go_simp; rfl)); intro gb660 hg w4 hbox hb; have n0_ := Aside0.mk (below_step (oB HB) hb); have n1_ := Aside0.mk (hbox); have n2_ := Aside0.mk ((by rw [hg]; exact (below_size (oB HB)) : w.heap.size ≤ gb660)); have n3_ := Aside0.mk ((by rw [hg]; exact (below_size (oB HB)) : w.heap.size ≤ gb660)); clear HB; have HB := n0_; have BK660 := n1_; have GW660 := n2_; have GE660 := n3_; clear n0_ n1_ n2_ n3_; clear hb hbox hg) | ((with_reducible refine gate_dst (N := 2) rfl ?_); (try (refine gate_guard (by rfl) ?_; dsimp only)); refine box_event ?hg (N := 2) ?hd (cs := #[.slice none 0 0, .int .i64 0, .slice none 0 0]) (t := 30) ?hr ?_; (case hd => rfl); (case hg => rfl); (case hr => first | (go_simp; done) | (go_simp; rfl)); intro gb661 hg w5 hbox hb; have n0_ := Aside0.mk (blk_below (g := gb660) (o := .cells #[.slice A0_0 l0_0.length c0_0, .int .i64 a0_1, .slice A0_2 l0_2.length c0_2] 30 (0, 0)) (oK BK660) hb); have n1_ := Aside0.mk (below_step (oB HB) hb); have n2_ := Aside0.mk (hbox); have n3_ := Aside0.mk ((by rw [hg]; exact (below_size (oB HB)) : w.heap.size ≤ gb661)); have n4_ := Aside0.mk ((by rw [hg]; exact (below_size (oB HB)) : w.heap.size ≤ gb661)); have n5_ := Aside0.mk ((by rw [hg]; exact Nat.ne_of_lt (blk_lt (g := gb660) (o := .cells #[.slice A0_0 l0_0.length c0_0, .int .i64 a0_1, .slice A0_2 l0_2.length c0_2] 30 (0, 0)) (oK BK660)) : gb660 ≠ gb661)); have n6_ := Aside0.mk ((by rw [hg]; exact Nat.ne_of_gt (blk_lt (g := gb660) (o := .cells #[.slice A0_0 l0_0.length c0_0, .int .i64 a0_1, .slice A0_2 l0_2.length c0_2] 30 (0, 0)) (oK BK660)) : gb661 ≠ gb660)); clear BK660; clear HB; have BK660 := n0_; have HB := n1_; have BK661 := n2_; have GW661 := n3_; have GE661 := n4_; have NB660_661 := n5_; have NB661_660 := n6_; clear n0_ n1_ n2_ n3_ n4_ n5_ n6_; clear hb hbox hg; have hnb6 := NB660_661.out; have hnc6 := NB661_660.out; have hcz7_0 : w5.cell? ⟨gb660, 0, none⟩ = some (.slice A0_0 l0_0.length c0_0) := (blk_cell BK660.out 0).trans rfl; have hcz7_1 : w5.cell? ⟨gb660, 1, none⟩ = some (.int .i64 a0_1) := (blk_cell BK660.out 1).trans rfl; have hcz7_2 : w5.cell? ⟨gb660, 2, none⟩ = some (.slice A0_2 l0_2.length c0_2) := (blk_cell BK660.out 2).trans rfl; have hfz7_0 := blk_frozen BK660.out 0; have hfz7_1 := blk_frozen BK660.out 1; have hfz7_2 := blk_frozen BK660.out 2) | ((with_reducible refine gate_callee (f := 69) rfl ?_); refine goesL_ (some 7) rfl rfl Try.func69 (by kernel_rfl) rfl #[.agg #[.slice A0_0 l0_0.length c0_0, .int .i64 a0_1, .slice A0_2 l0_2.length c0_2]] rfl (by (try simp only [List.map_toArray, List.map_cons, List.map_nil]); first | done | rfl | (simp only [List.length_drop, List.length_take]; rfl)) ?_; (with_reducible refine (impl_copyWork.calls _ _ l0_0 a0_1 _ _ l0_2 t662 t665 t666 _ ?side1 ?side2 ?side3 ?side4 A2.out).mono ?_); (case side1 => exact oc_ HR0_0.out); (case side2 => exact HC0_0.out); (case side3 => exact oc_ HR0_2.out); (case side4 => exact HC0_2.out); rintro e w8 ⟨v663, v667, rfl, ho0, ho1, hb⟩; refine ⟨_, rfl, ?_⟩; have n0_ := Aside0.mk (Kd.R_lower ho0 (below_size (oB HB))); have n1_ := Aside0.mk (Kd.R_lower ho1 (below_size (oB HB))); have n2_ := Aside0.mk (blk_below (g := gb660) (o := .cells #[.slice A0_0 l0_0.length c0_0, .int .i64 a0_1, .slice A0_2 l0_2.length c0_2] 30 (0, 0)) (oK BK660) hb); have n3_ := Aside0.mk (blk_below (g := gb661) (o := .cells #[.slice none 0 0, .int .i64 0, .slice none 0 0] 30 (0, 0)) (oK BK661) hb); have n4_ := Aside0.mk (below_step (oB HB) hb); clear BK660; clear BK661; clear HB; have HO664 := n0_; have HO668 := n1_; have BK660 := n2_; have BK661 := n3_; have HB := n4_; clear n0_ n1_ n2_ n3_ n4_; (try clear hb); (try clear hb2); (try clear hk); (try clear hi); (try clear ho0); (try clear ho1)) | ((with_reducible refine gate_dst (N := 4) rfl ?_); (try (refine gate_guard (by rfl) ?_; dsimp only)); refine box_event ?hg (N := 4) ?hd (cs := #[.slice none 0 0, .int .i64 0, .slice none 0 0]) (t := 30) ?hr ?_; (case hd => rfl); (case hg => rfl); (case hr => first | (go_simp; done) | (go_simp; rfl)); intro gb669 hg w9 hbox hb; have n0_ := Aside0.mk (Kd.R_below (oR HO664) hb); have n1_ := Aside0.mk (Kd.R_below (oR HO668) hb); have n2_ := Aside0.mk (blk_below (g := gb660) (o := .cells #[.slice A0_0 l0_0.length c0_0, .int .i64 a0_1, .slice A0_2 l0_2.length c0_2] 30 (0, 0)) (oK BK660) hb); have n3_ := Aside0.mk (blk_below (g := gb661) (o := .cells #[.slice none 0 0, .int .i64 0, .slice none 0 0] 30 (0, 0)) (oK BK661) hb); have n4_ := Aside0.mk (below_step (oB HB) hb); have n5_ := Aside0.mk (hbox); have n6_ := Aside0.mk ((by rw [hg]; exact (below_size (oB HB)) : w.heap.size ≤ gb669)); have n7_ := Aside0.mk ((by rw [hg]; exact (below_size (oB HB)) : w.heap.size ≤ gb669)); have n8_ := Aside0.mk ((by rw [hg]; exact Nat.ne_of_lt (blk_lt (g := gb660) (o := .cells #[.slice A0_0 l0_0.length c0_0, .int .i64 a0_1, .slice A0_2 l0_2.length c0_2] 30 (0, 0)) (oK BK660)) : gb660 ≠ gb669)); have n9_ := Aside0.mk ((by rw [hg]; exact Nat.ne_of_gt (blk_lt (g := gb660) (o := .cells #[.slice A0_0 l0_0.length c0_0, .int .i64 a0_1, .slice A0_2 l0_2.length c0_2] 30 (0, 0)) (oK BK660)) : gb669 ≠ gb660)); have n10_ := Aside0.mk ((by rw [hg]; exact Nat.ne_of_lt (blk_lt (g := gb661) (o := .cells #[.slice none 0 0, .int .i64 0, .slice none 0 0] 30 (0, 0)) (oK BK661)) : gb661 ≠ gb669)); have n11_ := Aside0.mk ((by rw [hg]; exact Nat.ne_of_gt (blk_lt (g := gb661) (o := .cells #[.slice none 0 0, .int .i64 0, .slice none 0 0] 30 (0, 0)) (oK BK661)) : gb669 ≠ gb661)); clear HO664; clear HO668; clear BK660; clear BK661; clear HB; have HO664 := n0_; have HO668 := n1_; have BK660 := n2_; have BK661 := n3_; have HB := n4_; have BK669 := n5_; have GW669 := n6_; have GE669 := n7_; have NB660_669 := n8_; have NB669_660 := n9_; have NB661_669 := n10_; have NB669_661 := n11_; clear n0_ n1_ n2_ n3_ n4_ n5_ n6_ n7_ n8_ n9_ n10_ n11_; clear hb hbox hg; obtain ⟨Ao10, co10, eo10⟩ := Kd.R_slice HO664.out; subst eo10; have hnb11 := NB669_660.out; have hnc11 := NB660_669.out; have hnb12 := NB669_661.out; have hnc12 := NB661_669.out; have hcz13_0 : w9.cell? ⟨gb669, 0, none⟩ = some (.slice none 0 0) := (blk_cell BK669.out 0).trans rfl; have hcz13_1 : w9.cell? ⟨gb669, 1, none⟩ = some (.int .i64 0) := (blk_cell BK669.out 1).trans rfl; have hcz13_2 : w9.cell? ⟨gb669, 2, none⟩ = some (.slice none 0 0) := (blk_cell BK669.out 2).trans rfl; have hfz13_0 := blk_frozen BK669.out 0; have hfz13_1 := blk_frozen BK669.out 1; have hfz13_2 := blk_frozen BK669.out 2; obtain ⟨Ao14, co14, eo14⟩ := Kd.R_slice HO668.out; subst eo14))
  (try simp only [Act.put, List.setIfInBounds_toArray, List.set_cons_zero, List.set_cons_succ])
  go_cut [18] (fun v18 wc => ∃ (kq : Nat) (x18_2 : Bool), v18 = .bool x18_2 ∧ Aside0 (impl_WorkStep.j0 kq x18_2 l0_0 a0_1 l0_2 t662 t665 t666 = some (r1, r2, r3, r4)) ∧ Aside0 (kq ≤ k) ∧ Aside0 (Kd.R k67 67 wc w.heap.size (fun _ => True) (.slice Ao10 t662.length co10) t662) ∧ Aside0 (Kd.R (Kd.int .i64) 3 wc w.heap.size (fun _ => True) (.slice Ao14 t666.length co14) t666) ∧ Aside0 (wc.heap[gb660]? = some (.cells #[(.slice A0_0 l0_0.length c0_0), .int .i64 a0_1, (.slice A0_2 l0_2.length c0_2)] 30 (0, 0))) ∧ Aside0 (wc.heap[gb661]? = some (.cells #[(.slice none 0 0), .int .i64 0, (.slice none 0 0)] 30 (0, 0))) ∧ Aside0 (wc.heap[gb669]? = some (.cells #[(.slice Ao10 t662.length co10), .int .i64 t665, (.slice Ao14 t666.length co14)] 30 (0, 0))) ∧ Aside0 (Below w.heap.size w wc))
  case first =>
    have H := HC3.out
    clear HC3
    replace H := Option.bind_eq_some_iff.mp H
    obtain ⟨t670, A150, H⟩ := H
    (try dsimp only at H)
    have A15 := Aside0.mk A150
    clear A150
    by_cases c16 : t670 = true
    · subst c16
      rw [if_pos rfl] at H
      have H' := Aside0.mk H
      clear H
      have hnb17 := NB660_661.out
      have hnc17 := NB661_660.out
      have hnb18 := NB660_669.out
      have hnc18 := NB669_660.out
      have hcz19_0 : w9.cell? ⟨gb660, 0, none⟩ = some (.slice A0_0 l0_0.length c0_0) := (blk_cell BK660.out 0).trans rfl
      have hcz19_1 : w9.cell? ⟨gb660, 1, none⟩ = some (.int .i64 a0_1) := (blk_cell BK660.out 1).trans rfl
      have hcz19_2 : w9.cell? ⟨gb660, 2, none⟩ = some (.slice A0_2 l0_2.length c0_2) := (blk_cell BK660.out 2).trans rfl
      have hfz19_0 := blk_frozen BK660.out 0
      have hfz19_1 := blk_frozen BK660.out 1
      have hfz19_2 := blk_frozen BK660.out 2
      go_wp2_with (first | ((with_reducible refine gate_callee (f := 18) rfl ?_); refine goesL_ (some 9) rfl rfl Try.func18 (by kernel_rfl) rfl #[.agg #[.slice A0_0 l0_0.length c0_0, .int .i64 a0_1, .slice A0_2 l0_2.length c0_2]] rfl (by (try simp only [List.map_toArray, List.map_cons, List.map_nil]); first | done | rfl | (simp only [List.length_drop, List.length_take]; rfl)) ?_; (with_reducible refine (impl_WorkOk.calls _ _ l0_0 a0_1 _ _ l0_2 true _ ?side1 ?side2 ?side3 ?side4 A15.out).mono ?_); (case side1 => exact Kd.C_below HR0_0.out (oB HB)); (case side2 => exact HC0_0.out); (case side3 => exact Kd.C_below HR0_2.out (oB HB)); (case side4 => exact HC0_2.out); rintro e w20 ⟨rfl, hb⟩; refine ⟨_, rfl, ?_⟩; have n0_ := Aside0.mk (Kd.R_below (by (with_reducible repeat (first | apply Kd.R_alloc | apply Kd.R_drewN | apply Kd.R_drew)); exact (Kd.R_mono (Kd.R_far (p := ⟨gb669, 2, none⟩) (Kd.R_far (p := ⟨gb669, 1, none⟩) (Kd.R_far (p := ⟨gb669, 0, none⟩) (Kd.R_types HO664.out BK669.out (by decide)) (fun _ hk => hk.2) (.slice Ao10 t662.length co10)) (fun _ hk => hk.2) (.int .i64 t665)) (fun _ hk => hk.2) (.slice Ao14 t666.length co14)) (fun _ h_ => h_.1))) hb); have n1_ := Aside0.mk (Kd.R_below (by (with_reducible repeat (first | apply Kd.R_alloc | apply Kd.R_drewN | apply Kd.R_drew)); exact (Kd.R_mono (Kd.R_far (p := ⟨gb669, 2, none⟩) (Kd.R_far (p := ⟨gb669, 1, none⟩) (Kd.R_far (p := ⟨gb669, 0, none⟩) (Kd.R_types HO668.out BK669.out (by decide)) (fun _ hk => hk.2) (.slice Ao10 t662.length co10)) (fun _ hk => hk.2) (.int .i64 t665)) (fun _ hk => hk.2) (.slice Ao14 t666.length co14)) (fun _ h_ => h_.1))) hb); have n2_ := Aside0.mk (blk_below (g := gb660) (o := .cells #[.slice A0_0 l0_0.length c0_0, .int .i64 a0_1, .slice A0_2 l0_2.length c0_2] 30 (0, 0)) (by (with_reducible repeat (first | refine blk_drewN ?_ _ | refine blk_drew ?_ | refine blk_alloc ?_ _)); refine blk_far ?_ NB660_669.out _; (with_reducible repeat (first | refine blk_drewN ?_ _ | refine blk_drew ?_ | refine blk_alloc ?_ _)); refine blk_far ?_ NB660_669.out _; (with_reducible repeat (first | refine blk_drewN ?_ _ | refine blk_drew ?_ | refine blk_alloc ?_ _)); refine blk_far ?_ NB660_669.out _; (with_reducible repeat (first | refine blk_drewN ?_ _ | refine blk_drew ?_ | refine blk_alloc ?_ _)); exact BK660.out) hb); have n3_ := Aside0.mk (blk_below (g := gb661) (o := .cells #[.slice none 0 0, .int .i64 0, .slice none 0 0] 30 (0, 0)) (by (with_reducible repeat (first | refine blk_drewN ?_ _ | refine blk_drew ?_ | refine blk_alloc ?_ _)); refine blk_far ?_ NB661_669.out _; (with_reducible repeat (first | refine blk_drewN ?_ _ | refine blk_drew ?_ | refine blk_alloc ?_ _)); refine blk_far ?_ NB661_669.out _; (with_reducible repeat (first | refine blk_drewN ?_ _ | refine blk_drew ?_ | refine blk_alloc ?_ _)); refine blk_far ?_ NB661_669.out _; (with_reducible repeat (first | refine blk_drewN ?_ _ | refine blk_drew ?_ | refine blk_alloc ?_ _)); exact BK661.out) hb); have n4_ := Aside0.mk (blk_below (g := gb669) (o := .cells #[.slice Ao10 t662.length co10, .int .i64 t665, .slice Ao14 t666.length co14] 30 (0, 0)) (by (with_reducible repeat (first | refine blk_drewN ?_ _ | refine blk_drew ?_ | refine blk_alloc ?_ _)); refine blk_put (cs := #[.slice Ao10 t662.length co10, .int .i64 t665, .slice none 0 0]) ?_ 2 _ rfl; (with_reducible repeat (first | refine blk_drewN ?_ _ | refine blk_drew ?_ | refine blk_alloc ?_ _)); refine blk_put (cs := #[.slice Ao10 t662.length co10, .int .i64 0, .slice none 0 0]) ?_ 1 _ rfl; (with_reducible repeat (first | refine blk_drewN ?_ _ | refine blk_drew ?_ | refine blk_alloc ?_ _)); refine blk_put (cs := #[.slice none 0 0, .int .i64 0, .slice none 0 0]) ?_ 0 _ rfl; (with_reducible repeat (first | refine blk_drewN ?_ _ | refine blk_drew ?_ | refine blk_alloc ?_ _)); exact BK669.out) hb); have n5_ := Aside0.mk (below_step (oB HB) hb); clear HO664; clear HO668; clear BK660; clear BK661; clear BK669; clear HB; have HO664 := n0_; have HO668 := n1_; have BK660 := n2_; have BK661 := n3_; have BK669 := n4_; have HB := n5_; clear n0_ n1_ n2_ n3_ n4_ n5_; (try clear hb); (try clear hb2); (try clear hk); (try clear hi); have hcz21_0 : w20.cell? ⟨gb660, 0, none⟩ = some (.slice A0_0 l0_0.length c0_0) := (blk_cell BK660.out 0).trans rfl; have hcz21_1 : w20.cell? ⟨gb660, 1, none⟩ = some (.int .i64 a0_1) := (blk_cell BK660.out 1).trans rfl; have hcz21_2 : w20.cell? ⟨gb660, 2, none⟩ = some (.slice A0_2 l0_2.length c0_2) := (blk_cell BK660.out 2).trans rfl; have hfz21_0 := blk_frozen BK660.out 0; have hfz21_1 := blk_frozen BK660.out 1; have hfz21_2 := blk_frozen BK660.out 2))
      go_meet
      case rel => exact ⟨_, ((a0_1 == (l0_0.length : Int))), (by first | rfl | (simp; done) | (simp [*]; done)), H', ⟨by first | omega | exact Nat.le_refl _⟩, ⟨oR HO664⟩, ⟨oR HO668⟩, ⟨oK BK660⟩, ⟨oK BK661⟩, ⟨oK BK669⟩, ⟨oB HB⟩⟩
    · replace c16 := Bool.eq_false_iff.mpr c16
      subst c16
      rw [if_neg (show ¬ (false = true) by decide)] at H
      have H' := Aside0.mk H
      clear H
      have hnb22 := NB660_661.out
      have hnc22 := NB661_660.out
      have hnb23 := NB660_669.out
      have hnc23 := NB669_660.out
      have hcz24_0 : w9.cell? ⟨gb660, 0, none⟩ = some (.slice A0_0 l0_0.length c0_0) := (blk_cell BK660.out 0).trans rfl
      have hcz24_1 : w9.cell? ⟨gb660, 1, none⟩ = some (.int .i64 a0_1) := (blk_cell BK660.out 1).trans rfl
      have hcz24_2 : w9.cell? ⟨gb660, 2, none⟩ = some (.slice A0_2 l0_2.length c0_2) := (blk_cell BK660.out 2).trans rfl
      have hfz24_0 := blk_frozen BK660.out 0
      have hfz24_1 := blk_frozen BK660.out 1
      have hfz24_2 := blk_frozen BK660.out 2
      go_wp2_with (first | ((with_reducible refine gate_callee (f := 18) rfl ?_); refine goesL_ (some 9) rfl rfl Try.func18 (by kernel_rfl) rfl #[.agg #[.slice A0_0 l0_0.length c0_0, .int .i64 a0_1, .slice A0_2 l0_2.length c0_2]] rfl (by (try simp only [List.map_toArray, List.map_cons, List.map_nil]); first | done | rfl | (simp only [List.length_drop, List.length_take]; rfl)) ?_; (with_reducible refine (impl_WorkOk.calls _ _ l0_0 a0_1 _ _ l0_2 false _ ?side1 ?side2 ?side3 ?side4 A15.out).mono ?_); (case side1 => exact Kd.C_below HR0_0.out (oB HB)); (case side2 => exact HC0_0.out); (case side3 => exact Kd.C_below HR0_2.out (oB HB)); (case side4 => exact HC0_2.out); rintro e w25 ⟨rfl, hb⟩; refine ⟨_, rfl, ?_⟩; have n0_ := Aside0.mk (Kd.R_below (by (with_reducible repeat (first | apply Kd.R_alloc | apply Kd.R_drewN | apply Kd.R_drew)); exact (Kd.R_mono (Kd.R_far (p := ⟨gb669, 2, none⟩) (Kd.R_far (p := ⟨gb669, 1, none⟩) (Kd.R_far (p := ⟨gb669, 0, none⟩) (Kd.R_types HO664.out BK669.out (by decide)) (fun _ hk => hk.2) (.slice Ao10 t662.length co10)) (fun _ hk => hk.2) (.int .i64 t665)) (fun _ hk => hk.2) (.slice Ao14 t666.length co14)) (fun _ h_ => h_.1))) hb); have n1_ := Aside0.mk (Kd.R_below (by (with_reducible repeat (first | apply Kd.R_alloc | apply Kd.R_drewN | apply Kd.R_drew)); exact (Kd.R_mono (Kd.R_far (p := ⟨gb669, 2, none⟩) (Kd.R_far (p := ⟨gb669, 1, none⟩) (Kd.R_far (p := ⟨gb669, 0, none⟩) (Kd.R_types HO668.out BK669.out (by decide)) (fun _ hk => hk.2) (.slice Ao10 t662.length co10)) (fun _ hk => hk.2) (.int .i64 t665)) (fun _ hk => hk.2) (.slice Ao14 t666.length co14)) (fun _ h_ => h_.1))) hb); have n2_ := Aside0.mk (blk_below (g := gb660) (o := .cells #[.slice A0_0 l0_0.length c0_0, .int .i64 a0_1, .slice A0_2 l0_2.length c0_2] 30 (0, 0)) (by (with_reducible repeat (first | refine blk_drewN ?_ _ | refine blk_drew ?_ | refine blk_alloc ?_ _)); refine blk_far ?_ NB660_669.out _; (with_reducible repeat (first | refine blk_drewN ?_ _ | refine blk_drew ?_ | refine blk_alloc ?_ _)); refine blk_far ?_ NB660_669.out _; (with_reducible repeat (first | refine blk_drewN ?_ _ | refine blk_drew ?_ | refine blk_alloc ?_ _)); refine blk_far ?_ NB660_669.out _; (with_reducible repeat (first | refine blk_drewN ?_ _ | refine blk_drew ?_ | refine blk_alloc ?_ _)); exact BK660.out) hb); have n3_ := Aside0.mk (blk_below (g := gb661) (o := .cells #[.slice none 0 0, .int .i64 0, .slice none 0 0] 30 (0, 0)) (by (with_reducible repeat (first | refine blk_drewN ?_ _ | refine blk_drew ?_ | refine blk_alloc ?_ _)); refine blk_far ?_ NB661_669.out _; (with_reducible repeat (first | refine blk_drewN ?_ _ | refine blk_drew ?_ | refine blk_alloc ?_ _)); refine blk_far ?_ NB661_669.out _; (with_reducible repeat (first | refine blk_drewN ?_ _ | refine blk_drew ?_ | refine blk_alloc ?_ _)); refine blk_far ?_ NB661_669.out _; (with_reducible repeat (first | refine blk_drewN ?_ _ | refine blk_drew ?_ | refine blk_alloc ?_ _)); exact BK661.out) hb); have n4_ := Aside0.mk (blk_below (g := gb669) (o := .cells #[.slice Ao10 t662.length co10, .int .i64 t665, .slice Ao14 t666.length co14] 30 (0, 0)) (by (with_reducible repeat (first | refine blk_drewN ?_ _ | refine blk_drew ?_ | refine blk_alloc ?_ _)); refine blk_put (cs := #[.slice Ao10 t662.length co10, .int .i64 t665, .slice none 0 0]) ?_ 2 _ rfl; (with_reducible repeat (first | refine blk_drewN ?_ _ | refine blk_drew ?_ | refine blk_alloc ?_ _)); refine blk_put (cs := #[.slice Ao10 t662.length co10, .int .i64 0, .slice none 0 0]) ?_ 1 _ rfl; (with_reducible repeat (first | refine blk_drewN ?_ _ | refine blk_drew ?_ | refine blk_alloc ?_ _)); refine blk_put (cs := #[.slice none 0 0, .int .i64 0, .slice none 0 0]) ?_ 0 _ rfl; (with_reducible repeat (first | refine blk_drewN ?_ _ | refine blk_drew ?_ | refine blk_alloc ?_ _)); exact BK669.out) hb); have n5_ := Aside0.mk (below_step (oB HB) hb); clear HO664; clear HO668; clear BK660; clear BK661; clear BK669; clear HB; have HO664 := n0_; have HO668 := n1_; have BK660 := n2_; have BK661 := n3_; have BK669 := n4_; have HB := n5_; clear n0_ n1_ n2_ n3_ n4_ n5_; (try clear hb); (try clear hb2); (try clear hk); (try clear hi)))
      go_meet
      case rel => exact ⟨_, (true), (by first | rfl | (simp; done) | (simp [*]; done)), H', ⟨by first | omega | exact Nat.le_refl _⟩, ⟨oR HO664⟩, ⟨oR HO668⟩, ⟨oK BK660⟩, ⟨oK BK661⟩, ⟨oK BK669⟩, ⟨oB HB⟩⟩
  case rest =>
    clear HC3
    try clear c1
    try clear c2
    try clear p2
    try clear c4
    try clear c6
    try clear c11
    try clear c12
    try clear c16
    try clear c17
    try clear c18
    try clear c22
    try clear c23
    try clear hcz13_0
    try clear hcz13_1
    try clear hcz13_2
    try clear hcz19_0
    try clear hcz19_1
    try clear hcz19_2
    try clear hcz21_0
    try clear hcz21_1
    try clear hcz21_2
    try clear hcz24_0
    try clear hcz24_1
    try clear hcz24_2
    try clear hcz7_0
    try clear hcz7_1
    try clear hcz7_2
    try clear hfz13_0
    try clear hfz13_1
    try clear hfz13_2
    try clear hfz19_0
    try clear hfz19_1
    try clear hfz19_2
    try clear hfz21_0
    try clear hfz21_1
    try clear hfz21_2
    try clear hfz24_0
    try clear hfz24_1
    try clear hfz24_2
    try clear hfz7_0
    try clear hfz7_1
    try clear hfz7_2
    obtain ⟨kq, x18_2, rfl, HA, HJ2, HO_670000, HO_670002, BK660, BK661, BK669, HB⟩ := hcut
    cases kq with
    | zero => exact absurd HA.out (by simp [impl_WorkStep.j0])
    | succ kj2 =>
      have H := HA.out
      clear HA
      simp only [impl_WorkStep.j0] at H
      by_cases c26 : x18_2 = true
      · subst c26
        rw [if_pos rfl] at H
        simp only [Option.some.injEq, Prod.mk.injEq] at H
        obtain ⟨rfl, rfl, rfl, rfl⟩ := H
        have hnb27 := NB669_660.out
        have hnc27 := NB660_669.out
        have hnb28 := NB669_661.out
        have hnc28 := NB661_669.out
        have hcz29_0 : wc.cell? ⟨gb669, 0, none⟩ = some (.slice Ao10 t662.length co10) := (blk_cell BK669.out 0).trans rfl
        have hcz29_1 : wc.cell? ⟨gb669, 1, none⟩ = some (.int .i64 t665) := (blk_cell BK669.out 1).trans rfl
        have hcz29_2 : wc.cell? ⟨gb669, 2, none⟩ = some (.slice Ao14 t666.length co14) := (blk_cell BK669.out 2).trans rfl
        have hfz29_0 := blk_frozen BK669.out 0
        have hfz29_1 := blk_frozen BK669.out 1
        have hfz29_2 := blk_frozen BK669.out 2
        have hnb30 := NB661_660.out
        have hnc30 := NB660_661.out
        have hcz31_0 : wc.cell? ⟨gb661, 0, none⟩ = some (.slice none 0 0) := (blk_cell BK661.out 0).trans rfl
        have hcz31_1 : wc.cell? ⟨gb661, 1, none⟩ = some (.int .i64 0) := (blk_cell BK661.out 1).trans rfl
        have hcz31_2 : wc.cell? ⟨gb661, 2, none⟩ = some (.slice none 0 0) := (blk_cell BK661.out 2).trans rfl
        have hfz31_0 := blk_frozen BK661.out 0
        have hfz31_1 := blk_frozen BK661.out 1
        have hfz31_2 := blk_frozen BK661.out 2
        go_wp2
        refine bodyPost_ret (results_ct rfl _ _ gb661 30 #[.slice Ao10 t662.length co10, .int .i64 t665, .slice Ao14 t666.length co14] (0, 0) _ rfl (by (with_reducible repeat (first | refine blk_drewN ?_ _ | refine blk_drew ?_ | refine blk_alloc ?_ _)); refine blk_put (cs := #[.slice Ao10 t662.length co10, .int .i64 t665, .slice none 0 0]) ?_ 2 _ rfl; (with_reducible repeat (first | refine blk_drewN ?_ _ | refine blk_drew ?_ | refine blk_alloc ?_ _)); refine blk_put (cs := #[.slice Ao10 t662.length co10, .int .i64 0, .slice none 0 0]) ?_ 1 _ rfl; (with_reducible repeat (first | refine blk_drewN ?_ _ | refine blk_drew ?_ | refine blk_alloc ?_ _)); refine blk_put (cs := #[.slice none 0 0, .int .i64 0, .slice none 0 0]) ?_ 0 _ rfl; (with_reducible repeat (first | refine blk_drewN ?_ _ | refine blk_drew ?_ | refine blk_alloc ?_ _)); exact BK661.out) Try.underlying30 rfl (by kernel_rfl)) rfl ?_
        exact ⟨_, _, by first | rfl | (simp [errW_none, errW_some] <;> rfl) | (simp [*, errW_none, errW_some] <;> rfl), by (with_reducible repeat (first | apply Kd.R_alloc | apply Kd.R_drewN | apply Kd.R_drew)); exact Kd.R_mono (Kd.R_far (p := ⟨gb661, 2, none⟩) (Kd.R_far (p := ⟨gb661, 1, none⟩) (Kd.R_far (p := ⟨gb661, 0, none⟩) (Kd.R_types HO_670000.out BK661.out (by decide)) (fun _ hk => hk.2) (.slice Ao10 t662.length co10)) (fun _ hk => hk.2) (.int .i64 t665)) (fun _ hk => hk.2) (.slice Ao14 t666.length co14)) (fun _ hk => trivial), by (with_reducible repeat (first | apply Kd.R_alloc | apply Kd.R_drewN | apply Kd.R_drew)); exact Kd.R_mono (Kd.R_far (p := ⟨gb661, 2, none⟩) (Kd.R_far (p := ⟨gb661, 1, none⟩) (Kd.R_far (p := ⟨gb661, 0, none⟩) (Kd.R_types HO_670002.out BK661.out (by decide)) (fun _ hk => hk.2) (.slice Ao10 t662.length co10)) (fun _ hk => hk.2) (.int .i64 t665)) (fun _ hk => hk.2) (.slice Ao14 t666.length co14)) (fun _ hk => trivial), oB HB⟩
      · replace c26 := Bool.eq_false_iff.mpr c26
        subst c26
        rw [if_neg (show ¬ (false = true) by decide)] at H
        replace H := Option.bind_eq_some_iff.mp H
        obtain ⟨t671, A320, H⟩ := H
        (try dsimp only at H)
        have A32 := Aside0.mk A320
        clear A320
        by_cases c33 : t671 = 0
        · rw [if_pos c33] at H
          have c33b0 : (t671 == 0) = true := beq_iff_eq.mpr c33
          have c33b1 : (t671 != 0) = false := bne_eq_false_iff_eq.mpr c33
          clear c33
          simp only [Option.some.injEq, Prod.mk.injEq] at H
          obtain ⟨rfl, rfl, rfl, rfl⟩ := H
          have hnb34 := NB660_661.out
          have hnc34 := NB661_660.out
          have hnb35 := NB660_669.out
          have hnc35 := NB669_660.out
          have hcz36_0 : wc.cell? ⟨gb660, 0, none⟩ = some (.slice A0_0 l0_0.length c0_0) := (blk_cell BK660.out 0).trans rfl
          have hcz36_1 : wc.cell? ⟨gb660, 1, none⟩ = some (.int .i64 a0_1) := (blk_cell BK660.out 1).trans rfl
          have hcz36_2 : wc.cell? ⟨gb660, 2, none⟩ = some (.slice A0_2 l0_2.length c0_2) := (blk_cell BK660.out 2).trans rfl
          have hfz36_0 := blk_frozen BK660.out 0
          have hfz36_1 := blk_frozen BK660.out 1
          have hfz36_2 := blk_frozen BK660.out 2
          go_wp2_with (first | ((with_reducible refine gate_callee (f := 73) rfl ?_); refine goesL_ (some 23) rfl rfl Try.func73 (by kernel_rfl) rfl #[.agg #[.slice A0_0 l0_0.length c0_0, .int .i64 a0_1, .slice A0_2 l0_2.length c0_2], .int .i64 a0_1] rfl (by (try simp only [List.map_toArray, List.map_cons, List.map_nil]); first | done | rfl | (simp only [List.length_drop, List.length_take]; rfl)) ?_; (with_reducible refine (impl_tunedBy.calls kj2 _ _ l0_0 a0_1 _ _ l0_2 a0_1 t671 _ ?side1 ?side2 ?side3 ?side4 A32.out).mono ?_); (case side1 => exact oc_ HR0_0.out); (case side2 => exact HC0_0.out); (case side3 => exact oc_ HR0_2.out); (case side4 => exact HC0_2.out); rintro e w37 ⟨rfl, hb⟩; refine ⟨_, rfl, ?_⟩; have n0_ := Aside0.mk (Kd.R_below (oR HO_670000) hb); have n1_ := Aside0.mk (Kd.R_below (oR HO_670002) hb); have n2_ := Aside0.mk (blk_below (g := gb660) (o := .cells #[.slice A0_0 l0_0.length c0_0, .int .i64 a0_1, .slice A0_2 l0_2.length c0_2] 30 (0, 0)) (oK BK660) hb); have n3_ := Aside0.mk (blk_below (g := gb661) (o := .cells #[.slice none 0 0, .int .i64 0, .slice none 0 0] 30 (0, 0)) (oK BK661) hb); have n4_ := Aside0.mk (blk_below (g := gb669) (o := .cells #[.slice Ao10 t662.length co10, .int .i64 t665, .slice Ao14 t666.length co14] 30 (0, 0)) (oK BK669) hb); have n5_ := Aside0.mk (below_step (oB HB) hb); clear HO_670000; clear HO_670002; clear BK660; clear BK661; clear BK669; clear HB; have HO_670000 := n0_; have HO_670002 := n1_; have BK660 := n2_; have BK661 := n3_; have BK669 := n4_; have HB := n5_; clear n0_ n1_ n2_ n3_ n4_ n5_; (try clear hb); (try clear hb2); (try clear hk); (try clear hi); have hnb38 := NB669_661.out; have hnc38 := NB661_669.out; have hcz39_0 : w37.cell? ⟨gb669, 0, none⟩ = some (.slice Ao10 t662.length co10) := (blk_cell BK669.out 0).trans rfl; have hcz39_1 : w37.cell? ⟨gb669, 1, none⟩ = some (.int .i64 t665) := (blk_cell BK669.out 1).trans rfl; have hcz39_2 : w37.cell? ⟨gb669, 2, none⟩ = some (.slice Ao14 t666.length co14) := (blk_cell BK669.out 2).trans rfl; have hfz39_0 := blk_frozen BK669.out 0; have hfz39_1 := blk_frozen BK669.out 1; have hfz39_2 := blk_frozen BK669.out 2; have hcz40_0 : w37.cell? ⟨gb661, 0, none⟩ = some (.slice none 0 0) := (blk_cell BK661.out 0).trans rfl; have hcz40_1 : w37.cell? ⟨gb661, 1, none⟩ = some (.int .i64 0) := (blk_cell BK661.out 1).trans rfl; have hcz40_2 : w37.cell? ⟨gb661, 2, none⟩ = some (.slice none 0 0) := (blk_cell BK661.out 2).trans rfl; have hfz40_0 := blk_frozen BK661.out 0; have hfz40_1 := blk_frozen BK661.out 1; have hfz40_2 := blk_frozen BK661.out 2))
          refine bodyPost_ret (results_ct rfl _ _ gb661 30 #[.slice Ao10 t662.length co10, .int .i64 t665, .slice Ao14 t666.length co14] (0, 0) _ rfl (by (with_reducible repeat (first | refine blk_drewN ?_ _ | refine blk_drew ?_ | refine blk_alloc ?_ _)); refine blk_put (cs := #[.slice Ao10 t662.length co10, .int .i64 t665, .slice none 0 0]) ?_ 2 _ rfl; (with_reducible repeat (first | refine blk_drewN ?_ _ | refine blk_drew ?_ | refine blk_alloc ?_ _)); refine blk_put (cs := #[.slice Ao10 t662.length co10, .int .i64 0, .slice none 0 0]) ?_ 1 _ rfl; (with_reducible repeat (first | refine blk_drewN ?_ _ | refine blk_drew ?_ | refine blk_alloc ?_ _)); refine blk_put (cs := #[.slice none 0 0, .int .i64 0, .slice none 0 0]) ?_ 0 _ rfl; (with_reducible repeat (first | refine blk_drewN ?_ _ | refine blk_drew ?_ | refine blk_alloc ?_ _)); exact BK661.out) Try.underlying30 rfl (by kernel_rfl)) rfl ?_
          exact ⟨_, _, by first | rfl | (simp [errW_none, errW_some] <;> rfl) | (simp [*, errW_none, errW_some] <;> rfl), by (with_reducible repeat (first | apply Kd.R_alloc | apply Kd.R_drewN | apply Kd.R_drew)); exact Kd.R_mono (Kd.R_far (p := ⟨gb661, 2, none⟩) (Kd.R_far (p := ⟨gb661, 1, none⟩) (Kd.R_far (p := ⟨gb661, 0, none⟩) (Kd.R_types HO_670000.out BK661.out (by decide)) (fun _ hk => hk.2) (.slice Ao10 t662.length co10)) (fun _ hk => hk.2) (.int .i64 t665)) (fun _ hk => hk.2) (.slice Ao14 t666.length co14)) (fun _ hk => trivial), by (with_reducible repeat (first | apply Kd.R_alloc | apply Kd.R_drewN | apply Kd.R_drew)); exact Kd.R_mono (Kd.R_far (p := ⟨gb661, 2, none⟩) (Kd.R_far (p := ⟨gb661, 1, none⟩) (Kd.R_far (p := ⟨gb661, 0, none⟩) (Kd.R_types HO_670002.out BK661.out (by decide)) (fun _ hk => hk.2) (.slice Ao10 t662.length co10)) (fun _ hk => hk.2) (.int .i64 t665)) (fun _ hk => hk.2) (.slice Ao14 t666.length co14)) (fun _ hk => trivial), oB HB⟩
        · rw [if_neg c33] at H
          have c33b0 : (t671 == 0) = false := beq_eq_false_iff_ne.mpr c33
          have c33b1 : (t671 != 0) = true := bne_iff_ne.mpr c33
          by_cases c41 : 0 ≤ a0_1
          · rw [if_pos c41] at H
            have c41b0 : decide (0 ≤ a0_1) = true := decide_eq_true c41
            clear c41
            by_cases c42 : a0_1 < (l0_0.length : Int)
            · rw [if_pos c42] at H
              have c42b0 : decide (a0_1 < (l0_0.length : Int)) = true := decide_eq_true c42
              clear c42
              by_cases c43 : 0 ≤ ((rd_T67 l0_0 a0_1).f1)
              · rw [if_pos c43] at H
                have c43b0 : decide (0 ≤ ((rd_T67 l0_0 a0_1).f1)) = true := decide_eq_true c43
                clear c43
                by_cases c44 : ((rd_T67 l0_0 a0_1).f1) < (t666.length : Int)
                · rw [if_pos c44] at H
                  have c44b0 : decide (((rd_T67 l0_0 a0_1).f1) < (t666.length : Int)) = true := decide_eq_true c44
                  clear c44
                  obtain ⟨y673, hy673⟩ : ∃ y_ : List Int, y_ = (t666.set (((rd_T67 l0_0 a0_1).f1) : Int).toNat t671) := ⟨_, rfl⟩
                  replace H : (some (t662, wrap64 (t665 + 1), y673, true)) = some (r1, r2, r3, r4) := by first | (rw [hy673]; with_reducible exact H) | (have H2_ := (Option.bind_some _ _).symm.trans H; rw [hy673]; with_reducible exact H2_) | (have H2_ := (Option.bind_some _ _).symm.trans H; with_reducible exact H2_) | with_reducible exact H | (rw [hy673]; exact H) | exact H
                  have Ny673 := Aside0.mk hy673
                  clear hy673
                  simp only [Option.some.injEq, Prod.mk.injEq] at H
                  obtain ⟨rfl, rfl, rfl, rfl⟩ := H
                  have hnb46 := NB660_661.out
                  have hnc46 := NB661_660.out
                  have hnb47 := NB660_669.out
                  have hnc47 := NB669_660.out
                  have hcz48_0 : wc.cell? ⟨gb660, 0, none⟩ = some (.slice A0_0 l0_0.length c0_0) := (blk_cell BK660.out 0).trans rfl
                  have hcz48_1 : wc.cell? ⟨gb660, 1, none⟩ = some (.int .i64 a0_1) := (blk_cell BK660.out 1).trans rfl
                  have hcz48_2 : wc.cell? ⟨gb660, 2, none⟩ = some (.slice A0_2 l0_2.length c0_2) := (blk_cell BK660.out 2).trans rfl
                  have hfz48_0 := blk_frozen BK660.out 0
                  have hfz48_1 := blk_frozen BK660.out 1
                  have hfz48_2 := blk_frozen BK660.out 2
                  try go_wp2_with (first | ((with_reducible refine gate_callee (f := 73) rfl ?_); refine goesL_ (some 23) rfl rfl Try.func73 (by kernel_rfl) rfl #[.agg #[.slice A0_0 l0_0.length c0_0, .int .i64 a0_1, .slice A0_2 l0_2.length c0_2], .int .i64 a0_1] rfl (by (try simp only [List.map_toArray, List.map_cons, List.map_nil]); first | done | rfl | (simp only [List.length_drop, List.length_take]; rfl)) ?_; (with_reducible refine (impl_tunedBy.calls kj2 _ _ l0_0 a0_1 _ _ l0_2 a0_1 t671 _ ?side1 ?side2 ?side3 ?side4 A32.out).mono ?_); (case side1 => exact oc_ HR0_0.out); (case side2 => exact HC0_0.out); (case side3 => exact oc_ HR0_2.out); (case side4 => exact HC0_2.out); rintro e w49 ⟨rfl, hb⟩; refine ⟨_, rfl, ?_⟩; have n0_ := Aside0.mk (Kd.R_below (oR HO_670000) hb); have n1_ := Aside0.mk (Kd.R_below (oR HO_670002) hb); have n2_ := Aside0.mk (blk_below (g := gb660) (o := .cells #[.slice A0_0 l0_0.length c0_0, .int .i64 a0_1, .slice A0_2 l0_2.length c0_2] 30 (0, 0)) (oK BK660) hb); have n3_ := Aside0.mk (blk_below (g := gb661) (o := .cells #[.slice none 0 0, .int .i64 0, .slice none 0 0] 30 (0, 0)) (oK BK661) hb); have n4_ := Aside0.mk (blk_below (g := gb669) (o := .cells #[.slice Ao10 t662.length co10, .int .i64 t665, .slice Ao14 t666.length co14] 30 (0, 0)) (oK BK669) hb); have n5_ := Aside0.mk (below_step (oB HB) hb); clear HO_670000; clear HO_670002; clear BK660; clear BK661; clear BK669; clear HB; have HO_670000 := n0_; have HO_670002 := n1_; have BK660 := n2_; have BK661 := n3_; have BK669 := n4_; have HB := n5_; clear n0_ n1_ n2_ n3_ n4_ n5_; (try clear hb); (try clear hb2); (try clear hk); (try clear hi)))
                  have n0_ := Aside0.mk (Kd.R_drew HO_670000.out)
                  have n1_ := Aside0.mk (Kd.R_drew HO_670002.out)
                  have n2_ := Aside0.mk (blk_drew BK660.out)
                  have n3_ := Aside0.mk (blk_drew BK661.out)
                  have n4_ := Aside0.mk (blk_drew BK669.out)
                  have n5_ := Aside0.mk (below_drew1 HB.out)
                  clear HO_670000
                  clear HO_670002
                  clear BK660
                  clear BK661
                  clear BK669
                  clear HB
                  have HO_670000 := n0_
                  have HO_670002 := n1_
                  have BK660 := n2_
                  have BK661 := n3_
                  have BK669 := n4_
                  have HB := n5_
                  clear n0_ n1_ n2_ n3_ n4_ n5_
                  have p672 : 0 ≤ (a0_1 : Int) := of_decide_eq_true (by first | (with_reducible assumption) | assumption)
                  have q672 : a0_1 < (l0_0.length : Int) := of_decide_eq_true (by first | (with_reducible assumption) | assumption)
                  obtain ⟨ad672, e672, hx672_0, hx672_1, hx672_2, hx672_3⟩ := at_T67 HR0_0.out a0_1 p672 q672
                  have hw672_3 := hx672_3
                  have hw672_2 := hx672_2
                  have hw672_1 := hx672_1
                  have hw672_0 := hx672_0
                  cases e672
                  replace hx672_0 := (HB.out.cell (World.block_lt_of_cell? w _ hx672_0)).trans hx672_0
                  replace hx672_1 := (HB.out.cell (World.block_lt_of_cell? w _ hx672_1)).trans hx672_1
                  replace hx672_2 := (HB.out.cell (World.block_lt_of_cell? w _ hx672_2)).trans hx672_2
                  replace hx672_3 := (HB.out.cell (World.block_lt_of_cell? w _ hx672_3)).trans hx672_3
                  replace p672 := eq_true p672
                  replace q672 := eq_true q672
                  have p45 : 0 ≤ (((rd_T67 l0_0 a0_1).f1) : Int) := of_decide_eq_true (by first | (with_reducible assumption) | assumption)
                  have q45 : (((rd_T67 l0_0 a0_1).f1) : Int) < ((t666.length : Int) : Int) := of_decide_eq_true (by first | (with_reducible assumption) | assumption)
                  obtain ⟨go45, co45, eo45, gb45, gl45, cl45, HG45⟩ := Kd.R_form HO_670002.out (by omega)
                  (first | cases eo45 | (injection eo45 with ea_ en_ ec_; (first | subst ea_ | (injection ea_ with ea_; subst ea_)); subst ec_; clear en_))
                  have GB45 := Aside0.mk gb45
                  have GG45 := Aside0.mk HG45
                  clear gb45 gl45 HG45
                  obtain ⟨hx45_0, hf45_0⟩ := Kd.R_celln 0 HO_670002.out (((rd_T67 l0_0 a0_1).f1) : Int) p45 q45
                  replace p45 := eq_true p45
                  replace q45 := eq_true q45
                  have HP51 := Kd.R_putn HO_670002.out (((rd_T67 l0_0 a0_1).f1) : Int) t671
                  rw [← Ny673.out] at HP51
                  have HQ51 := Aside0.mk HP51
                  clear HP51
                  refine start_ (n := 12) (S := fun w' => w'.cell? ⟨gb669, 0, none⟩ = some (.slice Ao10 t662.length co10) ∧ w'.cell? ⟨gb669, 1, none⟩ = some (.int .i64 t665) ∧ w'.cell? ⟨gb669, 2, none⟩ = some (.slice (some ⟨go45, 0, none⟩) t666.length co14) ∧ w'.cell? ⟨gb660, 0, none⟩ = some (.slice (some ad672) l0_0.length c0_0) ∧ w'.cell? ⟨gb660, 1, none⟩ = some (.int .i64 a0_1) ∧ w'.cell? ⟨gb660, 2, none⟩ = some (.slice A0_2 l0_2.length c0_2) ∧ w'.cell? (ad672.add ((a0_1).toNat * 4)) = some (.int .i64 ((rd_T67 l0_0 a0_1).f0)) ∧ w'.cell? ⟨(ad672.add ((a0_1).toNat * 4)).block, (ad672.add ((a0_1).toNat * 4)).off + 1, none⟩ = some (.int .i64 ((rd_T67 l0_0 a0_1).f1)) ∧ w'.cell? ⟨(ad672.add ((a0_1).toNat * 4)).block, (ad672.add ((a0_1).toNat * 4)).off + 2, none⟩ = some (.int .i64 ((rd_T67 l0_0 a0_1).f2)) ∧ w'.cell? ⟨(ad672.add ((a0_1).toNat * 4)).block, (ad672.add ((a0_1).toNat * 4)).off + 3, none⟩ = some (.int .i64 ((rd_T67 l0_0 a0_1).f3))) (ds := [11]) #[false, false, false, false, false, false, false, false, false, false, false, false] (by kernel_rfl) rfl rfl ⟨(blk_cell BK669.out 0).trans rfl, (blk_cell BK669.out 1).trans rfl, (blk_cell BK669.out 2).trans rfl, (blk_cell BK660.out 0).trans rfl, (blk_cell BK660.out 1).trans rfl, (blk_cell BK660.out 2).trans rfl, ((HB.out.cell (World.block_lt_of_cell? w _ hw672_0)).trans hw672_0), ((HB.out.cell (World.block_lt_of_cell? w _ hw672_1)).trans hw672_1), ((HB.out.cell (World.block_lt_of_cell? w _ hw672_2)).trans hw672_2), ((HB.out.cell (World.block_lt_of_cell? w _ hw672_3)).trans hw672_3)⟩ (fun hHeld => ?_); refine with_tabW impl_WorkStep.tab7 impl_WorkStep.bits7 (fun HT_ HW_ => ?_)
                  generalize w49.drew = w50 at HO_670000 HO_670002 BK660 BK661 BK669 HB GG45 HQ51 hf45_0 hx45_0 hx672_0 hx672_1 hx672_2 hx672_3 hHeld ⊢
                  refine pure_ (i := 0) (N := some 27) (v := ?_) (a' := ?_) #[true, false, false, false, false, false, false, false, false, false, false, false] rfl rfl (any_of HT_.out (by kernel_rfl)) (fun _ _ _ h => h) (Or.inl ⟨by rfl, ?_⟩) ?_ ?_
                  rotate_left
                  · intro w'
                    go_simp
                    with_reducible rfl
                  rotate_left
                  · simp only [Act.put, List.setIfInBounds_toArray, List.set_cons_zero, List.set_cons_succ, i64_w, i32_w]
                    rfl
                  refine pure_ (i := 2) (N := some 29) (v := ?_) (a' := ?_) #[true, false, true, false, false, false, false, false, false, false, false, false] rfl rfl (any_of HT_.out (by kernel_rfl)) (fun _ _ _ h => h) (Or.inl ⟨by rfl, ?_⟩) ?_ ?_
                  rotate_left
                  · intro w'
                    go_simp
                    with_reducible rfl
                  rotate_left
                  · simp only [Act.put, List.setIfInBounds_toArray, List.set_cons_zero, List.set_cons_succ, i64_w, i32_w]
                    rfl
                  refine pure_ (i := 4) (N := some 31) (v := ?_) (a' := ?_) #[true, false, true, false, true, false, false, false, false, false, false, false] rfl rfl (any_of HT_.out (by kernel_rfl)) (fun _ _ _ h => h) (Or.inl ⟨by rfl, ?_⟩) ?_ ?_
                  rotate_left
                  · intro w'
                    go_simp
                    with_reducible rfl
                  rotate_left
                  · simp only [Act.put, List.setIfInBounds_toArray, List.set_cons_zero, List.set_cons_succ, i64_w, i32_w]
                    rfl
                  refine pure_ (i := 9) (N := some 36) (v := ?_) (a' := ?_) #[true, false, true, false, true, false, false, false, false, true, false, false] rfl rfl (any_of HT_.out (by kernel_rfl)) (fun _ _ _ h => h) (Or.inl ⟨by rfl, ?_⟩) ?_ ?_
                  rotate_left
                  · intro w'
                    go_simp
                    with_reducible rfl
                  rotate_left
                  · simp only [Act.put, List.setIfInBounds_toArray, List.set_cons_zero, List.set_cons_succ, i64_w, i32_w]
                    rfl
                  refine take_ (i := 1) (N := some 28) (v := ?_) (a' := ?_) #[true, true, true, false, true, false, false, false, false, true, false, false] rfl rfl (take_ofW HT_.out HW_.out (by kernel_rfl)) (fun _ _ _ h => h) (Or.inl ⟨by rfl, ?_⟩) hHeld ?_ ?_
                  rotate_left
                  · rintro w' ⟨s0, s1, s2, s3, s4, s5, s6, s7, s8, s9⟩
                    go_simp
                    with_reducible rfl
                  rotate_left
                  · simp only [Act.put, List.setIfInBounds_toArray, List.set_cons_zero, List.set_cons_succ, i64_w, i32_w]
                    rfl
                  refine take_ (i := 3) (N := some 30) (v := ?_) (a' := ?_) #[true, true, true, true, true, false, false, false, false, true, false, false] rfl rfl (take_ofW HT_.out HW_.out (by kernel_rfl)) (fun _ _ _ h => h) (Or.inl ⟨by rfl, ?_⟩) hHeld ?_ ?_
                  rotate_left
                  · rintro w' ⟨s0, s1, s2, s3, s4, s5, s6, s7, s8, s9⟩
                    go_simp
                    with_reducible rfl
                  rotate_left
                  · simp only [Act.put, List.setIfInBounds_toArray, List.set_cons_zero, List.set_cons_succ, i64_w, i32_w]
                    rfl
                  refine take_ (i := 5) (N := some 32) (v := ?_) (a' := ?_) #[true, true, true, true, true, true, false, false, false, true, false, false] rfl rfl (take_ofW HT_.out HW_.out (by kernel_rfl)) (fun _ _ _ h => h) (Or.inl ⟨by rfl, ?_⟩) hHeld ?_ ?_
                  rotate_left
                  · rintro w' ⟨s0, s1, s2, s3, s4, s5, s6, s7, s8, s9⟩
                    go_simp
                    with_reducible rfl
                  rotate_left
                  · simp only [Act.put, List.setIfInBounds_toArray, List.set_cons_zero, List.set_cons_succ, i64_w, i32_w]
                    rfl
                  refine pure_ (i := 6) (N := some 33) (v := ?_) (a' := ?_) #[true, true, true, true, true, true, true, false, false, true, false, false] rfl rfl (any_of HT_.out (by kernel_rfl)) (fun _ _ _ h => h) (Or.inl ⟨by rfl, ?_⟩) ?_ ?_
                  rotate_left
                  · intro w'
                    go_simp
                    with_reducible rfl
                  rotate_left
                  · simp only [Act.put, List.setIfInBounds_toArray, List.set_cons_zero, List.set_cons_succ, i64_w, i32_w]
                    rfl
                  refine pure_ (i := 7) (N := some 34) (v := ?_) (a' := ?_) #[true, true, true, true, true, true, true, true, false, true, false, false] rfl rfl (any_of HT_.out (by kernel_rfl)) (fun _ _ _ h => h) (Or.inl ⟨by rfl, ?_⟩) ?_ ?_
                  rotate_left
                  · intro w'
                    go_simp
                    with_reducible rfl
                  rotate_left
                  · simp only [Act.put, List.setIfInBounds_toArray, List.set_cons_zero, List.set_cons_succ, i64_w, i32_w]
                    rfl
                  refine take_ (i := 8) (N := some 35) (v := ?_) (a' := ?_) #[true, true, true, true, true, true, true, true, true, true, false, false] rfl rfl (take_ofW HT_.out HW_.out (by kernel_rfl)) (fun _ _ _ h => h) (Or.inl ⟨by rfl, ?_⟩) hHeld ?_ ?_
                  rotate_left
                  · rintro w' ⟨s0, s1, s2, s3, s4, s5, s6, s7, s8, s9⟩
                    go_simp
                    with_reducible rfl
                  rotate_left
                  · simp only [Act.put, List.setIfInBounds_toArray, List.set_cons_zero, List.set_cons_succ, i64_w, i32_w]
                    rfl
                  refine pure_ (i := 10) (N := some 37) (v := ?_) (a' := ?_) #[true, true, true, true, true, true, true, true, true, true, true, false] rfl rfl (any_of HT_.out (by kernel_rfl)) (fun _ _ _ h => h) (Or.inl ⟨by rfl, ?_⟩) ?_ ?_
                  rotate_left
                  · intro w'
                    go_simp
                    with_reducible rfl
                  rotate_left
                  · simp only [Act.put, List.setIfInBounds_toArray, List.set_cons_zero, List.set_cons_succ, i64_w, i32_w]
                    rfl
                  refine last_ (i := 11) (N := none) #[true, true, true, true, true, true, true, true, true, true, true, true] rfl rfl (one_of HT_.out (by kernel_rfl)) (by decide) (fun K hK => ?_)
                  refine skip_ (w1 := ?_) (by rfl) rfl ?_ ?_
                  rotate_left
                  · go_simp
                    rfl
                  refine hK.out _ _ ?_
                  clear hK K
                  refine done_ (done_of HT_.out (by kernel_rfl)) ?_
                  have n0_ : Aside0 (Kd.R k67 67 (w50.setCell ⟨go45, (((rd_T67 l0_0 a0_1).f1) : Int).toNat, none⟩ (.int .i64 t671)) w.heap.size (fun _ => True) (.slice Ao10 t662.length co10) t662) := ⟨by (with_reducible repeat (first | apply Kd.R_alloc | apply Kd.R_drewN | apply Kd.R_drew)); exact Kd.R_mono (Kd.R_far (p := ⟨go45, (((rd_T67 l0_0 a0_1).f1) : Int).toNat, none⟩) (Kd.R_types HO_670000.out GG45.out (by decide)) (fun _ hk => hk.2) (.int .i64 t671)) (fun _ hk => trivial)⟩
                  have n1_ : Aside0 (Kd.R (Kd.int .i64) 3 (w50.setCell ⟨go45, (((rd_T67 l0_0 a0_1).f1) : Int).toNat, none⟩ (.int .i64 t671)) w.heap.size (fun _ => True) (.slice (some ⟨go45, 0, none⟩) t666.length co14) y673) := ⟨by (with_reducible repeat (first | apply Kd.R_alloc | apply Kd.R_drewN | apply Kd.R_drew)); exact HQ51.out⟩
                  have n2_ : Aside0 ((w50.setCell ⟨go45, (((rd_T67 l0_0 a0_1).f1) : Int).toNat, none⟩ (.int .i64 t671)).heap[gb660]? = some (.cells #[.slice (some ad672) l0_0.length c0_0, .int .i64 a0_1, .slice A0_2 l0_2.length c0_2] 30 (0, 0))) := ⟨by (with_reducible repeat (first | refine blk_drewN ?_ _ | refine blk_drew ?_ | refine blk_alloc ?_ _)); refine blk_far ?_ (by have h_ := Kd.R_ne HO_670002.out BK660.out (by decide); intro e_; exact h_ (by rw [e_]; rfl)) _; (with_reducible repeat (first | refine blk_drewN ?_ _ | refine blk_drew ?_ | refine blk_alloc ?_ _)); exact BK660.out⟩
                  have n3_ : Aside0 ((w50.setCell ⟨go45, (((rd_T67 l0_0 a0_1).f1) : Int).toNat, none⟩ (.int .i64 t671)).heap[gb661]? = some (.cells #[.slice none 0 0, .int .i64 0, .slice none 0 0] 30 (0, 0))) := ⟨by (with_reducible repeat (first | refine blk_drewN ?_ _ | refine blk_drew ?_ | refine blk_alloc ?_ _)); refine blk_far ?_ (by have h_ := Kd.R_ne HO_670002.out BK661.out (by decide); intro e_; exact h_ (by rw [e_]; rfl)) _; (with_reducible repeat (first | refine blk_drewN ?_ _ | refine blk_drew ?_ | refine blk_alloc ?_ _)); exact BK661.out⟩
                  have n4_ : Aside0 ((w50.setCell ⟨go45, (((rd_T67 l0_0 a0_1).f1) : Int).toNat, none⟩ (.int .i64 t671)).heap[gb669]? = some (.cells #[.slice Ao10 t662.length co10, .int .i64 t665, .slice (some ⟨go45, 0, none⟩) t666.length co14] 30 (0, 0))) := ⟨by (with_reducible repeat (first | refine blk_drewN ?_ _ | refine blk_drew ?_ | refine blk_alloc ?_ _)); refine blk_far ?_ (by have h_ := Kd.R_ne HO_670002.out BK669.out (by decide); intro e_; exact h_ (by rw [e_]; rfl)) _; (with_reducible repeat (first | refine blk_drewN ?_ _ | refine blk_drew ?_ | refine blk_alloc ?_ _)); exact BK669.out⟩
                  have n5_ : Aside0 (Below w.heap.size w (w50.setCell ⟨go45, (((rd_T67 l0_0 a0_1).f1) : Int).toNat, none⟩ (.int .i64 t671))) := ⟨oB HB⟩
                  (try clear HO_670000)
                  (try clear HO_670002)
                  (try clear BK660)
                  (try clear BK661)
                  (try clear BK669)
                  (try clear HB)
                  generalize (w50.setCell ⟨go45, (((rd_T67 l0_0 a0_1).f1) : Int).toNat, none⟩ (.int .i64 t671)) = w52 at n0_ n1_ n2_ n3_ n4_ n5_ ⊢
                  have HO_670000 := n0_
                  have HO_670002 := n1_
                  have BK660 := n2_
                  have BK661 := n3_
                  have BK669 := n4_
                  have HB := n5_
                  clear n0_ n1_ n2_ n3_ n4_ n5_
                  have hnb53 := NB669_661.out
                  have hnc53 := NB661_669.out
                  have hcz54_0 : w52.cell? ⟨gb669, 0, none⟩ = some (.slice Ao10 t662.length co10) := (blk_cell BK669.out 0).trans rfl
                  have hcz54_1 : w52.cell? ⟨gb669, 1, none⟩ = some (.int .i64 t665) := (blk_cell BK669.out 1).trans rfl
                  have hcz54_2 : w52.cell? ⟨gb669, 2, none⟩ = some (.slice (some ⟨go45, 0, none⟩) t666.length co14) := (blk_cell BK669.out 2).trans rfl
                  have hfz54_0 := blk_frozen BK669.out 0
                  have hfz54_1 := blk_frozen BK669.out 1
                  have hfz54_2 := blk_frozen BK669.out 2
                  have hcz55_0 : w52.cell? ⟨gb661, 0, none⟩ = some (.slice none 0 0) := (blk_cell BK661.out 0).trans rfl
                  have hcz55_1 : w52.cell? ⟨gb661, 1, none⟩ = some (.int .i64 0) := (blk_cell BK661.out 1).trans rfl
                  have hcz55_2 : w52.cell? ⟨gb661, 2, none⟩ = some (.slice none 0 0) := (blk_cell BK661.out 2).trans rfl
                  have hfz55_0 := blk_frozen BK661.out 0
                  have hfz55_1 := blk_frozen BK661.out 1
                  have hfz55_2 := blk_frozen BK661.out 2
                  try go_wp2
                  refine bodyPost_ret (results_ct rfl _ _ gb661 30 #[.slice Ao10 t662.length co10, .int .i64 (wrap64 (t665 + 1)), .slice (some ⟨go45, 0, none⟩) t666.length co14] (0, 0) _ rfl (by (with_reducible repeat (first | refine blk_drewN ?_ _ | refine blk_drew ?_ | refine blk_alloc ?_ _)); refine blk_put (cs := #[.slice Ao10 t662.length co10, .int .i64 (wrap64 (t665 + 1)), .slice none 0 0]) ?_ 2 _ rfl; (with_reducible repeat (first | refine blk_drewN ?_ _ | refine blk_drew ?_ | refine blk_alloc ?_ _)); refine blk_put (cs := #[.slice Ao10 t662.length co10, .int .i64 0, .slice none 0 0]) ?_ 1 _ rfl; (with_reducible repeat (first | refine blk_drewN ?_ _ | refine blk_drew ?_ | refine blk_alloc ?_ _)); refine blk_put (cs := #[.slice none 0 0, .int .i64 0, .slice none 0 0]) ?_ 0 _ rfl; (with_reducible repeat (first | refine blk_drewN ?_ _ | refine blk_drew ?_ | refine blk_alloc ?_ _)); refine blk_far ?_ NB661_669.out _; (with_reducible repeat (first | refine blk_drewN ?_ _ | refine blk_drew ?_ | refine blk_alloc ?_ _)); exact BK661.out) Try.underlying30 rfl (by kernel_rfl)) rfl ?_
                  exact ⟨_, _, by first | rfl | (simp [errW_none, errW_some] <;> rfl) | (simp [*, errW_none, errW_some] <;> rfl), by (with_reducible repeat (first | apply Kd.R_alloc | apply Kd.R_drewN | apply Kd.R_drew)); exact Kd.R_mono (Kd.R_far (p := ⟨gb661, 2, none⟩) (Kd.R_far (p := ⟨gb661, 1, none⟩) (Kd.R_far (p := ⟨gb661, 0, none⟩) (Kd.R_far (p := ⟨gb669, 1, none⟩) (Kd.R_types (Kd.R_types HO_670000.out BK669.out (by decide)) BK661.out (by decide)) (fun _ hk => hk.1.2) (.int .i64 (wrap64 (t665 + 1)))) (fun _ hk => hk.2) (.slice Ao10 t662.length co10)) (fun _ hk => hk.2) (.int .i64 (wrap64 (t665 + 1)))) (fun _ hk => hk.2) (.slice (some ⟨go45, 0, none⟩) t666.length co14)) (fun _ hk => trivial), by (with_reducible repeat (first | apply Kd.R_alloc | apply Kd.R_drewN | apply Kd.R_drew)); exact Kd.R_mono (Kd.R_far (p := ⟨gb661, 2, none⟩) (Kd.R_far (p := ⟨gb661, 1, none⟩) (Kd.R_far (p := ⟨gb661, 0, none⟩) (Kd.R_far (p := ⟨gb669, 1, none⟩) (Kd.R_types (Kd.R_types HO_670002.out BK669.out (by decide)) BK661.out (by decide)) (fun _ hk => hk.1.2) (.int .i64 (wrap64 (t665 + 1)))) (fun _ hk => hk.2) (.slice Ao10 t662.length co10)) (fun _ hk => hk.2) (.int .i64 (wrap64 (t665 + 1)))) (fun _ hk => hk.2) (.slice (some ⟨go45, 0, none⟩) t666.length co14)) (fun _ hk => trivial), oB HB⟩
                · rw [if_neg c44] at H
                  exact absurd H (by simp)
              · rw [if_neg c43] at H
                exact absurd H (by simp)
            · rw [if_neg c42] at H
              exact absurd H (by simp)
          · rw [if_neg c41] at H
            exact absurd H (by simp)
end Go.Proofs.Ytlhlmjklajdejaa.P


namespace Go.Proofs.Ytlhlmjklajdejaa.P
open Go.RowKit Go.Proofs.YtlhlmjklajdejaaW.PrintWords Go.Proofs.YtlhlmjklajdejaaW.PrintLast Go.Proofs.YtlhlmjklajdejaaW.PrintMore
attribute [local go_sem] max2_int min2_int max_two min_two max_three min_three max_four min_four
set_option linter.unusedVariables false
set_option linter.unusedSimpArgs false
mutual
def laws_FnExactWorkStep.j0 : Nat → Bool → Bool → Bool → List (S70) → Int → List Int → List (S67) → Int → List Int → List (S67) → Int → List Int → List (S67) → Int → List Int → Option (Bool)
  | 0, _, _, _, _, _, _, _, _, _, _, _, _, _, _, _ => none
  | k + 1, x5, x8, x40, x675000, x675001, x675002, x692000, x692001, x692002, x700000, x700001, x700002, x709000, x709001, x709002 => if x40 = true then (some false) else ((laws_toWork.f k x675000 x675001 x675002).bind fun bt710 => ((laws_eqWork.f k x700000 x700001 x700002 bt710.1 bt710.2.1 bt710.2.2).bind fun t717 => (if t717 = true then ((laws_markWork.f k x700000 x700001 x700002 1).bind fun bt718 => (if bt718.1 < 0 then (laws_FnExactWorkStep.j1 k x5 true x675000 x675001 x675002 x692000 x692001 x692002 x709000 x709001 x709002) else ((laws_eqWork.f k x709000 x709001 x709002 x692000 x692001 x692002).bind fun t721 => (if t721 = true then (laws_FnExactWorkStep.j1 k x5 (x8 != x5) x675000 x675001 x675002 x692000 x692001 x692002 x709000 x709001 x709002) else (laws_FnExactWorkStep.j1 k x5 true x675000 x675001 x675002 x692000 x692001 x692002 x709000 x709001 x709002))))) else (some false))))
def laws_FnExactWorkStep.j1 : Nat → Bool → Bool → List (S70) → Int → List Int → List (S67) → Int → List Int → List (S67) → Int → List Int → Option (Bool)
  | 0, _, _, _, _, _, _, _, _, _, _, _ => none
  | k + 1, x5, x61, x675000, x675001, x675002, x692000, x692001, x692002, x709000, x709001, x709002 => if x61 = true then (some false) else ((laws_markWork.f k x709000 x709001 x709002 1).bind fun bt722 => ((laws_heldWork.f k bt722.2.1 x709001 bt722.2.2 1).bind fun t725 => (if t725 < 0 then (some false) else (if t725 = bt722.1 then ((laws_toWork.f k x675000 x675001 x675002).bind fun bt726 => ((impl_WorkStep.f k bt726.1 bt726.2.1 bt726.2.2).bind fun bt733 => ((laws_eqWork.f k bt733.1 bt733.2.1 bt733.2.2.1 x692000 x692001 x692002).bind fun t742 => (if t742 = true then (laws_FnExactWorkStep.j2 k bt722.1 (bt733.2.2.2 != x5) bt722.2.1 x709001 bt722.2.2) else (laws_FnExactWorkStep.j2 k bt722.1 true bt722.2.1 x709001 bt722.2.2))))) else (some false)))))
def laws_FnExactWorkStep.j2 : Nat → Int → Bool → List (S67) → Int → List Int → Option (Bool)
  | 0, _, _, _, _, _ => none
  | k + 1, x10, x87, x709000, x709001, x709002 => if x87 = true then (some false) else ((laws_heldWork.f k x709000 x709001 x709002 1).bind fun t743 => (if t743 < 0 then (some false) else (if t743 = x10 then (some true) else (some false))))
end
def laws_FnExactWorkStep.f (k : Nat) (l0_0 : List (S70)) (a0_1 : Int) (l0_2 : List Int) : Option (Bool) := (laws_szWork.f l0_0 a0_1 l0_2 1048576).bind fun t675 => (if t675 < 0 then (some true) else ((laws_toWork.f k l0_0 a0_1 l0_2).bind fun bt676 => ((spec_WorkStep.f k bt676.1 bt676.2.1 bt676.2.2).bind fun bt683 => ((laws_toWork.f k l0_0 a0_1 l0_2).bind fun bt692 => ((impl_WorkStep.f k bt692.1 bt692.2.1 bt692.2.2).bind fun bt700 => ((laws_eqWork.f k bt700.1 bt700.2.1 bt700.2.2.1 bt683.1 bt683.2.1 bt683.2.2.1).bind fun t709 => (if t709 = true then (laws_FnExactWorkStep.j0 k bt683.2.2.2 bt700.2.2.2 (bt700.2.2.2 != bt683.2.2.2) l0_0 a0_1 l0_2 bt683.1 bt683.2.1 bt683.2.2.1 bt692.1 bt692.2.1 bt692.2.2 bt700.1 bt700.2.1 bt700.2.2.1) else (laws_FnExactWorkStep.j0 k bt683.2.2.2 bt700.2.2.2 true l0_0 a0_1 l0_2 bt683.1 bt683.2.1 bt683.2.2.1 bt692.1 bt692.2.1 bt692.2.2 bt700.1 bt700.2.1 bt700.2.2.1))))))))
set_option maxHeartbeats 8000000 in
set_option maxRecDepth 100000 in
theorem laws_FnExactWorkStep.calls (k : Nat) (A0_0 : Option Addr) (c0_0 : Nat) (l0_0 : List (S70)) (a0_1 : Int) (A0_2 : Option Addr) (c0_2 : Nat) (l0_2 : List Int) (r : Bool) (w : World) (hr0_0 : Kd.C k70 w A0_0 l0_0.length l0_0) (hc0_0 : l0_0.length ≤ c0_0) (hr0_2 : Kd.C (Kd.int .i64) w A0_2 l0_2.length l0_2) (hc0_2 : l0_2.length ≤ c0_2) (h : laws_FnExactWorkStep.f k l0_0 a0_1 l0_2 = some r) (hrt_ : Aside0 (r = true)) :
    Calls Try.prog 9 #[.agg #[.slice A0_0 l0_0.length c0_0, .int .i64 a0_1, .slice A0_2 l0_2.length c0_2]] w fun e w' => e = .returned (.bool r) ∧ Below w.heap.size w w' := by
  have hu25 := Try.underlying25
  have hu30 := Try.underlying30
  have HR0_0 := Aside0.mk hr0_0
  have HC0_0 := Aside0.mk hc0_0
  clear hr0_0 hc0_0
  have HR0_2 := Aside0.mk hr0_2
  have HC0_2 := Aside0.mk hc0_2
  clear hr0_2 hc0_2
  have HB := Aside0.mk (Below.refl w.heap.size w)
  have H : ((laws_szWork.f l0_0 a0_1 l0_2 1048576).bind fun t675 => (if t675 < 0 then (some true) else ((laws_toWork.f k l0_0 a0_1 l0_2).bind fun bt676 => ((spec_WorkStep.f k bt676.1 bt676.2.1 bt676.2.2).bind fun bt683 => ((laws_toWork.f k l0_0 a0_1 l0_2).bind fun bt692 => ((impl_WorkStep.f k bt692.1 bt692.2.1 bt692.2.2).bind fun bt700 => ((laws_eqWork.f k bt700.1 bt700.2.1 bt700.2.2.1 bt683.1 bt683.2.1 bt683.2.2.1).bind fun t709 => (if t709 = true then (laws_FnExactWorkStep.j0 k bt683.2.2.2 bt700.2.2.2 (bt700.2.2.2 != bt683.2.2.2) l0_0 a0_1 l0_2 bt683.1 bt683.2.1 bt683.2.2.1 bt692.1 bt692.2.1 bt692.2.2 bt700.1 bt700.2.1 bt700.2.2.1) else (laws_FnExactWorkStep.j0 k bt683.2.2.2 bt700.2.2.2 true l0_0 a0_1 l0_2 bt683.1 bt683.2.1 bt683.2.2.1 bt692.1 bt692.2.1 bt692.2.2 bt700.1 bt700.2.1 bt700.2.2.1))))))))) = some r := h
  clear h
  replace H := Option.bind_eq_some_iff.mp H
  obtain ⟨t675, A20, H⟩ := H
  (try dsimp only at H)
  have A2 := Aside0.mk A20
  clear A20
  by_cases c3 : t675 < 0
  · rw [if_pos c3] at H
    have c3b0 : decide (t675 < 0) = true := decide_eq_true c3
    clear c3
    obtain rfl := Option.some.inj H
    go_enter Try.func9, Try.ntmps9
    go_wp2_with (first | ((with_reducible refine gate_dst (N := 1) rfl ?_); refine box_event ?hg (N := 1) ?hd (cs := #[.slice A0_0 l0_0.length c0_0, .int .i64 a0_1, .slice A0_2 l0_2.length c0_2]) (t := 25) ?hr ?_; (case hd => rfl); (case hg => rfl); (case hr => first | (go_simp; done) | (go_simp; rfl)); intro gb674 hg w4 hbox hb; have n0_ := Aside0.mk (below_step (oB HB) hb); have n1_ := Aside0.mk (hbox); have n2_ := Aside0.mk ((by rw [hg]; exact (below_size (oB HB)) : w.heap.size ≤ gb674)); have n3_ := Aside0.mk ((by rw [hg]; exact (below_size (oB HB)) : w.heap.size ≤ gb674)); clear HB; have HB := n0_; have BK674 := n1_; have GW674 := n2_; have GE674 := n3_; clear n0_ n1_ n2_ n3_; clear hb hbox hg; have hcz5_0 : w4.cell? ⟨gb674, 0, none⟩ = some (.slice A0_0 l0_0.length c0_0) := (blk_cell BK674.out 0).trans rfl; have hcz5_1 : w4.cell? ⟨gb674, 1, none⟩ = some (.int .i64 a0_1) := (blk_cell BK674.out 1).trans rfl; have hcz5_2 : w4.cell? ⟨gb674, 2, none⟩ = some (.slice A0_2 l0_2.length c0_2) := (blk_cell BK674.out 2).trans rfl; have hfz5_0 := blk_frozen BK674.out 0; have hfz5_1 := blk_frozen BK674.out 1; have hfz5_2 := blk_frozen BK674.out 2) | ((with_reducible refine gate_callee (f := 15) rfl ?_); refine goesL_ (some 16) rfl rfl Try.func15 (by kernel_rfl) rfl #[.agg #[.slice A0_0 l0_0.length c0_0, .int .i64 a0_1, .slice A0_2 l0_2.length c0_2], .int .i64 1048576] rfl (by (try simp only [List.map_toArray, List.map_cons, List.map_nil]); first | done | rfl | (simp only [List.length_drop, List.length_take]; rfl)) ?_; (with_reducible refine (laws_szWork.calls _ _ l0_0 a0_1 _ _ l0_2 1048576 t675 _ ?side1 ?side2 ?side3 ?side4 A2.out).mono ?_); (case side1 => exact oc_ HR0_0.out); (case side2 => exact HC0_0.out); (case side3 => exact oc_ HR0_2.out); (case side4 => exact HC0_2.out); rintro e w6 ⟨rfl, hb⟩; refine ⟨_, rfl, ?_⟩; have n0_ := Aside0.mk (blk_below (g := gb674) (o := .cells #[.slice A0_0 l0_0.length c0_0, .int .i64 a0_1, .slice A0_2 l0_2.length c0_2] 25 (0, 0)) (oK BK674) hb); have n1_ := Aside0.mk (below_step (oB HB) hb); clear BK674; clear HB; have BK674 := n0_; have HB := n1_; clear n0_ n1_; (try clear hb); (try clear hb2); (try clear hk); (try clear hi)))
    go_ret
    exact ⟨by first | rfl | (simp [errW_none, errW_some] <;> rfl) | (simp [*, errW_none, errW_some] <;> rfl), oB HB⟩
  · rw [if_neg c3] at H
    have c3b0 : decide (t675 < 0) = false := decide_eq_false c3
    clear c3
    replace H := Option.bind_eq_some_iff.mp H
    obtain ⟨⟨t676, t679, t680⟩, A70, H⟩ := H
    (try dsimp only at H)
    have A7 := Aside0.mk A70
    clear A70
    replace H := Option.bind_eq_some_iff.mp H
    obtain ⟨⟨t683, t686, t687, t690⟩, A80, H⟩ := H
    (try dsimp only at H)
    have A8 := Aside0.mk A80
    clear A80
    replace H := Option.bind_eq_some_iff.mp H
    obtain ⟨⟨t692, t695, t696⟩, A90, H⟩ := H
    (try dsimp only at H)
    have A9 := Aside0.mk A90
    clear A90
    replace H := Option.bind_eq_some_iff.mp H
    obtain ⟨⟨t700, t703, t704, t707⟩, A100, H⟩ := H
    (try dsimp only at H)
    have A10 := Aside0.mk A100
    clear A100
    have HC11 := Aside0.mk H
    clear H
    go_enter Try.func9, Try.ntmps9
    go_upto_region 8 with (first | ((with_reducible refine gate_dst (N := 1) rfl ?_); refine box_event ?hg (N := 1) ?hd (cs := #[.slice A0_0 l0_0.length c0_0, .int .i64 a0_1, .slice A0_2 l0_2.length c0_2]) (t := 25) ?hr ?_; (case hd => rfl); (case hg => rfl); (case hr => first | (go_simp; done) | (go_simp; rfl)); intro gb674 hg w12 hbox hb; have n0_ := Aside0.mk (below_step (oB HB) hb); have n1_ := Aside0.mk (hbox); have n2_ := Aside0.mk ((by rw [hg]; exact (below_size (oB HB)) : w.heap.size ≤ gb674)); have n3_ := Aside0.mk ((by rw [hg]; exact (below_size (oB HB)) : w.heap.size ≤ gb674)); clear HB; have HB := n0_; have BK674 := n1_; have GW674 := n2_; have GE674 := n3_; clear n0_ n1_ n2_ n3_; clear hb hbox hg; have hcz13_0 : w12.cell? ⟨gb674, 0, none⟩ = some (.slice A0_0 l0_0.length c0_0) := (blk_cell BK674.out 0).trans rfl; have hcz13_1 : w12.cell? ⟨gb674, 1, none⟩ = some (.int .i64 a0_1) := (blk_cell BK674.out 1).trans rfl; have hcz13_2 : w12.cell? ⟨gb674, 2, none⟩ = some (.slice A0_2 l0_2.length c0_2) := (blk_cell BK674.out 2).trans rfl; have hfz13_0 := blk_frozen BK674.out 0; have hfz13_1 := blk_frozen BK674.out 1; have hfz13_2 := blk_frozen BK674.out 2) | ((with_reducible refine gate_callee (f := 15) rfl ?_); refine goesL_ (some 16) rfl rfl Try.func15 (by kernel_rfl) rfl #[.agg #[.slice A0_0 l0_0.length c0_0, .int .i64 a0_1, .slice A0_2 l0_2.length c0_2], .int .i64 1048576] rfl (by (try simp only [List.map_toArray, List.map_cons, List.map_nil]); first | done | rfl | (simp only [List.length_drop, List.length_take]; rfl)) ?_; (with_reducible refine (laws_szWork.calls _ _ l0_0 a0_1 _ _ l0_2 1048576 t675 _ ?side1 ?side2 ?side3 ?side4 A2.out).mono ?_); (case side1 => exact oc_ HR0_0.out); (case side2 => exact HC0_0.out); (case side3 => exact oc_ HR0_2.out); (case side4 => exact HC0_2.out); rintro e w14 ⟨rfl, hb⟩; refine ⟨_, rfl, ?_⟩; have n0_ := Aside0.mk (blk_below (g := gb674) (o := .cells #[.slice A0_0 l0_0.length c0_0, .int .i64 a0_1, .slice A0_2 l0_2.length c0_2] 25 (0, 0)) (oK BK674) hb); have n1_ := Aside0.mk (below_step (oB HB) hb); clear BK674; clear HB; have BK674 := n0_; have HB := n1_; clear n0_ n1_; (try clear hb); (try clear hb2); (try clear hk); (try clear hi); have hcz15_0 : w14.cell? ⟨gb674, 0, none⟩ = some (.slice A0_0 l0_0.length c0_0) := (blk_cell BK674.out 0).trans rfl; have hcz15_1 : w14.cell? ⟨gb674, 1, none⟩ = some (.int .i64 a0_1) := (blk_cell BK674.out 1).trans rfl; have hcz15_2 : w14.cell? ⟨gb674, 2, none⟩ = some (.slice A0_2 l0_2.length c0_2) := (blk_cell BK674.out 2).trans rfl; have hfz15_0 := blk_frozen BK674.out 0; have hfz15_1 := blk_frozen BK674.out 1; have hfz15_2 := blk_frozen BK674.out 2) | ((with_reducible refine gate_callee (f := 17) rfl ?_); refine goesL_ (some 21) rfl rfl Try.func17 (by kernel_rfl) rfl #[.agg #[.slice A0_0 l0_0.length c0_0, .int .i64 a0_1, .slice A0_2 l0_2.length c0_2]] rfl (by (try simp only [List.map_toArray, List.map_cons, List.map_nil]); first | done | rfl | (simp only [List.length_drop, List.length_take]; rfl)) ?_; (with_reducible refine (laws_toWork.calls k _ _ l0_0 a0_1 _ _ l0_2 t676 t679 t680 _ ?side1 ?side2 ?side3 ?side4 A7.out).mono ?_); (case side1 => exact oc_ HR0_0.out); (case side2 => exact HC0_0.out); (case side3 => exact oc_ HR0_2.out); (case side4 => exact HC0_2.out); rintro e w16 ⟨v677, v681, rfl, ho0, ho1, hb⟩; refine ⟨_, rfl, ?_⟩; have n0_ := Aside0.mk (Kd.R_lower ho0 (below_size (oB HB))); have n1_ := Aside0.mk (Kd.R_lower ho1 (below_size (oB HB))); have n2_ := Aside0.mk (blk_below (g := gb674) (o := .cells #[.slice A0_0 l0_0.length c0_0, .int .i64 a0_1, .slice A0_2 l0_2.length c0_2] 25 (0, 0)) (oK BK674) hb); have n3_ := Aside0.mk (below_step (oB HB) hb); clear BK674; clear HB; have HO678 := n0_; have HO682 := n1_; have BK674 := n2_; have HB := n3_; clear n0_ n1_ n2_ n3_; (try clear hb); (try clear hb2); (try clear hk); (try clear hi); (try clear ho0); (try clear ho1); obtain ⟨Ao17, co17, eo17⟩ := Kd.R_slice HO678.out; subst eo17; obtain ⟨Ao18, co18, eo18⟩ := Kd.R_slice HO682.out; subst eo18) | ((with_reducible refine gate_callee (f := 39) rfl ?_); refine goesL_ (some 22) rfl rfl Try.func39 (by kernel_rfl) rfl #[.agg #[.slice Ao17 t676.length co17, .int .i64 t679, .slice Ao18 t680.length co18]] rfl (by (try simp only [List.map_toArray, List.map_cons, List.map_nil]); first | done | rfl | (simp only [List.length_drop, List.length_take]; rfl)) ?_; (with_reducible refine (spec_WorkStep.calls k _ _ t676 t679 _ _ t680 t683 t686 t687 t690 _ ?side1 ?side2 ?side3 ?side4 A8.out).mono ?_); (case side1 => repeat (first | exact (Kd.R_reads' HO678.out).2.2 | (with_reducible refine Kd.C_alloc ?_ _) | (with_reducible refine Kd.C_drewN ?_ _) | (with_reducible refine Kd.C_drew ?_))); (case side2 => exact (Kd.R_reads' HO678.out).2.1); (case side3 => repeat (first | exact (Kd.R_reads' HO682.out).2.2 | (with_reducible refine Kd.C_alloc ?_ _) | (with_reducible refine Kd.C_drewN ?_ _) | (with_reducible refine Kd.C_drew ?_))); (case side4 => exact (Kd.R_reads' HO682.out).2.1); rintro e w19 ⟨v684, v688, rfl, ho0, ho1, hb⟩; refine ⟨_, rfl, ?_⟩; have n0_ := Aside0.mk (Kd.R_elder' (oR HO678) (Kd.R_base ho0) hb); have n1_ := Aside0.mk (Kd.R_elder' (oR HO682) (Kd.R_base ho1) hb); have n2_ := Aside0.mk (Kd.R_lower (Kd.R_new' ho0 (Kd.R_lt (oR HO678))) (below_size (oB HB))); have n3_ := Aside0.mk (Kd.R_lower (Kd.R_new' ho1 (Kd.R_lt (oR HO682))) (below_size (oB HB))); have n4_ := Aside0.mk (blk_below (g := gb674) (o := .cells #[.slice A0_0 l0_0.length c0_0, .int .i64 a0_1, .slice A0_2 l0_2.length c0_2] 25 (0, 0)) (oK BK674) hb); have n5_ := Aside0.mk (below_step (oB HB) hb); clear HO678; clear HO682; clear BK674; clear HB; have HO678 := n0_; have HO682 := n1_; have HO685 := n2_; have HO689 := n3_; have BK674 := n4_; have HB := n5_; clear n0_ n1_ n2_ n3_ n4_ n5_; (try clear hb); (try clear hb2); (try clear hk); (try clear hi); (try clear ho0); (try clear ho1)) | ((with_reducible refine gate_dst (N := 4) rfl ?_); refine box_event ?hg (N := 4) ?hd (cs := #[.slice none 0 0, .int .i64 0, .slice none 0 0]) (t := 30) ?hr ?_; (case hd => rfl); (case hg => rfl); (case hr => first | (go_simp; done) | (go_simp; rfl)); intro gb691 hg w20 hbox hb; have n0_ := Aside0.mk (Kd.R_below (oR HO678) hb); have n1_ := Aside0.mk (Kd.R_below (oR HO682) hb); have n2_ := Aside0.mk (Kd.R_below (oR HO685) hb); have n3_ := Aside0.mk (Kd.R_below (oR HO689) hb); have n4_ := Aside0.mk (blk_below (g := gb674) (o := .cells #[.slice A0_0 l0_0.length c0_0, .int .i64 a0_1, .slice A0_2 l0_2.length c0_2] 25 (0, 0)) (oK BK674) hb); have n5_ := Aside0.mk (below_step (oB HB) hb); have n6_ := Aside0.mk (hbox); have n7_ := Aside0.mk ((by rw [hg]; exact (below_size (oB HB)) : w.heap.size ≤ gb691)); have n8_ := Aside0.mk ((by rw [hg]; exact (below_size (oB HB)) : w.heap.size ≤ gb691)); have n9_ := Aside0.mk ((by rw [hg]; exact Nat.ne_of_lt (blk_lt (g := gb674) (o := .cells #[.slice A0_0 l0_0.length c0_0, .int .i64 a0_1, .slice A0_2 l0_2.length c0_2] 25 (0, 0)) (oK BK674)) : gb674 ≠ gb691)); have n10_ := Aside0.mk ((by rw [hg]; exact Nat.ne_of_gt (blk_lt (g := gb674) (o := .cells #[.slice A0_0 l0_0.length c0_0, .int .i64 a0_1, .slice A0_2 l0_2.length c0_2] 25 (0, 0)) (oK BK674)) : gb691 ≠ gb674)); clear HO678; clear HO682; clear HO685; clear HO689; clear BK674; clear HB; have HO678 := n0_; have HO682 := n1_; have HO685 := n2_; have HO689 := n3_; have BK674 := n4_; have HB := n5_; have BK691 := n6_; have GW691 := n7_; have GE691 := n8_; have NB674_691 := n9_; have NB691_674 := n10_; clear n0_ n1_ n2_ n3_ n4_ n5_ n6_ n7_ n8_ n9_ n10_; clear hb hbox hg; obtain ⟨Ao21, co21, eo21⟩ := Kd.R_slice HO685.out; subst eo21; have hnb22 := NB691_674.out; have hnc22 := NB674_691.out; have hcz23_0 : w20.cell? ⟨gb691, 0, none⟩ = some (.slice none 0 0) := (blk_cell BK691.out 0).trans rfl; have hcz23_1 : w20.cell? ⟨gb691, 1, none⟩ = some (.int .i64 0) := (blk_cell BK691.out 1).trans rfl; have hcz23_2 : w20.cell? ⟨gb691, 2, none⟩ = some (.slice none 0 0) := (blk_cell BK691.out 2).trans rfl; have hfz23_0 := blk_frozen BK691.out 0; have hfz23_1 := blk_frozen BK691.out 1; have hfz23_2 := blk_frozen BK691.out 2; obtain ⟨Ao24, co24, eo24⟩ := Kd.R_slice HO689.out; subst eo24; have hcz25_0 : w20.cell? ⟨gb674, 0, none⟩ = some (.slice A0_0 l0_0.length c0_0) := (blk_cell BK674.out 0).trans rfl; have hcz25_1 : w20.cell? ⟨gb674, 1, none⟩ = some (.int .i64 a0_1) := (blk_cell BK674.out 1).trans rfl; have hcz25_2 : w20.cell? ⟨gb674, 2, none⟩ = some (.slice A0_2 l0_2.length c0_2) := (blk_cell BK674.out 2).trans rfl; have hfz25_0 := blk_frozen BK674.out 0; have hfz25_1 := blk_frozen BK674.out 1; have hfz25_2 := blk_frozen BK674.out 2) | ((with_reducible refine gate_callee (f := 17) rfl ?_); refine goesL_ (some 26) rfl rfl Try.func17 (by kernel_rfl) rfl #[.agg #[.slice A0_0 l0_0.length c0_0, .int .i64 a0_1, .slice A0_2 l0_2.length c0_2]] rfl (by (try simp only [List.map_toArray, List.map_cons, List.map_nil]); first | done | rfl | (simp only [List.length_drop, List.length_take]; rfl)) ?_; (with_reducible refine (laws_toWork.calls k _ _ l0_0 a0_1 _ _ l0_2 t692 t695 t696 _ ?side1 ?side2 ?side3 ?side4 A9.out).mono ?_); (case side1 => exact Kd.C_below HR0_0.out (oB HB)); (case side2 => exact HC0_0.out); (case side3 => exact Kd.C_below HR0_2.out (oB HB)); (case side4 => exact HC0_2.out); rintro e w26 ⟨v693, v697, rfl, ho0, ho1, hb⟩; refine ⟨_, rfl, ?_⟩; have n0_ := Aside0.mk (Kd.R_elder' (by (with_reducible repeat (first | apply Kd.R_alloc | apply Kd.R_drewN | apply Kd.R_drew)); exact (Kd.R_mono (Kd.R_far (p := ⟨gb691, 2, none⟩) (Kd.R_far (p := ⟨gb691, 1, none⟩) (Kd.R_far (p := ⟨gb691, 0, none⟩) (Kd.R_types HO678.out BK691.out (by decide)) (fun _ hk => hk.2) (.slice Ao21 t683.length co21)) (fun _ hk => hk.2) (.int .i64 t686)) (fun _ hk => hk.2) (.slice Ao24 t687.length co24)) (fun _ h_ => h_.1))) (Kd.R_base ho0) hb); have n1_ := Aside0.mk (Kd.R_elder' (by (with_reducible repeat (first | apply Kd.R_alloc | apply Kd.R_drewN | apply Kd.R_drew)); exact (Kd.R_mono (Kd.R_far (p := ⟨gb691, 2, none⟩) (Kd.R_far (p := ⟨gb691, 1, none⟩) (Kd.R_far (p := ⟨gb691, 0, none⟩) (Kd.R_types HO682.out BK691.out (by decide)) (fun _ hk => hk.2) (.slice Ao21 t683.length co21)) (fun _ hk => hk.2) (.int .i64 t686)) (fun _ hk => hk.2) (.slice Ao24 t687.length co24)) (fun _ h_ => h_.1))) (Kd.R_base ho1) hb); have n2_ := Aside0.mk (Kd.R_elder' (by (with_reducible repeat (first | apply Kd.R_alloc | apply Kd.R_drewN | apply Kd.R_drew)); exact (Kd.R_mono (Kd.R_far (p := ⟨gb691, 2, none⟩) (Kd.R_far (p := ⟨gb691, 1, none⟩) (Kd.R_far (p := ⟨gb691, 0, none⟩) (Kd.R_types HO685.out BK691.out (by decide)) (fun _ hk => hk.2) (.slice Ao21 t683.length co21)) (fun _ hk => hk.2) (.int .i64 t686)) (fun _ hk => hk.2) (.slice Ao24 t687.length co24)) (fun _ h_ => h_.1))) (Kd.R_base ho0) hb); have n3_ := Aside0.mk (Kd.R_elder' (by (with_reducible repeat (first | apply Kd.R_alloc | apply Kd.R_drewN | apply Kd.R_drew)); exact (Kd.R_mono (Kd.R_far (p := ⟨gb691, 2, none⟩) (Kd.R_far (p := ⟨gb691, 1, none⟩) (Kd.R_far (p := ⟨gb691, 0, none⟩) (Kd.R_types HO689.out BK691.out (by decide)) (fun _ hk => hk.2) (.slice Ao21 t683.length co21)) (fun _ hk => hk.2) (.int .i64 t686)) (fun _ hk => hk.2) (.slice Ao24 t687.length co24)) (fun _ h_ => h_.1))) (Kd.R_base ho1) hb); have n4_ := Aside0.mk (Kd.R_lower (Kd.R_new' (Kd.R_new' ho0 (Kd.R_lt (by (with_reducible repeat (first | apply Kd.R_alloc | apply Kd.R_drewN | apply Kd.R_drew)); exact (Kd.R_mono (Kd.R_far (p := ⟨gb691, 2, none⟩) (Kd.R_far (p := ⟨gb691, 1, none⟩) (Kd.R_far (p := ⟨gb691, 0, none⟩) (Kd.R_types HO678.out BK691.out (by decide)) (fun _ hk => hk.2) (.slice Ao21 t683.length co21)) (fun _ hk => hk.2) (.int .i64 t686)) (fun _ hk => hk.2) (.slice Ao24 t687.length co24)) (fun _ h_ => h_.1))))) (Kd.R_lt (by (with_reducible repeat (first | apply Kd.R_alloc | apply Kd.R_drewN | apply Kd.R_drew)); exact (Kd.R_mono (Kd.R_far (p := ⟨gb691, 2, none⟩) (Kd.R_far (p := ⟨gb691, 1, none⟩) (Kd.R_far (p := ⟨gb691, 0, none⟩) (Kd.R_types HO685.out BK691.out (by decide)) (fun _ hk => hk.2) (.slice Ao21 t683.length co21)) (fun _ hk => hk.2) (.int .i64 t686)) (fun _ hk => hk.2) (.slice Ao24 t687.length co24)) (fun _ h_ => h_.1))))) (below_size (oB HB))); have n5_ := Aside0.mk (Kd.R_lower (Kd.R_new' (Kd.R_new' ho1 (Kd.R_lt (by (with_reducible repeat (first | apply Kd.R_alloc | apply Kd.R_drewN | apply Kd.R_drew)); exact (Kd.R_mono (Kd.R_far (p := ⟨gb691, 2, none⟩) (Kd.R_far (p := ⟨gb691, 1, none⟩) (Kd.R_far (p := ⟨gb691, 0, none⟩) (Kd.R_types HO682.out BK691.out (by decide)) (fun _ hk => hk.2) (.slice Ao21 t683.length co21)) (fun _ hk => hk.2) (.int .i64 t686)) (fun _ hk => hk.2) (.slice Ao24 t687.length co24)) (fun _ h_ => h_.1))))) (Kd.R_lt (by (with_reducible repeat (first | apply Kd.R_alloc | apply Kd.R_drewN | apply Kd.R_drew)); exact (Kd.R_mono (Kd.R_far (p := ⟨gb691, 2, none⟩) (Kd.R_far (p := ⟨gb691, 1, none⟩) (Kd.R_far (p := ⟨gb691, 0, none⟩) (Kd.R_types HO689.out BK691.out (by decide)) (fun _ hk => hk.2) (.slice Ao21 t683.length co21)) (fun _ hk => hk.2) (.int .i64 t686)) (fun _ hk => hk.2) (.slice Ao24 t687.length co24)) (fun _ h_ => h_.1))))) (below_size (oB HB))); have n6_ := Aside0.mk (blk_below (g := gb674) (o := .cells #[.slice A0_0 l0_0.length c0_0, .int .i64 a0_1, .slice A0_2 l0_2.length c0_2] 25 (0, 0)) (by (with_reducible repeat (first | refine blk_drewN ?_ _ | refine blk_drew ?_ | refine blk_alloc ?_ _)); refine blk_far ?_ NB674_691.out _; (with_reducible repeat (first | refine blk_drewN ?_ _ | refine blk_drew ?_ | refine blk_alloc ?_ _)); refine blk_far ?_ NB674_691.out _; (with_reducible repeat (first | refine blk_drewN ?_ _ | refine blk_drew ?_ | refine blk_alloc ?_ _)); refine blk_far ?_ NB674_691.out _; (with_reducible repeat (first | refine blk_drewN ?_ _ | refine blk_drew ?_ | refine blk_alloc ?_ _)); exact BK674.out) hb); have n7_ := Aside0.mk (blk_below (g := gb691) (o := .cells #[.slice Ao21 t683.length co21, .int .i64 t686, .slice Ao24 t687.length co24] 30 (0, 0)) (by (with_reducible repeat (first | refine blk_drewN ?_ _ | refine blk_drew ?_ | refine blk_alloc ?_ _)); refine blk_put (cs := #[.slice Ao21 t683.length co21, .int .i64 t686, .slice none 0 0]) ?_ 2 _ rfl; (with_reducible repeat (first | refine blk_drewN ?_ _ | refine blk_drew ?_ | refine blk_alloc ?_ _)); refine blk_put (cs := #[.slice Ao21 t683.length co21, .int .i64 0, .slice none 0 0]) ?_ 1 _ rfl; (with_reducible repeat (first | refine blk_drewN ?_ _ | refine blk_drew ?_ | refine blk_alloc ?_ _)); refine blk_put (cs := #[.slice none 0 0, .int .i64 0, .slice none 0 0]) ?_ 0 _ rfl; (with_reducible repeat (first | refine blk_drewN ?_ _ | refine blk_drew ?_ | refine blk_alloc ?_ _)); exact BK691.out) hb); have n8_ := Aside0.mk (below_step (oB HB) hb); clear HO678; clear HO682; clear HO685; clear HO689; clear BK674; clear BK691; clear HB; have HO678 := n0_; have HO682 := n1_; have HO685 := n2_; have HO689 := n3_; have HO694 := n4_; have HO698 := n5_; have BK674 := n6_; have BK691 := n7_; have HB := n8_; clear n0_ n1_ n2_ n3_ n4_ n5_ n6_ n7_ n8_; (try clear hb); (try clear hb2); (try clear hk); (try clear hi); (try clear ho0); (try clear ho1)) | ((with_reducible refine gate_dst (N := 6) rfl ?_); refine box_event ?hg (N := 6) ?hd (cs := #[.slice none 0 0, .int .i64 0, .slice none 0 0]) (t := 30) ?hr ?_; (case hd => rfl); (case hg => rfl); (case hr => first | (go_simp; done) | (go_simp; rfl)); intro gb699 hg w27 hbox hb; have n0_ := Aside0.mk (Kd.R_below (oR HO678) hb); have n1_ := Aside0.mk (Kd.R_below (oR HO682) hb); have n2_ := Aside0.mk (Kd.R_below (oR HO685) hb); have n3_ := Aside0.mk (Kd.R_below (oR HO689) hb); have n4_ := Aside0.mk (Kd.R_below (oR HO694) hb); have n5_ := Aside0.mk (Kd.R_below (oR HO698) hb); have n6_ := Aside0.mk (blk_below (g := gb674) (o := .cells #[.slice A0_0 l0_0.length c0_0, .int .i64 a0_1, .slice A0_2 l0_2.length c0_2] 25 (0, 0)) (oK BK674) hb); have n7_ := Aside0.mk (blk_below (g := gb691) (o := .cells #[.slice Ao21 t683.length co21, .int .i64 t686, .slice Ao24 t687.length co24] 30 (0, 0)) (oK BK691) hb); have n8_ := Aside0.mk (below_step (oB HB) hb); have n9_ := Aside0.mk (hbox); have n10_ := Aside0.mk ((by rw [hg]; exact (below_size (oB HB)) : w.heap.size ≤ gb699)); have n11_ := Aside0.mk ((by rw [hg]; exact (below_size (oB HB)) : w.heap.size ≤ gb699)); have n12_ := Aside0.mk ((by rw [hg]; exact Nat.ne_of_lt (blk_lt (g := gb674) (o := .cells #[.slice A0_0 l0_0.length c0_0, .int .i64 a0_1, .slice A0_2 l0_2.length c0_2] 25 (0, 0)) (oK BK674)) : gb674 ≠ gb699)); have n13_ := Aside0.mk ((by rw [hg]; exact Nat.ne_of_gt (blk_lt (g := gb674) (o := .cells #[.slice A0_0 l0_0.length c0_0, .int .i64 a0_1, .slice A0_2 l0_2.length c0_2] 25 (0, 0)) (oK BK674)) : gb699 ≠ gb674)); have n14_ := Aside0.mk ((by rw [hg]; exact Nat.ne_of_lt (blk_lt (g := gb691) (o := .cells #[.slice Ao21 t683.length co21, .int .i64 t686, .slice Ao24 t687.length co24] 30 (0, 0)) (oK BK691)) : gb691 ≠ gb699)); have n15_ := Aside0.mk ((by rw [hg]; exact Nat.ne_of_gt (blk_lt (g := gb691) (o := .cells #[.slice Ao21 t683.length co21, .int .i64 t686, .slice Ao24 t687.length co24] 30 (0, 0)) (oK BK691)) : gb699 ≠ gb691)); clear HO678; clear HO682; clear HO685; clear HO689; clear HO694; clear HO698; clear BK674; clear BK691; clear HB; have HO678 := n0_; have HO682 := n1_; have HO685 := n2_; have HO689 := n3_; have HO694 := n4_; have HO698 := n5_; have BK674 := n6_; have BK691 := n7_; have HB := n8_; have BK699 := n9_; have GW699 := n10_; have GE699 := n11_; have NB674_699 := n12_; have NB699_674 := n13_; have NB691_699 := n14_; have NB699_691 := n15_; clear n0_ n1_ n2_ n3_ n4_ n5_ n6_ n7_ n8_ n9_ n10_ n11_ n12_ n13_ n14_ n15_; clear hb hbox hg; obtain ⟨Ao28, co28, eo28⟩ := Kd.R_slice HO694.out; subst eo28; have hnb29 := NB699_674.out; have hnc29 := NB674_699.out; have hnb30 := NB699_691.out; have hnc30 := NB691_699.out; have hcz31_0 : w27.cell? ⟨gb699, 0, none⟩ = some (.slice none 0 0) := (blk_cell BK699.out 0).trans rfl; have hcz31_1 : w27.cell? ⟨gb699, 1, none⟩ = some (.int .i64 0) := (blk_cell BK699.out 1).trans rfl; have hcz31_2 : w27.cell? ⟨gb699, 2, none⟩ = some (.slice none 0 0) := (blk_cell BK699.out 2).trans rfl; have hfz31_0 := blk_frozen BK699.out 0; have hfz31_1 := blk_frozen BK699.out 1; have hfz31_2 := blk_frozen BK699.out 2; obtain ⟨Ao32, co32, eo32⟩ := Kd.R_slice HO698.out; subst eo32) | ((with_reducible refine gate_callee (f := 40) rfl ?_); refine goesL_ (some 29) rfl rfl Try.func40 (by kernel_rfl) rfl #[.agg #[.slice Ao28 t692.length co28, .int .i64 t695, .slice Ao32 t696.length co32]] rfl (by (try simp only [List.map_toArray, List.map_cons, List.map_nil]); first | done | rfl | (simp only [List.length_drop, List.length_take]; rfl)) ?_; (with_reducible refine (impl_WorkStep.calls k _ _ t692 t695 _ _ t696 t700 t703 t704 t707 _ ?side1 ?side2 ?side3 ?side4 A10.out).mono ?_); (case side1 => refine (Kd.R_reads' (e := 67) (base := w.heap.size) (ok := fun k_ => ((True ∧ some k_ ≠ (.slice Ao17 t676.length co17 : Value).ownBlock) ∧ some k_ ≠ (.slice Ao21 t683.length co21 : Value).ownBlock)) (n := t692.length) (c := co28) ?_).2.2; exact (by (with_reducible repeat (first | apply Kd.R_alloc | apply Kd.R_drewN | apply Kd.R_drew)); exact (Kd.R_mono (Kd.R_far (p := ⟨gb699, 2, none⟩) (Kd.R_far (p := ⟨gb699, 1, none⟩) (Kd.R_far (p := ⟨gb699, 0, none⟩) (Kd.R_types HO694.out BK699.out (by decide)) (fun _ hk => hk.2) (.slice Ao28 t692.length co28)) (fun _ hk => hk.2) (.int .i64 t695)) (fun _ hk => hk.2) (.slice Ao32 t696.length co32)) (fun _ h_ => h_.1)))); (case side2 => exact (Kd.R_reads' HO694.out).2.1); (case side3 => refine (Kd.R_reads' (e := 3) (base := w.heap.size) (ok := fun k_ => ((True ∧ some k_ ≠ (.slice Ao18 t680.length co18 : Value).ownBlock) ∧ some k_ ≠ (.slice Ao24 t687.length co24 : Value).ownBlock)) (n := t696.length) (c := co32) ?_).2.2; exact (by (with_reducible repeat (first | apply Kd.R_alloc | apply Kd.R_drewN | apply Kd.R_drew)); exact (Kd.R_mono (Kd.R_far (p := ⟨gb699, 2, none⟩) (Kd.R_far (p := ⟨gb699, 1, none⟩) (Kd.R_far (p := ⟨gb699, 0, none⟩) (Kd.R_types HO698.out BK699.out (by decide)) (fun _ hk => hk.2) (.slice Ao28 t692.length co28)) (fun _ hk => hk.2) (.int .i64 t695)) (fun _ hk => hk.2) (.slice Ao32 t696.length co32)) (fun _ h_ => h_.1)))); (case side4 => exact (Kd.R_reads' HO698.out).2.1); rintro e w33 ⟨v701, v705, rfl, ho0, ho1, hb⟩; refine ⟨_, rfl, ?_⟩; have n0_ := Aside0.mk (Kd.R_elder' (by (with_reducible repeat (first | apply Kd.R_alloc | apply Kd.R_drewN | apply Kd.R_drew)); exact (Kd.R_mono (Kd.R_far (p := ⟨gb699, 2, none⟩) (Kd.R_far (p := ⟨gb699, 1, none⟩) (Kd.R_far (p := ⟨gb699, 0, none⟩) (Kd.R_types HO678.out BK699.out (by decide)) (fun _ hk => hk.2) (.slice Ao28 t692.length co28)) (fun _ hk => hk.2) (.int .i64 t695)) (fun _ hk => hk.2) (.slice Ao32 t696.length co32)) (fun _ h_ => h_.1))) (Kd.R_base ho0) hb); have n1_ := Aside0.mk (Kd.R_elder' (by (with_reducible repeat (first | apply Kd.R_alloc | apply Kd.R_drewN | apply Kd.R_drew)); exact (Kd.R_mono (Kd.R_far (p := ⟨gb699, 2, none⟩) (Kd.R_far (p := ⟨gb699, 1, none⟩) (Kd.R_far (p := ⟨gb699, 0, none⟩) (Kd.R_types HO682.out BK699.out (by decide)) (fun _ hk => hk.2) (.slice Ao28 t692.length co28)) (fun _ hk => hk.2) (.int .i64 t695)) (fun _ hk => hk.2) (.slice Ao32 t696.length co32)) (fun _ h_ => h_.1))) (Kd.R_base ho1) hb); have n2_ := Aside0.mk (Kd.R_elder' (by (with_reducible repeat (first | apply Kd.R_alloc | apply Kd.R_drewN | apply Kd.R_drew)); exact (Kd.R_mono (Kd.R_far (p := ⟨gb699, 2, none⟩) (Kd.R_far (p := ⟨gb699, 1, none⟩) (Kd.R_far (p := ⟨gb699, 0, none⟩) (Kd.R_types HO685.out BK699.out (by decide)) (fun _ hk => hk.2) (.slice Ao28 t692.length co28)) (fun _ hk => hk.2) (.int .i64 t695)) (fun _ hk => hk.2) (.slice Ao32 t696.length co32)) (fun _ h_ => h_.1))) (Kd.R_base ho0) hb); have n3_ := Aside0.mk (Kd.R_elder' (by (with_reducible repeat (first | apply Kd.R_alloc | apply Kd.R_drewN | apply Kd.R_drew)); exact (Kd.R_mono (Kd.R_far (p := ⟨gb699, 2, none⟩) (Kd.R_far (p := ⟨gb699, 1, none⟩) (Kd.R_far (p := ⟨gb699, 0, none⟩) (Kd.R_types HO689.out BK699.out (by decide)) (fun _ hk => hk.2) (.slice Ao28 t692.length co28)) (fun _ hk => hk.2) (.int .i64 t695)) (fun _ hk => hk.2) (.slice Ao32 t696.length co32)) (fun _ h_ => h_.1))) (Kd.R_base ho1) hb); have n4_ := Aside0.mk (Kd.R_elder' (by (with_reducible repeat (first | apply Kd.R_alloc | apply Kd.R_drewN | apply Kd.R_drew)); exact (Kd.R_mono (Kd.R_far (p := ⟨gb699, 2, none⟩) (Kd.R_far (p := ⟨gb699, 1, none⟩) (Kd.R_far (p := ⟨gb699, 0, none⟩) (Kd.R_types HO694.out BK699.out (by decide)) (fun _ hk => hk.2) (.slice Ao28 t692.length co28)) (fun _ hk => hk.2) (.int .i64 t695)) (fun _ hk => hk.2) (.slice Ao32 t696.length co32)) (fun _ h_ => h_.1))) (Kd.R_base ho0) hb); have n5_ := Aside0.mk (Kd.R_elder' (by (with_reducible repeat (first | apply Kd.R_alloc | apply Kd.R_drewN | apply Kd.R_drew)); exact (Kd.R_mono (Kd.R_far (p := ⟨gb699, 2, none⟩) (Kd.R_far (p := ⟨gb699, 1, none⟩) (Kd.R_far (p := ⟨gb699, 0, none⟩) (Kd.R_types HO698.out BK699.out (by decide)) (fun _ hk => hk.2) (.slice Ao28 t692.length co28)) (fun _ hk => hk.2) (.int .i64 t695)) (fun _ hk => hk.2) (.slice Ao32 t696.length co32)) (fun _ h_ => h_.1))) (Kd.R_base ho1) hb); have n6_ := Aside0.mk (Kd.R_lower (Kd.R_new' (Kd.R_new' (Kd.R_new' ho0 (Kd.R_lt (by (with_reducible repeat (first | apply Kd.R_alloc | apply Kd.R_drewN | apply Kd.R_drew)); exact (Kd.R_mono (Kd.R_far (p := ⟨gb699, 2, none⟩) (Kd.R_far (p := ⟨gb699, 1, none⟩) (Kd.R_far (p := ⟨gb699, 0, none⟩) (Kd.R_types HO678.out BK699.out (by decide)) (fun _ hk => hk.2) (.slice Ao28 t692.length co28)) (fun _ hk => hk.2) (.int .i64 t695)) (fun _ hk => hk.2) (.slice Ao32 t696.length co32)) (fun _ h_ => h_.1))))) (Kd.R_lt (by (with_reducible repeat (first | apply Kd.R_alloc | apply Kd.R_drewN | apply Kd.R_drew)); exact (Kd.R_mono (Kd.R_far (p := ⟨gb699, 2, none⟩) (Kd.R_far (p := ⟨gb699, 1, none⟩) (Kd.R_far (p := ⟨gb699, 0, none⟩) (Kd.R_types HO685.out BK699.out (by decide)) (fun _ hk => hk.2) (.slice Ao28 t692.length co28)) (fun _ hk => hk.2) (.int .i64 t695)) (fun _ hk => hk.2) (.slice Ao32 t696.length co32)) (fun _ h_ => h_.1))))) (Kd.R_lt (by (with_reducible repeat (first | apply Kd.R_alloc | apply Kd.R_drewN | apply Kd.R_drew)); exact (Kd.R_mono (Kd.R_far (p := ⟨gb699, 2, none⟩) (Kd.R_far (p := ⟨gb699, 1, none⟩) (Kd.R_far (p := ⟨gb699, 0, none⟩) (Kd.R_types HO694.out BK699.out (by decide)) (fun _ hk => hk.2) (.slice Ao28 t692.length co28)) (fun _ hk => hk.2) (.int .i64 t695)) (fun _ hk => hk.2) (.slice Ao32 t696.length co32)) (fun _ h_ => h_.1))))) (below_size (oB HB))); have n7_ := Aside0.mk (Kd.R_lower (Kd.R_new' (Kd.R_new' (Kd.R_new' ho1 (Kd.R_lt (by (with_reducible repeat (first | apply Kd.R_alloc | apply Kd.R_drewN | apply Kd.R_drew)); exact (Kd.R_mono (Kd.R_far (p := ⟨gb699, 2, none⟩) (Kd.R_far (p := ⟨gb699, 1, none⟩) (Kd.R_far (p := ⟨gb699, 0, none⟩) (Kd.R_types HO682.out BK699.out (by decide)) (fun _ hk => hk.2) (.slice Ao28 t692.length co28)) (fun _ hk => hk.2) (.int .i64 t695)) (fun _ hk => hk.2) (.slice Ao32 t696.length co32)) (fun _ h_ => h_.1))))) (Kd.R_lt (by (with_reducible repeat (first | apply Kd.R_alloc | apply Kd.R_drewN | apply Kd.R_drew)); exact (Kd.R_mono (Kd.R_far (p := ⟨gb699, 2, none⟩) (Kd.R_far (p := ⟨gb699, 1, none⟩) (Kd.R_far (p := ⟨gb699, 0, none⟩) (Kd.R_types HO689.out BK699.out (by decide)) (fun _ hk => hk.2) (.slice Ao28 t692.length co28)) (fun _ hk => hk.2) (.int .i64 t695)) (fun _ hk => hk.2) (.slice Ao32 t696.length co32)) (fun _ h_ => h_.1))))) (Kd.R_lt (by (with_reducible repeat (first | apply Kd.R_alloc | apply Kd.R_drewN | apply Kd.R_drew)); exact (Kd.R_mono (Kd.R_far (p := ⟨gb699, 2, none⟩) (Kd.R_far (p := ⟨gb699, 1, none⟩) (Kd.R_far (p := ⟨gb699, 0, none⟩) (Kd.R_types HO698.out BK699.out (by decide)) (fun _ hk => hk.2) (.slice Ao28 t692.length co28)) (fun _ hk => hk.2) (.int .i64 t695)) (fun _ hk => hk.2) (.slice Ao32 t696.length co32)) (fun _ h_ => h_.1))))) (below_size (oB HB))); have n8_ := Aside0.mk (blk_below (g := gb674) (o := .cells #[.slice A0_0 l0_0.length c0_0, .int .i64 a0_1, .slice A0_2 l0_2.length c0_2] 25 (0, 0)) (by (with_reducible repeat (first | refine blk_drewN ?_ _ | refine blk_drew ?_ | refine blk_alloc ?_ _)); refine blk_far ?_ NB674_699.out _; (with_reducible repeat (first | refine blk_drewN ?_ _ | refine blk_drew ?_ | refine blk_alloc ?_ _)); refine blk_far ?_ NB674_699.out _; (with_reducible repeat (first | refine blk_drewN ?_ _ | refine blk_drew ?_ | refine blk_alloc ?_ _)); refine blk_far ?_ NB674_699.out _; (with_reducible repeat (first | refine blk_drewN ?_ _ | refine blk_drew ?_ | refine blk_alloc ?_ _)); exact BK674.out) hb); have n9_ := Aside0.mk (blk_below (g := gb691) (o := .cells #[.slice Ao21 t683.length co21, .int .i64 t686, .slice Ao24 t687.length co24] 30 (0, 0)) (by (with_reducible repeat (first | refine blk_drewN ?_ _ | refine blk_drew ?_ | refine blk_alloc ?_ _)); refine blk_far ?_ NB691_699.out _; (with_reducible repeat (first | refine blk_drewN ?_ _ | refine blk_drew ?_ | refine blk_alloc ?_ _)); refine blk_far ?_ NB691_699.out _; (with_reducible repeat (first | refine blk_drewN ?_ _ | refine blk_drew ?_ | refine blk_alloc ?_ _)); refine blk_far ?_ NB691_699.out _; (with_reducible repeat (first | refine blk_drewN ?_ _ | refine blk_drew ?_ | refine blk_alloc ?_ _)); exact BK691.out) hb); have n10_ := Aside0.mk (blk_below (g := gb699) (o := .cells #[.slice Ao28 t692.length co28, .int .i64 t695, .slice Ao32 t696.length co32] 30 (0, 0)) (by (with_reducible repeat (first | refine blk_drewN ?_ _ | refine blk_drew ?_ | refine blk_alloc ?_ _)); refine blk_put (cs := #[.slice Ao28 t692.length co28, .int .i64 t695, .slice none 0 0]) ?_ 2 _ rfl; (with_reducible repeat (first | refine blk_drewN ?_ _ | refine blk_drew ?_ | refine blk_alloc ?_ _)); refine blk_put (cs := #[.slice Ao28 t692.length co28, .int .i64 0, .slice none 0 0]) ?_ 1 _ rfl; (with_reducible repeat (first | refine blk_drewN ?_ _ | refine blk_drew ?_ | refine blk_alloc ?_ _)); refine blk_put (cs := #[.slice none 0 0, .int .i64 0, .slice none 0 0]) ?_ 0 _ rfl; (with_reducible repeat (first | refine blk_drewN ?_ _ | refine blk_drew ?_ | refine blk_alloc ?_ _)); exact BK699.out) hb); have n11_ := Aside0.mk (below_step (oB HB) hb); clear HO678; clear HO682; clear HO685; clear HO689; clear HO694; clear HO698; clear BK674; clear BK691; clear BK699; clear HB; have HO678 := n0_; have HO682 := n1_; have HO685 := n2_; have HO689 := n3_; have HO694 := n4_; have HO698 := n5_; have HO702 := n6_; have HO706 := n7_; have BK674 := n8_; have BK691 := n9_; have BK699 := n10_; have HB := n11_; clear n0_ n1_ n2_ n3_ n4_ n5_ n6_ n7_ n8_ n9_ n10_ n11_; (try clear hb); (try clear hb2); (try clear hk); (try clear hi); (try clear ho0); (try clear ho1)) | ((with_reducible refine gate_dst (N := 7) rfl ?_); refine box_event ?hg (N := 7) ?hd (cs := #[.slice none 0 0, .int .i64 0, .slice none 0 0]) (t := 30) ?hr ?_; (case hd => rfl); (case hg => rfl); (case hr => first | (go_simp; done) | (go_simp; rfl)); intro gb708 hg w34 hbox hb; have n0_ := Aside0.mk (Kd.R_below (oR HO678) hb); have n1_ := Aside0.mk (Kd.R_below (oR HO682) hb); have n2_ := Aside0.mk (Kd.R_below (oR HO685) hb); have n3_ := Aside0.mk (Kd.R_below (oR HO689) hb); have n4_ := Aside0.mk (Kd.R_below (oR HO694) hb); have n5_ := Aside0.mk (Kd.R_below (oR HO698) hb); have n6_ := Aside0.mk (Kd.R_below (oR HO702) hb); have n7_ := Aside0.mk (Kd.R_below (oR HO706) hb); have n8_ := Aside0.mk (blk_below (g := gb674) (o := .cells #[.slice A0_0 l0_0.length c0_0, .int .i64 a0_1, .slice A0_2 l0_2.length c0_2] 25 (0, 0)) (oK BK674) hb); have n9_ := Aside0.mk (blk_below (g := gb691) (o := .cells #[.slice Ao21 t683.length co21, .int .i64 t686, .slice Ao24 t687.length co24] 30 (0, 0)) (oK BK691) hb); have n10_ := Aside0.mk (blk_below (g := gb699) (o := .cells #[.slice Ao28 t692.length co28, .int .i64 t695, .slice Ao32 t696.length co32] 30 (0, 0)) (oK BK699) hb); have n11_ := Aside0.mk (below_step (oB HB) hb); have n12_ := Aside0.mk (hbox); have n13_ := Aside0.mk ((by rw [hg]; exact (below_size (oB HB)) : w.heap.size ≤ gb708)); have n14_ := Aside0.mk ((by rw [hg]; exact (below_size (oB HB)) : w.heap.size ≤ gb708)); have n15_ := Aside0.mk ((by rw [hg]; exact Nat.ne_of_lt (blk_lt (g := gb674) (o := .cells #[.slice A0_0 l0_0.length c0_0, .int .i64 a0_1, .slice A0_2 l0_2.length c0_2] 25 (0, 0)) (oK BK674)) : gb674 ≠ gb708)); have n16_ := Aside0.mk ((by rw [hg]; exact Nat.ne_of_gt (blk_lt (g := gb674) (o := .cells #[.slice A0_0 l0_0.length c0_0, .int .i64 a0_1, .slice A0_2 l0_2.length c0_2] 25 (0, 0)) (oK BK674)) : gb708 ≠ gb674)); have n17_ := Aside0.mk ((by rw [hg]; exact Nat.ne_of_lt (blk_lt (g := gb691) (o := .cells #[.slice Ao21 t683.length co21, .int .i64 t686, .slice Ao24 t687.length co24] 30 (0, 0)) (oK BK691)) : gb691 ≠ gb708)); have n18_ := Aside0.mk ((by rw [hg]; exact Nat.ne_of_gt (blk_lt (g := gb691) (o := .cells #[.slice Ao21 t683.length co21, .int .i64 t686, .slice Ao24 t687.length co24] 30 (0, 0)) (oK BK691)) : gb708 ≠ gb691)); have n19_ := Aside0.mk ((by rw [hg]; exact Nat.ne_of_lt (blk_lt (g := gb699) (o := .cells #[.slice Ao28 t692.length co28, .int .i64 t695, .slice Ao32 t696.length co32] 30 (0, 0)) (oK BK699)) : gb699 ≠ gb708)); have n20_ := Aside0.mk ((by rw [hg]; exact Nat.ne_of_gt (blk_lt (g := gb699) (o := .cells #[.slice Ao28 t692.length co28, .int .i64 t695, .slice Ao32 t696.length co32] 30 (0, 0)) (oK BK699)) : gb708 ≠ gb699)); clear HO678; clear HO682; clear HO685; clear HO689; clear HO694; clear HO698; clear HO702; clear HO706; clear BK674; clear BK691; clear BK699; clear HB; have HO678 := n0_; have HO682 := n1_; have HO685 := n2_; have HO689 := n3_; have HO694 := n4_; have HO698 := n5_; have HO702 := n6_; have HO706 := n7_; have BK674 := n8_; have BK691 := n9_; have BK699 := n10_; have HB := n11_; have BK708 := n12_; have GW708 := n13_; have GE708 := n14_; have NB674_708 := n15_; have NB708_674 := n16_; have NB691_708 := n17_; have NB708_691 := n18_; have NB699_708 := n19_; have NB708_699 := n20_; clear n0_ n1_ n2_ n3_ n4_ n5_ n6_ n7_ n8_ n9_ n10_ n11_ n12_ n13_ n14_ n15_ n16_ n17_ n18_ n19_ n20_; clear hb hbox hg; obtain ⟨Ao35, co35, eo35⟩ := Kd.R_slice HO702.out; subst eo35; have hnb36 := NB708_674.out; have hnc36 := NB674_708.out; have hnb37 := NB708_691.out; have hnc37 := NB691_708.out; have hnb38 := NB708_699.out; have hnc38 := NB699_708.out; have hcz39_0 : w34.cell? ⟨gb708, 0, none⟩ = some (.slice none 0 0) := (blk_cell BK708.out 0).trans rfl; have hcz39_1 : w34.cell? ⟨gb708, 1, none⟩ = some (.int .i64 0) := (blk_cell BK708.out 1).trans rfl; have hcz39_2 : w34.cell? ⟨gb708, 2, none⟩ = some (.slice none 0 0) := (blk_cell BK708.out 2).trans rfl; have hfz39_0 := blk_frozen BK708.out 0; have hfz39_1 := blk_frozen BK708.out 1; have hfz39_2 := blk_frozen BK708.out 2; obtain ⟨Ao40, co40, eo40⟩ := Kd.R_slice HO706.out; subst eo40))
    (try simp only [Act.put, List.setIfInBounds_toArray, List.set_cons_zero, List.set_cons_succ])
    go_cut [40] (fun v40 wc => ∃ (kq : Nat) (x40_10 : Bool), v40 = .bool x40_10 ∧ Aside0 (laws_FnExactWorkStep.j0 kq t690 t707 x40_10 l0_0 a0_1 l0_2 t683 t686 t687 t692 t695 t696 t700 t703 t704 = some r) ∧ Aside0 (kq ≤ k) ∧ Aside0 (Kd.R k67 67 wc w.heap.size (fun k_ => some k_ ≠ ((.slice Ao28 t692.length co28) : Value).ownBlock ∧ some k_ ≠ ((.slice Ao35 t700.length co35) : Value).ownBlock) (.slice Ao21 t683.length co21) t683) ∧ Aside0 (Kd.R (Kd.int .i64) 3 wc w.heap.size (fun k_ => some k_ ≠ ((.slice Ao32 t696.length co32) : Value).ownBlock ∧ some k_ ≠ ((.slice Ao40 t704.length co40) : Value).ownBlock) (.slice Ao24 t687.length co24) t687) ∧ Aside0 (Kd.R k67 67 wc w.heap.size (fun k_ => some k_ ≠ ((.slice Ao21 t683.length co21) : Value).ownBlock ∧ some k_ ≠ ((.slice Ao35 t700.length co35) : Value).ownBlock) (.slice Ao28 t692.length co28) t692) ∧ Aside0 (Kd.R (Kd.int .i64) 3 wc w.heap.size (fun k_ => some k_ ≠ ((.slice Ao24 t687.length co24) : Value).ownBlock ∧ some k_ ≠ ((.slice Ao40 t704.length co40) : Value).ownBlock) (.slice Ao32 t696.length co32) t696) ∧ Aside0 (Kd.R k67 67 wc w.heap.size (fun k_ => some k_ ≠ ((.slice Ao21 t683.length co21) : Value).ownBlock ∧ some k_ ≠ ((.slice Ao28 t692.length co28) : Value).ownBlock) (.slice Ao35 t700.length co35) t700) ∧ Aside0 (Kd.R (Kd.int .i64) 3 wc w.heap.size (fun k_ => some k_ ≠ ((.slice Ao24 t687.length co24) : Value).ownBlock ∧ some k_ ≠ ((.slice Ao32 t696.length co32) : Value).ownBlock) (.slice Ao40 t704.length co40) t704) ∧ Aside0 (wc.heap[gb674]? = some (.cells #[(.slice A0_0 l0_0.length c0_0), .int .i64 a0_1, (.slice A0_2 l0_2.length c0_2)] 25 (0, 0))) ∧ Aside0 (wc.heap[gb691]? = some (.cells #[(.slice Ao21 t683.length co21), .int .i64 t686, (.slice Ao24 t687.length co24)] 30 (0, 0))) ∧ Aside0 (wc.heap[gb699]? = some (.cells #[(.slice Ao28 t692.length co28), .int .i64 t695, (.slice Ao32 t696.length co32)] 30 (0, 0))) ∧ Aside0 (wc.heap[gb708]? = some (.cells #[(.slice Ao35 t700.length co35), .int .i64 t703, (.slice Ao40 t704.length co40)] 30 (0, 0))) ∧ Aside0 (Below w.heap.size w wc))
    case first =>
      have H := HC11.out
      clear HC11
      replace H := Option.bind_eq_some_iff.mp H
      obtain ⟨t709, A410, H⟩ := H
      (try dsimp only at H)
      have A41 := Aside0.mk A410
      clear A410
      by_cases c42 : t709 = true
      · subst c42
        rw [if_pos rfl] at H
        have H' := Aside0.mk H
        clear H
        have hnb43 := NB708_674.out
        have hnc43 := NB674_708.out
        have hnb44 := NB708_691.out
        have hnc44 := NB691_708.out
        have hnb45 := NB708_699.out
        have hnc45 := NB699_708.out
        have hcz46_0 : w34.cell? ⟨gb708, 0, none⟩ = some (.slice none 0 0) := (blk_cell BK708.out 0).trans rfl
        have hcz46_1 : w34.cell? ⟨gb708, 1, none⟩ = some (.int .i64 0) := (blk_cell BK708.out 1).trans rfl
        have hcz46_2 : w34.cell? ⟨gb708, 2, none⟩ = some (.slice none 0 0) := (blk_cell BK708.out 2).trans rfl
        have hfz46_0 := blk_frozen BK708.out 0
        have hfz46_1 := blk_frozen BK708.out 1
        have hfz46_2 := blk_frozen BK708.out 2
        have hnb47 := NB691_674.out
        have hnc47 := NB674_691.out
        have hnb48 := NB691_699.out
        have hnc48 := NB699_691.out
        have hcz49_0 : w34.cell? ⟨gb691, 0, none⟩ = some (.slice Ao21 t683.length co21) := (blk_cell BK691.out 0).trans rfl
        have hcz49_1 : w34.cell? ⟨gb691, 1, none⟩ = some (.int .i64 t686) := (blk_cell BK691.out 1).trans rfl
        have hcz49_2 : w34.cell? ⟨gb691, 2, none⟩ = some (.slice Ao24 t687.length co24) := (blk_cell BK691.out 2).trans rfl
        have hfz49_0 := blk_frozen BK691.out 0
        have hfz49_1 := blk_frozen BK691.out 1
        have hfz49_2 := blk_frozen BK691.out 2
        go_wp2_with (first | ((with_reducible refine gate_callee (f := 19) rfl ?_); refine goesL_ (some 34) rfl rfl Try.func19 (by kernel_rfl) rfl #[.agg #[.slice Ao35 t700.length co35, .int .i64 t703, .slice Ao40 t704.length co40], .agg #[.slice Ao21 t683.length co21, .int .i64 t686, .slice Ao24 t687.length co24]] rfl (by (try simp only [List.map_toArray, List.map_cons, List.map_nil]); first | done | rfl | (simp only [List.length_drop, List.length_take]; rfl)) ?_; (with_reducible refine (laws_eqWork.calls k _ _ t700 t703 _ _ t704 _ _ t683 t686 _ _ t687 true _ ?side1 ?side2 ?side3 ?side4 ?side5 ?side6 ?side7 ?side8 A41.out).mono ?_); (case side1 => refine (Kd.R_reads' (e := 67) (base := w.heap.size) (ok := fun k_ => (((True ∧ some k_ ≠ (.slice Ao17 t676.length co17 : Value).ownBlock) ∧ some k_ ≠ (.slice Ao21 t683.length co21 : Value).ownBlock) ∧ some k_ ≠ (.slice Ao28 t692.length co28 : Value).ownBlock)) (n := t700.length) (c := co35) ?_).2.2; exact (by (with_reducible repeat (first | apply Kd.R_alloc | apply Kd.R_drewN | apply Kd.R_drew)); exact (Kd.R_mono (Kd.R_far (p := ⟨gb708, 2, none⟩) (Kd.R_far (p := ⟨gb708, 1, none⟩) (Kd.R_far (p := ⟨gb708, 0, none⟩) (Kd.R_types HO702.out BK708.out (by decide)) (fun _ hk => hk.2) (.slice Ao35 t700.length co35)) (fun _ hk => hk.2) (.int .i64 t703)) (fun _ hk => hk.2) (.slice Ao40 t704.length co40)) (fun _ h_ => h_.1)))); (case side2 => exact (Kd.R_reads' HO702.out).2.1); (case side3 => refine (Kd.R_reads' (e := 3) (base := w.heap.size) (ok := fun k_ => (((True ∧ some k_ ≠ (.slice Ao18 t680.length co18 : Value).ownBlock) ∧ some k_ ≠ (.slice Ao24 t687.length co24 : Value).ownBlock) ∧ some k_ ≠ (.slice Ao32 t696.length co32 : Value).ownBlock)) (n := t704.length) (c := co40) ?_).2.2; exact (by (with_reducible repeat (first | apply Kd.R_alloc | apply Kd.R_drewN | apply Kd.R_drew)); exact (Kd.R_mono (Kd.R_far (p := ⟨gb708, 2, none⟩) (Kd.R_far (p := ⟨gb708, 1, none⟩) (Kd.R_far (p := ⟨gb708, 0, none⟩) (Kd.R_types HO706.out BK708.out (by decide)) (fun _ hk => hk.2) (.slice Ao35 t700.length co35)) (fun _ hk => hk.2) (.int .i64 t703)) (fun _ hk => hk.2) (.slice Ao40 t704.length co40)) (fun _ h_ => h_.1)))); (case side4 => exact (Kd.R_reads' HO706.out).2.1); (case side5 => refine (Kd.R_reads' (e := 67) (base := w.heap.size) (ok := fun k_ => (((True ∧ some k_ ≠ (.slice Ao17 t676.length co17 : Value).ownBlock) ∧ some k_ ≠ (.slice Ao28 t692.length co28 : Value).ownBlock) ∧ some k_ ≠ (.slice Ao35 t700.length co35 : Value).ownBlock)) (n := t683.length) (c := co21) ?_).2.2; exact (by (with_reducible repeat (first | apply Kd.R_alloc | apply Kd.R_drewN | apply Kd.R_drew)); exact (Kd.R_mono (Kd.R_far (p := ⟨gb708, 2, none⟩) (Kd.R_far (p := ⟨gb708, 1, none⟩) (Kd.R_far (p := ⟨gb708, 0, none⟩) (Kd.R_types HO685.out BK708.out (by decide)) (fun _ hk => hk.2) (.slice Ao35 t700.length co35)) (fun _ hk => hk.2) (.int .i64 t703)) (fun _ hk => hk.2) (.slice Ao40 t704.length co40)) (fun _ h_ => h_.1)))); (case side6 => exact (Kd.R_reads' HO685.out).2.1); (case side7 => refine (Kd.R_reads' (e := 3) (base := w.heap.size) (ok := fun k_ => (((True ∧ some k_ ≠ (.slice Ao18 t680.length co18 : Value).ownBlock) ∧ some k_ ≠ (.slice Ao32 t696.length co32 : Value).ownBlock) ∧ some k_ ≠ (.slice Ao40 t704.length co40 : Value).ownBlock)) (n := t687.length) (c := co24) ?_).2.2; exact (by (with_reducible repeat (first | apply Kd.R_alloc | apply Kd.R_drewN | apply Kd.R_drew)); exact (Kd.R_mono (Kd.R_far (p := ⟨gb708, 2, none⟩) (Kd.R_far (p := ⟨gb708, 1, none⟩) (Kd.R_far (p := ⟨gb708, 0, none⟩) (Kd.R_types HO689.out BK708.out (by decide)) (fun _ hk => hk.2) (.slice Ao35 t700.length co35)) (fun _ hk => hk.2) (.int .i64 t703)) (fun _ hk => hk.2) (.slice Ao40 t704.length co40)) (fun _ h_ => h_.1)))); (case side8 => exact (Kd.R_reads' HO689.out).2.1); rintro e w50 ⟨rfl, hb⟩; refine ⟨_, rfl, ?_⟩; have n0_ := Aside0.mk (Kd.R_below (by (with_reducible repeat (first | apply Kd.R_alloc | apply Kd.R_drewN | apply Kd.R_drew)); exact (Kd.R_mono (Kd.R_far (p := ⟨gb708, 2, none⟩) (Kd.R_far (p := ⟨gb708, 1, none⟩) (Kd.R_far (p := ⟨gb708, 0, none⟩) (Kd.R_types HO678.out BK708.out (by decide)) (fun _ hk => hk.2) (.slice Ao35 t700.length co35)) (fun _ hk => hk.2) (.int .i64 t703)) (fun _ hk => hk.2) (.slice Ao40 t704.length co40)) (fun _ h_ => h_.1))) hb); have n1_ := Aside0.mk (Kd.R_below (by (with_reducible repeat (first | apply Kd.R_alloc | apply Kd.R_drewN | apply Kd.R_drew)); exact (Kd.R_mono (Kd.R_far (p := ⟨gb708, 2, none⟩) (Kd.R_far (p := ⟨gb708, 1, none⟩) (Kd.R_far (p := ⟨gb708, 0, none⟩) (Kd.R_types HO682.out BK708.out (by decide)) (fun _ hk => hk.2) (.slice Ao35 t700.length co35)) (fun _ hk => hk.2) (.int .i64 t703)) (fun _ hk => hk.2) (.slice Ao40 t704.length co40)) (fun _ h_ => h_.1))) hb); have n2_ := Aside0.mk (Kd.R_below (by (with_reducible repeat (first | apply Kd.R_alloc | apply Kd.R_drewN | apply Kd.R_drew)); exact (Kd.R_mono (Kd.R_far (p := ⟨gb708, 2, none⟩) (Kd.R_far (p := ⟨gb708, 1, none⟩) (Kd.R_far (p := ⟨gb708, 0, none⟩) (Kd.R_types HO685.out BK708.out (by decide)) (fun _ hk => hk.2) (.slice Ao35 t700.length co35)) (fun _ hk => hk.2) (.int .i64 t703)) (fun _ hk => hk.2) (.slice Ao40 t704.length co40)) (fun _ h_ => h_.1))) hb); have n3_ := Aside0.mk (Kd.R_below (by (with_reducible repeat (first | apply Kd.R_alloc | apply Kd.R_drewN | apply Kd.R_drew)); exact (Kd.R_mono (Kd.R_far (p := ⟨gb708, 2, none⟩) (Kd.R_far (p := ⟨gb708, 1, none⟩) (Kd.R_far (p := ⟨gb708, 0, none⟩) (Kd.R_types HO689.out BK708.out (by decide)) (fun _ hk => hk.2) (.slice Ao35 t700.length co35)) (fun _ hk => hk.2) (.int .i64 t703)) (fun _ hk => hk.2) (.slice Ao40 t704.length co40)) (fun _ h_ => h_.1))) hb); have n4_ := Aside0.mk (Kd.R_below (by (with_reducible repeat (first | apply Kd.R_alloc | apply Kd.R_drewN | apply Kd.R_drew)); exact (Kd.R_mono (Kd.R_far (p := ⟨gb708, 2, none⟩) (Kd.R_far (p := ⟨gb708, 1, none⟩) (Kd.R_far (p := ⟨gb708, 0, none⟩) (Kd.R_types HO694.out BK708.out (by decide)) (fun _ hk => hk.2) (.slice Ao35 t700.length co35)) (fun _ hk => hk.2) (.int .i64 t703)) (fun _ hk => hk.2) (.slice Ao40 t704.length co40)) (fun _ h_ => h_.1))) hb); have n5_ := Aside0.mk (Kd.R_below (by (with_reducible repeat (first | apply Kd.R_alloc | apply Kd.R_drewN | apply Kd.R_drew)); exact (Kd.R_mono (Kd.R_far (p := ⟨gb708, 2, none⟩) (Kd.R_far (p := ⟨gb708, 1, none⟩) (Kd.R_far (p := ⟨gb708, 0, none⟩) (Kd.R_types HO698.out BK708.out (by decide)) (fun _ hk => hk.2) (.slice Ao35 t700.length co35)) (fun _ hk => hk.2) (.int .i64 t703)) (fun _ hk => hk.2) (.slice Ao40 t704.length co40)) (fun _ h_ => h_.1))) hb); have n6_ := Aside0.mk (Kd.R_below (by (with_reducible repeat (first | apply Kd.R_alloc | apply Kd.R_drewN | apply Kd.R_drew)); exact (Kd.R_mono (Kd.R_far (p := ⟨gb708, 2, none⟩) (Kd.R_far (p := ⟨gb708, 1, none⟩) (Kd.R_far (p := ⟨gb708, 0, none⟩) (Kd.R_types HO702.out BK708.out (by decide)) (fun _ hk => hk.2) (.slice Ao35 t700.length co35)) (fun _ hk => hk.2) (.int .i64 t703)) (fun _ hk => hk.2) (.slice Ao40 t704.length co40)) (fun _ h_ => h_.1))) hb); have n7_ := Aside0.mk (Kd.R_below (by (with_reducible repeat (first | apply Kd.R_alloc | apply Kd.R_drewN | apply Kd.R_drew)); exact (Kd.R_mono (Kd.R_far (p := ⟨gb708, 2, none⟩) (Kd.R_far (p := ⟨gb708, 1, none⟩) (Kd.R_far (p := ⟨gb708, 0, none⟩) (Kd.R_types HO706.out BK708.out (by decide)) (fun _ hk => hk.2) (.slice Ao35 t700.length co35)) (fun _ hk => hk.2) (.int .i64 t703)) (fun _ hk => hk.2) (.slice Ao40 t704.length co40)) (fun _ h_ => h_.1))) hb); have n8_ := Aside0.mk (blk_below (g := gb674) (o := .cells #[.slice A0_0 l0_0.length c0_0, .int .i64 a0_1, .slice A0_2 l0_2.length c0_2] 25 (0, 0)) (by (with_reducible repeat (first | refine blk_drewN ?_ _ | refine blk_drew ?_ | refine blk_alloc ?_ _)); refine blk_far ?_ NB674_708.out _; (with_reducible repeat (first | refine blk_drewN ?_ _ | refine blk_drew ?_ | refine blk_alloc ?_ _)); refine blk_far ?_ NB674_708.out _; (with_reducible repeat (first | refine blk_drewN ?_ _ | refine blk_drew ?_ | refine blk_alloc ?_ _)); refine blk_far ?_ NB674_708.out _; (with_reducible repeat (first | refine blk_drewN ?_ _ | refine blk_drew ?_ | refine blk_alloc ?_ _)); exact BK674.out) hb); have n9_ := Aside0.mk (blk_below (g := gb691) (o := .cells #[.slice Ao21 t683.length co21, .int .i64 t686, .slice Ao24 t687.length co24] 30 (0, 0)) (by (with_reducible repeat (first | refine blk_drewN ?_ _ | refine blk_drew ?_ | refine blk_alloc ?_ _)); refine blk_far ?_ NB691_708.out _; (with_reducible repeat (first | refine blk_drewN ?_ _ | refine blk_drew ?_ | refine blk_alloc ?_ _)); refine blk_far ?_ NB691_708.out _; (with_reducible repeat (first | refine blk_drewN ?_ _ | refine blk_drew ?_ | refine blk_alloc ?_ _)); refine blk_far ?_ NB691_708.out _; (with_reducible repeat (first | refine blk_drewN ?_ _ | refine blk_drew ?_ | refine blk_alloc ?_ _)); exact BK691.out) hb); have n10_ := Aside0.mk (blk_below (g := gb699) (o := .cells #[.slice Ao28 t692.length co28, .int .i64 t695, .slice Ao32 t696.length co32] 30 (0, 0)) (by (with_reducible repeat (first | refine blk_drewN ?_ _ | refine blk_drew ?_ | refine blk_alloc ?_ _)); refine blk_far ?_ NB699_708.out _; (with_reducible repeat (first | refine blk_drewN ?_ _ | refine blk_drew ?_ | refine blk_alloc ?_ _)); refine blk_far ?_ NB699_708.out _; (with_reducible repeat (first | refine blk_drewN ?_ _ | refine blk_drew ?_ | refine blk_alloc ?_ _)); refine blk_far ?_ NB699_708.out _; (with_reducible repeat (first | refine blk_drewN ?_ _ | refine blk_drew ?_ | refine blk_alloc ?_ _)); exact BK699.out) hb); have n11_ := Aside0.mk (blk_below (g := gb708) (o := .cells #[.slice Ao35 t700.length co35, .int .i64 t703, .slice Ao40 t704.length co40] 30 (0, 0)) (by (with_reducible repeat (first | refine blk_drewN ?_ _ | refine blk_drew ?_ | refine blk_alloc ?_ _)); refine blk_put (cs := #[.slice Ao35 t700.length co35, .int .i64 t703, .slice none 0 0]) ?_ 2 _ rfl; (with_reducible repeat (first | refine blk_drewN ?_ _ | refine blk_drew ?_ | refine blk_alloc ?_ _)); refine blk_put (cs := #[.slice Ao35 t700.length co35, .int .i64 0, .slice none 0 0]) ?_ 1 _ rfl; (with_reducible repeat (first | refine blk_drewN ?_ _ | refine blk_drew ?_ | refine blk_alloc ?_ _)); refine blk_put (cs := #[.slice none 0 0, .int .i64 0, .slice none 0 0]) ?_ 0 _ rfl; (with_reducible repeat (first | refine blk_drewN ?_ _ | refine blk_drew ?_ | refine blk_alloc ?_ _)); exact BK708.out) hb); have n12_ := Aside0.mk (below_step (oB HB) hb); clear HO678; clear HO682; clear HO685; clear HO689; clear HO694; clear HO698; clear HO702; clear HO706; clear BK674; clear BK691; clear BK699; clear BK708; clear HB; have HO678 := n0_; have HO682 := n1_; have HO685 := n2_; have HO689 := n3_; have HO694 := n4_; have HO698 := n5_; have HO702 := n6_; have HO706 := n7_; have BK674 := n8_; have BK691 := n9_; have BK699 := n10_; have BK708 := n11_; have HB := n12_; clear n0_ n1_ n2_ n3_ n4_ n5_ n6_ n7_ n8_ n9_ n10_ n11_ n12_; (try clear hb); (try clear hb2); (try clear hk); (try clear hi)))
        go_meet
        case rel => exact ⟨_, ((t707 != t690)), (by first | rfl | (simp; done) | (simp [*]; done)), H', ⟨by first | omega | exact Nat.le_refl _⟩, ⟨by (with_reducible repeat (first | apply Kd.R_alloc | apply Kd.R_drewN | apply Kd.R_drew)); exact Kd.R_mono HO685.out (fun _ hk => ⟨hk.1.2, hk.2⟩)⟩, ⟨by (with_reducible repeat (first | apply Kd.R_alloc | apply Kd.R_drewN | apply Kd.R_drew)); exact Kd.R_mono HO689.out (fun _ hk => ⟨hk.1.2, hk.2⟩)⟩, ⟨by (with_reducible repeat (first | apply Kd.R_alloc | apply Kd.R_drewN | apply Kd.R_drew)); exact Kd.R_mono HO694.out (fun _ hk => ⟨hk.1.2, hk.2⟩)⟩, ⟨by (with_reducible repeat (first | apply Kd.R_alloc | apply Kd.R_drewN | apply Kd.R_drew)); exact Kd.R_mono HO698.out (fun _ hk => ⟨hk.1.2, hk.2⟩)⟩, ⟨by (with_reducible repeat (first | apply Kd.R_alloc | apply Kd.R_drewN | apply Kd.R_drew)); exact Kd.R_mono HO702.out (fun _ hk => ⟨hk.1.2, hk.2⟩)⟩, ⟨by (with_reducible repeat (first | apply Kd.R_alloc | apply Kd.R_drewN | apply Kd.R_drew)); exact Kd.R_mono HO706.out (fun _ hk => ⟨hk.1.2, hk.2⟩)⟩, ⟨oK BK674⟩, ⟨oK BK691⟩, ⟨oK BK699⟩, ⟨oK BK708⟩, ⟨oB HB⟩⟩
      · replace c42 := Bool.eq_false_iff.mpr c42
        subst c42
        rw [if_neg (show ¬ (false = true) by decide)] at H
        have H' := Aside0.mk H
        clear H
        have hnb51 := NB708_674.out
        have hnc51 := NB674_708.out
        have hnb52 := NB708_691.out
        have hnc52 := NB691_708.out
        have hnb53 := NB708_699.out
        have hnc53 := NB699_708.out
        have hcz54_0 : w34.cell? ⟨gb708, 0, none⟩ = some (.slice none 0 0) := (blk_cell BK708.out 0).trans rfl
        have hcz54_1 : w34.cell? ⟨gb708, 1, none⟩ = some (.int .i64 0) := (blk_cell BK708.out 1).trans rfl
        have hcz54_2 : w34.cell? ⟨gb708, 2, none⟩ = some (.slice none 0 0) := (blk_cell BK708.out 2).trans rfl
        have hfz54_0 := blk_frozen BK708.out 0
        have hfz54_1 := blk_frozen BK708.out 1
        have hfz54_2 := blk_frozen BK708.out 2
        have hnb55 := NB691_674.out
        have hnc55 := NB674_691.out
        have hnb56 := NB691_699.out
        have hnc56 := NB699_691.out
        have hcz57_0 : w34.cell? ⟨gb691, 0, none⟩ = some (.slice Ao21 t683.length co21) := (blk_cell BK691.out 0).trans rfl
        have hcz57_1 : w34.cell? ⟨gb691, 1, none⟩ = some (.int .i64 t686) := (blk_cell BK691.out 1).trans rfl
        have hcz57_2 : w34.cell? ⟨gb691, 2, none⟩ = some (.slice Ao24 t687.length co24) := (blk_cell BK691.out 2).trans rfl
        have hfz57_0 := blk_frozen BK691.out 0
        have hfz57_1 := blk_frozen BK691.out 1
        have hfz57_2 := blk_frozen BK691.out 2
        go_wp2_with (first | ((with_reducible refine gate_callee (f := 19) rfl ?_); refine goesL_ (some 34) rfl rfl Try.func19 (by kernel_rfl) rfl #[.agg #[.slice Ao35 t700.length co35, .int .i64 t703, .slice Ao40 t704.length co40], .agg #[.slice Ao21 t683.length co21, .int .i64 t686, .slice Ao24 t687.length co24]] rfl (by (try simp only [List.map_toArray, List.map_cons, List.map_nil]); first | done | rfl | (simp only [List.length_drop, List.length_take]; rfl)) ?_; (with_reducible refine (laws_eqWork.calls k _ _ t700 t703 _ _ t704 _ _ t683 t686 _ _ t687 false _ ?side1 ?side2 ?side3 ?side4 ?side5 ?side6 ?side7 ?side8 A41.out).mono ?_); (case side1 => refine (Kd.R_reads' (e := 67) (base := w.heap.size) (ok := fun k_ => (((True ∧ some k_ ≠ (.slice Ao17 t676.length co17 : Value).ownBlock) ∧ some k_ ≠ (.slice Ao21 t683.length co21 : Value).ownBlock) ∧ some k_ ≠ (.slice Ao28 t692.length co28 : Value).ownBlock)) (n := t700.length) (c := co35) ?_).2.2; exact (by (with_reducible repeat (first | apply Kd.R_alloc | apply Kd.R_drewN | apply Kd.R_drew)); exact (Kd.R_mono (Kd.R_far (p := ⟨gb708, 2, none⟩) (Kd.R_far (p := ⟨gb708, 1, none⟩) (Kd.R_far (p := ⟨gb708, 0, none⟩) (Kd.R_types HO702.out BK708.out (by decide)) (fun _ hk => hk.2) (.slice Ao35 t700.length co35)) (fun _ hk => hk.2) (.int .i64 t703)) (fun _ hk => hk.2) (.slice Ao40 t704.length co40)) (fun _ h_ => h_.1)))); (case side2 => exact (Kd.R_reads' HO702.out).2.1); (case side3 => refine (Kd.R_reads' (e := 3) (base := w.heap.size) (ok := fun k_ => (((True ∧ some k_ ≠ (.slice Ao18 t680.length co18 : Value).ownBlock) ∧ some k_ ≠ (.slice Ao24 t687.length co24 : Value).ownBlock) ∧ some k_ ≠ (.slice Ao32 t696.length co32 : Value).ownBlock)) (n := t704.length) (c := co40) ?_).2.2; exact (by (with_reducible repeat (first | apply Kd.R_alloc | apply Kd.R_drewN | apply Kd.R_drew)); exact (Kd.R_mono (Kd.R_far (p := ⟨gb708, 2, none⟩) (Kd.R_far (p := ⟨gb708, 1, none⟩) (Kd.R_far (p := ⟨gb708, 0, none⟩) (Kd.R_types HO706.out BK708.out (by decide)) (fun _ hk => hk.2) (.slice Ao35 t700.length co35)) (fun _ hk => hk.2) (.int .i64 t703)) (fun _ hk => hk.2) (.slice Ao40 t704.length co40)) (fun _ h_ => h_.1)))); (case side4 => exact (Kd.R_reads' HO706.out).2.1); (case side5 => refine (Kd.R_reads' (e := 67) (base := w.heap.size) (ok := fun k_ => (((True ∧ some k_ ≠ (.slice Ao17 t676.length co17 : Value).ownBlock) ∧ some k_ ≠ (.slice Ao28 t692.length co28 : Value).ownBlock) ∧ some k_ ≠ (.slice Ao35 t700.length co35 : Value).ownBlock)) (n := t683.length) (c := co21) ?_).2.2; exact (by (with_reducible repeat (first | apply Kd.R_alloc | apply Kd.R_drewN | apply Kd.R_drew)); exact (Kd.R_mono (Kd.R_far (p := ⟨gb708, 2, none⟩) (Kd.R_far (p := ⟨gb708, 1, none⟩) (Kd.R_far (p := ⟨gb708, 0, none⟩) (Kd.R_types HO685.out BK708.out (by decide)) (fun _ hk => hk.2) (.slice Ao35 t700.length co35)) (fun _ hk => hk.2) (.int .i64 t703)) (fun _ hk => hk.2) (.slice Ao40 t704.length co40)) (fun _ h_ => h_.1)))); (case side6 => exact (Kd.R_reads' HO685.out).2.1); (case side7 => refine (Kd.R_reads' (e := 3) (base := w.heap.size) (ok := fun k_ => (((True ∧ some k_ ≠ (.slice Ao18 t680.length co18 : Value).ownBlock) ∧ some k_ ≠ (.slice Ao32 t696.length co32 : Value).ownBlock) ∧ some k_ ≠ (.slice Ao40 t704.length co40 : Value).ownBlock)) (n := t687.length) (c := co24) ?_).2.2; exact (by (with_reducible repeat (first | apply Kd.R_alloc | apply Kd.R_drewN | apply Kd.R_drew)); exact (Kd.R_mono (Kd.R_far (p := ⟨gb708, 2, none⟩) (Kd.R_far (p := ⟨gb708, 1, none⟩) (Kd.R_far (p := ⟨gb708, 0, none⟩) (Kd.R_types HO689.out BK708.out (by decide)) (fun _ hk => hk.2) (.slice Ao35 t700.length co35)) (fun _ hk => hk.2) (.int .i64 t703)) (fun _ hk => hk.2) (.slice Ao40 t704.length co40)) (fun _ h_ => h_.1)))); (case side8 => exact (Kd.R_reads' HO689.out).2.1); rintro e w58 ⟨rfl, hb⟩; refine ⟨_, rfl, ?_⟩; have n0_ := Aside0.mk (Kd.R_below (by (with_reducible repeat (first | apply Kd.R_alloc | apply Kd.R_drewN | apply Kd.R_drew)); exact (Kd.R_mono (Kd.R_far (p := ⟨gb708, 2, none⟩) (Kd.R_far (p := ⟨gb708, 1, none⟩) (Kd.R_far (p := ⟨gb708, 0, none⟩) (Kd.R_types HO678.out BK708.out (by decide)) (fun _ hk => hk.2) (.slice Ao35 t700.length co35)) (fun _ hk => hk.2) (.int .i64 t703)) (fun _ hk => hk.2) (.slice Ao40 t704.length co40)) (fun _ h_ => h_.1))) hb); have n1_ := Aside0.mk (Kd.R_below (by (with_reducible repeat (first | apply Kd.R_alloc | apply Kd.R_drewN | apply Kd.R_drew)); exact (Kd.R_mono (Kd.R_far (p := ⟨gb708, 2, none⟩) (Kd.R_far (p := ⟨gb708, 1, none⟩) (Kd.R_far (p := ⟨gb708, 0, none⟩) (Kd.R_types HO682.out BK708.out (by decide)) (fun _ hk => hk.2) (.slice Ao35 t700.length co35)) (fun _ hk => hk.2) (.int .i64 t703)) (fun _ hk => hk.2) (.slice Ao40 t704.length co40)) (fun _ h_ => h_.1))) hb); have n2_ := Aside0.mk (Kd.R_below (by (with_reducible repeat (first | apply Kd.R_alloc | apply Kd.R_drewN | apply Kd.R_drew)); exact (Kd.R_mono (Kd.R_far (p := ⟨gb708, 2, none⟩) (Kd.R_far (p := ⟨gb708, 1, none⟩) (Kd.R_far (p := ⟨gb708, 0, none⟩) (Kd.R_types HO685.out BK708.out (by decide)) (fun _ hk => hk.2) (.slice Ao35 t700.length co35)) (fun _ hk => hk.2) (.int .i64 t703)) (fun _ hk => hk.2) (.slice Ao40 t704.length co40)) (fun _ h_ => h_.1))) hb); have n3_ := Aside0.mk (Kd.R_below (by (with_reducible repeat (first | apply Kd.R_alloc | apply Kd.R_drewN | apply Kd.R_drew)); exact (Kd.R_mono (Kd.R_far (p := ⟨gb708, 2, none⟩) (Kd.R_far (p := ⟨gb708, 1, none⟩) (Kd.R_far (p := ⟨gb708, 0, none⟩) (Kd.R_types HO689.out BK708.out (by decide)) (fun _ hk => hk.2) (.slice Ao35 t700.length co35)) (fun _ hk => hk.2) (.int .i64 t703)) (fun _ hk => hk.2) (.slice Ao40 t704.length co40)) (fun _ h_ => h_.1))) hb); have n4_ := Aside0.mk (Kd.R_below (by (with_reducible repeat (first | apply Kd.R_alloc | apply Kd.R_drewN | apply Kd.R_drew)); exact (Kd.R_mono (Kd.R_far (p := ⟨gb708, 2, none⟩) (Kd.R_far (p := ⟨gb708, 1, none⟩) (Kd.R_far (p := ⟨gb708, 0, none⟩) (Kd.R_types HO694.out BK708.out (by decide)) (fun _ hk => hk.2) (.slice Ao35 t700.length co35)) (fun _ hk => hk.2) (.int .i64 t703)) (fun _ hk => hk.2) (.slice Ao40 t704.length co40)) (fun _ h_ => h_.1))) hb); have n5_ := Aside0.mk (Kd.R_below (by (with_reducible repeat (first | apply Kd.R_alloc | apply Kd.R_drewN | apply Kd.R_drew)); exact (Kd.R_mono (Kd.R_far (p := ⟨gb708, 2, none⟩) (Kd.R_far (p := ⟨gb708, 1, none⟩) (Kd.R_far (p := ⟨gb708, 0, none⟩) (Kd.R_types HO698.out BK708.out (by decide)) (fun _ hk => hk.2) (.slice Ao35 t700.length co35)) (fun _ hk => hk.2) (.int .i64 t703)) (fun _ hk => hk.2) (.slice Ao40 t704.length co40)) (fun _ h_ => h_.1))) hb); have n6_ := Aside0.mk (Kd.R_below (by (with_reducible repeat (first | apply Kd.R_alloc | apply Kd.R_drewN | apply Kd.R_drew)); exact (Kd.R_mono (Kd.R_far (p := ⟨gb708, 2, none⟩) (Kd.R_far (p := ⟨gb708, 1, none⟩) (Kd.R_far (p := ⟨gb708, 0, none⟩) (Kd.R_types HO702.out BK708.out (by decide)) (fun _ hk => hk.2) (.slice Ao35 t700.length co35)) (fun _ hk => hk.2) (.int .i64 t703)) (fun _ hk => hk.2) (.slice Ao40 t704.length co40)) (fun _ h_ => h_.1))) hb); have n7_ := Aside0.mk (Kd.R_below (by (with_reducible repeat (first | apply Kd.R_alloc | apply Kd.R_drewN | apply Kd.R_drew)); exact (Kd.R_mono (Kd.R_far (p := ⟨gb708, 2, none⟩) (Kd.R_far (p := ⟨gb708, 1, none⟩) (Kd.R_far (p := ⟨gb708, 0, none⟩) (Kd.R_types HO706.out BK708.out (by decide)) (fun _ hk => hk.2) (.slice Ao35 t700.length co35)) (fun _ hk => hk.2) (.int .i64 t703)) (fun _ hk => hk.2) (.slice Ao40 t704.length co40)) (fun _ h_ => h_.1))) hb); have n8_ := Aside0.mk (blk_below (g := gb674) (o := .cells #[.slice A0_0 l0_0.length c0_0, .int .i64 a0_1, .slice A0_2 l0_2.length c0_2] 25 (0, 0)) (by (with_reducible repeat (first | refine blk_drewN ?_ _ | refine blk_drew ?_ | refine blk_alloc ?_ _)); refine blk_far ?_ NB674_708.out _; (with_reducible repeat (first | refine blk_drewN ?_ _ | refine blk_drew ?_ | refine blk_alloc ?_ _)); refine blk_far ?_ NB674_708.out _; (with_reducible repeat (first | refine blk_drewN ?_ _ | refine blk_drew ?_ | refine blk_alloc ?_ _)); refine blk_far ?_ NB674_708.out _; (with_reducible repeat (first | refine blk_drewN ?_ _ | refine blk_drew ?_ | refine blk_alloc ?_ _)); exact BK674.out) hb); have n9_ := Aside0.mk (blk_below (g := gb691) (o := .cells #[.slice Ao21 t683.length co21, .int .i64 t686, .slice Ao24 t687.length co24] 30 (0, 0)) (by (with_reducible repeat (first | refine blk_drewN ?_ _ | refine blk_drew ?_ | refine blk_alloc ?_ _)); refine blk_far ?_ NB691_708.out _; (with_reducible repeat (first | refine blk_drewN ?_ _ | refine blk_drew ?_ | refine blk_alloc ?_ _)); refine blk_far ?_ NB691_708.out _; (with_reducible repeat (first | refine blk_drewN ?_ _ | refine blk_drew ?_ | refine blk_alloc ?_ _)); refine blk_far ?_ NB691_708.out _; (with_reducible repeat (first | refine blk_drewN ?_ _ | refine blk_drew ?_ | refine blk_alloc ?_ _)); exact BK691.out) hb); have n10_ := Aside0.mk (blk_below (g := gb699) (o := .cells #[.slice Ao28 t692.length co28, .int .i64 t695, .slice Ao32 t696.length co32] 30 (0, 0)) (by (with_reducible repeat (first | refine blk_drewN ?_ _ | refine blk_drew ?_ | refine blk_alloc ?_ _)); refine blk_far ?_ NB699_708.out _; (with_reducible repeat (first | refine blk_drewN ?_ _ | refine blk_drew ?_ | refine blk_alloc ?_ _)); refine blk_far ?_ NB699_708.out _; (with_reducible repeat (first | refine blk_drewN ?_ _ | refine blk_drew ?_ | refine blk_alloc ?_ _)); refine blk_far ?_ NB699_708.out _; (with_reducible repeat (first | refine blk_drewN ?_ _ | refine blk_drew ?_ | refine blk_alloc ?_ _)); exact BK699.out) hb); have n11_ := Aside0.mk (blk_below (g := gb708) (o := .cells #[.slice Ao35 t700.length co35, .int .i64 t703, .slice Ao40 t704.length co40] 30 (0, 0)) (by (with_reducible repeat (first | refine blk_drewN ?_ _ | refine blk_drew ?_ | refine blk_alloc ?_ _)); refine blk_put (cs := #[.slice Ao35 t700.length co35, .int .i64 t703, .slice none 0 0]) ?_ 2 _ rfl; (with_reducible repeat (first | refine blk_drewN ?_ _ | refine blk_drew ?_ | refine blk_alloc ?_ _)); refine blk_put (cs := #[.slice Ao35 t700.length co35, .int .i64 0, .slice none 0 0]) ?_ 1 _ rfl; (with_reducible repeat (first | refine blk_drewN ?_ _ | refine blk_drew ?_ | refine blk_alloc ?_ _)); refine blk_put (cs := #[.slice none 0 0, .int .i64 0, .slice none 0 0]) ?_ 0 _ rfl; (with_reducible repeat (first | refine blk_drewN ?_ _ | refine blk_drew ?_ | refine blk_alloc ?_ _)); exact BK708.out) hb); have n12_ := Aside0.mk (below_step (oB HB) hb); clear HO678; clear HO682; clear HO685; clear HO689; clear HO694; clear HO698; clear HO702; clear HO706; clear BK674; clear BK691; clear BK699; clear BK708; clear HB; have HO678 := n0_; have HO682 := n1_; have HO685 := n2_; have HO689 := n3_; have HO694 := n4_; have HO698 := n5_; have HO702 := n6_; have HO706 := n7_; have BK674 := n8_; have BK691 := n9_; have BK699 := n10_; have BK708 := n11_; have HB := n12_; clear n0_ n1_ n2_ n3_ n4_ n5_ n6_ n7_ n8_ n9_ n10_ n11_ n12_; (try clear hb); (try clear hb2); (try clear hk); (try clear hi)))
        go_meet
        case rel => exact ⟨_, (true), (by first | rfl | (simp; done) | (simp [*]; done)), H', ⟨by first | omega | exact Nat.le_refl _⟩, ⟨by (with_reducible repeat (first | apply Kd.R_alloc | apply Kd.R_drewN | apply Kd.R_drew)); exact Kd.R_mono HO685.out (fun _ hk => ⟨hk.1.2, hk.2⟩)⟩, ⟨by (with_reducible repeat (first | apply Kd.R_alloc | apply Kd.R_drewN | apply Kd.R_drew)); exact Kd.R_mono HO689.out (fun _ hk => ⟨hk.1.2, hk.2⟩)⟩, ⟨by (with_reducible repeat (first | apply Kd.R_alloc | apply Kd.R_drewN | apply Kd.R_drew)); exact Kd.R_mono HO694.out (fun _ hk => ⟨hk.1.2, hk.2⟩)⟩, ⟨by (with_reducible repeat (first | apply Kd.R_alloc | apply Kd.R_drewN | apply Kd.R_drew)); exact Kd.R_mono HO698.out (fun _ hk => ⟨hk.1.2, hk.2⟩)⟩, ⟨by (with_reducible repeat (first | apply Kd.R_alloc | apply Kd.R_drewN | apply Kd.R_drew)); exact Kd.R_mono HO702.out (fun _ hk => ⟨hk.1.2, hk.2⟩)⟩, ⟨by (with_reducible repeat (first | apply Kd.R_alloc | apply Kd.R_drewN | apply Kd.R_drew)); exact Kd.R_mono HO706.out (fun _ hk => ⟨hk.1.2, hk.2⟩)⟩, ⟨oK BK674⟩, ⟨oK BK691⟩, ⟨oK BK699⟩, ⟨oK BK708⟩, ⟨oB HB⟩⟩
    case rest =>
      clear HC11
      try clear c1
      try clear c2
      try clear p2
      try clear c3
      try clear c3b0
      try clear c4
      try clear c5
      try clear c9
      try clear c15
      try clear c17
      try clear c19
      try clear c22
      try clear c29
      try clear c30
      try clear c36
      try clear c37
      try clear c38
      try clear c39
      try clear c40
      try clear c42
      try clear c43
      try clear c44
      try clear c45
      try clear c47
      try clear c48
      try clear c51
      try clear c52
      try clear c53
      try clear c55
      try clear c56
      try clear hcz13_0
      try clear hcz13_1
      try clear hcz13_2
      try clear hcz15_0
      try clear hcz15_1
      try clear hcz15_2
      try clear hcz23_0
      try clear hcz23_1
      try clear hcz23_2
      try clear hcz25_0
      try clear hcz25_1
      try clear hcz25_2
      try clear hcz31_0
      try clear hcz31_1
      try clear hcz31_2
      try clear hcz39_0
      try clear hcz39_1
      try clear hcz39_2
      try clear hcz46_0
      try clear hcz46_1
      try clear hcz46_2
      try clear hcz49_0
      try clear hcz49_1
      try clear hcz49_2
      try clear hcz54_0
      try clear hcz54_1
      try clear hcz54_2
      try clear hcz57_0
      try clear hcz57_1
      try clear hcz57_2
      try clear hcz5_0
      try clear hcz5_1
      try clear hcz5_2
      try clear hfz13_0
      try clear hfz13_1
      try clear hfz13_2
      try clear hfz15_0
      try clear hfz15_1
      try clear hfz15_2
      try clear hfz23_0
      try clear hfz23_1
      try clear hfz23_2
      try clear hfz25_0
      try clear hfz25_1
      try clear hfz25_2
      try clear hfz31_0
      try clear hfz31_1
      try clear hfz31_2
      try clear hfz39_0
      try clear hfz39_1
      try clear hfz39_2
      try clear hfz46_0
      try clear hfz46_1
      try clear hfz46_2
      try clear hfz49_0
      try clear hfz49_1
      try clear hfz49_2
      try clear hfz54_0
      try clear hfz54_1
      try clear hfz54_2
      try clear hfz57_0
      try clear hfz57_1
      try clear hfz57_2
      try clear hfz5_0
      try clear hfz5_1
      try clear hfz5_2
      obtain ⟨kq, x40_10, rfl, HA, HJ10, HO_692000, HO_692002, HO_700000, HO_700002, HO_709000, HO_709002, BK674, BK691, BK699, BK708, HB⟩ := hcut
      cases kq with
      | zero => exact absurd HA.out (by simp [laws_FnExactWorkStep.j0])
      | succ kj10 =>
        have H := HA.out
        clear HA
        simp only [laws_FnExactWorkStep.j0] at H
        by_cases c59 : x40_10 = true
        · subst c59
          rw [if_pos rfl] at H
          exact absurd ((Option.some.inj H).trans hrt_.out) (by decide)
        · replace c59 := Bool.eq_false_iff.mpr c59
          subst c59
          rw [if_neg (show ¬ (false = true) by decide)] at H
          replace H := Option.bind_eq_some_iff.mp H
          obtain ⟨⟨t710, t713, t714⟩, A600, H⟩ := H
          (try dsimp only at H)
          have A60 := Aside0.mk A600
          clear A600
          replace H := Option.bind_eq_some_iff.mp H
          obtain ⟨t717, A610, H⟩ := H
          (try dsimp only at H)
          have A61 := Aside0.mk A610
          clear A610
          by_cases c62 : t717 = true
          · subst c62
            rw [if_pos rfl] at H
            replace H := Option.bind_eq_some_iff.mp H
            obtain ⟨⟨t718, t719, t720⟩, A630, H⟩ := H
            (try dsimp only at H)
            have A63 := Aside0.mk A630
            clear A630
            have HC64 := Aside0.mk H
            clear H
            try go_wp2
            have n0_ := Aside0.mk (Kd.R_drew HO_692000.out)
            have n1_ := Aside0.mk (Kd.R_drew HO_692002.out)
            have n2_ := Aside0.mk (Kd.R_drew HO_700000.out)
            have n3_ := Aside0.mk (Kd.R_drew HO_700002.out)
            have n4_ := Aside0.mk (Kd.R_drew HO_709000.out)
            have n5_ := Aside0.mk (Kd.R_drew HO_709002.out)
            have n6_ := Aside0.mk (blk_drew BK674.out)
            have n7_ := Aside0.mk (blk_drew BK691.out)
            have n8_ := Aside0.mk (blk_drew BK699.out)
            have n9_ := Aside0.mk (blk_drew BK708.out)
            have n10_ := Aside0.mk (below_drew1 HB.out)
            clear HO_692000
            clear HO_692002
            clear HO_700000
            clear HO_700002
            clear HO_709000
            clear HO_709002
            clear BK674
            clear BK691
            clear BK699
            clear BK708
            clear HB
            have HO_692000 := n0_
            have HO_692002 := n1_
            have HO_700000 := n2_
            have HO_700002 := n3_
            have HO_709000 := n4_
            have HO_709002 := n5_
            have BK674 := n6_
            have BK691 := n7_
            have BK699 := n8_
            have BK708 := n9_
            have HB := n10_
            clear n0_ n1_ n2_ n3_ n4_ n5_ n6_ n7_ n8_ n9_ n10_
            refine start_ (n := 5) (S := fun w' => w'.cell? ⟨gb699, 0, none⟩ = some (.slice Ao28 t692.length co28) ∧ w'.cell? ⟨gb699, 1, none⟩ = some (.int .i64 t695) ∧ w'.cell? ⟨gb699, 2, none⟩ = some (.slice Ao32 t696.length co32) ∧ w'.cell? ⟨gb674, 0, none⟩ = some (.slice A0_0 l0_0.length c0_0) ∧ w'.cell? ⟨gb674, 1, none⟩ = some (.int .i64 a0_1) ∧ w'.cell? ⟨gb674, 2, none⟩ = some (.slice A0_2 l0_2.length c0_2)) (ds := []) #[false, false, false, false, false] (by kernel_rfl) rfl rfl ⟨(blk_cell BK699.out 0).trans rfl, (blk_cell BK699.out 1).trans rfl, (blk_cell BK699.out 2).trans rfl, (blk_cell BK674.out 0).trans rfl, (blk_cell BK674.out 1).trans rfl, (blk_cell BK674.out 2).trans rfl⟩ (fun hHeld => ?_)
            generalize wc.drew = w65 at HO_692000 HO_692002 HO_700000 HO_700002 HO_709000 HO_709002 BK674 BK691 BK699 BK708 HB hHeld ⊢
            refine take_ (i := 0) (N := some 41) (v := ?_) (a' := ?_) #[true, false, false, false, false] rfl rfl (by kernel_rfl) (fun _ _ _ h => h) (Or.inl ⟨by rfl, ?_⟩) hHeld ?_ ?_
            rotate_left
            · rintro w' ⟨s0, s1, s2, s3, s4, s5⟩
              go_simp
              with_reducible rfl
            rotate_left
            · simp only [Act.put, List.setIfInBounds_toArray, List.set_cons_zero, List.set_cons_succ, i64_w, i32_w]
              rfl
            refine take_ (i := 1) (N := some 42) (v := ?_) (a' := ?_) #[true, true, false, false, false] rfl rfl (by kernel_rfl) (fun _ _ _ h => h) (Or.inl ⟨by rfl, ?_⟩) hHeld ?_ ?_
            rotate_left
            · rintro w' ⟨s0, s1, s2, s3, s4, s5⟩
              go_simp
              with_reducible rfl
            rotate_left
            · simp only [Act.put, List.setIfInBounds_toArray, List.set_cons_zero, List.set_cons_succ, i64_w, i32_w]
              rfl
            refine one_ (i := 2) (N := some 43) #[true, true, true, false, false] rfl rfl (by kernel_rfl) (by decide) (fun K hK => ?_)
            refine goes_ Try.func17 (by kernel_rfl) rfl #[.agg #[.slice A0_0 l0_0.length c0_0, .int .i64 a0_1, .slice A0_2 l0_2.length c0_2]] (by rfl) rfl rfl (by (try simp only [List.map_toArray, List.map_cons, List.map_nil]); first | done | rfl | (simp only [List.length_drop, List.length_take]; rfl)) ?_
            with_reducible refine (laws_toWork.calls kj10 _ _ l0_0 a0_1 _ _ l0_2 t710 t713 t714 _ ?side1 ?side2 ?side3 ?side4 A60.out).mono ?_
            (case side1 => exact oc_ HR0_0.out)
            (case side2 => exact HC0_0.out)
            (case side3 => exact oc_ HR0_2.out)
            (case side4 => exact HC0_2.out)
            rintro e w66 ⟨v711, v715, rfl, ho0, ho1, hb⟩
            refine ⟨_, rfl, ?_⟩
            have n0_ := Aside0.mk (Kd.R_elder' (oR HO_692000) (Kd.R_base ho0) hb)
            have n1_ := Aside0.mk (Kd.R_elder' (oR HO_692002) (Kd.R_base ho1) hb)
            have n2_ := Aside0.mk (Kd.R_elder' (oR HO_700000) (Kd.R_base ho0) hb)
            have n3_ := Aside0.mk (Kd.R_elder' (oR HO_700002) (Kd.R_base ho1) hb)
            have n4_ := Aside0.mk (Kd.R_elder' (oR HO_709000) (Kd.R_base ho0) hb)
            have n5_ := Aside0.mk (Kd.R_elder' (oR HO_709002) (Kd.R_base ho1) hb)
            have n6_ := Aside0.mk (Kd.R_lower (Kd.R_new' (Kd.R_new' (Kd.R_new' ho0 (Kd.R_lt (oR HO_692000))) (Kd.R_lt (oR HO_700000))) (Kd.R_lt (oR HO_709000))) (below_size (oB HB)))
            have n7_ := Aside0.mk (Kd.R_lower (Kd.R_new' (Kd.R_new' (Kd.R_new' ho1 (Kd.R_lt (oR HO_692002))) (Kd.R_lt (oR HO_700002))) (Kd.R_lt (oR HO_709002))) (below_size (oB HB)))
            have n8_ := Aside0.mk (blk_below (g := gb674) (o := .cells #[.slice A0_0 l0_0.length c0_0, .int .i64 a0_1, .slice A0_2 l0_2.length c0_2] 25 (0, 0)) (oK BK674) hb)
            have n9_ := Aside0.mk (blk_below (g := gb691) (o := .cells #[.slice Ao21 t683.length co21, .int .i64 t686, .slice Ao24 t687.length co24] 30 (0, 0)) (oK BK691) hb)
            have n10_ := Aside0.mk (blk_below (g := gb699) (o := .cells #[.slice Ao28 t692.length co28, .int .i64 t695, .slice Ao32 t696.length co32] 30 (0, 0)) (oK BK699) hb)
            have n11_ := Aside0.mk (blk_below (g := gb708) (o := .cells #[.slice Ao35 t700.length co35, .int .i64 t703, .slice Ao40 t704.length co40] 30 (0, 0)) (oK BK708) hb)
            have n12_ := Aside0.mk (below_step (oB HB) hb)
            clear HO_692000
            clear HO_692002
            clear HO_700000
            clear HO_700002
            clear HO_709000
            clear HO_709002
            clear BK674
            clear BK691
            clear BK699
            clear BK708
            clear HB
            have HO_692000 := n0_
            have HO_692002 := n1_
            have HO_700000 := n2_
            have HO_700002 := n3_
            have HO_709000 := n4_
            have HO_709002 := n5_
            have HO712 := n6_
            have HO716 := n7_
            have BK674 := n8_
            have BK691 := n9_
            have BK699 := n10_
            have BK708 := n11_
            have HB := n12_
            clear n0_ n1_ n2_ n3_ n4_ n5_ n6_ n7_ n8_ n9_ n10_ n11_ n12_
            (try clear hb)
            (try clear hb2)
            (try clear hk)
            (try clear hi)
            (try clear ho0)
            (try clear ho1)
            obtain ⟨Ao67, co67, eo67⟩ := Kd.R_slice HO712.out
            (first | subst eo67 | (injection eo67 with f1_ f2_ f3_; have f4_ := f1_.symm; have f5_ := f3_.symm; clear f1_ f2_ f3_; subst f4_; subst f5_))
            obtain ⟨Ao68, co68, eo68⟩ := Kd.R_slice HO716.out
            (first | subst eo68 | (injection eo68 with f1_ f2_ f3_; have f4_ := f1_.symm; have f5_ := f3_.symm; clear f1_ f2_ f3_; subst f4_; subst f5_))
            refine hK.out _ _ ⟨(blk_cell BK699.out 0).trans rfl, (blk_cell BK699.out 1).trans rfl, (blk_cell BK699.out 2).trans rfl, (blk_cell BK674.out 0).trans rfl, (blk_cell BK674.out 1).trans rfl, (blk_cell BK674.out 2).trans rfl⟩ (fun hHeld => ?_)
            clear hK K
            refine norm_ (a' := ?_) ?_ ?_
            rotate_left
            · show Act.put _ (some 43) _ = _
              simp only [Act.put, List.setIfInBounds_toArray, List.set_cons_zero, List.set_cons_succ, i64_w, i32_w]
              rfl
            refine one_ (i := 3) (N := some 44) #[true, true, true, true, false] rfl rfl (by kernel_rfl) (by decide) (fun K hK => ?_)
            refine goes_ Try.func19 (by kernel_rfl) rfl #[.agg #[.slice Ao28 t692.length co28, .int .i64 t695, .slice Ao32 t696.length co32], .agg #[.slice Ao67 t710.length co67, .int .i64 t713, .slice Ao68 t714.length co68]] (by rfl) rfl rfl (by (try simp only [List.map_toArray, List.map_cons, List.map_nil]); first | done | rfl | (simp only [List.length_drop, List.length_take]; rfl)) ?_
            with_reducible refine (laws_eqWork.calls kj10 _ _ t692 t695 _ _ t696 _ _ t710 t713 _ _ t714 true _ ?side1 ?side2 ?side3 ?side4 ?side5 ?side6 ?side7 ?side8 A61.out).mono ?_
            (case side1 => repeat (first | exact (Kd.R_reads' HO_700000.out).2.2 | (with_reducible refine Kd.C_alloc ?_ _) | (with_reducible refine Kd.C_drewN ?_ _) | (with_reducible refine Kd.C_drew ?_)))
            (case side2 => exact (Kd.R_reads' HO_700000.out).2.1)
            (case side3 => repeat (first | exact (Kd.R_reads' HO_700002.out).2.2 | (with_reducible refine Kd.C_alloc ?_ _) | (with_reducible refine Kd.C_drewN ?_ _) | (with_reducible refine Kd.C_drew ?_)))
            (case side4 => exact (Kd.R_reads' HO_700002.out).2.1)
            (case side5 => repeat (first | exact (Kd.R_reads' HO712.out).2.2 | (with_reducible refine Kd.C_alloc ?_ _) | (with_reducible refine Kd.C_drewN ?_ _) | (with_reducible refine Kd.C_drew ?_)))
            (case side6 => exact (Kd.R_reads' HO712.out).2.1)
            (case side7 => repeat (first | exact (Kd.R_reads' HO716.out).2.2 | (with_reducible refine Kd.C_alloc ?_ _) | (with_reducible refine Kd.C_drewN ?_ _) | (with_reducible refine Kd.C_drew ?_)))
            (case side8 => exact (Kd.R_reads' HO716.out).2.1)
            rintro e w69 ⟨rfl, hb⟩
            refine ⟨_, rfl, ?_⟩
            have n0_ := Aside0.mk (Kd.R_below (oR HO_692000) hb)
            have n1_ := Aside0.mk (Kd.R_below (oR HO_692002) hb)
            have n2_ := Aside0.mk (Kd.R_below (oR HO_700000) hb)
            have n3_ := Aside0.mk (Kd.R_below (oR HO_700002) hb)
            have n4_ := Aside0.mk (Kd.R_below (oR HO_709000) hb)
            have n5_ := Aside0.mk (Kd.R_below (oR HO_709002) hb)
            have n6_ := Aside0.mk (Kd.R_below (oR HO712) hb)
            have n7_ := Aside0.mk (Kd.R_below (oR HO716) hb)
            have n8_ := Aside0.mk (blk_below (g := gb674) (o := .cells #[.slice A0_0 l0_0.length c0_0, .int .i64 a0_1, .slice A0_2 l0_2.length c0_2] 25 (0, 0)) (oK BK674) hb)
            have n9_ := Aside0.mk (blk_below (g := gb691) (o := .cells #[.slice Ao21 t683.length co21, .int .i64 t686, .slice Ao24 t687.length co24] 30 (0, 0)) (oK BK691) hb)
            have n10_ := Aside0.mk (blk_below (g := gb699) (o := .cells #[.slice Ao28 t692.length co28, .int .i64 t695, .slice Ao32 t696.length co32] 30 (0, 0)) (oK BK699) hb)
            have n11_ := Aside0.mk (blk_below (g := gb708) (o := .cells #[.slice Ao35 t700.length co35, .int .i64 t703, .slice Ao40 t704.length co40] 30 (0, 0)) (oK BK708) hb)
            have n12_ := Aside0.mk (below_step (oB HB) hb)
            clear HO_692000
            clear HO_692002
            clear HO_700000
            clear HO_700002
            clear HO_709000
            clear HO_709002
            clear HO712
            clear HO716
            clear BK674
            clear BK691
            clear BK699
            clear BK708
            clear HB
            have HO_692000 := n0_
            have HO_692002 := n1_
            have HO_700000 := n2_
            have HO_700002 := n3_
            have HO_709000 := n4_
            have HO_709002 := n5_
            have HO712 := n6_
            have HO716 := n7_
            have BK674 := n8_
            have BK691 := n9_
            have BK699 := n10_
            have BK708 := n11_
            have HB := n12_
            clear n0_ n1_ n2_ n3_ n4_ n5_ n6_ n7_ n8_ n9_ n10_ n11_ n12_
            (try clear hb)
            (try clear hb2)
            (try clear hk)
            (try clear hi)
            refine hK.out _ _ ⟨(blk_cell BK699.out 0).trans rfl, (blk_cell BK699.out 1).trans rfl, (blk_cell BK699.out 2).trans rfl, (blk_cell BK674.out 0).trans rfl, (blk_cell BK674.out 1).trans rfl, (blk_cell BK674.out 2).trans rfl⟩ (fun hHeld => ?_)
            clear hK K
            refine norm_ (a' := ?_) ?_ ?_
            rotate_left
            · show Act.put _ (some 44) _ = _
              simp only [Act.put, List.setIfInBounds_toArray, List.set_cons_zero, List.set_cons_succ, i64_w, i32_w]
              rfl
            refine pure_ (i := 4) (N := some 45) (v := ?_) (a' := ?_) #[true, true, true, true, true] rfl rfl (by kernel_rfl) (fun _ _ _ h => h) (Or.inl ⟨by rfl, ?_⟩) ?_ ?_
            rotate_left
            · intro w'
              go_simp
              with_reducible rfl
            rotate_left
            · simp only [Act.put, List.setIfInBounds_toArray, List.set_cons_zero, List.set_cons_succ, i64_w, i32_w]
              rfl
            refine done_ (by kernel_rfl) ?_
            have hnb70 := NB699_674.out
            have hnc70 := NB674_699.out
            have hnb71 := NB699_691.out
            have hnc71 := NB691_699.out
            have hnb72 := NB699_708.out
            have hnc72 := NB708_699.out
            have hcz73_0 : w69.cell? ⟨gb699, 0, none⟩ = some (.slice Ao28 t692.length co28) := (blk_cell BK699.out 0).trans rfl
            have hcz73_1 : w69.cell? ⟨gb699, 1, none⟩ = some (.int .i64 t695) := (blk_cell BK699.out 1).trans rfl
            have hcz73_2 : w69.cell? ⟨gb699, 2, none⟩ = some (.slice Ao32 t696.length co32) := (blk_cell BK699.out 2).trans rfl
            have hfz73_0 := blk_frozen BK699.out 0
            have hfz73_1 := blk_frozen BK699.out 1
            have hfz73_2 := blk_frozen BK699.out 2
            go_upto_region 14 with (first | ((with_reducible refine gate_callee (f := 28) rfl ?_); refine goesL_ (some 48) rfl rfl Try.func28 (by kernel_rfl) rfl #[.agg #[.slice Ao28 t692.length co28, .int .i64 t695, .slice Ao32 t696.length co32], .int .i64 1] rfl (by (try simp only [List.map_toArray, List.map_cons, List.map_nil]); first | done | rfl | (simp only [List.length_drop, List.length_take]; rfl)) ?_; (with_reducible refine (laws_markWork.calls kj10 (fun k_ => some k_ = (.slice Ao28 t692.length co28 : Value).ownBlock) (.slice Ao28 t692.length co28) t692 t695 (fun k_ => some k_ = (.slice Ao32 t696.length co32 : Value).ownBlock) (.slice Ao32 t696.length co32) t696 1 t718 t719 t720 w _ ?side1 ?side2 ?side3 A63.out).mono ?_); (case side1 => repeat (first | (with_reducible first | exact HB.out | apply below_alloc | apply pw_below_drewN | apply below_drew1 | refine below_set ?_ GE674.out | refine below_set ?_ GE691.out | refine below_set ?_ GE699.out | refine below_set ?_ GE708.out) | exact HB.out)); (case side2 => exact Kd.R_tight rfl HO_700000.out); (case side3 => exact Kd.R_tight rfl HO_700002.out); rintro e w74 ⟨rfl, hy0, hy1, hb, hkp⟩; refine ⟨_, rfl, ?_⟩; have n0_ := Aside0.mk (Kd.R_mono (ok' := fun k_ => some k_ ≠ (.slice Ao28 t692.length co28 : Value).ownBlock ∧ some k_ ≠ (.slice Ao35 t700.length co35 : Value).ownBlock ∧ some k_ ≠ (.slice Ao67 t710.length co67 : Value).ownBlock) (Kd.R_keptB ((Kd.R_apart' HO_692000.out (Kd.R_typed HO_700002.out) (by decide))) hkp (fun k_ hk_ hs_ => Or.elim hs_ (fun e_ => (hk_.1.1.1) e_) (fun e_ => (hk_.2) e_))) (fun k_ hk_ => ⟨hk_.1.1.1.1, hk_.1.1.1.2, hk_.1.1.2⟩)); have n1_ := Aside0.mk (Kd.R_mono (ok' := fun k_ => some k_ ≠ (.slice Ao32 t696.length co32 : Value).ownBlock ∧ some k_ ≠ (.slice Ao40 t704.length co40 : Value).ownBlock ∧ some k_ ≠ (.slice Ao68 t714.length co68 : Value).ownBlock) (Kd.R_keptB ((Kd.R_apart' HO_692002.out (Kd.R_typed HO_700000.out) (by decide))) hkp (fun k_ hk_ hs_ => Or.elim hs_ (fun e_ => (hk_.2) e_) (fun e_ => (hk_.1.1.1) e_))) (fun k_ hk_ => ⟨hk_.1.1.1.1, hk_.1.1.1.2, hk_.1.1.2⟩)); have n2_ := Aside0.mk (Kd.R_reok rfl hy0 (fun k_ e_ => HO_700000.out.1 k_ e_)); have n3_ := Aside0.mk (Kd.R_reok rfl hy1 (fun k_ e_ => HO_700002.out.1 k_ e_)); have n4_ := Aside0.mk (Kd.R_mono (ok' := fun k_ => some k_ ≠ (.slice Ao21 t683.length co21 : Value).ownBlock ∧ some k_ ≠ (.slice Ao28 t692.length co28 : Value).ownBlock ∧ some k_ ≠ (.slice Ao67 t710.length co67 : Value).ownBlock) (Kd.R_keptB ((Kd.R_apart' HO_709000.out (Kd.R_typed HO_700002.out) (by decide))) hkp (fun k_ hk_ hs_ => Or.elim hs_ (fun e_ => (hk_.1.1.2) e_) (fun e_ => (hk_.2) e_))) (fun k_ hk_ => ⟨hk_.1.1.1.1, hk_.1.1.1.2, hk_.1.1.2⟩)); have n5_ := Aside0.mk (Kd.R_mono (ok' := fun k_ => some k_ ≠ (.slice Ao24 t687.length co24 : Value).ownBlock ∧ some k_ ≠ (.slice Ao32 t696.length co32 : Value).ownBlock ∧ some k_ ≠ (.slice Ao68 t714.length co68 : Value).ownBlock) (Kd.R_keptB ((Kd.R_apart' HO_709002.out (Kd.R_typed HO_700000.out) (by decide))) hkp (fun k_ hk_ hs_ => Or.elim hs_ (fun e_ => (hk_.2) e_) (fun e_ => (hk_.1.1.2) e_))) (fun k_ hk_ => ⟨hk_.1.1.1.1, hk_.1.1.1.2, hk_.1.1.2⟩)); have n6_ := Aside0.mk (blk_kept (oK BK674) hkp (fun hs_ => Or.elim hs_ (fun e_ => (fun e_ => (Kd.R_ne HO_700000.out BK674.out (by decide)) e_) e_) (fun e_ => (fun e_ => (Kd.R_ne HO_700002.out BK674.out (by decide)) e_) e_))); have n7_ := Aside0.mk (blk_kept (oK BK691) hkp (fun hs_ => Or.elim hs_ (fun e_ => (fun e_ => (Kd.R_ne HO_700000.out BK691.out (by decide)) e_) e_) (fun e_ => (fun e_ => (Kd.R_ne HO_700002.out BK691.out (by decide)) e_) e_))); have n8_ := Aside0.mk (blk_kept (oK BK699) hkp (fun hs_ => Or.elim hs_ (fun e_ => (fun e_ => (Kd.R_ne HO_700000.out BK699.out (by decide)) e_) e_) (fun e_ => (fun e_ => (Kd.R_ne HO_700002.out BK699.out (by decide)) e_) e_))); have n9_ := Aside0.mk (blk_kept (oK BK708) hkp (fun hs_ => Or.elim hs_ (fun e_ => (fun e_ => (Kd.R_ne HO_700000.out BK708.out (by decide)) e_) e_) (fun e_ => (fun e_ => (Kd.R_ne HO_700002.out BK708.out (by decide)) e_) e_))); have n10_ := Aside0.mk (Kd.R_mono (ok' := fun k_ => some k_ ≠ (.slice Ao21 t683.length co21 : Value).ownBlock ∧ some k_ ≠ (.slice Ao28 t692.length co28 : Value).ownBlock ∧ some k_ ≠ (.slice Ao35 t700.length co35 : Value).ownBlock) (Kd.R_keptB ((Kd.R_apart' HO712.out (Kd.R_typed HO_700002.out) (by decide))) hkp (fun k_ hk_ hs_ => Or.elim hs_ (fun e_ => (hk_.1.1.2) e_) (fun e_ => (hk_.2) e_))) (fun k_ hk_ => ⟨hk_.1.1.1.1.2, hk_.1.1.1.2, hk_.1.1.2⟩)); have n11_ := Aside0.mk (Kd.R_mono (ok' := fun k_ => some k_ ≠ (.slice Ao24 t687.length co24 : Value).ownBlock ∧ some k_ ≠ (.slice Ao32 t696.length co32 : Value).ownBlock ∧ some k_ ≠ (.slice Ao40 t704.length co40 : Value).ownBlock) (Kd.R_keptB ((Kd.R_apart' HO716.out (Kd.R_typed HO_700000.out) (by decide))) hkp (fun k_ hk_ hs_ => Or.elim hs_ (fun e_ => (hk_.2) e_) (fun e_ => (hk_.1.1.2) e_))) (fun k_ hk_ => ⟨hk_.1.1.1.1.2, hk_.1.1.1.2, hk_.1.1.2⟩)); have n12_ := Aside0.mk (hb); clear HO_692000; clear HO_692002; clear HO_700000; clear HO_700002; clear HO_709000; clear HO_709002; clear BK674; clear BK691; clear BK699; clear BK708; clear HO712; clear HO716; clear HB; have HO_692000 := n0_; have HO_692002 := n1_; have HO_700000 := n2_; have HO_700002 := n3_; have HO_709000 := n4_; have HO_709002 := n5_; have BK674 := n6_; have BK691 := n7_; have BK699 := n8_; have BK708 := n9_; have HO712 := n10_; have HO716 := n11_; have HB := n12_; clear n0_ n1_ n2_ n3_ n4_ n5_ n6_ n7_ n8_ n9_ n10_ n11_ n12_; (try clear hb); (try clear hkp); (try clear hy0); (try clear hy1)))
            (try simp only [Act.put, List.setIfInBounds_toArray, List.set_cons_zero, List.set_cons_succ])
            go_cut [61] (fun v61 wc => ∃ (kq : Nat) (x61_63 : Bool), v61 = .bool x61_63 ∧ Aside0 (laws_FnExactWorkStep.j1 kq t690 x61_63 l0_0 a0_1 l0_2 t683 t686 t687 t700 t703 t704 = some r) ∧ Aside0 (kq ≤ kj10) ∧ Aside0 (Kd.R k67 67 wc w.heap.size (fun k_ => some k_ ≠ ((.slice Ao28 t692.length co28) : Value).ownBlock ∧ some k_ ≠ ((.slice Ao35 t700.length co35) : Value).ownBlock) (.slice Ao21 t683.length co21) t683) ∧ Aside0 (Kd.R (Kd.int .i64) 3 wc w.heap.size (fun k_ => some k_ ≠ ((.slice Ao32 t696.length co32) : Value).ownBlock ∧ some k_ ≠ ((.slice Ao40 t704.length co40) : Value).ownBlock) (.slice Ao24 t687.length co24) t687) ∧ Aside0 (Kd.R k67 67 wc w.heap.size (fun k_ => some k_ ≠ ((.slice Ao21 t683.length co21) : Value).ownBlock ∧ some k_ ≠ ((.slice Ao35 t700.length co35) : Value).ownBlock) (.slice Ao28 t692.length co28) t719) ∧ Aside0 (Kd.R (Kd.int .i64) 3 wc w.heap.size (fun k_ => some k_ ≠ ((.slice Ao24 t687.length co24) : Value).ownBlock ∧ some k_ ≠ ((.slice Ao40 t704.length co40) : Value).ownBlock) (.slice Ao32 t696.length co32) t720) ∧ Aside0 (Kd.R k67 67 wc w.heap.size (fun k_ => some k_ ≠ ((.slice Ao21 t683.length co21) : Value).ownBlock ∧ some k_ ≠ ((.slice Ao28 t692.length co28) : Value).ownBlock) (.slice Ao35 t700.length co35) t700) ∧ Aside0 (Kd.R (Kd.int .i64) 3 wc w.heap.size (fun k_ => some k_ ≠ ((.slice Ao24 t687.length co24) : Value).ownBlock ∧ some k_ ≠ ((.slice Ao32 t696.length co32) : Value).ownBlock) (.slice Ao40 t704.length co40) t704) ∧ Aside0 (wc.heap[gb674]? = some (.cells #[(.slice A0_0 l0_0.length c0_0), .int .i64 a0_1, (.slice A0_2 l0_2.length c0_2)] 25 (0, 0))) ∧ Aside0 (wc.heap[gb691]? = some (.cells #[(.slice Ao21 t683.length co21), .int .i64 t686, (.slice Ao24 t687.length co24)] 30 (0, 0))) ∧ Aside0 (wc.heap[gb699]? = some (.cells #[(.slice Ao28 t692.length co28), .int .i64 t695, (.slice Ao32 t696.length co32)] 30 (0, 0))) ∧ Aside0 (wc.heap[gb708]? = some (.cells #[(.slice Ao35 t700.length co35), .int .i64 t703, (.slice Ao40 t704.length co40)] 30 (0, 0))) ∧ Aside0 (Below w.heap.size w wc))
            case first =>
              have H := HC64.out
              clear HC64
              by_cases c75 : t718 < 0
              · rw [if_pos c75] at H
                have c75b0 : decide (t718 < 0) = true := decide_eq_true c75
                clear c75
                (first | rw [c75b0] | (simp only [i64_w, i32_w]; rw [c75b0]) | skip)
                have H' := Aside0.mk H
                clear H
                go_wp2
                go_meet
                case rel => exact ⟨_, (true), (by first | rfl | (simp; done) | (simp [*]; done)), H', ⟨by have := HJ10.out; first | omega | exact Nat.le_refl _⟩, ⟨by (with_reducible repeat (first | apply Kd.R_alloc | apply Kd.R_drewN | apply Kd.R_drew)); exact Kd.R_mono HO_692000.out (fun _ hk => ⟨hk.1, hk.2.1⟩)⟩, ⟨by (with_reducible repeat (first | apply Kd.R_alloc | apply Kd.R_drewN | apply Kd.R_drew)); exact Kd.R_mono HO_692002.out (fun _ hk => ⟨hk.1, hk.2.1⟩)⟩, ⟨by (with_reducible repeat (first | apply Kd.R_alloc | apply Kd.R_drewN | apply Kd.R_drew)); exact Kd.R_mono HO_700000.out (fun _ hk => ⟨hk.1.1, hk.1.2⟩)⟩, ⟨by (with_reducible repeat (first | apply Kd.R_alloc | apply Kd.R_drewN | apply Kd.R_drew)); exact Kd.R_mono HO_700002.out (fun _ hk => ⟨hk.1.1, hk.1.2⟩)⟩, ⟨by (with_reducible repeat (first | apply Kd.R_alloc | apply Kd.R_drewN | apply Kd.R_drew)); exact Kd.R_mono HO_709000.out (fun _ hk => ⟨hk.1, hk.2.1⟩)⟩, ⟨by (with_reducible repeat (first | apply Kd.R_alloc | apply Kd.R_drewN | apply Kd.R_drew)); exact Kd.R_mono HO_709002.out (fun _ hk => ⟨hk.1, hk.2.1⟩)⟩, ⟨oK BK674⟩, ⟨oK BK691⟩, ⟨oK BK699⟩, ⟨oK BK708⟩, ⟨oB HB⟩⟩
              · rw [if_neg c75] at H
                have c75b0 : decide (t718 < 0) = false := decide_eq_false c75
                clear c75
                (first | rw [c75b0] | (simp only [i64_w, i32_w]; rw [c75b0]) | skip)
                replace H := Option.bind_eq_some_iff.mp H
                obtain ⟨t721, A760, H⟩ := H
                (try dsimp only at H)
                have A76 := Aside0.mk A760
                clear A760
                by_cases c77 : t721 = true
                · subst c77
                  rw [if_pos rfl] at H
                  have H' := Aside0.mk H
                  clear H
                  have hnb78 := NB708_674.out
                  have hnc78 := NB674_708.out
                  have hnb79 := NB708_691.out
                  have hnc79 := NB691_708.out
                  have hnb80 := NB708_699.out
                  have hnc80 := NB699_708.out
                  have hcz81_0 : w74.cell? ⟨gb708, 0, none⟩ = some (.slice Ao35 t700.length co35) := (blk_cell BK708.out 0).trans rfl
                  have hcz81_1 : w74.cell? ⟨gb708, 1, none⟩ = some (.int .i64 t703) := (blk_cell BK708.out 1).trans rfl
                  have hcz81_2 : w74.cell? ⟨gb708, 2, none⟩ = some (.slice Ao40 t704.length co40) := (blk_cell BK708.out 2).trans rfl
                  have hfz81_0 := blk_frozen BK708.out 0
                  have hfz81_1 := blk_frozen BK708.out 1
                  have hfz81_2 := blk_frozen BK708.out 2
                  have hnb82 := NB691_674.out
                  have hnc82 := NB674_691.out
                  have hnb83 := NB691_699.out
                  have hnc83 := NB699_691.out
                  have hcz84_0 : w74.cell? ⟨gb691, 0, none⟩ = some (.slice Ao21 t683.length co21) := (blk_cell BK691.out 0).trans rfl
                  have hcz84_1 : w74.cell? ⟨gb691, 1, none⟩ = some (.int .i64 t686) := (blk_cell BK691.out 1).trans rfl
                  have hcz84_2 : w74.cell? ⟨gb691, 2, none⟩ = some (.slice Ao24 t687.length co24) := (blk_cell BK691.out 2).trans rfl
                  have hfz84_0 := blk_frozen BK691.out 0
                  have hfz84_1 := blk_frozen BK691.out 1
                  have hfz84_2 := blk_frozen BK691.out 2
                  go_wp2_with (first | (go_at_call 19; (with_reducible refine (laws_eqWork.calls kj10 _ _ t700 t703 _ _ t704 _ _ t683 t686 _ _ t687 true _ ?side1 ?side2 ?side3 ?side4 ?side5 ?side6 ?side7 ?side8 A76.out).mono ?_); (case side1 => repeat (first | exact (Kd.R_reads' HO_709000.out).2.2 | (with_reducible refine Kd.C_alloc ?_ _) | (with_reducible refine Kd.C_drewN ?_ _) | (with_reducible refine Kd.C_drew ?_))); (case side2 => exact (Kd.R_reads' HO_709000.out).2.1); (case side3 => repeat (first | exact (Kd.R_reads' HO_709002.out).2.2 | (with_reducible refine Kd.C_alloc ?_ _) | (with_reducible refine Kd.C_drewN ?_ _) | (with_reducible refine Kd.C_drew ?_))); (case side4 => exact (Kd.R_reads' HO_709002.out).2.1); (case side5 => repeat (first | exact (Kd.R_reads' HO_692000.out).2.2 | (with_reducible refine Kd.C_alloc ?_ _) | (with_reducible refine Kd.C_drewN ?_ _) | (with_reducible refine Kd.C_drew ?_))); (case side6 => exact (Kd.R_reads' HO_692000.out).2.1); (case side7 => repeat (first | exact (Kd.R_reads' HO_692002.out).2.2 | (with_reducible refine Kd.C_alloc ?_ _) | (with_reducible refine Kd.C_drewN ?_ _) | (with_reducible refine Kd.C_drew ?_))); (case side8 => exact (Kd.R_reads' HO_692002.out).2.1); rintro e w85 ⟨rfl, hb⟩; have n0_ := Aside0.mk (Kd.R_below (oR HO_692000) hb); have n1_ := Aside0.mk (Kd.R_below (oR HO_692002) hb); have n2_ := Aside0.mk (Kd.R_below (oR HO_700000) hb); have n3_ := Aside0.mk (Kd.R_below (oR HO_700002) hb); have n4_ := Aside0.mk (Kd.R_below (oR HO_709000) hb); have n5_ := Aside0.mk (Kd.R_below (oR HO_709002) hb); have n6_ := Aside0.mk (Kd.R_below (oR HO712) hb); have n7_ := Aside0.mk (Kd.R_below (oR HO716) hb); have n8_ := Aside0.mk (blk_below (g := gb674) (o := .cells #[.slice A0_0 l0_0.length c0_0, .int .i64 a0_1, .slice A0_2 l0_2.length c0_2] 25 (0, 0)) (oK BK674) hb); have n9_ := Aside0.mk (blk_below (g := gb691) (o := .cells #[.slice Ao21 t683.length co21, .int .i64 t686, .slice Ao24 t687.length co24] 30 (0, 0)) (oK BK691) hb); have n10_ := Aside0.mk (blk_below (g := gb699) (o := .cells #[.slice Ao28 t692.length co28, .int .i64 t695, .slice Ao32 t696.length co32] 30 (0, 0)) (oK BK699) hb); have n11_ := Aside0.mk (blk_below (g := gb708) (o := .cells #[.slice Ao35 t700.length co35, .int .i64 t703, .slice Ao40 t704.length co40] 30 (0, 0)) (oK BK708) hb); have n12_ := Aside0.mk (below_step (oB HB) hb); clear HO_692000; clear HO_692002; clear HO_700000; clear HO_700002; clear HO_709000; clear HO_709002; clear HO712; clear HO716; clear BK674; clear BK691; clear BK699; clear BK708; clear HB; have HO_692000 := n0_; have HO_692002 := n1_; have HO_700000 := n2_; have HO_700002 := n3_; have HO_709000 := n4_; have HO_709002 := n5_; have HO712 := n6_; have HO716 := n7_; have BK674 := n8_; have BK691 := n9_; have BK699 := n10_; have BK708 := n11_; have HB := n12_; clear n0_ n1_ n2_ n3_ n4_ n5_ n6_ n7_ n8_ n9_ n10_ n11_ n12_; (try clear hb); (try clear hb2); (try clear hk); (try clear hi)))
                  go_meet
                  case rel => exact ⟨_, ((t707 != t690)), (by first | rfl | (simp; done) | (simp [*]; done)), H', ⟨by have := HJ10.out; first | omega | exact Nat.le_refl _⟩, ⟨by (with_reducible repeat (first | apply Kd.R_alloc | apply Kd.R_drewN | apply Kd.R_drew)); exact Kd.R_mono HO_692000.out (fun _ hk => ⟨hk.1, hk.2.1⟩)⟩, ⟨by (with_reducible repeat (first | apply Kd.R_alloc | apply Kd.R_drewN | apply Kd.R_drew)); exact Kd.R_mono HO_692002.out (fun _ hk => ⟨hk.1, hk.2.1⟩)⟩, ⟨by (with_reducible repeat (first | apply Kd.R_alloc | apply Kd.R_drewN | apply Kd.R_drew)); exact Kd.R_mono HO_700000.out (fun _ hk => ⟨hk.1.1, hk.1.2⟩)⟩, ⟨by (with_reducible repeat (first | apply Kd.R_alloc | apply Kd.R_drewN | apply Kd.R_drew)); exact Kd.R_mono HO_700002.out (fun _ hk => ⟨hk.1.1, hk.1.2⟩)⟩, ⟨by (with_reducible repeat (first | apply Kd.R_alloc | apply Kd.R_drewN | apply Kd.R_drew)); exact Kd.R_mono HO_709000.out (fun _ hk => ⟨hk.1, hk.2.1⟩)⟩, ⟨by (with_reducible repeat (first | apply Kd.R_alloc | apply Kd.R_drewN | apply Kd.R_drew)); exact Kd.R_mono HO_709002.out (fun _ hk => ⟨hk.1, hk.2.1⟩)⟩, ⟨oK BK674⟩, ⟨oK BK691⟩, ⟨oK BK699⟩, ⟨oK BK708⟩, ⟨oB HB⟩⟩
                · replace c77 := Bool.eq_false_iff.mpr c77
                  subst c77
                  rw [if_neg (show ¬ (false = true) by decide)] at H
                  have H' := Aside0.mk H
                  clear H
                  have hnb86 := NB708_674.out
                  have hnc86 := NB674_708.out
                  have hnb87 := NB708_691.out
                  have hnc87 := NB691_708.out
                  have hnb88 := NB708_699.out
                  have hnc88 := NB699_708.out
                  have hcz89_0 : w74.cell? ⟨gb708, 0, none⟩ = some (.slice Ao35 t700.length co35) := (blk_cell BK708.out 0).trans rfl
                  have hcz89_1 : w74.cell? ⟨gb708, 1, none⟩ = some (.int .i64 t703) := (blk_cell BK708.out 1).trans rfl
                  have hcz89_2 : w74.cell? ⟨gb708, 2, none⟩ = some (.slice Ao40 t704.length co40) := (blk_cell BK708.out 2).trans rfl
                  have hfz89_0 := blk_frozen BK708.out 0
                  have hfz89_1 := blk_frozen BK708.out 1
                  have hfz89_2 := blk_frozen BK708.out 2
                  have hnb90 := NB691_674.out
                  have hnc90 := NB674_691.out
                  have hnb91 := NB691_699.out
                  have hnc91 := NB699_691.out
                  have hcz92_0 : w74.cell? ⟨gb691, 0, none⟩ = some (.slice Ao21 t683.length co21) := (blk_cell BK691.out 0).trans rfl
                  have hcz92_1 : w74.cell? ⟨gb691, 1, none⟩ = some (.int .i64 t686) := (blk_cell BK691.out 1).trans rfl
                  have hcz92_2 : w74.cell? ⟨gb691, 2, none⟩ = some (.slice Ao24 t687.length co24) := (blk_cell BK691.out 2).trans rfl
                  have hfz92_0 := blk_frozen BK691.out 0
                  have hfz92_1 := blk_frozen BK691.out 1
                  have hfz92_2 := blk_frozen BK691.out 2
                  go_wp2_with (first | (go_at_call 19; (with_reducible refine (laws_eqWork.calls kj10 _ _ t700 t703 _ _ t704 _ _ t683 t686 _ _ t687 false _ ?side1 ?side2 ?side3 ?side4 ?side5 ?side6 ?side7 ?side8 A76.out).mono ?_); (case side1 => repeat (first | exact (Kd.R_reads' HO_709000.out).2.2 | (with_reducible refine Kd.C_alloc ?_ _) | (with_reducible refine Kd.C_drewN ?_ _) | (with_reducible refine Kd.C_drew ?_))); (case side2 => exact (Kd.R_reads' HO_709000.out).2.1); (case side3 => repeat (first | exact (Kd.R_reads' HO_709002.out).2.2 | (with_reducible refine Kd.C_alloc ?_ _) | (with_reducible refine Kd.C_drewN ?_ _) | (with_reducible refine Kd.C_drew ?_))); (case side4 => exact (Kd.R_reads' HO_709002.out).2.1); (case side5 => repeat (first | exact (Kd.R_reads' HO_692000.out).2.2 | (with_reducible refine Kd.C_alloc ?_ _) | (with_reducible refine Kd.C_drewN ?_ _) | (with_reducible refine Kd.C_drew ?_))); (case side6 => exact (Kd.R_reads' HO_692000.out).2.1); (case side7 => repeat (first | exact (Kd.R_reads' HO_692002.out).2.2 | (with_reducible refine Kd.C_alloc ?_ _) | (with_reducible refine Kd.C_drewN ?_ _) | (with_reducible refine Kd.C_drew ?_))); (case side8 => exact (Kd.R_reads' HO_692002.out).2.1); rintro e w93 ⟨rfl, hb⟩; have n0_ := Aside0.mk (Kd.R_below (oR HO_692000) hb); have n1_ := Aside0.mk (Kd.R_below (oR HO_692002) hb); have n2_ := Aside0.mk (Kd.R_below (oR HO_700000) hb); have n3_ := Aside0.mk (Kd.R_below (oR HO_700002) hb); have n4_ := Aside0.mk (Kd.R_below (oR HO_709000) hb); have n5_ := Aside0.mk (Kd.R_below (oR HO_709002) hb); have n6_ := Aside0.mk (Kd.R_below (oR HO712) hb); have n7_ := Aside0.mk (Kd.R_below (oR HO716) hb); have n8_ := Aside0.mk (blk_below (g := gb674) (o := .cells #[.slice A0_0 l0_0.length c0_0, .int .i64 a0_1, .slice A0_2 l0_2.length c0_2] 25 (0, 0)) (oK BK674) hb); have n9_ := Aside0.mk (blk_below (g := gb691) (o := .cells #[.slice Ao21 t683.length co21, .int .i64 t686, .slice Ao24 t687.length co24] 30 (0, 0)) (oK BK691) hb); have n10_ := Aside0.mk (blk_below (g := gb699) (o := .cells #[.slice Ao28 t692.length co28, .int .i64 t695, .slice Ao32 t696.length co32] 30 (0, 0)) (oK BK699) hb); have n11_ := Aside0.mk (blk_below (g := gb708) (o := .cells #[.slice Ao35 t700.length co35, .int .i64 t703, .slice Ao40 t704.length co40] 30 (0, 0)) (oK BK708) hb); have n12_ := Aside0.mk (below_step (oB HB) hb); clear HO_692000; clear HO_692002; clear HO_700000; clear HO_700002; clear HO_709000; clear HO_709002; clear HO712; clear HO716; clear BK674; clear BK691; clear BK699; clear BK708; clear HB; have HO_692000 := n0_; have HO_692002 := n1_; have HO_700000 := n2_; have HO_700002 := n3_; have HO_709000 := n4_; have HO_709002 := n5_; have HO712 := n6_; have HO716 := n7_; have BK674 := n8_; have BK691 := n9_; have BK699 := n10_; have BK708 := n11_; have HB := n12_; clear n0_ n1_ n2_ n3_ n4_ n5_ n6_ n7_ n8_ n9_ n10_ n11_ n12_; (try clear hb); (try clear hb2); (try clear hk); (try clear hi)))
                  go_meet
                  case rel => exact ⟨_, (true), (by first | rfl | (simp; done) | (simp [*]; done)), H', ⟨by have := HJ10.out; first | omega | exact Nat.le_refl _⟩, ⟨by (with_reducible repeat (first | apply Kd.R_alloc | apply Kd.R_drewN | apply Kd.R_drew)); exact Kd.R_mono HO_692000.out (fun _ hk => ⟨hk.1, hk.2.1⟩)⟩, ⟨by (with_reducible repeat (first | apply Kd.R_alloc | apply Kd.R_drewN | apply Kd.R_drew)); exact Kd.R_mono HO_692002.out (fun _ hk => ⟨hk.1, hk.2.1⟩)⟩, ⟨by (with_reducible repeat (first | apply Kd.R_alloc | apply Kd.R_drewN | apply Kd.R_drew)); exact Kd.R_mono HO_700000.out (fun _ hk => ⟨hk.1.1, hk.1.2⟩)⟩, ⟨by (with_reducible repeat (first | apply Kd.R_alloc | apply Kd.R_drewN | apply Kd.R_drew)); exact Kd.R_mono HO_700002.out (fun _ hk => ⟨hk.1.1, hk.1.2⟩)⟩, ⟨by (with_reducible repeat (first | apply Kd.R_alloc | apply Kd.R_drewN | apply Kd.R_drew)); exact Kd.R_mono HO_709000.out (fun _ hk => ⟨hk.1, hk.2.1⟩)⟩, ⟨by (with_reducible repeat (first | apply Kd.R_alloc | apply Kd.R_drewN | apply Kd.R_drew)); exact Kd.R_mono HO_709002.out (fun _ hk => ⟨hk.1, hk.2.1⟩)⟩, ⟨oK BK674⟩, ⟨oK BK691⟩, ⟨oK BK699⟩, ⟨oK BK708⟩, ⟨oB HB⟩⟩
            case rest =>
              clear HC64
              try clear c1
              try clear c2
              try clear p2
              try clear c3
              try clear c3b0
              try clear c4
              try clear c5
              try clear c6
              try clear c7
              try clear c8
              try clear c9
              try clear c15
              try clear c17
              try clear c19
              try clear c22
              try clear c28
              try clear c29
              try clear c30
              try clear c36
              try clear c37
              try clear c38
              try clear c39
              try clear c40
              try clear c42
              try clear c43
              try clear c44
              try clear c45
              try clear c47
              try clear c48
              try clear c51
              try clear c52
              try clear c53
              try clear c55
              try clear c56
              try clear c59
              try clear c62
              try clear c70
              try clear c71
              try clear c72
              try clear c75
              try clear c75b0
              try clear c77
              try clear c78
              try clear c79
              try clear c80
              try clear c82
              try clear c83
              try clear c86
              try clear c87
              try clear c88
              try clear c90
              try clear c91
              try clear hcz13_0
              try clear hcz13_1
              try clear hcz13_2
              try clear hcz15_0
              try clear hcz15_1
              try clear hcz15_2
              try clear hcz23_0
              try clear hcz23_1
              try clear hcz23_2
              try clear hcz25_0
              try clear hcz25_1
              try clear hcz25_2
              try clear hcz31_0
              try clear hcz31_1
              try clear hcz31_2
              try clear hcz39_0
              try clear hcz39_1
              try clear hcz39_2
              try clear hcz46_0
              try clear hcz46_1
              try clear hcz46_2
              try clear hcz49_0
              try clear hcz49_1
              try clear hcz49_2
              try clear hcz54_0
              try clear hcz54_1
              try clear hcz54_2
              try clear hcz57_0
              try clear hcz57_1
              try clear hcz57_2
              try clear hcz5_0
              try clear hcz5_1
              try clear hcz5_2
              try clear hcz73_0
              try clear hcz73_1
              try clear hcz73_2
              try clear hcz81_0
              try clear hcz81_1
              try clear hcz81_2
              try clear hcz84_0
              try clear hcz84_1
              try clear hcz84_2
              try clear hcz89_0
              try clear hcz89_1
              try clear hcz89_2
              try clear hcz92_0
              try clear hcz92_1
              try clear hcz92_2
              try clear hfz13_0
              try clear hfz13_1
              try clear hfz13_2
              try clear hfz15_0
              try clear hfz15_1
              try clear hfz15_2
              try clear hfz23_0
              try clear hfz23_1
              try clear hfz23_2
              try clear hfz25_0
              try clear hfz25_1
              try clear hfz25_2
              try clear hfz31_0
              try clear hfz31_1
              try clear hfz31_2
              try clear hfz39_0
              try clear hfz39_1
              try clear hfz39_2
              try clear hfz46_0
              try clear hfz46_1
              try clear hfz46_2
              try clear hfz49_0
              try clear hfz49_1
              try clear hfz49_2
              try clear hfz54_0
              try clear hfz54_1
              try clear hfz54_2
              try clear hfz57_0
              try clear hfz57_1
              try clear hfz57_2
              try clear hfz5_0
              try clear hfz5_1
              try clear hfz5_2
              try clear hfz73_0
              try clear hfz73_1
              try clear hfz73_2
              try clear hfz81_0
              try clear hfz81_1
              try clear hfz81_2
              try clear hfz84_0
              try clear hfz84_1
              try clear hfz84_2
              try clear hfz89_0
              try clear hfz89_1
              try clear hfz89_2
              try clear hfz92_0
              try clear hfz92_1
              try clear hfz92_2
              try clear p2
              obtain ⟨kq, x61_63, rfl, HA, HJ63, HO_692000, HO_692002, HO_700000, HO_700002, HO_709000, HO_709002, BK674, BK691, BK699, BK708, HB⟩ := hcut
              have hl700000_63 := (Kd.R_reads' HO_700000.out).1
              rw [hl700000_63] at HO_700000
              (try simp only [hl700000_63])
              (try simp only [hl700000_63] at BK674)
              (try simp only [hl700000_63] at BK691)
              (try simp only [hl700000_63] at BK699)
              (try simp only [hl700000_63] at BK708)
              (try simp only [hl700000_63] at HO_692000)
              (try simp only [hl700000_63] at HO_692002)
              (try simp only [hl700000_63] at HO_700002)
              (try simp only [hl700000_63] at HO_709000)
              (try simp only [hl700000_63] at HO_709002)
              have hl700002_63 := (Kd.R_reads' HO_700002.out).1
              rw [hl700002_63] at HO_700002
              (try simp only [hl700002_63])
              (try simp only [hl700002_63] at BK674)
              (try simp only [hl700002_63] at BK691)
              (try simp only [hl700002_63] at BK699)
              (try simp only [hl700002_63] at BK708)
              (try simp only [hl700002_63] at HO_692000)
              (try simp only [hl700002_63] at HO_692002)
              (try simp only [hl700002_63] at HO_700000)
              (try simp only [hl700002_63] at HO_709000)
              (try simp only [hl700002_63] at HO_709002)
              cases kq with
              | zero => exact absurd HA.out (by simp [laws_FnExactWorkStep.j1])
              | succ kj63 =>
                have H := HA.out
                clear HA
                simp only [laws_FnExactWorkStep.j1] at H
                by_cases c94 : x61_63 = true
                · subst c94
                  rw [if_pos rfl] at H
                  exact absurd ((Option.some.inj H).trans hrt_.out) (by decide)
                · replace c94 := Bool.eq_false_iff.mpr c94
                  subst c94
                  rw [if_neg (show ¬ (false = true) by decide)] at H
                  replace H := Option.bind_eq_some_iff.mp H
                  obtain ⟨⟨t722, t723, t724⟩, A950, H⟩ := H
                  (try dsimp only at H)
                  have A95 := Aside0.mk A950
                  clear A950
                  replace H := Option.bind_eq_some_iff.mp H
                  obtain ⟨t725, A960, H⟩ := H
                  (try dsimp only at H)
                  have A96 := Aside0.mk A960
                  clear A960
                  by_cases c97 : t725 < 0
                  · rw [if_pos c97] at H
                    have c97b0 : decide (t725 < 0) = true := decide_eq_true c97
                    clear c97
                    exact absurd ((Option.some.inj H).trans hrt_.out) (by decide)
                  · rw [if_neg c97] at H
                    have c97b0 : decide (t725 < 0) = false := decide_eq_false c97
                    clear c97
                    by_cases c98 : t725 = t722
                    · rw [if_pos c98] at H
                      have c98b0 : (t725 == t722) = true := beq_iff_eq.mpr c98
                      have c98b1 : (t725 != t722) = false := bne_eq_false_iff_eq.mpr c98
                      clear c98
                      replace H := Option.bind_eq_some_iff.mp H
                      obtain ⟨⟨t726, t729, t730⟩, A990, H⟩ := H
                      (try dsimp only at H)
                      have A99 := Aside0.mk A990
                      clear A990
                      replace H := Option.bind_eq_some_iff.mp H
                      obtain ⟨⟨t733, t736, t737, t740⟩, A1000, H⟩ := H
                      (try dsimp only at H)
                      have A100 := Aside0.mk A1000
                      clear A1000
                      have HC101 := Aside0.mk H
                      clear H
                      have hnb102 := NB708_674.out
                      have hnc102 := NB674_708.out
                      have hnb103 := NB708_691.out
                      have hnc103 := NB691_708.out
                      have hnb104 := NB708_699.out
                      have hnc104 := NB699_708.out
                      have hcz105_0 : wc.cell? ⟨gb708, 0, none⟩ = some (.slice Ao35 t700.length co35) := (blk_cell BK708.out 0).trans rfl
                      have hcz105_1 : wc.cell? ⟨gb708, 1, none⟩ = some (.int .i64 t703) := (blk_cell BK708.out 1).trans rfl
                      have hcz105_2 : wc.cell? ⟨gb708, 2, none⟩ = some (.slice Ao40 t704.length co40) := (blk_cell BK708.out 2).trans rfl
                      have hfz105_0 := blk_frozen BK708.out 0
                      have hfz105_1 := blk_frozen BK708.out 1
                      have hfz105_2 := blk_frozen BK708.out 2
                      go_upto_region 25 with (first | ((with_reducible refine gate_callee (f := 28) rfl ?_); refine goesL_ (some 64) rfl rfl Try.func28 (by kernel_rfl) rfl #[.agg #[.slice Ao35 t700.length co35, .int .i64 t703, .slice Ao40 t704.length co40], .int .i64 1] rfl (by (try simp only [List.map_toArray, List.map_cons, List.map_nil]); first | done | rfl | (simp only [List.length_drop, List.length_take]; rfl)) ?_; (with_reducible refine (laws_markWork.calls kj63 (fun k_ => some k_ = (.slice Ao35 t700.length co35 : Value).ownBlock) (.slice Ao35 t700.length co35) t700 t703 (fun k_ => some k_ = (.slice Ao40 t704.length co40 : Value).ownBlock) (.slice Ao40 t704.length co40) t704 1 t722 t723 t724 w _ ?side1 ?side2 ?side3 A95.out).mono ?_); (case side1 => repeat (first | (with_reducible first | exact HB.out | apply below_alloc | apply pw_below_drewN | apply below_drew1 | refine below_set ?_ GE674.out | refine below_set ?_ GE691.out | refine below_set ?_ GE699.out | refine below_set ?_ GE708.out) | exact HB.out)); (case side2 => exact Kd.R_tight rfl HO_709000.out); (case side3 => exact Kd.R_tight rfl HO_709002.out); rintro e w106 ⟨rfl, hy0, hy1, hb, hkp⟩; refine ⟨_, rfl, ?_⟩; have n0_ := Aside0.mk (Kd.R_mono (ok' := fun k_ => some k_ ≠ (.slice Ao28 t719.length co28 : Value).ownBlock ∧ some k_ ≠ (.slice Ao35 t700.length co35 : Value).ownBlock) (Kd.R_keptB ((Kd.R_apart' HO_692000.out (Kd.R_typed HO_709002.out) (by decide))) hkp (fun k_ hk_ hs_ => Or.elim hs_ (fun e_ => (hk_.1.2) e_) (fun e_ => (hk_.2) e_))) (fun k_ hk_ => ⟨hk_.1.1.1, hk_.1.1.2⟩)); have n1_ := Aside0.mk (Kd.R_mono (ok' := fun k_ => some k_ ≠ (.slice Ao32 t720.length co32 : Value).ownBlock ∧ some k_ ≠ (.slice Ao40 t704.length co40 : Value).ownBlock) (Kd.R_keptB ((Kd.R_apart' HO_692002.out (Kd.R_typed HO_709000.out) (by decide))) hkp (fun k_ hk_ hs_ => Or.elim hs_ (fun e_ => (hk_.2) e_) (fun e_ => (hk_.1.2) e_))) (fun k_ hk_ => ⟨hk_.1.1.1, hk_.1.1.2⟩)); have n2_ := Aside0.mk (Kd.R_mono (ok' := fun k_ => some k_ ≠ (.slice Ao21 t683.length co21 : Value).ownBlock ∧ some k_ ≠ (.slice Ao35 t700.length co35 : Value).ownBlock) (Kd.R_keptB ((Kd.R_apart' HO_700000.out (Kd.R_typed HO_709002.out) (by decide))) hkp (fun k_ hk_ hs_ => Or.elim hs_ (fun e_ => (hk_.1.2) e_) (fun e_ => (hk_.2) e_))) (fun k_ hk_ => ⟨hk_.1.1.1, hk_.1.1.2⟩)); have n3_ := Aside0.mk (Kd.R_mono (ok' := fun k_ => some k_ ≠ (.slice Ao24 t687.length co24 : Value).ownBlock ∧ some k_ ≠ (.slice Ao40 t704.length co40 : Value).ownBlock) (Kd.R_keptB ((Kd.R_apart' HO_700002.out (Kd.R_typed HO_709000.out) (by decide))) hkp (fun k_ hk_ hs_ => Or.elim hs_ (fun e_ => (hk_.2) e_) (fun e_ => (hk_.1.2) e_))) (fun k_ hk_ => ⟨hk_.1.1.1, hk_.1.1.2⟩)); have n4_ := Aside0.mk (Kd.R_reok rfl hy0 (fun k_ e_ => HO_709000.out.1 k_ e_)); have n5_ := Aside0.mk (Kd.R_reok rfl hy1 (fun k_ e_ => HO_709002.out.1 k_ e_)); have n6_ := Aside0.mk (blk_kept (oK BK674) hkp (fun hs_ => Or.elim hs_ (fun e_ => (fun e_ => (Kd.R_ne HO_709000.out BK674.out (by decide)) e_) e_) (fun e_ => (fun e_ => (Kd.R_ne HO_709002.out BK674.out (by decide)) e_) e_))); have n7_ := Aside0.mk (blk_kept (oK BK691) hkp (fun hs_ => Or.elim hs_ (fun e_ => (fun e_ => (Kd.R_ne HO_709000.out BK691.out (by decide)) e_) e_) (fun e_ => (fun e_ => (Kd.R_ne HO_709002.out BK691.out (by decide)) e_) e_))); have n8_ := Aside0.mk (blk_kept (oK BK699) hkp (fun hs_ => Or.elim hs_ (fun e_ => (fun e_ => (Kd.R_ne HO_709000.out BK699.out (by decide)) e_) e_) (fun e_ => (fun e_ => (Kd.R_ne HO_709002.out BK699.out (by decide)) e_) e_))); have n9_ := Aside0.mk (blk_kept (oK BK708) hkp (fun hs_ => Or.elim hs_ (fun e_ => (fun e_ => (Kd.R_ne HO_709000.out BK708.out (by decide)) e_) e_) (fun e_ => (fun e_ => (Kd.R_ne HO_709002.out BK708.out (by decide)) e_) e_))); have n10_ := Aside0.mk (hb); clear HO_692000; clear HO_692002; clear HO_700000; clear HO_700002; clear HO_709000; clear HO_709002; clear BK674; clear BK691; clear BK699; clear BK708; clear HB; have HO_692000 := n0_; have HO_692002 := n1_; have HO_700000 := n2_; have HO_700002 := n3_; have HO_709000 := n4_; have HO_709002 := n5_; have BK674 := n6_; have BK691 := n7_; have BK699 := n8_; have BK708 := n9_; have HB := n10_; clear n0_ n1_ n2_ n3_ n4_ n5_ n6_ n7_ n8_ n9_ n10_; (try clear hb); (try clear hkp); (try clear hy0); (try clear hy1); have hcz107_0 : w106.cell? ⟨gb708, 0, none⟩ = some (.slice Ao35 t700.length co35) := (blk_cell BK708.out 0).trans rfl; have hcz107_1 : w106.cell? ⟨gb708, 1, none⟩ = some (.int .i64 t703) := (blk_cell BK708.out 1).trans rfl; have hcz107_2 : w106.cell? ⟨gb708, 2, none⟩ = some (.slice Ao40 t704.length co40) := (blk_cell BK708.out 2).trans rfl; have hfz107_0 := blk_frozen BK708.out 0; have hfz107_1 := blk_frozen BK708.out 1; have hfz107_2 := blk_frozen BK708.out 2) | ((with_reducible refine gate_callee (f := 29) rfl ?_); refine goesL_ (some 67) rfl rfl Try.func29 (by kernel_rfl) rfl #[.agg #[.slice Ao35 t723.length co35, .int .i64 t703, .slice Ao40 t724.length co40], .int .i64 1] rfl (by (try simp only [List.map_toArray, List.map_cons, List.map_nil]); first | done | (rw [show t723.length = t700.length from (Kd.R_reads' HO_709000.out).1.symm, show t724.length = t704.length from (Kd.R_reads' HO_709002.out).1.symm] <;> rfl) | rfl | (simp only [List.length_drop, List.length_take]; rfl)) ?_; (with_reducible refine (laws_heldWork.calls kj63 _ _ t723 t703 _ _ t724 1 t725 _ ?side1 ?side2 ?side3 ?side4 A96.out).mono ?_); (case side1 => repeat (first | exact (Kd.R_reads' HO_709000.out).2.2 | (with_reducible refine Kd.C_alloc ?_ _) | (with_reducible refine Kd.C_drewN ?_ _) | (with_reducible refine Kd.C_drew ?_))); (case side2 => rw [show t723.length = t700.length from (Kd.R_reads' HO_709000.out).1.symm]; exact (Kd.R_reads' HO_709000.out).2.1); (case side3 => repeat (first | exact (Kd.R_reads' HO_709002.out).2.2 | (with_reducible refine Kd.C_alloc ?_ _) | (with_reducible refine Kd.C_drewN ?_ _) | (with_reducible refine Kd.C_drew ?_))); (case side4 => rw [show t724.length = t704.length from (Kd.R_reads' HO_709002.out).1.symm]; exact (Kd.R_reads' HO_709002.out).2.1); rintro e w108 ⟨rfl, hb⟩; refine ⟨_, rfl, ?_⟩; have n0_ := Aside0.mk (Kd.R_below (oR HO_692000) hb); have n1_ := Aside0.mk (Kd.R_below (oR HO_692002) hb); have n2_ := Aside0.mk (Kd.R_below (oR HO_700000) hb); have n3_ := Aside0.mk (Kd.R_below (oR HO_700002) hb); have n4_ := Aside0.mk (Kd.R_below (oR HO_709000) hb); have n5_ := Aside0.mk (Kd.R_below (oR HO_709002) hb); have n6_ := Aside0.mk (blk_below (g := gb674) (o := .cells #[.slice A0_0 l0_0.length c0_0, .int .i64 a0_1, .slice A0_2 l0_2.length c0_2] 25 (0, 0)) (oK BK674) hb); have n7_ := Aside0.mk (blk_below (g := gb691) (o := .cells #[.slice Ao21 t683.length co21, .int .i64 t686, .slice Ao24 t687.length co24] 30 (0, 0)) (oK BK691) hb); have n8_ := Aside0.mk (blk_below (g := gb699) (o := .cells #[.slice Ao28 t719.length co28, .int .i64 t695, .slice Ao32 t720.length co32] 30 (0, 0)) (oK BK699) hb); have n9_ := Aside0.mk (blk_below (g := gb708) (o := .cells #[.slice Ao35 t700.length co35, .int .i64 t703, .slice Ao40 t704.length co40] 30 (0, 0)) (oK BK708) hb); have n10_ := Aside0.mk (below_step (oB HB) hb); clear HO_692000; clear HO_692002; clear HO_700000; clear HO_700002; clear HO_709000; clear HO_709002; clear BK674; clear BK691; clear BK699; clear BK708; clear HB; have HO_692000 := n0_; have HO_692002 := n1_; have HO_700000 := n2_; have HO_700002 := n3_; have HO_709000 := n4_; have HO_709002 := n5_; have BK674 := n6_; have BK691 := n7_; have BK699 := n8_; have BK708 := n9_; have HB := n10_; clear n0_ n1_ n2_ n3_ n4_ n5_ n6_ n7_ n8_ n9_ n10_; (try clear hb); (try clear hb2); (try clear hk); (try clear hi); have hnb109 := NB674_691.out; have hnc109 := NB691_674.out; have hnb110 := NB674_699.out; have hnc110 := NB699_674.out; have hcz111_0 : w108.cell? ⟨gb674, 0, none⟩ = some (.slice A0_0 l0_0.length c0_0) := (blk_cell BK674.out 0).trans rfl; have hcz111_1 : w108.cell? ⟨gb674, 1, none⟩ = some (.int .i64 a0_1) := (blk_cell BK674.out 1).trans rfl; have hcz111_2 : w108.cell? ⟨gb674, 2, none⟩ = some (.slice A0_2 l0_2.length c0_2) := (blk_cell BK674.out 2).trans rfl; have hfz111_0 := blk_frozen BK674.out 0; have hfz111_1 := blk_frozen BK674.out 1; have hfz111_2 := blk_frozen BK674.out 2) | ((with_reducible refine gate_callee (f := 17) rfl ?_); refine goesL_ (some 75) rfl rfl Try.func17 (by kernel_rfl) rfl #[.agg #[.slice A0_0 l0_0.length c0_0, .int .i64 a0_1, .slice A0_2 l0_2.length c0_2]] rfl (by (try simp only [List.map_toArray, List.map_cons, List.map_nil]); first | done | rfl | (simp only [List.length_drop, List.length_take]; rfl)) ?_; (with_reducible refine (laws_toWork.calls kj63 _ _ l0_0 a0_1 _ _ l0_2 t726 t729 t730 _ ?side1 ?side2 ?side3 ?side4 A99.out).mono ?_); (case side1 => exact oc_ HR0_0.out); (case side2 => exact HC0_0.out); (case side3 => exact oc_ HR0_2.out); (case side4 => exact HC0_2.out); rintro e w112 ⟨v727, v731, rfl, ho0, ho1, hb⟩; refine ⟨_, rfl, ?_⟩; have n0_ := Aside0.mk (Kd.R_elder' (oR HO_692000) (Kd.R_base ho0) hb); have n1_ := Aside0.mk (Kd.R_elder' (oR HO_692002) (Kd.R_base ho1) hb); have n2_ := Aside0.mk (Kd.R_elder' (oR HO_700000) (Kd.R_base ho0) hb); have n3_ := Aside0.mk (Kd.R_elder' (oR HO_700002) (Kd.R_base ho1) hb); have n4_ := Aside0.mk (Kd.R_elder' (oR HO_709000) (Kd.R_base ho0) hb); have n5_ := Aside0.mk (Kd.R_elder' (oR HO_709002) (Kd.R_base ho1) hb); have n6_ := Aside0.mk (Kd.R_lower (Kd.R_new' (Kd.R_new' (Kd.R_new' ho0 (Kd.R_lt (oR HO_692000))) (Kd.R_lt (oR HO_700000))) (Kd.R_lt (oR HO_709000))) (below_size (oB HB))); have n7_ := Aside0.mk (Kd.R_lower (Kd.R_new' (Kd.R_new' (Kd.R_new' ho1 (Kd.R_lt (oR HO_692002))) (Kd.R_lt (oR HO_700002))) (Kd.R_lt (oR HO_709002))) (below_size (oB HB))); have n8_ := Aside0.mk (blk_below (g := gb674) (o := .cells #[.slice A0_0 l0_0.length c0_0, .int .i64 a0_1, .slice A0_2 l0_2.length c0_2] 25 (0, 0)) (oK BK674) hb); have n9_ := Aside0.mk (blk_below (g := gb691) (o := .cells #[.slice Ao21 t683.length co21, .int .i64 t686, .slice Ao24 t687.length co24] 30 (0, 0)) (oK BK691) hb); have n10_ := Aside0.mk (blk_below (g := gb699) (o := .cells #[.slice Ao28 t719.length co28, .int .i64 t695, .slice Ao32 t720.length co32] 30 (0, 0)) (oK BK699) hb); have n11_ := Aside0.mk (blk_below (g := gb708) (o := .cells #[.slice Ao35 t700.length co35, .int .i64 t703, .slice Ao40 t704.length co40] 30 (0, 0)) (oK BK708) hb); have n12_ := Aside0.mk (below_step (oB HB) hb); clear HO_692000; clear HO_692002; clear HO_700000; clear HO_700002; clear HO_709000; clear HO_709002; clear BK674; clear BK691; clear BK699; clear BK708; clear HB; have HO_692000 := n0_; have HO_692002 := n1_; have HO_700000 := n2_; have HO_700002 := n3_; have HO_709000 := n4_; have HO_709002 := n5_; have HO728 := n6_; have HO732 := n7_; have BK674 := n8_; have BK691 := n9_; have BK699 := n10_; have BK708 := n11_; have HB := n12_; clear n0_ n1_ n2_ n3_ n4_ n5_ n6_ n7_ n8_ n9_ n10_ n11_ n12_; (try clear hb); (try clear hb2); (try clear hk); (try clear hi); (try clear ho0); (try clear ho1); obtain ⟨Ao113, co113, eo113⟩ := Kd.R_slice HO728.out; subst eo113; obtain ⟨Ao114, co114, eo114⟩ := Kd.R_slice HO732.out; subst eo114) | ((with_reducible refine gate_callee (f := 40) rfl ?_); refine goesL_ (some 76) rfl rfl Try.func40 (by kernel_rfl) rfl #[.agg #[.slice Ao113 t726.length co113, .int .i64 t729, .slice Ao114 t730.length co114]] rfl (by (try simp only [List.map_toArray, List.map_cons, List.map_nil]); first | done | rfl | (simp only [List.length_drop, List.length_take]; rfl)) ?_; (with_reducible refine (impl_WorkStep.calls kj63 _ _ t726 t729 _ _ t730 t733 t736 t737 t740 _ ?side1 ?side2 ?side3 ?side4 A100.out).mono ?_); (case side1 => repeat (first | exact (Kd.R_reads' HO728.out).2.2 | (with_reducible refine Kd.C_alloc ?_ _) | (with_reducible refine Kd.C_drewN ?_ _) | (with_reducible refine Kd.C_drew ?_))); (case side2 => exact (Kd.R_reads' HO728.out).2.1); (case side3 => repeat (first | exact (Kd.R_reads' HO732.out).2.2 | (with_reducible refine Kd.C_alloc ?_ _) | (with_reducible refine Kd.C_drewN ?_ _) | (with_reducible refine Kd.C_drew ?_))); (case side4 => exact (Kd.R_reads' HO732.out).2.1); rintro e w115 ⟨v734, v738, rfl, ho0, ho1, hb⟩; refine ⟨_, rfl, ?_⟩; have n0_ := Aside0.mk (Kd.R_elder' (oR HO_692000) (Kd.R_base ho0) hb); have n1_ := Aside0.mk (Kd.R_elder' (oR HO_692002) (Kd.R_base ho1) hb); have n2_ := Aside0.mk (Kd.R_elder' (oR HO_700000) (Kd.R_base ho0) hb); have n3_ := Aside0.mk (Kd.R_elder' (oR HO_700002) (Kd.R_base ho1) hb); have n4_ := Aside0.mk (Kd.R_elder' (oR HO_709000) (Kd.R_base ho0) hb); have n5_ := Aside0.mk (Kd.R_elder' (oR HO_709002) (Kd.R_base ho1) hb); have n6_ := Aside0.mk (Kd.R_elder' (oR HO728) (Kd.R_base ho0) hb); have n7_ := Aside0.mk (Kd.R_elder' (oR HO732) (Kd.R_base ho1) hb); have n8_ := Aside0.mk (Kd.R_lower (Kd.R_new' (Kd.R_new' (Kd.R_new' (Kd.R_new' ho0 (Kd.R_lt (oR HO_692000))) (Kd.R_lt (oR HO_700000))) (Kd.R_lt (oR HO_709000))) (Kd.R_lt (oR HO728))) (below_size (oB HB))); have n9_ := Aside0.mk (Kd.R_lower (Kd.R_new' (Kd.R_new' (Kd.R_new' (Kd.R_new' ho1 (Kd.R_lt (oR HO_692002))) (Kd.R_lt (oR HO_700002))) (Kd.R_lt (oR HO_709002))) (Kd.R_lt (oR HO732))) (below_size (oB HB))); have n10_ := Aside0.mk (blk_below (g := gb674) (o := .cells #[.slice A0_0 l0_0.length c0_0, .int .i64 a0_1, .slice A0_2 l0_2.length c0_2] 25 (0, 0)) (oK BK674) hb); have n11_ := Aside0.mk (blk_below (g := gb691) (o := .cells #[.slice Ao21 t683.length co21, .int .i64 t686, .slice Ao24 t687.length co24] 30 (0, 0)) (oK BK691) hb); have n12_ := Aside0.mk (blk_below (g := gb699) (o := .cells #[.slice Ao28 t719.length co28, .int .i64 t695, .slice Ao32 t720.length co32] 30 (0, 0)) (oK BK699) hb); have n13_ := Aside0.mk (blk_below (g := gb708) (o := .cells #[.slice Ao35 t700.length co35, .int .i64 t703, .slice Ao40 t704.length co40] 30 (0, 0)) (oK BK708) hb); have n14_ := Aside0.mk (below_step (oB HB) hb); clear HO_692000; clear HO_692002; clear HO_700000; clear HO_700002; clear HO_709000; clear HO_709002; clear HO728; clear HO732; clear BK674; clear BK691; clear BK699; clear BK708; clear HB; have HO_692000 := n0_; have HO_692002 := n1_; have HO_700000 := n2_; have HO_700002 := n3_; have HO_709000 := n4_; have HO_709002 := n5_; have HO728 := n6_; have HO732 := n7_; have HO735 := n8_; have HO739 := n9_; have BK674 := n10_; have BK691 := n11_; have BK699 := n12_; have BK708 := n13_; have HB := n14_; clear n0_ n1_ n2_ n3_ n4_ n5_ n6_ n7_ n8_ n9_ n10_ n11_ n12_ n13_ n14_; (try clear hb); (try clear hb2); (try clear hk); (try clear hi); (try clear ho0); (try clear ho1)) | ((with_reducible refine gate_dst (N := 12) rfl ?_); refine box_event ?hg (N := 12) ?hd (cs := #[.slice none 0 0, .int .i64 0, .slice none 0 0]) (t := 30) ?hr ?_; (case hd => rfl); (case hg => rfl); (case hr => first | (go_simp; done) | (go_simp; rfl)); intro gb741 hg w116 hbox hb; have n0_ := Aside0.mk (Kd.R_below (oR HO_692000) hb); have n1_ := Aside0.mk (Kd.R_below (oR HO_692002) hb); have n2_ := Aside0.mk (Kd.R_below (oR HO_700000) hb); have n3_ := Aside0.mk (Kd.R_below (oR HO_700002) hb); have n4_ := Aside0.mk (Kd.R_below (oR HO_709000) hb); have n5_ := Aside0.mk (Kd.R_below (oR HO_709002) hb); have n6_ := Aside0.mk (Kd.R_below (oR HO728) hb); have n7_ := Aside0.mk (Kd.R_below (oR HO732) hb); have n8_ := Aside0.mk (Kd.R_below (oR HO735) hb); have n9_ := Aside0.mk (Kd.R_below (oR HO739) hb); have n10_ := Aside0.mk (blk_below (g := gb674) (o := .cells #[.slice A0_0 l0_0.length c0_0, .int .i64 a0_1, .slice A0_2 l0_2.length c0_2] 25 (0, 0)) (oK BK674) hb); have n11_ := Aside0.mk (blk_below (g := gb691) (o := .cells #[.slice Ao21 t683.length co21, .int .i64 t686, .slice Ao24 t687.length co24] 30 (0, 0)) (oK BK691) hb); have n12_ := Aside0.mk (blk_below (g := gb699) (o := .cells #[.slice Ao28 t719.length co28, .int .i64 t695, .slice Ao32 t720.length co32] 30 (0, 0)) (oK BK699) hb); have n13_ := Aside0.mk (blk_below (g := gb708) (o := .cells #[.slice Ao35 t700.length co35, .int .i64 t703, .slice Ao40 t704.length co40] 30 (0, 0)) (oK BK708) hb); have n14_ := Aside0.mk (below_step (oB HB) hb); have n15_ := Aside0.mk (hbox); have n16_ := Aside0.mk ((by rw [hg]; exact (below_size (oB HB)) : w.heap.size ≤ gb741)); have n17_ := Aside0.mk ((by rw [hg]; exact (below_size (oB HB)) : w.heap.size ≤ gb741)); have n18_ := Aside0.mk ((by rw [hg]; exact Nat.ne_of_lt (blk_lt (g := gb674) (o := .cells #[.slice A0_0 l0_0.length c0_0, .int .i64 a0_1, .slice A0_2 l0_2.length c0_2] 25 (0, 0)) (oK BK674)) : gb674 ≠ gb741)); have n19_ := Aside0.mk ((by rw [hg]; exact Nat.ne_of_gt (blk_lt (g := gb674) (o := .cells #[.slice A0_0 l0_0.length c0_0, .int .i64 a0_1, .slice A0_2 l0_2.length c0_2] 25 (0, 0)) (oK BK674)) : gb741 ≠ gb674)); have n20_ := Aside0.mk ((by rw [hg]; exact Nat.ne_of_lt (blk_lt (g := gb691) (o := .cells #[.slice Ao21 t683.length co21, .int .i64 t686, .slice Ao24 t687.length co24] 30 (0, 0)) (oK BK691)) : gb691 ≠ gb741)); have n21_ := Aside0.mk ((by rw [hg]; exact Nat.ne_of_gt (blk_lt (g := gb691) (o := .cells #[.slice Ao21 t683.length co21, .int .i64 t686, .slice Ao24 t687.length co24] 30 (0, 0)) (oK BK691)) : gb741 ≠ gb691)); have n22_ := Aside0.mk ((by rw [hg]; exact Nat.ne_of_lt (blk_lt (g := gb699) (o := .cells #[.slice Ao28 t719.length co28, .int .i64 t695, .slice Ao32 t720.length co32] 30 (0, 0)) (oK BK699)) : gb699 ≠ gb741)); have n23_ := Aside0.mk ((by rw [hg]; exact Nat.ne_of_gt (blk_lt (g := gb699) (o := .cells #[.slice Ao28 t719.length co28, .int .i64 t695, .slice Ao32 t720.length co32] 30 (0, 0)) (oK BK699)) : gb741 ≠ gb699)); have n24_ := Aside0.mk ((by rw [hg]; exact Nat.ne_of_lt (blk_lt (g := gb708) (o := .cells #[.slice Ao35 t700.length co35, .int .i64 t703, .slice Ao40 t704.length co40] 30 (0, 0)) (oK BK708)) : gb708 ≠ gb741)); have n25_ := Aside0.mk ((by rw [hg]; exact Nat.ne_of_gt (blk_lt (g := gb708) (o := .cells #[.slice Ao35 t700.length co35, .int .i64 t703, .slice Ao40 t704.length co40] 30 (0, 0)) (oK BK708)) : gb741 ≠ gb708)); clear HO_692000; clear HO_692002; clear HO_700000; clear HO_700002; clear HO_709000; clear HO_709002; clear HO728; clear HO732; clear HO735; clear HO739; clear BK674; clear BK691; clear BK699; clear BK708; clear HB; have HO_692000 := n0_; have HO_692002 := n1_; have HO_700000 := n2_; have HO_700002 := n3_; have HO_709000 := n4_; have HO_709002 := n5_; have HO728 := n6_; have HO732 := n7_; have HO735 := n8_; have HO739 := n9_; have BK674 := n10_; have BK691 := n11_; have BK699 := n12_; have BK708 := n13_; have HB := n14_; have BK741 := n15_; have GW741 := n16_; have GE741 := n17_; have NB674_741 := n18_; have NB741_674 := n19_; have NB691_741 := n20_; have NB741_691 := n21_; have NB699_741 := n22_; have NB741_699 := n23_; have NB708_741 := n24_; have NB741_708 := n25_; clear n0_ n1_ n2_ n3_ n4_ n5_ n6_ n7_ n8_ n9_ n10_ n11_ n12_ n13_ n14_ n15_ n16_ n17_ n18_ n19_ n20_ n21_ n22_ n23_ n24_ n25_; clear hb hbox hg; obtain ⟨Ao117, co117, eo117⟩ := Kd.R_slice HO735.out; subst eo117; have hnb118 := NB741_674.out; have hnc118 := NB674_741.out; have hnb119 := NB741_691.out; have hnc119 := NB691_741.out; have hnb120 := NB741_699.out; have hnc120 := NB699_741.out; have hnb121 := NB741_708.out; have hnc121 := NB708_741.out; have hcz122_0 : w116.cell? ⟨gb741, 0, none⟩ = some (.slice none 0 0) := (blk_cell BK741.out 0).trans rfl; have hcz122_1 : w116.cell? ⟨gb741, 1, none⟩ = some (.int .i64 0) := (blk_cell BK741.out 1).trans rfl; have hcz122_2 : w116.cell? ⟨gb741, 2, none⟩ = some (.slice none 0 0) := (blk_cell BK741.out 2).trans rfl; have hfz122_0 := blk_frozen BK741.out 0; have hfz122_1 := blk_frozen BK741.out 1; have hfz122_2 := blk_frozen BK741.out 2; obtain ⟨Ao123, co123, eo123⟩ := Kd.R_slice HO739.out; subst eo123))
                      (try simp only [Act.put, List.setIfInBounds_toArray, List.set_cons_zero, List.set_cons_succ])
                      go_cut [87] (fun v87 wc => ∃ (kq : Nat) (x87_100 : Bool), v87 = .bool x87_100 ∧ Aside0 (laws_FnExactWorkStep.j2 kq t722 x87_100 t723 t703 t724 = some r) ∧ Aside0 (kq ≤ kj63) ∧ Aside0 (Kd.R k67 67 wc w.heap.size (fun k_ => some k_ ≠ ((.slice Ao28 t719.length co28) : Value).ownBlock ∧ some k_ ≠ ((.slice Ao35 t700.length co35) : Value).ownBlock ∧ some k_ ≠ ((.slice Ao117 t733.length co117) : Value).ownBlock) (.slice Ao21 t683.length co21) t683) ∧ Aside0 (Kd.R (Kd.int .i64) 3 wc w.heap.size (fun k_ => some k_ ≠ ((.slice Ao32 t720.length co32) : Value).ownBlock ∧ some k_ ≠ ((.slice Ao40 t704.length co40) : Value).ownBlock ∧ some k_ ≠ ((.slice Ao123 t737.length co123) : Value).ownBlock) (.slice Ao24 t687.length co24) t687) ∧ Aside0 (Kd.R k67 67 wc w.heap.size (fun k_ => some k_ ≠ ((.slice Ao21 t683.length co21) : Value).ownBlock ∧ some k_ ≠ ((.slice Ao35 t700.length co35) : Value).ownBlock ∧ some k_ ≠ ((.slice Ao117 t733.length co117) : Value).ownBlock) (.slice Ao28 t719.length co28) t719) ∧ Aside0 (Kd.R (Kd.int .i64) 3 wc w.heap.size (fun k_ => some k_ ≠ ((.slice Ao24 t687.length co24) : Value).ownBlock ∧ some k_ ≠ ((.slice Ao40 t704.length co40) : Value).ownBlock ∧ some k_ ≠ ((.slice Ao123 t737.length co123) : Value).ownBlock) (.slice Ao32 t720.length co32) t720) ∧ Aside0 (Kd.R k67 67 wc w.heap.size (fun k_ => some k_ ≠ ((.slice Ao21 t683.length co21) : Value).ownBlock ∧ some k_ ≠ ((.slice Ao28 t719.length co28) : Value).ownBlock ∧ some k_ ≠ ((.slice Ao117 t733.length co117) : Value).ownBlock) (.slice Ao35 t700.length co35) t723) ∧ Aside0 (Kd.R (Kd.int .i64) 3 wc w.heap.size (fun k_ => some k_ ≠ ((.slice Ao24 t687.length co24) : Value).ownBlock ∧ some k_ ≠ ((.slice Ao32 t720.length co32) : Value).ownBlock ∧ some k_ ≠ ((.slice Ao123 t737.length co123) : Value).ownBlock) (.slice Ao40 t704.length co40) t724) ∧ Aside0 (Kd.R k67 67 wc w.heap.size (fun k_ => some k_ ≠ ((.slice Ao21 t683.length co21) : Value).ownBlock ∧ some k_ ≠ ((.slice Ao28 t719.length co28) : Value).ownBlock ∧ some k_ ≠ ((.slice Ao35 t700.length co35) : Value).ownBlock) (.slice Ao117 t733.length co117) t733) ∧ Aside0 (Kd.R (Kd.int .i64) 3 wc w.heap.size (fun k_ => some k_ ≠ ((.slice Ao24 t687.length co24) : Value).ownBlock ∧ some k_ ≠ ((.slice Ao32 t720.length co32) : Value).ownBlock ∧ some k_ ≠ ((.slice Ao40 t704.length co40) : Value).ownBlock) (.slice Ao123 t737.length co123) t737) ∧ Aside0 (wc.heap[gb674]? = some (.cells #[(.slice A0_0 l0_0.length c0_0), .int .i64 a0_1, (.slice A0_2 l0_2.length c0_2)] 25 (0, 0))) ∧ Aside0 (wc.heap[gb691]? = some (.cells #[(.slice Ao21 t683.length co21), .int .i64 t686, (.slice Ao24 t687.length co24)] 30 (0, 0))) ∧ Aside0 (wc.heap[gb699]? = some (.cells #[(.slice Ao28 t719.length co28), .int .i64 t695, (.slice Ao32 t720.length co32)] 30 (0, 0))) ∧ Aside0 (wc.heap[gb708]? = some (.cells #[(.slice Ao35 t700.length co35), .int .i64 t703, (.slice Ao40 t704.length co40)] 30 (0, 0))) ∧ Aside0 (wc.heap[gb741]? = some (.cells #[(.slice Ao117 t733.length co117), .int .i64 t736, (.slice Ao123 t737.length co123)] 30 (0, 0))) ∧ Aside0 (Below w.heap.size w wc))
                      case first =>
                        have H := HC101.out
                        clear HC101
                        replace H := Option.bind_eq_some_iff.mp H
                        obtain ⟨t742, A1240, H⟩ := H
                        (try dsimp only at H)
                        have A124 := Aside0.mk A1240
                        clear A1240
                        by_cases c125 : t742 = true
                        · subst c125
                          rw [if_pos rfl] at H
                          have H' := Aside0.mk H
                          clear H
                          have hnb126 := NB741_674.out
                          have hnc126 := NB674_741.out
                          have hnb127 := NB741_691.out
                          have hnc127 := NB691_741.out
                          have hnb128 := NB741_699.out
                          have hnc128 := NB699_741.out
                          have hnb129 := NB741_708.out
                          have hnc129 := NB708_741.out
                          have hcz130_0 : w116.cell? ⟨gb741, 0, none⟩ = some (.slice none 0 0) := (blk_cell BK741.out 0).trans rfl
                          have hcz130_1 : w116.cell? ⟨gb741, 1, none⟩ = some (.int .i64 0) := (blk_cell BK741.out 1).trans rfl
                          have hcz130_2 : w116.cell? ⟨gb741, 2, none⟩ = some (.slice none 0 0) := (blk_cell BK741.out 2).trans rfl
                          have hfz130_0 := blk_frozen BK741.out 0
                          have hfz130_1 := blk_frozen BK741.out 1
                          have hfz130_2 := blk_frozen BK741.out 2
                          have hnb131 := NB691_674.out
                          have hnc131 := NB674_691.out
                          have hnb132 := NB691_699.out
                          have hnc132 := NB699_691.out
                          have hnb133 := NB691_708.out
                          have hnc133 := NB708_691.out
                          have hcz134_0 : w116.cell? ⟨gb691, 0, none⟩ = some (.slice Ao21 t683.length co21) := (blk_cell BK691.out 0).trans rfl
                          have hcz134_1 : w116.cell? ⟨gb691, 1, none⟩ = some (.int .i64 t686) := (blk_cell BK691.out 1).trans rfl
                          have hcz134_2 : w116.cell? ⟨gb691, 2, none⟩ = some (.slice Ao24 t687.length co24) := (blk_cell BK691.out 2).trans rfl
                          have hfz134_0 := blk_frozen BK691.out 0
                          have hfz134_1 := blk_frozen BK691.out 1
                          have hfz134_2 := blk_frozen BK691.out 2
                          go_wp2_with (first | ((with_reducible refine gate_callee (f := 19) rfl ?_); refine goesL_ (some 81) rfl rfl Try.func19 (by kernel_rfl) rfl #[.agg #[.slice Ao117 t733.length co117, .int .i64 t736, .slice Ao123 t737.length co123], .agg #[.slice Ao21 t683.length co21, .int .i64 t686, .slice Ao24 t687.length co24]] rfl (by (try simp only [List.map_toArray, List.map_cons, List.map_nil]); first | done | rfl | (simp only [List.length_drop, List.length_take]; rfl)) ?_; (with_reducible refine (laws_eqWork.calls kj63 _ _ t733 t736 _ _ t737 _ _ t683 t686 _ _ t687 true _ ?side1 ?side2 ?side3 ?side4 ?side5 ?side6 ?side7 ?side8 A124.out).mono ?_); (case side1 => refine (Kd.R_reads' (e := 67) (base := w.heap.size) (ok := fun k_ => ((((True ∧ some k_ ≠ (.slice Ao21 t683.length co21 : Value).ownBlock) ∧ some k_ ≠ (.slice Ao28 t719.length co28 : Value).ownBlock) ∧ some k_ ≠ (.slice Ao35 t700.length co35 : Value).ownBlock) ∧ some k_ ≠ (.slice Ao113 t726.length co113 : Value).ownBlock)) (n := t733.length) (c := co117) ?_).2.2; exact (by (with_reducible repeat (first | apply Kd.R_alloc | apply Kd.R_drewN | apply Kd.R_drew)); exact (Kd.R_mono (Kd.R_far (p := ⟨gb741, 2, none⟩) (Kd.R_far (p := ⟨gb741, 1, none⟩) (Kd.R_far (p := ⟨gb741, 0, none⟩) (Kd.R_types HO735.out BK741.out (by decide)) (fun _ hk => hk.2) (.slice Ao117 t733.length co117)) (fun _ hk => hk.2) (.int .i64 t736)) (fun _ hk => hk.2) (.slice Ao123 t737.length co123)) (fun _ h_ => h_.1)))); (case side2 => exact (Kd.R_reads' HO735.out).2.1); (case side3 => refine (Kd.R_reads' (e := 3) (base := w.heap.size) (ok := fun k_ => ((((True ∧ some k_ ≠ (.slice Ao24 t687.length co24 : Value).ownBlock) ∧ some k_ ≠ (.slice Ao32 t720.length co32 : Value).ownBlock) ∧ some k_ ≠ (.slice Ao40 t704.length co40 : Value).ownBlock) ∧ some k_ ≠ (.slice Ao114 t730.length co114 : Value).ownBlock)) (n := t737.length) (c := co123) ?_).2.2; exact (by (with_reducible repeat (first | apply Kd.R_alloc | apply Kd.R_drewN | apply Kd.R_drew)); exact (Kd.R_mono (Kd.R_far (p := ⟨gb741, 2, none⟩) (Kd.R_far (p := ⟨gb741, 1, none⟩) (Kd.R_far (p := ⟨gb741, 0, none⟩) (Kd.R_types HO739.out BK741.out (by decide)) (fun _ hk => hk.2) (.slice Ao117 t733.length co117)) (fun _ hk => hk.2) (.int .i64 t736)) (fun _ hk => hk.2) (.slice Ao123 t737.length co123)) (fun _ h_ => h_.1)))); (case side4 => exact (Kd.R_reads' HO739.out).2.1); (case side5 => refine (Kd.R_reads' (e := 67) (base := w.heap.size) (ok := fun k_ => (((some k_ ≠ (.slice Ao28 t719.length co28 : Value).ownBlock ∧ some k_ ≠ (.slice Ao35 t700.length co35 : Value).ownBlock) ∧ some k_ ≠ (.slice Ao113 t726.length co113 : Value).ownBlock) ∧ some k_ ≠ (.slice Ao117 t733.length co117 : Value).ownBlock)) (n := t683.length) (c := co21) ?_).2.2; exact (by (with_reducible repeat (first | apply Kd.R_alloc | apply Kd.R_drewN | apply Kd.R_drew)); exact (Kd.R_mono (Kd.R_far (p := ⟨gb741, 2, none⟩) (Kd.R_far (p := ⟨gb741, 1, none⟩) (Kd.R_far (p := ⟨gb741, 0, none⟩) (Kd.R_types HO_692000.out BK741.out (by decide)) (fun _ hk => hk.2) (.slice Ao117 t733.length co117)) (fun _ hk => hk.2) (.int .i64 t736)) (fun _ hk => hk.2) (.slice Ao123 t737.length co123)) (fun _ h_ => h_.1)))); (case side6 => exact (Kd.R_reads' HO_692000.out).2.1); (case side7 => refine (Kd.R_reads' (e := 3) (base := w.heap.size) (ok := fun k_ => (((some k_ ≠ (.slice Ao32 t720.length co32 : Value).ownBlock ∧ some k_ ≠ (.slice Ao40 t704.length co40 : Value).ownBlock) ∧ some k_ ≠ (.slice Ao114 t730.length co114 : Value).ownBlock) ∧ some k_ ≠ (.slice Ao123 t737.length co123 : Value).ownBlock)) (n := t687.length) (c := co24) ?_).2.2; exact (by (with_reducible repeat (first | apply Kd.R_alloc | apply Kd.R_drewN | apply Kd.R_drew)); exact (Kd.R_mono (Kd.R_far (p := ⟨gb741, 2, none⟩) (Kd.R_far (p := ⟨gb741, 1, none⟩) (Kd.R_far (p := ⟨gb741, 0, none⟩) (Kd.R_types HO_692002.out BK741.out (by decide)) (fun _ hk => hk.2) (.slice Ao117 t733.length co117)) (fun _ hk => hk.2) (.int .i64 t736)) (fun _ hk => hk.2) (.slice Ao123 t737.length co123)) (fun _ h_ => h_.1)))); (case side8 => exact (Kd.R_reads' HO_692002.out).2.1); rintro e w135 ⟨rfl, hb⟩; refine ⟨_, rfl, ?_⟩; have n0_ := Aside0.mk (Kd.R_below (by (with_reducible repeat (first | apply Kd.R_alloc | apply Kd.R_drewN | apply Kd.R_drew)); exact (Kd.R_mono (Kd.R_far (p := ⟨gb741, 2, none⟩) (Kd.R_far (p := ⟨gb741, 1, none⟩) (Kd.R_far (p := ⟨gb741, 0, none⟩) (Kd.R_types HO_692000.out BK741.out (by decide)) (fun _ hk => hk.2) (.slice Ao117 t733.length co117)) (fun _ hk => hk.2) (.int .i64 t736)) (fun _ hk => hk.2) (.slice Ao123 t737.length co123)) (fun _ h_ => h_.1))) hb); have n1_ := Aside0.mk (Kd.R_below (by (with_reducible repeat (first | apply Kd.R_alloc | apply Kd.R_drewN | apply Kd.R_drew)); exact (Kd.R_mono (Kd.R_far (p := ⟨gb741, 2, none⟩) (Kd.R_far (p := ⟨gb741, 1, none⟩) (Kd.R_far (p := ⟨gb741, 0, none⟩) (Kd.R_types HO_692002.out BK741.out (by decide)) (fun _ hk => hk.2) (.slice Ao117 t733.length co117)) (fun _ hk => hk.2) (.int .i64 t736)) (fun _ hk => hk.2) (.slice Ao123 t737.length co123)) (fun _ h_ => h_.1))) hb); have n2_ := Aside0.mk (Kd.R_below (by (with_reducible repeat (first | apply Kd.R_alloc | apply Kd.R_drewN | apply Kd.R_drew)); exact (Kd.R_mono (Kd.R_far (p := ⟨gb741, 2, none⟩) (Kd.R_far (p := ⟨gb741, 1, none⟩) (Kd.R_far (p := ⟨gb741, 0, none⟩) (Kd.R_types HO_700000.out BK741.out (by decide)) (fun _ hk => hk.2) (.slice Ao117 t733.length co117)) (fun _ hk => hk.2) (.int .i64 t736)) (fun _ hk => hk.2) (.slice Ao123 t737.length co123)) (fun _ h_ => h_.1))) hb); have n3_ := Aside0.mk (Kd.R_below (by (with_reducible repeat (first | apply Kd.R_alloc | apply Kd.R_drewN | apply Kd.R_drew)); exact (Kd.R_mono (Kd.R_far (p := ⟨gb741, 2, none⟩) (Kd.R_far (p := ⟨gb741, 1, none⟩) (Kd.R_far (p := ⟨gb741, 0, none⟩) (Kd.R_types HO_700002.out BK741.out (by decide)) (fun _ hk => hk.2) (.slice Ao117 t733.length co117)) (fun _ hk => hk.2) (.int .i64 t736)) (fun _ hk => hk.2) (.slice Ao123 t737.length co123)) (fun _ h_ => h_.1))) hb); have n4_ := Aside0.mk (Kd.R_below (by (with_reducible repeat (first | apply Kd.R_alloc | apply Kd.R_drewN | apply Kd.R_drew)); exact (Kd.R_mono (Kd.R_far (p := ⟨gb741, 2, none⟩) (Kd.R_far (p := ⟨gb741, 1, none⟩) (Kd.R_far (p := ⟨gb741, 0, none⟩) (Kd.R_types HO_709000.out BK741.out (by decide)) (fun _ hk => hk.2) (.slice Ao117 t733.length co117)) (fun _ hk => hk.2) (.int .i64 t736)) (fun _ hk => hk.2) (.slice Ao123 t737.length co123)) (fun _ h_ => h_.1))) hb); have n5_ := Aside0.mk (Kd.R_below (by (with_reducible repeat (first | apply Kd.R_alloc | apply Kd.R_drewN | apply Kd.R_drew)); exact (Kd.R_mono (Kd.R_far (p := ⟨gb741, 2, none⟩) (Kd.R_far (p := ⟨gb741, 1, none⟩) (Kd.R_far (p := ⟨gb741, 0, none⟩) (Kd.R_types HO_709002.out BK741.out (by decide)) (fun _ hk => hk.2) (.slice Ao117 t733.length co117)) (fun _ hk => hk.2) (.int .i64 t736)) (fun _ hk => hk.2) (.slice Ao123 t737.length co123)) (fun _ h_ => h_.1))) hb); have n6_ := Aside0.mk (Kd.R_below (by (with_reducible repeat (first | apply Kd.R_alloc | apply Kd.R_drewN | apply Kd.R_drew)); exact (Kd.R_mono (Kd.R_far (p := ⟨gb741, 2, none⟩) (Kd.R_far (p := ⟨gb741, 1, none⟩) (Kd.R_far (p := ⟨gb741, 0, none⟩) (Kd.R_types HO728.out BK741.out (by decide)) (fun _ hk => hk.2) (.slice Ao117 t733.length co117)) (fun _ hk => hk.2) (.int .i64 t736)) (fun _ hk => hk.2) (.slice Ao123 t737.length co123)) (fun _ h_ => h_.1))) hb); have n7_ := Aside0.mk (Kd.R_below (by (with_reducible repeat (first | apply Kd.R_alloc | apply Kd.R_drewN | apply Kd.R_drew)); exact (Kd.R_mono (Kd.R_far (p := ⟨gb741, 2, none⟩) (Kd.R_far (p := ⟨gb741, 1, none⟩) (Kd.R_far (p := ⟨gb741, 0, none⟩) (Kd.R_types HO732.out BK741.out (by decide)) (fun _ hk => hk.2) (.slice Ao117 t733.length co117)) (fun _ hk => hk.2) (.int .i64 t736)) (fun _ hk => hk.2) (.slice Ao123 t737.length co123)) (fun _ h_ => h_.1))) hb); have n8_ := Aside0.mk (Kd.R_below (by (with_reducible repeat (first | apply Kd.R_alloc | apply Kd.R_drewN | apply Kd.R_drew)); exact (Kd.R_mono (Kd.R_far (p := ⟨gb741, 2, none⟩) (Kd.R_far (p := ⟨gb741, 1, none⟩) (Kd.R_far (p := ⟨gb741, 0, none⟩) (Kd.R_types HO735.out BK741.out (by decide)) (fun _ hk => hk.2) (.slice Ao117 t733.length co117)) (fun _ hk => hk.2) (.int .i64 t736)) (fun _ hk => hk.2) (.slice Ao123 t737.length co123)) (fun _ h_ => h_.1))) hb); have n9_ := Aside0.mk (Kd.R_below (by (with_reducible repeat (first | apply Kd.R_alloc | apply Kd.R_drewN | apply Kd.R_drew)); exact (Kd.R_mono (Kd.R_far (p := ⟨gb741, 2, none⟩) (Kd.R_far (p := ⟨gb741, 1, none⟩) (Kd.R_far (p := ⟨gb741, 0, none⟩) (Kd.R_types HO739.out BK741.out (by decide)) (fun _ hk => hk.2) (.slice Ao117 t733.length co117)) (fun _ hk => hk.2) (.int .i64 t736)) (fun _ hk => hk.2) (.slice Ao123 t737.length co123)) (fun _ h_ => h_.1))) hb); have n10_ := Aside0.mk (blk_below (g := gb674) (o := .cells #[.slice A0_0 l0_0.length c0_0, .int .i64 a0_1, .slice A0_2 l0_2.length c0_2] 25 (0, 0)) (by (with_reducible repeat (first | refine blk_drewN ?_ _ | refine blk_drew ?_ | refine blk_alloc ?_ _)); refine blk_far ?_ NB674_741.out _; (with_reducible repeat (first | refine blk_drewN ?_ _ | refine blk_drew ?_ | refine blk_alloc ?_ _)); refine blk_far ?_ NB674_741.out _; (with_reducible repeat (first | refine blk_drewN ?_ _ | refine blk_drew ?_ | refine blk_alloc ?_ _)); refine blk_far ?_ NB674_741.out _; (with_reducible repeat (first | refine blk_drewN ?_ _ | refine blk_drew ?_ | refine blk_alloc ?_ _)); exact BK674.out) hb); have n11_ := Aside0.mk (blk_below (g := gb691) (o := .cells #[.slice Ao21 t683.length co21, .int .i64 t686, .slice Ao24 t687.length co24] 30 (0, 0)) (by (with_reducible repeat (first | refine blk_drewN ?_ _ | refine blk_drew ?_ | refine blk_alloc ?_ _)); refine blk_far ?_ NB691_741.out _; (with_reducible repeat (first | refine blk_drewN ?_ _ | refine blk_drew ?_ | refine blk_alloc ?_ _)); refine blk_far ?_ NB691_741.out _; (with_reducible repeat (first | refine blk_drewN ?_ _ | refine blk_drew ?_ | refine blk_alloc ?_ _)); refine blk_far ?_ NB691_741.out _; (with_reducible repeat (first | refine blk_drewN ?_ _ | refine blk_drew ?_ | refine blk_alloc ?_ _)); exact BK691.out) hb); have n12_ := Aside0.mk (blk_below (g := gb699) (o := .cells #[.slice Ao28 t719.length co28, .int .i64 t695, .slice Ao32 t720.length co32] 30 (0, 0)) (by (with_reducible repeat (first | refine blk_drewN ?_ _ | refine blk_drew ?_ | refine blk_alloc ?_ _)); refine blk_far ?_ NB699_741.out _; (with_reducible repeat (first | refine blk_drewN ?_ _ | refine blk_drew ?_ | refine blk_alloc ?_ _)); refine blk_far ?_ NB699_741.out _; (with_reducible repeat (first | refine blk_drewN ?_ _ | refine blk_drew ?_ | refine blk_alloc ?_ _)); refine blk_far ?_ NB699_741.out _; (with_reducible repeat (first | refine blk_drewN ?_ _ | refine blk_drew ?_ | refine blk_alloc ?_ _)); exact BK699.out) hb); have n13_ := Aside0.mk (blk_below (g := gb708) (o := .cells #[.slice Ao35 t700.length co35, .int .i64 t703, .slice Ao40 t704.length co40] 30 (0, 0)) (by (with_reducible repeat (first | refine blk_drewN ?_ _ | refine blk_drew ?_ | refine blk_alloc ?_ _)); refine blk_far ?_ NB708_741.out _; (with_reducible repeat (first | refine blk_drewN ?_ _ | refine blk_drew ?_ | refine blk_alloc ?_ _)); refine blk_far ?_ NB708_741.out _; (with_reducible repeat (first | refine blk_drewN ?_ _ | refine blk_drew ?_ | refine blk_alloc ?_ _)); refine blk_far ?_ NB708_741.out _; (with_reducible repeat (first | refine blk_drewN ?_ _ | refine blk_drew ?_ | refine blk_alloc ?_ _)); exact BK708.out) hb); have n14_ := Aside0.mk (blk_below (g := gb741) (o := .cells #[.slice Ao117 t733.length co117, .int .i64 t736, .slice Ao123 t737.length co123] 30 (0, 0)) (by (with_reducible repeat (first | refine blk_drewN ?_ _ | refine blk_drew ?_ | refine blk_alloc ?_ _)); refine blk_put (cs := #[.slice Ao117 t733.length co117, .int .i64 t736, .slice none 0 0]) ?_ 2 _ rfl; (with_reducible repeat (first | refine blk_drewN ?_ _ | refine blk_drew ?_ | refine blk_alloc ?_ _)); refine blk_put (cs := #[.slice Ao117 t733.length co117, .int .i64 0, .slice none 0 0]) ?_ 1 _ rfl; (with_reducible repeat (first | refine blk_drewN ?_ _ | refine blk_drew ?_ | refine blk_alloc ?_ _)); refine blk_put (cs := #[.slice none 0 0, .int .i64 0, .slice none 0 0]) ?_ 0 _ rfl; (with_reducible repeat (first | refine blk_drewN ?_ _ | refine blk_drew ?_ | refine blk_alloc ?_ _)); exact BK741.out) hb); have n15_ := Aside0.mk (below_step (oB HB) hb); clear HO_692000; clear HO_692002; clear HO_700000; clear HO_700002; clear HO_709000; clear HO_709002; clear HO728; clear HO732; clear HO735; clear HO739; clear BK674; clear BK691; clear BK699; clear BK708; clear BK741; clear HB; have HO_692000 := n0_; have HO_692002 := n1_; have HO_700000 := n2_; have HO_700002 := n3_; have HO_709000 := n4_; have HO_709002 := n5_; have HO728 := n6_; have HO732 := n7_; have HO735 := n8_; have HO739 := n9_; have BK674 := n10_; have BK691 := n11_; have BK699 := n12_; have BK708 := n13_; have BK741 := n14_; have HB := n15_; clear n0_ n1_ n2_ n3_ n4_ n5_ n6_ n7_ n8_ n9_ n10_ n11_ n12_ n13_ n14_ n15_; (try clear hb); (try clear hb2); (try clear hk); (try clear hi)))
                          go_meet
                          case rel => exact ⟨_, ((t740 != t690)), (by first | rfl | (simp; done) | (simp [*]; done)), H', ⟨by have := HJ10.out; have := HJ63.out; first | omega | exact Nat.le_refl _⟩, ⟨by (try simp only [hl700000_63]); (try simp only [hl700002_63]); (with_reducible repeat (first | apply Kd.R_alloc | apply Kd.R_drewN | apply Kd.R_drew)); exact Kd.R_mono HO_692000.out (fun _ hk => ⟨hk.1.1.1, ⟨hk.1.1.2, hk.2⟩⟩)⟩, ⟨by (try simp only [hl700000_63]); (try simp only [hl700002_63]); (with_reducible repeat (first | apply Kd.R_alloc | apply Kd.R_drewN | apply Kd.R_drew)); exact Kd.R_mono HO_692002.out (fun _ hk => ⟨hk.1.1.1, ⟨hk.1.1.2, hk.2⟩⟩)⟩, ⟨by (try simp only [hl700000_63]); (try simp only [hl700002_63]); (with_reducible repeat (first | apply Kd.R_alloc | apply Kd.R_drewN | apply Kd.R_drew)); exact Kd.R_mono HO_700000.out (fun _ hk => ⟨hk.1.1.1, ⟨hk.1.1.2, hk.2⟩⟩)⟩, ⟨by (try simp only [hl700000_63]); (try simp only [hl700002_63]); (with_reducible repeat (first | apply Kd.R_alloc | apply Kd.R_drewN | apply Kd.R_drew)); exact Kd.R_mono HO_700002.out (fun _ hk => ⟨hk.1.1.1, ⟨hk.1.1.2, hk.2⟩⟩)⟩, ⟨by (try simp only [hl700000_63]); (try simp only [hl700002_63]); (with_reducible repeat (first | apply Kd.R_alloc | apply Kd.R_drewN | apply Kd.R_drew)); exact Kd.R_mono HO_709000.out (fun _ hk => ⟨hk.1.1.1, ⟨hk.1.1.2, hk.2⟩⟩)⟩, ⟨by (try simp only [hl700000_63]); (try simp only [hl700002_63]); (with_reducible repeat (first | apply Kd.R_alloc | apply Kd.R_drewN | apply Kd.R_drew)); exact Kd.R_mono HO_709002.out (fun _ hk => ⟨hk.1.1.1, ⟨hk.1.1.2, hk.2⟩⟩)⟩, ⟨by (try simp only [hl700000_63]); (try simp only [hl700002_63]); (with_reducible repeat (first | apply Kd.R_alloc | apply Kd.R_drewN | apply Kd.R_drew)); exact Kd.R_mono HO735.out (fun _ hk => ⟨hk.1.1.1.2, ⟨hk.1.1.2, hk.1.2⟩⟩)⟩, ⟨by (try simp only [hl700000_63]); (try simp only [hl700002_63]); (with_reducible repeat (first | apply Kd.R_alloc | apply Kd.R_drewN | apply Kd.R_drew)); exact Kd.R_mono HO739.out (fun _ hk => ⟨hk.1.1.1.2, ⟨hk.1.1.2, hk.1.2⟩⟩)⟩, ⟨by (try simp only [hl700000_63]); (try simp only [hl700002_63]); (with_reducible repeat (first | refine blk_drewN ?_ _ | refine blk_drew ?_ | refine blk_alloc ?_ _)); exact BK674.out⟩, ⟨by (try simp only [hl700000_63]); (try simp only [hl700002_63]); (with_reducible repeat (first | refine blk_drewN ?_ _ | refine blk_drew ?_ | refine blk_alloc ?_ _)); exact BK691.out⟩, ⟨by (try simp only [hl700000_63]); (try simp only [hl700002_63]); (with_reducible repeat (first | refine blk_drewN ?_ _ | refine blk_drew ?_ | refine blk_alloc ?_ _)); exact BK699.out⟩, ⟨by (try simp only [hl700000_63]); (try simp only [hl700002_63]); (with_reducible repeat (first | refine blk_drewN ?_ _ | refine blk_drew ?_ | refine blk_alloc ?_ _)); exact BK708.out⟩, ⟨by (try simp only [hl700000_63]); (try simp only [hl700002_63]); (with_reducible repeat (first | refine blk_drewN ?_ _ | refine blk_drew ?_ | refine blk_alloc ?_ _)); exact BK741.out⟩, ⟨oB HB⟩⟩
                        · replace c125 := Bool.eq_false_iff.mpr c125
                          subst c125
                          rw [if_neg (show ¬ (false = true) by decide)] at H
                          have H' := Aside0.mk H
                          clear H
                          have hnb136 := NB741_674.out
                          have hnc136 := NB674_741.out
                          have hnb137 := NB741_691.out
                          have hnc137 := NB691_741.out
                          have hnb138 := NB741_699.out
                          have hnc138 := NB699_741.out
                          have hnb139 := NB741_708.out
                          have hnc139 := NB708_741.out
                          have hcz140_0 : w116.cell? ⟨gb741, 0, none⟩ = some (.slice none 0 0) := (blk_cell BK741.out 0).trans rfl
                          have hcz140_1 : w116.cell? ⟨gb741, 1, none⟩ = some (.int .i64 0) := (blk_cell BK741.out 1).trans rfl
                          have hcz140_2 : w116.cell? ⟨gb741, 2, none⟩ = some (.slice none 0 0) := (blk_cell BK741.out 2).trans rfl
                          have hfz140_0 := blk_frozen BK741.out 0
                          have hfz140_1 := blk_frozen BK741.out 1
                          have hfz140_2 := blk_frozen BK741.out 2
                          have hnb141 := NB691_674.out
                          have hnc141 := NB674_691.out
                          have hnb142 := NB691_699.out
                          have hnc142 := NB699_691.out
                          have hnb143 := NB691_708.out
                          have hnc143 := NB708_691.out
                          have hcz144_0 : w116.cell? ⟨gb691, 0, none⟩ = some (.slice Ao21 t683.length co21) := (blk_cell BK691.out 0).trans rfl
                          have hcz144_1 : w116.cell? ⟨gb691, 1, none⟩ = some (.int .i64 t686) := (blk_cell BK691.out 1).trans rfl
                          have hcz144_2 : w116.cell? ⟨gb691, 2, none⟩ = some (.slice Ao24 t687.length co24) := (blk_cell BK691.out 2).trans rfl
                          have hfz144_0 := blk_frozen BK691.out 0
                          have hfz144_1 := blk_frozen BK691.out 1
                          have hfz144_2 := blk_frozen BK691.out 2
                          go_wp2_with (first | ((with_reducible refine gate_callee (f := 19) rfl ?_); refine goesL_ (some 81) rfl rfl Try.func19 (by kernel_rfl) rfl #[.agg #[.slice Ao117 t733.length co117, .int .i64 t736, .slice Ao123 t737.length co123], .agg #[.slice Ao21 t683.length co21, .int .i64 t686, .slice Ao24 t687.length co24]] rfl (by (try simp only [List.map_toArray, List.map_cons, List.map_nil]); first | done | rfl | (simp only [List.length_drop, List.length_take]; rfl)) ?_; (with_reducible refine (laws_eqWork.calls kj63 _ _ t733 t736 _ _ t737 _ _ t683 t686 _ _ t687 false _ ?side1 ?side2 ?side3 ?side4 ?side5 ?side6 ?side7 ?side8 A124.out).mono ?_); (case side1 => refine (Kd.R_reads' (e := 67) (base := w.heap.size) (ok := fun k_ => ((((True ∧ some k_ ≠ (.slice Ao21 t683.length co21 : Value).ownBlock) ∧ some k_ ≠ (.slice Ao28 t719.length co28 : Value).ownBlock) ∧ some k_ ≠ (.slice Ao35 t700.length co35 : Value).ownBlock) ∧ some k_ ≠ (.slice Ao113 t726.length co113 : Value).ownBlock)) (n := t733.length) (c := co117) ?_).2.2; exact (by (with_reducible repeat (first | apply Kd.R_alloc | apply Kd.R_drewN | apply Kd.R_drew)); exact (Kd.R_mono (Kd.R_far (p := ⟨gb741, 2, none⟩) (Kd.R_far (p := ⟨gb741, 1, none⟩) (Kd.R_far (p := ⟨gb741, 0, none⟩) (Kd.R_types HO735.out BK741.out (by decide)) (fun _ hk => hk.2) (.slice Ao117 t733.length co117)) (fun _ hk => hk.2) (.int .i64 t736)) (fun _ hk => hk.2) (.slice Ao123 t737.length co123)) (fun _ h_ => h_.1)))); (case side2 => exact (Kd.R_reads' HO735.out).2.1); (case side3 => refine (Kd.R_reads' (e := 3) (base := w.heap.size) (ok := fun k_ => ((((True ∧ some k_ ≠ (.slice Ao24 t687.length co24 : Value).ownBlock) ∧ some k_ ≠ (.slice Ao32 t720.length co32 : Value).ownBlock) ∧ some k_ ≠ (.slice Ao40 t704.length co40 : Value).ownBlock) ∧ some k_ ≠ (.slice Ao114 t730.length co114 : Value).ownBlock)) (n := t737.length) (c := co123) ?_).2.2; exact (by (with_reducible repeat (first | apply Kd.R_alloc | apply Kd.R_drewN | apply Kd.R_drew)); exact (Kd.R_mono (Kd.R_far (p := ⟨gb741, 2, none⟩) (Kd.R_far (p := ⟨gb741, 1, none⟩) (Kd.R_far (p := ⟨gb741, 0, none⟩) (Kd.R_types HO739.out BK741.out (by decide)) (fun _ hk => hk.2) (.slice Ao117 t733.length co117)) (fun _ hk => hk.2) (.int .i64 t736)) (fun _ hk => hk.2) (.slice Ao123 t737.length co123)) (fun _ h_ => h_.1)))); (case side4 => exact (Kd.R_reads' HO739.out).2.1); (case side5 => refine (Kd.R_reads' (e := 67) (base := w.heap.size) (ok := fun k_ => (((some k_ ≠ (.slice Ao28 t719.length co28 : Value).ownBlock ∧ some k_ ≠ (.slice Ao35 t700.length co35 : Value).ownBlock) ∧ some k_ ≠ (.slice Ao113 t726.length co113 : Value).ownBlock) ∧ some k_ ≠ (.slice Ao117 t733.length co117 : Value).ownBlock)) (n := t683.length) (c := co21) ?_).2.2; exact (by (with_reducible repeat (first | apply Kd.R_alloc | apply Kd.R_drewN | apply Kd.R_drew)); exact (Kd.R_mono (Kd.R_far (p := ⟨gb741, 2, none⟩) (Kd.R_far (p := ⟨gb741, 1, none⟩) (Kd.R_far (p := ⟨gb741, 0, none⟩) (Kd.R_types HO_692000.out BK741.out (by decide)) (fun _ hk => hk.2) (.slice Ao117 t733.length co117)) (fun _ hk => hk.2) (.int .i64 t736)) (fun _ hk => hk.2) (.slice Ao123 t737.length co123)) (fun _ h_ => h_.1)))); (case side6 => exact (Kd.R_reads' HO_692000.out).2.1); (case side7 => refine (Kd.R_reads' (e := 3) (base := w.heap.size) (ok := fun k_ => (((some k_ ≠ (.slice Ao32 t720.length co32 : Value).ownBlock ∧ some k_ ≠ (.slice Ao40 t704.length co40 : Value).ownBlock) ∧ some k_ ≠ (.slice Ao114 t730.length co114 : Value).ownBlock) ∧ some k_ ≠ (.slice Ao123 t737.length co123 : Value).ownBlock)) (n := t687.length) (c := co24) ?_).2.2; exact (by (with_reducible repeat (first | apply Kd.R_alloc | apply Kd.R_drewN | apply Kd.R_drew)); exact (Kd.R_mono (Kd.R_far (p := ⟨gb741, 2, none⟩) (Kd.R_far (p := ⟨gb741, 1, none⟩) (Kd.R_far (p := ⟨gb741, 0, none⟩) (Kd.R_types HO_692002.out BK741.out (by decide)) (fun _ hk => hk.2) (.slice Ao117 t733.length co117)) (fun _ hk => hk.2) (.int .i64 t736)) (fun _ hk => hk.2) (.slice Ao123 t737.length co123)) (fun _ h_ => h_.1)))); (case side8 => exact (Kd.R_reads' HO_692002.out).2.1); rintro e w145 ⟨rfl, hb⟩; refine ⟨_, rfl, ?_⟩; have n0_ := Aside0.mk (Kd.R_below (by (with_reducible repeat (first | apply Kd.R_alloc | apply Kd.R_drewN | apply Kd.R_drew)); exact (Kd.R_mono (Kd.R_far (p := ⟨gb741, 2, none⟩) (Kd.R_far (p := ⟨gb741, 1, none⟩) (Kd.R_far (p := ⟨gb741, 0, none⟩) (Kd.R_types HO_692000.out BK741.out (by decide)) (fun _ hk => hk.2) (.slice Ao117 t733.length co117)) (fun _ hk => hk.2) (.int .i64 t736)) (fun _ hk => hk.2) (.slice Ao123 t737.length co123)) (fun _ h_ => h_.1))) hb); have n1_ := Aside0.mk (Kd.R_below (by (with_reducible repeat (first | apply Kd.R_alloc | apply Kd.R_drewN | apply Kd.R_drew)); exact (Kd.R_mono (Kd.R_far (p := ⟨gb741, 2, none⟩) (Kd.R_far (p := ⟨gb741, 1, none⟩) (Kd.R_far (p := ⟨gb741, 0, none⟩) (Kd.R_types HO_692002.out BK741.out (by decide)) (fun _ hk => hk.2) (.slice Ao117 t733.length co117)) (fun _ hk => hk.2) (.int .i64 t736)) (fun _ hk => hk.2) (.slice Ao123 t737.length co123)) (fun _ h_ => h_.1))) hb); have n2_ := Aside0.mk (Kd.R_below (by (with_reducible repeat (first | apply Kd.R_alloc | apply Kd.R_drewN | apply Kd.R_drew)); exact (Kd.R_mono (Kd.R_far (p := ⟨gb741, 2, none⟩) (Kd.R_far (p := ⟨gb741, 1, none⟩) (Kd.R_far (p := ⟨gb741, 0, none⟩) (Kd.R_types HO_700000.out BK741.out (by decide)) (fun _ hk => hk.2) (.slice Ao117 t733.length co117)) (fun _ hk => hk.2) (.int .i64 t736)) (fun _ hk => hk.2) (.slice Ao123 t737.length co123)) (fun _ h_ => h_.1))) hb); have n3_ := Aside0.mk (Kd.R_below (by (with_reducible repeat (first | apply Kd.R_alloc | apply Kd.R_drewN | apply Kd.R_drew)); exact (Kd.R_mono (Kd.R_far (p := ⟨gb741, 2, none⟩) (Kd.R_far (p := ⟨gb741, 1, none⟩) (Kd.R_far (p := ⟨gb741, 0, none⟩) (Kd.R_types HO_700002.out BK741.out (by decide)) (fun _ hk => hk.2) (.slice Ao117 t733.length co117)) (fun _ hk => hk.2) (.int .i64 t736)) (fun _ hk => hk.2) (.slice Ao123 t737.length co123)) (fun _ h_ => h_.1))) hb); have n4_ := Aside0.mk (Kd.R_below (by (with_reducible repeat (first | apply Kd.R_alloc | apply Kd.R_drewN | apply Kd.R_drew)); exact (Kd.R_mono (Kd.R_far (p := ⟨gb741, 2, none⟩) (Kd.R_far (p := ⟨gb741, 1, none⟩) (Kd.R_far (p := ⟨gb741, 0, none⟩) (Kd.R_types HO_709000.out BK741.out (by decide)) (fun _ hk => hk.2) (.slice Ao117 t733.length co117)) (fun _ hk => hk.2) (.int .i64 t736)) (fun _ hk => hk.2) (.slice Ao123 t737.length co123)) (fun _ h_ => h_.1))) hb); have n5_ := Aside0.mk (Kd.R_below (by (with_reducible repeat (first | apply Kd.R_alloc | apply Kd.R_drewN | apply Kd.R_drew)); exact (Kd.R_mono (Kd.R_far (p := ⟨gb741, 2, none⟩) (Kd.R_far (p := ⟨gb741, 1, none⟩) (Kd.R_far (p := ⟨gb741, 0, none⟩) (Kd.R_types HO_709002.out BK741.out (by decide)) (fun _ hk => hk.2) (.slice Ao117 t733.length co117)) (fun _ hk => hk.2) (.int .i64 t736)) (fun _ hk => hk.2) (.slice Ao123 t737.length co123)) (fun _ h_ => h_.1))) hb); have n6_ := Aside0.mk (Kd.R_below (by (with_reducible repeat (first | apply Kd.R_alloc | apply Kd.R_drewN | apply Kd.R_drew)); exact (Kd.R_mono (Kd.R_far (p := ⟨gb741, 2, none⟩) (Kd.R_far (p := ⟨gb741, 1, none⟩) (Kd.R_far (p := ⟨gb741, 0, none⟩) (Kd.R_types HO728.out BK741.out (by decide)) (fun _ hk => hk.2) (.slice Ao117 t733.length co117)) (fun _ hk => hk.2) (.int .i64 t736)) (fun _ hk => hk.2) (.slice Ao123 t737.length co123)) (fun _ h_ => h_.1))) hb); have n7_ := Aside0.mk (Kd.R_below (by (with_reducible repeat (first | apply Kd.R_alloc | apply Kd.R_drewN | apply Kd.R_drew)); exact (Kd.R_mono (Kd.R_far (p := ⟨gb741, 2, none⟩) (Kd.R_far (p := ⟨gb741, 1, none⟩) (Kd.R_far (p := ⟨gb741, 0, none⟩) (Kd.R_types HO732.out BK741.out (by decide)) (fun _ hk => hk.2) (.slice Ao117 t733.length co117)) (fun _ hk => hk.2) (.int .i64 t736)) (fun _ hk => hk.2) (.slice Ao123 t737.length co123)) (fun _ h_ => h_.1))) hb); have n8_ := Aside0.mk (Kd.R_below (by (with_reducible repeat (first | apply Kd.R_alloc | apply Kd.R_drewN | apply Kd.R_drew)); exact (Kd.R_mono (Kd.R_far (p := ⟨gb741, 2, none⟩) (Kd.R_far (p := ⟨gb741, 1, none⟩) (Kd.R_far (p := ⟨gb741, 0, none⟩) (Kd.R_types HO735.out BK741.out (by decide)) (fun _ hk => hk.2) (.slice Ao117 t733.length co117)) (fun _ hk => hk.2) (.int .i64 t736)) (fun _ hk => hk.2) (.slice Ao123 t737.length co123)) (fun _ h_ => h_.1))) hb); have n9_ := Aside0.mk (Kd.R_below (by (with_reducible repeat (first | apply Kd.R_alloc | apply Kd.R_drewN | apply Kd.R_drew)); exact (Kd.R_mono (Kd.R_far (p := ⟨gb741, 2, none⟩) (Kd.R_far (p := ⟨gb741, 1, none⟩) (Kd.R_far (p := ⟨gb741, 0, none⟩) (Kd.R_types HO739.out BK741.out (by decide)) (fun _ hk => hk.2) (.slice Ao117 t733.length co117)) (fun _ hk => hk.2) (.int .i64 t736)) (fun _ hk => hk.2) (.slice Ao123 t737.length co123)) (fun _ h_ => h_.1))) hb); have n10_ := Aside0.mk (blk_below (g := gb674) (o := .cells #[.slice A0_0 l0_0.length c0_0, .int .i64 a0_1, .slice A0_2 l0_2.length c0_2] 25 (0, 0)) (by (with_reducible repeat (first | refine blk_drewN ?_ _ | refine blk_drew ?_ | refine blk_alloc ?_ _)); refine blk_far ?_ NB674_741.out _; (with_reducible repeat (first | refine blk_drewN ?_ _ | refine blk_drew ?_ | refine blk_alloc ?_ _)); refine blk_far ?_ NB674_741.out _; (with_reducible repeat (first | refine blk_drewN ?_ _ | refine blk_drew ?_ | refine blk_alloc ?_ _)); refine blk_far ?_ NB674_741.out _; (with_reducible repeat (first | refine blk_drewN ?_ _ | refine blk_drew ?_ | refine blk_alloc ?_ _)); exact BK674.out) hb); have n11_ := Aside0.mk (blk_below (g := gb691) (o := .cells #[.slice Ao21 t683.length co21, .int .i64 t686, .slice Ao24 t687.length co24] 30 (0, 0)) (by (with_reducible repeat (first | refine blk_drewN ?_ _ | refine blk_drew ?_ | refine blk_alloc ?_ _)); refine blk_far ?_ NB691_741.out _; (with_reducible repeat (first | refine blk_drewN ?_ _ | refine blk_drew ?_ | refine blk_alloc ?_ _)); refine blk_far ?_ NB691_741.out _; (with_reducible repeat (first | refine blk_drewN ?_ _ | refine blk_drew ?_ | refine blk_alloc ?_ _)); refine blk_far ?_ NB691_741.out _; (with_reducible repeat (first | refine blk_drewN ?_ _ | refine blk_drew ?_ | refine blk_alloc ?_ _)); exact BK691.out) hb); have n12_ := Aside0.mk (blk_below (g := gb699) (o := .cells #[.slice Ao28 t719.length co28, .int .i64 t695, .slice Ao32 t720.length co32] 30 (0, 0)) (by (with_reducible repeat (first | refine blk_drewN ?_ _ | refine blk_drew ?_ | refine blk_alloc ?_ _)); refine blk_far ?_ NB699_741.out _; (with_reducible repeat (first | refine blk_drewN ?_ _ | refine blk_drew ?_ | refine blk_alloc ?_ _)); refine blk_far ?_ NB699_741.out _; (with_reducible repeat (first | refine blk_drewN ?_ _ | refine blk_drew ?_ | refine blk_alloc ?_ _)); refine blk_far ?_ NB699_741.out _; (with_reducible repeat (first | refine blk_drewN ?_ _ | refine blk_drew ?_ | refine blk_alloc ?_ _)); exact BK699.out) hb); have n13_ := Aside0.mk (blk_below (g := gb708) (o := .cells #[.slice Ao35 t700.length co35, .int .i64 t703, .slice Ao40 t704.length co40] 30 (0, 0)) (by (with_reducible repeat (first | refine blk_drewN ?_ _ | refine blk_drew ?_ | refine blk_alloc ?_ _)); refine blk_far ?_ NB708_741.out _; (with_reducible repeat (first | refine blk_drewN ?_ _ | refine blk_drew ?_ | refine blk_alloc ?_ _)); refine blk_far ?_ NB708_741.out _; (with_reducible repeat (first | refine blk_drewN ?_ _ | refine blk_drew ?_ | refine blk_alloc ?_ _)); refine blk_far ?_ NB708_741.out _; (with_reducible repeat (first | refine blk_drewN ?_ _ | refine blk_drew ?_ | refine blk_alloc ?_ _)); exact BK708.out) hb); have n14_ := Aside0.mk (blk_below (g := gb741) (o := .cells #[.slice Ao117 t733.length co117, .int .i64 t736, .slice Ao123 t737.length co123] 30 (0, 0)) (by (with_reducible repeat (first | refine blk_drewN ?_ _ | refine blk_drew ?_ | refine blk_alloc ?_ _)); refine blk_put (cs := #[.slice Ao117 t733.length co117, .int .i64 t736, .slice none 0 0]) ?_ 2 _ rfl; (with_reducible repeat (first | refine blk_drewN ?_ _ | refine blk_drew ?_ | refine blk_alloc ?_ _)); refine blk_put (cs := #[.slice Ao117 t733.length co117, .int .i64 0, .slice none 0 0]) ?_ 1 _ rfl; (with_reducible repeat (first | refine blk_drewN ?_ _ | refine blk_drew ?_ | refine blk_alloc ?_ _)); refine blk_put (cs := #[.slice none 0 0, .int .i64 0, .slice none 0 0]) ?_ 0 _ rfl; (with_reducible repeat (first | refine blk_drewN ?_ _ | refine blk_drew ?_ | refine blk_alloc ?_ _)); exact BK741.out) hb); have n15_ := Aside0.mk (below_step (oB HB) hb); clear HO_692000; clear HO_692002; clear HO_700000; clear HO_700002; clear HO_709000; clear HO_709002; clear HO728; clear HO732; clear HO735; clear HO739; clear BK674; clear BK691; clear BK699; clear BK708; clear BK741; clear HB; have HO_692000 := n0_; have HO_692002 := n1_; have HO_700000 := n2_; have HO_700002 := n3_; have HO_709000 := n4_; have HO_709002 := n5_; have HO728 := n6_; have HO732 := n7_; have HO735 := n8_; have HO739 := n9_; have BK674 := n10_; have BK691 := n11_; have BK699 := n12_; have BK708 := n13_; have BK741 := n14_; have HB := n15_; clear n0_ n1_ n2_ n3_ n4_ n5_ n6_ n7_ n8_ n9_ n10_ n11_ n12_ n13_ n14_ n15_; (try clear hb); (try clear hb2); (try clear hk); (try clear hi)))
                          go_meet
                          case rel => exact ⟨_, (true), (by first | rfl | (simp; done) | (simp [*]; done)), H', ⟨by have := HJ10.out; have := HJ63.out; first | omega | exact Nat.le_refl _⟩, ⟨by (try simp only [hl700000_63]); (try simp only [hl700002_63]); (with_reducible repeat (first | apply Kd.R_alloc | apply Kd.R_drewN | apply Kd.R_drew)); exact Kd.R_mono HO_692000.out (fun _ hk => ⟨hk.1.1.1, ⟨hk.1.1.2, hk.2⟩⟩)⟩, ⟨by (try simp only [hl700000_63]); (try simp only [hl700002_63]); (with_reducible repeat (first | apply Kd.R_alloc | apply Kd.R_drewN | apply Kd.R_drew)); exact Kd.R_mono HO_692002.out (fun _ hk => ⟨hk.1.1.1, ⟨hk.1.1.2, hk.2⟩⟩)⟩, ⟨by (try simp only [hl700000_63]); (try simp only [hl700002_63]); (with_reducible repeat (first | apply Kd.R_alloc | apply Kd.R_drewN | apply Kd.R_drew)); exact Kd.R_mono HO_700000.out (fun _ hk => ⟨hk.1.1.1, ⟨hk.1.1.2, hk.2⟩⟩)⟩, ⟨by (try simp only [hl700000_63]); (try simp only [hl700002_63]); (with_reducible repeat (first | apply Kd.R_alloc | apply Kd.R_drewN | apply Kd.R_drew)); exact Kd.R_mono HO_700002.out (fun _ hk => ⟨hk.1.1.1, ⟨hk.1.1.2, hk.2⟩⟩)⟩, ⟨by (try simp only [hl700000_63]); (try simp only [hl700002_63]); (with_reducible repeat (first | apply Kd.R_alloc | apply Kd.R_drewN | apply Kd.R_drew)); exact Kd.R_mono HO_709000.out (fun _ hk => ⟨hk.1.1.1, ⟨hk.1.1.2, hk.2⟩⟩)⟩, ⟨by (try simp only [hl700000_63]); (try simp only [hl700002_63]); (with_reducible repeat (first | apply Kd.R_alloc | apply Kd.R_drewN | apply Kd.R_drew)); exact Kd.R_mono HO_709002.out (fun _ hk => ⟨hk.1.1.1, ⟨hk.1.1.2, hk.2⟩⟩)⟩, ⟨by (try simp only [hl700000_63]); (try simp only [hl700002_63]); (with_reducible repeat (first | apply Kd.R_alloc | apply Kd.R_drewN | apply Kd.R_drew)); exact Kd.R_mono HO735.out (fun _ hk => ⟨hk.1.1.1.2, ⟨hk.1.1.2, hk.1.2⟩⟩)⟩, ⟨by (try simp only [hl700000_63]); (try simp only [hl700002_63]); (with_reducible repeat (first | apply Kd.R_alloc | apply Kd.R_drewN | apply Kd.R_drew)); exact Kd.R_mono HO739.out (fun _ hk => ⟨hk.1.1.1.2, ⟨hk.1.1.2, hk.1.2⟩⟩)⟩, ⟨by (try simp only [hl700000_63]); (try simp only [hl700002_63]); (with_reducible repeat (first | refine blk_drewN ?_ _ | refine blk_drew ?_ | refine blk_alloc ?_ _)); exact BK674.out⟩, ⟨by (try simp only [hl700000_63]); (try simp only [hl700002_63]); (with_reducible repeat (first | refine blk_drewN ?_ _ | refine blk_drew ?_ | refine blk_alloc ?_ _)); exact BK691.out⟩, ⟨by (try simp only [hl700000_63]); (try simp only [hl700002_63]); (with_reducible repeat (first | refine blk_drewN ?_ _ | refine blk_drew ?_ | refine blk_alloc ?_ _)); exact BK699.out⟩, ⟨by (try simp only [hl700000_63]); (try simp only [hl700002_63]); (with_reducible repeat (first | refine blk_drewN ?_ _ | refine blk_drew ?_ | refine blk_alloc ?_ _)); exact BK708.out⟩, ⟨by (try simp only [hl700000_63]); (try simp only [hl700002_63]); (with_reducible repeat (first | refine blk_drewN ?_ _ | refine blk_drew ?_ | refine blk_alloc ?_ _)); exact BK741.out⟩, ⟨oB HB⟩⟩
                      case rest =>
                        clear HC101
                        try clear c1
                        try clear c2
                        try clear p2
                        try clear c3
                        try clear c3b0
                        try clear c4
                        try clear c5
                        try clear c6
                        try clear c7
                        try clear c8
                        try clear c9
                        try clear c10
                        try clear c11
                        try clear c12
                        try clear c13
                        try clear c14
                        try clear c15
                        try clear c17
                        try clear c19
                        try clear c22
                        try clear c28
                        try clear c29
                        try clear c30
                        try clear c36
                        try clear c37
                        try clear c38
                        try clear c39
                        try clear c40
                        try clear c42
                        try clear c43
                        try clear c44
                        try clear c45
                        try clear c47
                        try clear c48
                        try clear c51
                        try clear c52
                        try clear c53
                        try clear c55
                        try clear c56
                        try clear c59
                        try clear c62
                        try clear c70
                        try clear c71
                        try clear c72
                        try clear c75
                        try clear c75b0
                        try clear c77
                        try clear c78
                        try clear c79
                        try clear c80
                        try clear c82
                        try clear c83
                        try clear c86
                        try clear c87
                        try clear c88
                        try clear c90
                        try clear c91
                        try clear c94
                        try clear c97
                        try clear c97b0
                        try clear c98
                        try clear c98b0
                        try clear c98b1
                        try clear c102
                        try clear c103
                        try clear c104
                        try clear c109
                        try clear c110
                        try clear c118
                        try clear c119
                        try clear c120
                        try clear c121
                        try clear c125
                        try clear c126
                        try clear c127
                        try clear c128
                        try clear c129
                        try clear c131
                        try clear c132
                        try clear c133
                        try clear c136
                        try clear c137
                        try clear c138
                        try clear c139
                        try clear c141
                        try clear c142
                        try clear c143
                        try clear hcz105_0
                        try clear hcz105_1
                        try clear hcz105_2
                        try clear hcz107_0
                        try clear hcz107_1
                        try clear hcz107_2
                        try clear hcz111_0
                        try clear hcz111_1
                        try clear hcz111_2
                        try clear hcz122_0
                        try clear hcz122_1
                        try clear hcz122_2
                        try clear hcz130_0
                        try clear hcz130_1
                        try clear hcz130_2
                        try clear hcz134_0
                        try clear hcz134_1
                        try clear hcz134_2
                        try clear hcz13_0
                        try clear hcz13_1
                        try clear hcz13_2
                        try clear hcz140_0
                        try clear hcz140_1
                        try clear hcz140_2
                        try clear hcz144_0
                        try clear hcz144_1
                        try clear hcz144_2
                        try clear hcz15_0
                        try clear hcz15_1
                        try clear hcz15_2
                        try clear hcz23_0
                        try clear hcz23_1
                        try clear hcz23_2
                        try clear hcz25_0
                        try clear hcz25_1
                        try clear hcz25_2
                        try clear hcz31_0
                        try clear hcz31_1
                        try clear hcz31_2
                        try clear hcz39_0
                        try clear hcz39_1
                        try clear hcz39_2
                        try clear hcz46_0
                        try clear hcz46_1
                        try clear hcz46_2
                        try clear hcz49_0
                        try clear hcz49_1
                        try clear hcz49_2
                        try clear hcz54_0
                        try clear hcz54_1
                        try clear hcz54_2
                        try clear hcz57_0
                        try clear hcz57_1
                        try clear hcz57_2
                        try clear hcz5_0
                        try clear hcz5_1
                        try clear hcz5_2
                        try clear hcz73_0
                        try clear hcz73_1
                        try clear hcz73_2
                        try clear hcz81_0
                        try clear hcz81_1
                        try clear hcz81_2
                        try clear hcz84_0
                        try clear hcz84_1
                        try clear hcz84_2
                        try clear hcz89_0
                        try clear hcz89_1
                        try clear hcz89_2
                        try clear hcz92_0
                        try clear hcz92_1
                        try clear hcz92_2
                        try clear hfz105_0
                        try clear hfz105_1
                        try clear hfz105_2
                        try clear hfz107_0
                        try clear hfz107_1
                        try clear hfz107_2
                        try clear hfz111_0
                        try clear hfz111_1
                        try clear hfz111_2
                        try clear hfz122_0
                        try clear hfz122_1
                        try clear hfz122_2
                        try clear hfz130_0
                        try clear hfz130_1
                        try clear hfz130_2
                        try clear hfz134_0
                        try clear hfz134_1
                        try clear hfz134_2
                        try clear hfz13_0
                        try clear hfz13_1
                        try clear hfz13_2
                        try clear hfz140_0
                        try clear hfz140_1
                        try clear hfz140_2
                        try clear hfz144_0
                        try clear hfz144_1
                        try clear hfz144_2
                        try clear hfz15_0
                        try clear hfz15_1
                        try clear hfz15_2
                        try clear hfz23_0
                        try clear hfz23_1
                        try clear hfz23_2
                        try clear hfz25_0
                        try clear hfz25_1
                        try clear hfz25_2
                        try clear hfz31_0
                        try clear hfz31_1
                        try clear hfz31_2
                        try clear hfz39_0
                        try clear hfz39_1
                        try clear hfz39_2
                        try clear hfz46_0
                        try clear hfz46_1
                        try clear hfz46_2
                        try clear hfz49_0
                        try clear hfz49_1
                        try clear hfz49_2
                        try clear hfz54_0
                        try clear hfz54_1
                        try clear hfz54_2
                        try clear hfz57_0
                        try clear hfz57_1
                        try clear hfz57_2
                        try clear hfz5_0
                        try clear hfz5_1
                        try clear hfz5_2
                        try clear hfz73_0
                        try clear hfz73_1
                        try clear hfz73_2
                        try clear hfz81_0
                        try clear hfz81_1
                        try clear hfz81_2
                        try clear hfz84_0
                        try clear hfz84_1
                        try clear hfz84_2
                        try clear hfz89_0
                        try clear hfz89_1
                        try clear hfz89_2
                        try clear hfz92_0
                        try clear hfz92_1
                        try clear hfz92_2
                        try clear p2
                        obtain ⟨kq, x87_100, rfl, HA, HJ100, HO_692000, HO_692002, HO_700000, HO_700002, HO_709000, HO_709002, HO_742000, HO_742002, BK674, BK691, BK699, BK708, BK741, HB⟩ := hcut
                        have hl709000_100 := (Kd.R_reads' HO_709000.out).1
                        rw [hl709000_100] at HO_709000
                        (try simp only [hl709000_100])
                        (try simp only [hl709000_100] at BK674)
                        (try simp only [hl709000_100] at BK691)
                        (try simp only [hl709000_100] at BK699)
                        (try simp only [hl709000_100] at BK708)
                        (try simp only [hl709000_100] at BK741)
                        (try simp only [hl709000_100] at HO_692000)
                        (try simp only [hl709000_100] at HO_692002)
                        (try simp only [hl709000_100] at HO_700000)
                        (try simp only [hl709000_100] at HO_700002)
                        (try simp only [hl709000_100] at HO_709002)
                        (try simp only [hl709000_100] at HO_742000)
                        (try simp only [hl709000_100] at HO_742002)
                        have hl709002_100 := (Kd.R_reads' HO_709002.out).1
                        rw [hl709002_100] at HO_709002
                        (try simp only [hl709002_100])
                        (try simp only [hl709002_100] at BK674)
                        (try simp only [hl709002_100] at BK691)
                        (try simp only [hl709002_100] at BK699)
                        (try simp only [hl709002_100] at BK708)
                        (try simp only [hl709002_100] at BK741)
                        (try simp only [hl709002_100] at HO_692000)
                        (try simp only [hl709002_100] at HO_692002)
                        (try simp only [hl709002_100] at HO_700000)
                        (try simp only [hl709002_100] at HO_700002)
                        (try simp only [hl709002_100] at HO_709000)
                        (try simp only [hl709002_100] at HO_742000)
                        (try simp only [hl709002_100] at HO_742002)
                        cases kq with
                        | zero => exact absurd HA.out (by simp [laws_FnExactWorkStep.j2])
                        | succ kj100 =>
                          have H := HA.out
                          clear HA
                          simp only [laws_FnExactWorkStep.j2] at H
                          by_cases c146 : x87_100 = true
                          · subst c146
                            rw [if_pos rfl] at H
                            exact absurd ((Option.some.inj H).trans hrt_.out) (by decide)
                          · replace c146 := Bool.eq_false_iff.mpr c146
                            subst c146
                            rw [if_neg (show ¬ (false = true) by decide)] at H
                            replace H := Option.bind_eq_some_iff.mp H
                            obtain ⟨t743, A1470, H⟩ := H
                            (try dsimp only at H)
                            have A147 := Aside0.mk A1470
                            clear A1470
                            by_cases c148 : t743 < 0
                            · rw [if_pos c148] at H
                              have c148b0 : decide (t743 < 0) = true := decide_eq_true c148
                              clear c148
                              exact absurd ((Option.some.inj H).trans hrt_.out) (by decide)
                            · rw [if_neg c148] at H
                              have c148b0 : decide (t743 < 0) = false := decide_eq_false c148
                              clear c148
                              by_cases c149 : t743 = t722
                              · rw [if_pos c149] at H
                                have c149b0 : (t743 == t722) = true := beq_iff_eq.mpr c149
                                have c149b1 : (t743 != t722) = false := bne_eq_false_iff_eq.mpr c149
                                clear c149
                                obtain rfl := Option.some.inj H
                                have hnb150 := NB708_674.out
                                have hnc150 := NB674_708.out
                                have hnb151 := NB708_691.out
                                have hnc151 := NB691_708.out
                                have hnb152 := NB708_699.out
                                have hnc152 := NB699_708.out
                                have hnb153 := NB708_741.out
                                have hnc153 := NB741_708.out
                                have hcz154_0 : wc.cell? ⟨gb708, 0, none⟩ = some (.slice Ao35 t723.length co35) := (blk_cell BK708.out 0).trans rfl
                                have hcz154_1 : wc.cell? ⟨gb708, 1, none⟩ = some (.int .i64 t703) := (blk_cell BK708.out 1).trans rfl
                                have hcz154_2 : wc.cell? ⟨gb708, 2, none⟩ = some (.slice Ao40 t724.length co40) := (blk_cell BK708.out 2).trans rfl
                                have hfz154_0 := blk_frozen BK708.out 0
                                have hfz154_1 := blk_frozen BK708.out 1
                                have hfz154_2 := blk_frozen BK708.out 2
                                go_wp2_with (first | ((with_reducible refine gate_callee (f := 29) rfl ?_); refine goesL_ (some 90) rfl rfl Try.func29 (by kernel_rfl) rfl #[.agg #[.slice Ao35 t723.length co35, .int .i64 t703, .slice Ao40 t724.length co40], .int .i64 1] rfl (by (try simp only [List.map_toArray, List.map_cons, List.map_nil]); first | done | rfl | (simp only [List.length_drop, List.length_take]; rfl)) ?_; (with_reducible refine (laws_heldWork.calls kj100 _ _ t723 t703 _ _ t724 1 t743 _ ?side1 ?side2 ?side3 ?side4 A147.out).mono ?_); (case side1 => repeat (first | exact (Kd.R_reads' HO_709000.out).2.2 | (with_reducible refine Kd.C_alloc ?_ _) | (with_reducible refine Kd.C_drewN ?_ _) | (with_reducible refine Kd.C_drew ?_))); (case side2 => exact (Kd.R_reads' HO_709000.out).2.1); (case side3 => repeat (first | exact (Kd.R_reads' HO_709002.out).2.2 | (with_reducible refine Kd.C_alloc ?_ _) | (with_reducible refine Kd.C_drewN ?_ _) | (with_reducible refine Kd.C_drew ?_))); (case side4 => exact (Kd.R_reads' HO_709002.out).2.1); rintro e w155 ⟨rfl, hb⟩; refine ⟨_, rfl, ?_⟩; have n0_ := Aside0.mk (Kd.R_below (oR HO_692000) hb); have n1_ := Aside0.mk (Kd.R_below (oR HO_692002) hb); have n2_ := Aside0.mk (Kd.R_below (oR HO_700000) hb); have n3_ := Aside0.mk (Kd.R_below (oR HO_700002) hb); have n4_ := Aside0.mk (Kd.R_below (oR HO_709000) hb); have n5_ := Aside0.mk (Kd.R_below (oR HO_709002) hb); have n6_ := Aside0.mk (Kd.R_below (oR HO_742000) hb); have n7_ := Aside0.mk (Kd.R_below (oR HO_742002) hb); have n8_ := Aside0.mk (blk_below (g := gb674) (o := .cells #[.slice A0_0 l0_0.length c0_0, .int .i64 a0_1, .slice A0_2 l0_2.length c0_2] 25 (0, 0)) (oK BK674) hb); have n9_ := Aside0.mk (blk_below (g := gb691) (o := .cells #[.slice Ao21 t683.length co21, .int .i64 t686, .slice Ao24 t687.length co24] 30 (0, 0)) (oK BK691) hb); have n10_ := Aside0.mk (blk_below (g := gb699) (o := .cells #[.slice Ao28 t719.length co28, .int .i64 t695, .slice Ao32 t720.length co32] 30 (0, 0)) (oK BK699) hb); have n11_ := Aside0.mk (blk_below (g := gb708) (o := .cells #[.slice Ao35 t723.length co35, .int .i64 t703, .slice Ao40 t724.length co40] 30 (0, 0)) (oK BK708) hb); have n12_ := Aside0.mk (blk_below (g := gb741) (o := .cells #[.slice Ao117 t733.length co117, .int .i64 t736, .slice Ao123 t737.length co123] 30 (0, 0)) (oK BK741) hb); have n13_ := Aside0.mk (below_step (oB HB) hb); clear HO_692000; clear HO_692002; clear HO_700000; clear HO_700002; clear HO_709000; clear HO_709002; clear HO_742000; clear HO_742002; clear BK674; clear BK691; clear BK699; clear BK708; clear BK741; clear HB; have HO_692000 := n0_; have HO_692002 := n1_; have HO_700000 := n2_; have HO_700002 := n3_; have HO_709000 := n4_; have HO_709002 := n5_; have HO_742000 := n6_; have HO_742002 := n7_; have BK674 := n8_; have BK691 := n9_; have BK699 := n10_; have BK708 := n11_; have BK741 := n12_; have HB := n13_; clear n0_ n1_ n2_ n3_ n4_ n5_ n6_ n7_ n8_ n9_ n10_ n11_ n12_ n13_; (try clear hb); (try clear hb2); (try clear hk); (try clear hi)))
                                go_ret
                                exact ⟨by first | rfl | (simp [errW_none, errW_some] <;> rfl) | (simp [*, errW_none, errW_some] <;> rfl), oB HB⟩
                              · rw [if_neg c149] at H
                                have c149b0 : (t743 == t722) = false := beq_eq_false_iff_ne.mpr c149
                                have c149b1 : (t743 != t722) = true := bne_iff_ne.mpr c149
                                exact absurd ((Option.some.inj H).trans hrt_.out) (by decide)
                    · rw [if_neg c98] at H
                      have c98b0 : (t725 == t722) = false := beq_eq_false_iff_ne.mpr c98
                      have c98b1 : (t725 != t722) = true := bne_iff_ne.mpr c98
                      exact absurd ((Option.some.inj H).trans hrt_.out) (by decide)
          · replace c62 := Bool.eq_false_iff.mpr c62
            subst c62
            rw [if_neg (show ¬ (false = true) by decide)] at H
            exact absurd ((Option.some.inj H).trans hrt_.out) (by decide)
end Go.Proofs.Ytlhlmjklajdejaa.P


namespace Go.Proofs.Ytlhlmjklajdejaa.Q
set_option linter.unusedVariables false
set_option linter.unusedSimpArgs false
open Go.RowKit Go.Proofs.YtlhlmjklajdejaaW.PrintWords
theorem evp {α : Type} {c : Prop} [Decidable c] (h : c) {f g : Nat → Option α} {r : α} (k : Ev f r) : Ev (fun n => if c then f n else g n) r := by
  simp only [if_pos h]; exact k
theorem evn {α : Type} {c : Prop} [Decidable c] (h : ¬ c) {f g : Nat → Option α} {r : α} (k : Ev g r) : Ev (fun n => if c then f n else g n) r := by
  simp only [if_neg h]; exact k
theorem evb {α β : Type} {x : Option α} {f : Nat → α → Option β} {a : α} {r : β} (h : x = some a) (k : Ev (fun n => f n a) r) : Ev (fun n => x.bind (f n)) r := by
  simp only [h, Option.bind_some]; exact k
theorem evs {α : Type} {a b : α} (h : a = b) : Ev (fun _ => some a) b := h ▸ Ev.now a
theorem rpos {α : Type} {c : Prop} [Decidable c] (h : c) {f : Nat → Option α} {r s : α} (k : Ev f r) : Ev f (if c then r else s) := by rw [if_pos h]; exact k
theorem rneg {α : Type} {c : Prop} [Decidable c] (h : ¬ c) {f : Nat → Option α} {r s : α} (k : Ev f s) : Ev f (if c then r else s) := by rw [if_neg h]; exact k
theorem down {P : Nat → Prop} {n : Nat} (he : P n) (hs : ∀ i, i < n → P (i + 1) → P i) (i : Nat) (h : i ≤ n) : P i := by
  obtain ⟨d, rfl⟩ : ∃ d, n = i + d := ⟨n - i, by omega⟩
  clear h
  induction d generalizing i with
  | zero => exact he
  | succ d ih =>
    refine hs i (by omega) (ih (i + 1) ?_ ?_)
    · rw [show i + 1 + d = i + (d + 1) by omega]; exact he
    · intro j hj; exact hs j (by omega)
theorem w64 {n : Int} (h1 : -9223372036854775808 ≤ n) (h2 : n ≤ 9223372036854775807) : wrap64 n = n := by unfold wrap64; omega
theorem rd_nat (l : List Int) (i : Nat) (h : i < l.length) : rd l (i : Int) = l[i] := by
  unfold rd; simp [List.getD_eq_getElem?_getD, h]
theorem drop_cons {α : Type} (l : List α) (i : Nat) (h : i < l.length) : l.drop i = l[i] :: l.drop (i + 1) := List.drop_eq_getElem_cons h
theorem drop_end {α : Type} (l : List α) : l.drop l.length = [] := List.drop_eq_nil_of_le (Nat.le_refl _)
theorem set_take {α : Type} (l : List α) (i : Nat) (v : α) (h : i < l.length) : (l.set i v).take (i + 1) = l.take i ++ [v] := by
  rw [List.take_set, List.take_succ_eq_append_getElem h, List.set_append_right _ _ (by simp; omega)]
  simp [Nat.min_eq_left (Nat.le_of_lt h)]
end Go.Proofs.Ytlhlmjklajdejaa.Q


namespace Go.Proofs.Ytlhlmjklajdejaa.Q
set_option linter.unusedVariables false
set_option linter.unusedSimpArgs false
open Go.RowKit Go.Proofs.Ytlhlmjklajdejaa.P Go.Proofs.YtlhlmjklajdejaaW.PrintWords
theorem within_eq (a b c : Int) : impl_within.f a b c = some (decide (b ≤ a ∧ a ≤ c)) := by
  unfold impl_within.f; by_cases h : b ≤ a <;> simp [h]
theorem l01In_eq (a b c : Int) : spec_l01In.f a b c = some (decide (b ≤ a ∧ a ≤ c)) := by
  unfold spec_l01In.f; by_cases h : a ≥ b
  · rw [if_pos h]; simp [show b ≤ a from h]
  · rw [if_neg h]; simp [show ¬ b ≤ a from h]
end Go.Proofs.Ytlhlmjklajdejaa.Q


namespace Go.Proofs.Ytlhlmjklajdejaa.Q
set_option linter.unusedVariables false
set_option linter.unusedSimpArgs false
open Go.RowKit Go.Proofs.Ytlhlmjklajdejaa.P Go.Proofs.YtlhlmjklajdejaaW.PrintWords Go.Proofs.YtlhlmjklajdejaaW.PrintMore
def fine (n : Int) : Bool := decide (1 ≤ n ∧ n ≤ 10000000)
theorem pitch_eq (n : Int) : spec_l18Pitch.f n = some (fine n) := by unfold spec_l18Pitch.f; rw [l01In_eq]; rfl
theorem isFine_eq (n : Int) : impl_isFine.f n = some (fine n) := by unfold impl_isFine.f; rw [within_eq]; rfl
def orZero (n : Int) : Int := if fine n = true then n else 0
def tunedPitch (a k b : Int) : Int :=
  if fine a = true then
    if 0 ≤ b ∧ b ≤ 100000 then
      if k = 1 then orZero (wrap64 (Int.tdiv (mx (wrap64 ((wrap64 (3 * a)) - b)) 0) 2))
      else if k = 2 then orZero (wrap64 (Int.tdiv (mx (wrap64 ((wrap64 (3 * a)) - b)) 0) 4))
      else if k = 3 then if b = 0 then orZero (wrap64 (2 * a)) else 0
      else if k = 4 then if b = 0 then orZero (wrap64 (Int.tdiv a 2)) else 0
      else 0
    else 0
  else 0
theorem mx_comm (a b : Int) : mx a b = mx b a := by unfold mx; split <;> split <;> omega
theorem evz {n : Int} {x : Option Bool} (h : x = some (fine n)) : Ev (fun _ => x.bind fun t => if t = true then some n else some 0) (orZero n) := by
  subst h; simp only [Option.bind_some]; unfold orZero; by_cases h : fine n = true
  · rw [if_pos h, if_pos h]; exact Ev.now _
  · rw [if_neg h, if_neg h]; exact Ev.now _
theorem tuned_impl (a k b : Int) : Ev (fun n => impl_TunedPitch.f n a k b) (tunedPitch a k b) := by
  have jt : Ev (fun n => impl_TunedPitch.j0 n a k b true) 0 := Ev.step (fun n => by rw [impl_TunedPitch.j0]) (evp rfl (Ev.now _))
  unfold impl_TunedPitch.f
  refine evb (isFine_eq a) ?_
  unfold tunedPitch
  by_cases ha : fine a = true
  rotate_left
  · exact rneg ha <| evn ha jt
  refine rpos ha <| evp ha (evb (within_eq _ _ _) ?_)
  by_cases hb : 0 ≤ b ∧ b ≤ 100000
  rotate_left
  · exact rneg hb <| evn (by simpa using hb) jt
  refine rpos hb <| evp (by simpa using hb) ?_
  have jf : (k = 3 ∨ k = 4 → b = 0) → Ev (fun n => impl_TunedPitch.j0 n a k b false) (if k = 1 then orZero (wrap64 (Int.tdiv (mx (wrap64 ((wrap64 (3 * a)) - b)) 0) 2))
      else if k = 2 then orZero (wrap64 (Int.tdiv (mx (wrap64 ((wrap64 (3 * a)) - b)) 0) 4))
      else if k = 3 then if b = 0 then orZero (wrap64 (2 * a)) else 0
      else if k = 4 then if b = 0 then orZero (wrap64 (Int.tdiv a 2)) else 0
      else 0) := by
    intro h0
    refine Ev.step (fun n => by rw [impl_TunedPitch.j0]) (evn (by decide) ?_)
    by_cases h1 : k = 1
    · exact rpos h1 <| evp h1 (evz (isFine_eq _))
    refine rneg h1 <| evn h1 ?_
    by_cases h2 : k = 2
    · exact rpos h2 <| evp h2 (evz (isFine_eq _))
    refine rneg h2 <| evn h2 ?_
    by_cases h3 : k = 3
    · exact rpos h3 <| rpos (h0 (.inl h3)) <| evp h3 (evz (isFine_eq _))
    refine rneg h3 <| evn h3 ?_
    by_cases h4 : k = 4
    · exact rpos h4 <| rpos (h0 (.inr h4)) <| evp h4 (evz (isFine_eq _))
    refine rneg h4 <| evn h4 ?_
    refine evb (isFine_eq _) (evn (by decide) (Ev.now _))
  by_cases b0 : b = 0
  · exact evp b0 (jf fun _ => b0)
  refine evn b0 ?_
  by_cases h3 : k = 3
  · refine evp h3 ?_
    exact rneg (by omega) <| rneg (by omega) <| rpos h3 <| rneg b0 jt
  refine evn h3 ?_
  by_cases h4 : k = 4
  · rw [show (k == 4) = true by simp [h4]]; exact rneg (by omega) <| rneg (by omega) <| rneg (by omega) <| rpos h4 <| rneg b0 jt
  · rw [show (k == 4) = false by simp [h4]]; exact jf (by omega)
theorem tuned_spec (a k b : Int) : Ev (fun n => spec_TunedPitch.f n a k b) (tunedPitch a k b) := by
  have jt : Ev (fun n => spec_TunedPitch.j0 n a k b true) 0 := Ev.step (fun n => by rw [spec_TunedPitch.j0]) (evp rfl (Ev.now _))
  unfold spec_TunedPitch.f
  refine evb (pitch_eq a) ?_
  unfold tunedPitch
  by_cases ha : fine a = true
  rotate_left
  · exact rneg ha <| evn ha jt
  refine rpos ha <| evp ha (evb (l01In_eq _ _ _) ?_)
  by_cases hb : 0 ≤ b ∧ b ≤ 100000
  rotate_left
  · rw [show (!decide (0 ≤ b ∧ b ≤ 100000)) = true by rw [decide_eq_false hb]; rfl]; exact rneg hb jt
  rw [show (!decide (0 ≤ b ∧ b ≤ 100000)) = false by rw [decide_eq_true hb]; rfl]
  refine rpos hb ?_
  have j2t : Ev (fun n => spec_TunedPitch.j2 n a 0 true) (orZero (wrap64 (Int.tdiv a 2))) := Ev.step (fun n => by rw [spec_TunedPitch.j2]) (evp rfl (evz (pitch_eq _)))
  have j2f : Ev (fun n => spec_TunedPitch.j2 n a 0 false) 0 := Ev.step (fun n => by rw [spec_TunedPitch.j2]) (evn (by decide) (evz (pitch_eq 0)))
  refine Ev.step (fun n => by rw [spec_TunedPitch.j0]) (evn (by decide) ?_)
  by_cases h1 : k = 1
  · rw [mx_comm 0]; exact rpos h1 <| evp h1 (evz (pitch_eq _))
  refine rneg h1 <| evn h1 ?_
  by_cases h2 : k = 2
  · rw [mx_comm 0]; exact rpos h2 <| evp h2 (evz (pitch_eq _))
  refine rneg h2 <| evn h2 ?_
  have j1f : Ev (fun n => spec_TunedPitch.j1 n a k b 0 false) (if k = 4 then if b = 0 then orZero (wrap64 (Int.tdiv a 2)) else 0 else 0) := by
    refine Ev.step (fun n => by rw [spec_TunedPitch.j1]) (evn (by decide) ?_)
    by_cases h4 : k = 4
    · refine rpos h4 <| evp h4 ?_
      by_cases b0 : b = 0
      · rw [show (b == 0) = true by simp [b0]]; exact rpos b0 j2t
      · rw [show (b == 0) = false by simp [b0]]; exact rneg b0 j2f
    · exact rneg h4 <| evn h4 j2f
  by_cases h3 : k = 3
  · refine rpos h3 <| evp h3 ?_
    by_cases b0 : b = 0
    · rw [show (b == 0) = true by simp [b0]]
      exact rpos b0 <| Ev.step (fun n => by rw [spec_TunedPitch.j1]) (evp rfl (evz (pitch_eq _)))
    · rw [show (b == 0) = false by simp [b0]]
      rw [if_neg (by omega)] at j1f
      exact rneg b0 j1f
  exact rneg h3 <| evn h3 j1f
end Go.Proofs.Ytlhlmjklajdejaa.Q


namespace Go.Proofs.Ytlhlmjklajdejaa.Q
set_option linter.unusedVariables false
set_option linter.unusedSimpArgs false
open Go.RowKit Go.Proofs.Ytlhlmjklajdejaa.P Go.Proofs.YtlhlmjklajdejaaW.PrintWords Go.Proofs.YtlhlmjklajdejaaW.PrintMore
def cStep (x : S70) : S67 := ⟨x.f0, x.f1, x.f2, x.f3⟩
theorem rdS (l : List S67) (i : Nat) (h : i < l.length) : rd_T67 l (i : Int) = l[i] := by
  unfold rd_T67; simp [List.getD_eq_getElem?_getD, h]
theorem rdLS (l : List S70) (i : Nat) (h : i < l.length) : rd_T70 l (i : Int) = l[i] := by
  unfold rd_T70; simp [List.getD_eq_getElem?_getD, h]
theorem toStepS_ev (l : List S70) (hl : l.length ≤ 1048576) : Ev (fun k => laws_toStepS.f k l) (l.map cStep) := by
  have key : ∀ i, i ≤ l.length → ∀ acc : List S67, acc.length = l.length → Ev (fun k => laws_toStepS.l0 k l acc (i : Int)) (acc.take i ++ (l.drop i).map cStep) := by
    refine down (n := l.length) ?_ ?_
    · intro acc ha
      refine Ev.step (fun k => by rw [laws_toStepS.l0]) (evn (by omega) (evs ?_))
      rw [drop_end, List.map_nil, List.append_nil, List.take_of_length_le (by omega)]
    · intro i hi ih acc ha
      refine Ev.step (fun k => by rw [laws_toStepS.l0]) (evp (by omega) (evp (by omega) ?_))
      rw [rdLS l i hi]
      refine evb (a := (l[i].f0, l[i].f1, l[i].f2, l[i].f3)) rfl (evp (by omega) ?_)
      rw [w64 (by omega) (by omega), Int.toNat_natCast]
      have := ih (acc.set i (cStep l[i])) (by simpa using ha)
      rw [set_take _ _ _ (by omega), List.append_assoc] at this
      rw [drop_cons l i hi, List.map_cons]
      exact this
  have := key 0 (Nat.zero_le _) (List.replicate l.length z67) (by simp)
  unfold laws_toStepS.f
  refine evp (by omega) (evp (by omega) ?_)
  simpa using this
theorem eqStep_self (a b c d : Int) : laws_eqStep.f a b c d a b c d = some true := by unfold laws_eqStep.f; simp
theorem eqStepS_ev (l : List S67) (hl : l.length ≤ 9000000000000000000) : Ev (fun k => laws_eqStepS.f k l l) true := by
  have key : ∀ i, i ≤ l.length → Ev (fun k => laws_eqStepS.l0 k l l (i : Int)) true := by
    refine down (n := l.length) ?_ ?_
    · refine Ev.step (fun k => by rw [laws_eqStepS.l0]) (evn (by omega) ?_)
      exact Ev.now _
    · intro i hi ih
      refine Ev.step (fun k => by rw [laws_eqStepS.l0]) (evp (by omega) (evp (by omega) (evp (by omega) ?_)))
      refine evb (eqStep_self _ _ _ _) (evp rfl ?_)
      rw [w64 (by omega) (by omega)]
      exact ih
  unfold laws_eqStepS.f
  refine evp rfl ?_
  exact key 0 (Nat.zero_le _)
theorem szStepS_eq (l : List S70) (m : Int) (h0 : 0 ≤ m) (hm : m ≤ 1048576) (hl : l.length ≤ 9223372036854775807) : laws_szStepS.f l m = some (if m < l.length then -1 else m - l.length) := by
  unfold laws_szStepS.f
  rw [w64 (by omega) (by omega)]
  by_cases h : m < l.length
  · rw [if_pos (by omega), if_pos h]
  · rw [if_neg (by omega), if_neg h]
def runsS (m : Int) (n : Nat) : List S67 := (List.range n).map (fun (j : Nat) => ⟨m + 4 * j, m + 4 * j + 1, m + 4 * j + 2, m + 4 * j + 3⟩)
theorem runsS_len (m : Int) (n : Nat) : (runsS m n).length = n := by simp [runsS]
theorem rd_set_self (l : List S67) (i : Nat) (v : S67) (h : i < l.length) : rd_T67 (l.set i v) (i : Int) = v := by
  rw [rdS _ _ (by simpa using h)]; simp
theorem markStepS_ev (l : List S67) (m : Int) (h0 : 0 ≤ m) (hm : m + 4 * l.length ≤ 4000000000000000000) : Ev (fun k => laws_markStepS.f k l m) (m + 4 * l.length, runsS m l.length) := by
  have key : ∀ i, i ≤ l.length → ∀ acc : List S67, acc.length = l.length → acc.take i = runsS m i → Ev (fun k => laws_markStepS.l0 k acc (m + 4 * i) (i : Int)) (m + 4 * l.length, runsS m l.length) := by
    refine down (n := l.length) ?_ ?_
    · intro acc ha ht
      refine Ev.step (fun k => by rw [laws_markStepS.l0]) (evn (by omega) (evs ?_))
      rw [← ht, List.take_of_length_le (by omega)]
    · intro i hi ih acc ha ht
      refine Ev.step (fun k => by rw [laws_markStepS.l0]) ?_
      refine evp (by omega) (evp (by omega) ?_)
      simp only [Option.bind_some]
      rw [w64 (n := m + 4 * i + 1) (by omega) (by omega), w64 (n := m + 4 * i + 1 + 1) (by omega) (by omega), w64 (n := m + 4 * i + 1 + 1 + 1) (by omega) (by omega), w64 (n := m + 4 * i + 1 + 1 + 1 + 1) (by omega) (by omega), w64 (n := (i : Int) + 1) (by omega) (by omega), Int.toNat_natCast]
      have := ih (acc.set i ⟨m + 4 * i, m + 4 * i + 1, m + 4 * i + 2, m + 4 * i + 3⟩) (by simpa using ha) (by
        rw [set_take _ _ _ (by omega), ht]
        simp [runsS, List.range_succ])
      have rs : ∀ (L : List S67) (v : S67), L.length = l.length → rd_T67 (L.set i v) (i : Int) = v := fun L v hL => rd_set_self L i v (by omega)
      simp only [rs _ _ ha, List.set_set]
      rw [show m + 4 * (i : Int) + 1 + 1 = m + 4 * i + 2 by omega, show m + 4 * (i : Int) + 2 + 1 = m + 4 * i + 3 by omega, show m + 4 * (i : Int) + 3 + 1 = m + 4 * ((i + 1 : Nat) : Int) by omega]
      exact this
  have := key 0 (Nat.zero_le _) l rfl (by simp [runsS])
  unfold laws_markStepS.f
  simpa using this
theorem heldStepS_ev (n : Nat) (m : Int) (h0 : 0 ≤ m) (hm : m + 4 * n ≤ 4000000000000000000) : Ev (fun k => laws_heldStepS.f k (runsS m n) m) (m + 4 * n) := by
  have key : ∀ i, i ≤ n → Ev (fun k => laws_heldStepS.l0 k (runsS m n) (m + 4 * i) (i : Int)) (m + 4 * n) := by
    refine down (n := n) ?_ ?_
    · exact Ev.step (fun k => by rw [laws_heldStepS.l0]) (evn (by rw [runsS_len]; omega) (evs rfl))
    · intro i hi ih
      refine Ev.step (fun k => by rw [laws_heldStepS.l0]) (evp (by rw [runsS_len]; omega) (evp (by omega) ?_))
      rw [rdS _ _ (by rw [runsS_len]; exact hi), show (runsS m n)[i]'(by rw [runsS_len]; exact hi) = ⟨m + 4 * i, m + 4 * i + 1, m + 4 * i + 2, m + 4 * i + 3⟩ by simp [runsS]]
      rw [w64 (n := m + 4 * i + 1) (by omega) (by omega), w64 (n := m + 4 * i + 1 + 1) (by omega) (by omega), w64 (n := m + 4 * i + 1 + 1 + 1) (by omega) (by omega), w64 (n := m + 4 * i + 1 + 1 + 1 + 1) (by omega) (by omega), w64 (n := (i : Int) + 1) (by omega) (by omega)]
      refine evp rfl (evp rfl (evp ?_ (evp ?_ ?_)))
      · show m + 4 * (i : Int) + 2 = _; omega
      · show m + 4 * (i : Int) + 3 = _; omega
      rw [show m + 4 * (i : Int) + 1 + 1 + 1 + 1 = m + 4 * ((i + 1 : Nat) : Int) by omega]
      exact ih
  have := key 0 (Nat.zero_le _)
  unfold laws_heldStepS.f
  simpa using this
end Go.Proofs.Ytlhlmjklajdejaa.Q


namespace Go.Proofs.Ytlhlmjklajdejaa.Q
set_option linter.unusedVariables false
set_option linter.unusedSimpArgs false
open Go.RowKit Go.Proofs.Ytlhlmjklajdejaa.P Go.Proofs.YtlhlmjklajdejaaW.PrintWords Go.Proofs.YtlhlmjklajdejaaW.PrintMore
theorem planGoS_eq (l : List S67) (t : List Bool) : planGoS l t = planGo l t := by
  induction l generalizing t with
  | nil => rfl
  | cons x r ih => simp only [planGoS, planGo, ih]; rfl
theorem planSpec_eq (l : List S67) : spec_PlanOk.f l = some (planOk l) := by
  show some (planOkS l) = some (planOk l)
  unfold planOkS planOk
  rw [planGoS_eq, Bool.and_comm]; rfl
def inKeys (x : S67) : Prop := 0 ≤ x.f0 ∧ x.f0 ≤ 11 ∧ 0 ≤ x.f1 ∧ x.f1 ≤ 11 ∧ x.f1 = (x.f0 + 1) % 12
theorem stepOk_in {x : S67} {t : List Bool} (h : stepOk x t = true) : inKeys x := by
  simp [stepOk] at h; unfold inKeys; omega
theorem planGo_in {l : List S67} {t : List Bool} (h : planGo l t = true) : ∀ x ∈ l, inKeys x := by
  induction l generalizing t with
  | nil => simp
  | cons y r ih =>
    simp only [planGo, Bool.and_eq_true] at h
    intro x hx
    rcases List.mem_cons.1 hx with rfl | hx
    · exact stepOk_in h.1
    · exact ih h.2 x hx
theorem planOk_in {l : List S67} (h : planOk l = true) : ∀ x ∈ l, inKeys x := by
  simp only [planOk, Bool.and_eq_true] at h; exact planGo_in h.2
theorem planOk_len {l : List S67} (h : planOk l = true) : l.length ≤ 11 := by
  simp only [planOk, Bool.and_eq_true, decide_eq_true_eq] at h; exact h.1
theorem rd_get (l : List Int) (i : Int) : rd l i = l.getD i.toNat 0 := rfl
end Go.Proofs.Ytlhlmjklajdejaa.Q


namespace Go.Proofs.Ytlhlmjklajdejaa.Q
set_option linter.unusedVariables false
set_option linter.unusedSimpArgs false
open Go.RowKit Go.Proofs.Ytlhlmjklajdejaa.P Go.Proofs.YtlhlmjklajdejaaW.PrintWords Go.Proofs.YtlhlmjklajdejaaW.PrintMore
def stepTo (c : Int) : List S67 → Nat → Int
  | [], _ => -1
  | x :: r, j => if x.f1 = c then (j : Int) else stepTo c r (j + 1)
theorem stepTo_ev (l : List S67) (c : Int) (hl : l.length ≤ 4000000) : Ev (fun n => spec_l20Step.f n l c) (stepTo c l 0) := by
  have key : ∀ i, i ≤ l.length → Ev (fun n => spec_l20Step.l0 n l c (i : Int)) (stepTo c (l.drop i) i) := by
    refine down (n := l.length) ?_ ?_
    · refine Ev.step (fun n => by rw [spec_l20Step.l0]) (evn (by omega) (evs ?_))
      rw [drop_end]; rfl
    · intro i hi ih
      refine Ev.step (fun n => by rw [spec_l20Step.l0]) ?_
      refine evp (by omega) (evp (by omega) ?_)
      rw [rdS l i hi, drop_cons l i hi, stepTo]
      by_cases h : l[i].f1 = c
      · exact rpos h <| evp h (Ev.now _)
      · refine rneg h <| evn h ?_
        rw [w64 (by omega) (by omega)]
        exact ih
  exact key 0 (Nat.zero_le _)
theorem stepTo_lt (c : Int) (l : List S67) (j d : Nat) : (0 ≤ stepTo c l j ∧ stepTo c l j < ((j + d : Nat) : Int)) ↔ ∃ x ∈ l.take d, x.f1 = c := by
  induction l generalizing j d with
  | nil => simp [stepTo]
  | cons x r ih =>
    unfold stepTo
    cases d with
    | zero =>
      simp only [List.take_zero, List.not_mem_nil, false_and, exists_false, iff_false]
      by_cases h : x.f1 = c
      · rw [if_pos h]; omega
      · rw [if_neg h]
        have := ih (j + 1) 0
        simp at this
        have h1 := this
        intro h2
        have : ∀ (l : List S67) (j : Nat), stepTo c l j = -1 ∨ (j : Int) ≤ stepTo c l j := by
          intro l
          induction l with
          | nil => intro j; exact .inl rfl
          | cons y s ih2 =>
            intro j; unfold stepTo; split
            · exact .inr (Int.le_refl _)
            · rcases ih2 (j + 1) with h | h
              · exact .inl h
              · exact .inr (by omega)
        rcases this r (j + 1) with h3 | h3 <;> omega
    | succ d =>
      rw [List.take_succ_cons]
      by_cases h : x.f1 = c
      · rw [if_pos h]
        exact ⟨fun _ => ⟨x, List.mem_cons_self, h⟩, fun _ => ⟨by omega, by omega⟩⟩
      · rw [if_neg h]
        have := ih (j + 1) d
        rw [show j + 1 + d = j + (d + 1) by omega] at this
        rw [this]
        constructor
        · rintro ⟨y, hy, e⟩; exact ⟨y, List.mem_cons_of_mem _ hy, e⟩
        · rintro ⟨y, hy, e⟩
          rcases List.mem_cons.1 hy with rfl | hy
          · exact absurd e h
          · exact ⟨y, hy, e⟩
theorem tunedBy_len (l : List S67) (t : List Bool) : (P.tunedBy l t).length = t.length := by
  unfold P.tunedBy
  induction l generalizing t with
  | nil => rfl
  | cons x r ih => rw [List.foldl_cons, ih, List.length_set]
theorem tunedBy_get (l : List S67) (t : List Bool) (hin : ∀ x ∈ l, 0 ≤ x.f1) (c : Nat) (hc : c < t.length) : (P.tunedBy l t)[c]? = some (t[c] || l.any (fun x => decide (x.f1 = (c : Int)))) := by
  unfold P.tunedBy
  induction l generalizing t with
  | nil => simp [hc]
  | cons x r ih =>
    rw [List.foldl_cons, ih _ (fun y hy => hin y (List.mem_cons_of_mem _ hy)) (by simpa using hc)]
    have := hin x List.mem_cons_self
    simp only [List.any_cons, List.getElem_set]
    by_cases h : x.f1 = (c : Int)
    · rw [if_pos (by omega)]; simp [h]
    · rw [if_neg (by omega)]; simp [h]
theorem workOk_spec (p : List S67) (d : Int) (q : List Int) : Ev (fun n => spec_WorkOk.f n p d q) (workOk p d q) := by
  have jt : Ev (fun n => spec_WorkOk.j0 n true p d q) false := Ev.step (fun n => by rw [spec_WorkOk.j0]) (evp rfl (Ev.now _))
  unfold spec_WorkOk.f workOk
  refine evb (planSpec_eq p) ?_
  by_cases hp : planOk p = true
  rotate_left
  · rw [show planOk p = false by simpa using hp, Bool.false_and]; exact evn (by simp) jt
  refine evp hp (evb (l01In_eq _ _ _) ?_)
  rw [hp, Bool.true_and]
  by_cases hd : 0 ≤ d ∧ d ≤ (p.length : Int)
  rotate_left
  · rw [decide_eq_false hd, Bool.false_and]; exact evn (by simp) jt
  rw [decide_eq_true hd, Bool.true_and]
  refine evp rfl ?_
  by_cases hq : q.length = 12
  rotate_left
  · rw [decide_eq_false hq, Bool.false_and, show ((q.length : Int) != 12) = true by simpa using (show ¬ (q.length : Int) = 12 by omega)]; exact jt
  rw [decide_eq_true hq, Bool.true_and, show ((q.length : Int) != 12) = false by simpa using (show (q.length : Int) = 12 by omega)]
  have hl := planOk_len hp
  have hin := planOk_in hp
  obtain ⟨T, hT⟩ : ∃ T, P.tunedBy (p.take d.toNat) tuned0 = T := ⟨_, rfl⟩
  have hTl : T.length = 12 := by rw [← hT, tunedBy_len]; rfl
  have hTi : ∀ c : Nat, (hc : c < T.length) → T[c] = (decide (c = 0) || decide (0 ≤ stepTo (c : Int) p 0 ∧ stepTo (c : Int) p 0 < d)) := by
    intro c hc
    have h1 := tunedBy_get (p.take d.toNat) tuned0 (fun x hx => (hin x (List.mem_of_mem_take hx)).2.2.1) c (show c < 12 by omega)
    rw [hT, List.getElem?_eq_getElem hc] at h1
    rw [Option.some.inj h1]
    congr 1
    · have : ∀ c, (h : c < tuned0.length) → tuned0[c] = decide (c = 0) := by decide
      exact this c _
    · have h2 := stepTo_lt (c : Int) p 0 d.toNat
      rw [Nat.zero_add, Int.toNat_of_nonneg hd.1] at h2
      rw [Bool.eq_iff_iff, decide_eq_true_iff, h2]
      simp
  rw [hT]
  have key : ∀ i : Nat, i ≤ 12 → Ev (fun n => spec_WorkOk.l0 n (i : Int) p d q) (keyGo (T.drop i) (q.drop i)) := by
    refine down (n := 12) ?_ ?_
    · refine Ev.step (fun n => by rw [spec_WorkOk.l0]) (evn (by omega) (evs ?_))
      rw [List.drop_eq_nil_of_le (by omega)]; rfl
    · intro i hi ih
      refine Ev.step (fun n => by rw [spec_WorkOk.l0]) ?_
      refine evp (by omega) (Ev.bind (stepTo_ev p _ (by omega)) ?_)
      rw [rd_nat q i (by omega), drop_cons T i (by omega), drop_cons q i (by omega), keyGo, hTi i (by omega), w64 (n := (i : Int) + 1) (by omega) (by omega)]
      have fin : ∀ v : Bool, Ev (fun n => (spec_l18Pitch.f q[i]).bind fun t => if t = true then spec_WorkOk.l0 n (((i + 1 : Nat)) : Int) p d q else some false) (decide (1 ≤ q[i] ∧ q[i] ≤ 10000000) && keyGo (T.drop (i + 1)) (q.drop (i + 1))) := by
        intro v
        refine evb (pitch_eq _) ?_
        by_cases hf : fine q[i] = true
        · rw [show decide (1 ≤ q[i] ∧ q[i] ≤ 10000000) = true from hf, Bool.true_and]; exact evp hf ih
        · rw [show decide (1 ≤ q[i] ∧ q[i] ≤ 10000000) = false by simpa [fine] using hf, Bool.false_and]; exact evn hf (Ev.now _)
      have zer : Ev (fun n => if 0 ≤ (i : Int) then (if (i : Int) < (q.length : Int) then (if q[i] = 0 then spec_WorkOk.l0 n (((i + 1 : Nat)) : Int) p d q else some false) else none) else none) (decide (q[i] = 0) && keyGo (T.drop (i + 1)) (q.drop (i + 1))) := by
        refine evp (by omega) (evp (by omega) ?_)
        by_cases hz : q[i] = 0
        · rw [decide_eq_true hz, Bool.true_and]; exact evp hz ih
        · rw [decide_eq_false hz, Bool.false_and]; exact evn hz (Ev.now _)
      by_cases h0 : i = 0
      · refine evp (by omega) (evp (by omega) (evp (by omega) ?_))
        rw [decide_eq_true h0, Bool.true_or, if_pos rfl]
        exact fin true
      refine evn (by omega) ?_
      rw [decide_eq_false h0, Bool.false_or]
      by_cases h1 : 0 ≤ stepTo (i : Int) p 0
      rotate_left
      · rw [decide_eq_false (fun h => h1 h.1), if_neg (by simp)]; exact evn (by omega) zer
      refine evp (by omega) ?_
      by_cases h2 : stepTo (i : Int) p 0 < d
      · rw [decide_eq_true ⟨h1, h2⟩, if_pos rfl]; exact evp h2 (evp (by omega) (evp (by omega) (fin true)))
      · rw [decide_eq_false (fun h => h2 h.2), if_neg (by simp)]; exact evn h2 zer
  refine Ev.step (fun n => by rw [spec_WorkOk.j0]) (evn (by decide) ?_)
  exact key 0 (by omega)
theorem workImpl_eq (p : List S67) (d : Int) (q : List Int) : impl_WorkOk.f p d q = some (workOk p d q) := rfl
theorem workOk_plan {p : List S67} {d : Int} {q : List Int} (h : workOk p d q = true) : planOk p = true := by
  simp only [workOk, Bool.and_eq_true] at h; exact h.1
theorem workOk_done {p : List S67} {d : Int} {q : List Int} (h : workOk p d q = true) : 0 ≤ d ∧ d ≤ p.length := by
  simp only [workOk, Bool.and_eq_true, decide_eq_true_eq] at h; exact h.2.1
theorem workOk_len {p : List S67} {d : Int} {q : List Int} (h : workOk p d q = true) : q.length = 12 := by
  simp only [workOk, Bool.and_eq_true, decide_eq_true_eq] at h; exact h.2.2.1
end Go.Proofs.Ytlhlmjklajdejaa.Q


namespace Go.Proofs.Ytlhlmjklajdejaa.Q
set_option linter.unusedVariables false
set_option linter.unusedSimpArgs false
open Go.RowKit Go.Proofs.Ytlhlmjklajdejaa.P Go.Proofs.YtlhlmjklajdejaaW.PrintWords Go.Proofs.YtlhlmjklajdejaaW.PrintMore
def tuneAt (p : List S67) (q : List Int) (i : Nat) : Int := tunedPitch (q.getD (p.getD i z67).f0.toNat 0) (p.getD i z67).f2 (p.getD i z67).f3
theorem getS (p : List S67) (i : Nat) (hi : i < p.length) : p.getD i z67 = p[i] := by simp [List.getD_eq_getElem?_getD, hi]
theorem tunedBy_ev (p : List S67) (d : Int) (q : List Int) (i : Nat) (hp : planOk p = true) (hq : q.length = 12) (hi : i < p.length) : Ev (fun n => impl_tunedBy.f n p d q (i : Int)) (tuneAt p q i) := by
  obtain ⟨k0, k1, k2, k3, k4⟩ := planOk_in hp p[i] (List.getElem_mem hi)
  unfold impl_tunedBy.f tuneAt
  rw [getS p i hi, rdS p i hi]
  refine evp (by omega) (evp (by omega) (evp k0 (evp (by omega) (Ev.bind (tuned_impl _ _ _) (Ev.now _)))))
end Go.Proofs.Ytlhlmjklajdejaa.Q

