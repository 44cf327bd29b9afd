/- What functions of the program come to (f), that their calls come to just this (calls), and the plain laws over lists and numbers. No condition but those of the given row. -/
import Derived.Test.YtlhlmjklajdejaaC3
namespace Go.Proofs.Ytlhlmjklajdejaa.P
open Go.RowKit Go.Proofs.YtlhlmjklajdejaaW.PrintWords Go.Proofs.YtlhlmjklajdejaaW.PrintLast Go.Proofs.YtlhlmjklajdejaaW.PrintMore
attribute [local go_sem] max2_int min2_int max_two min_two max_three min_three max_four min_four
set_option linter.unusedVariables false
set_option linter.unusedSimpArgs false
def spec_WorkStep.j0 : Nat → Bool → List (S67) → Int → List Int → List (S67) → Int → List Int → Option ((List (S67)) × Int × List Int × Bool)
 | 0, _, _, _, _, _, _, _ => none
 | k + 1, x19, x645000, x645001, x645002, x654000, x654001, x654002 => if x19 = true then (some (x654000, x654001, x654002, false)) else (if 0 ≤ x645001 then (if x645001 < (x645000.length : Int) then (if 0 ≤ ((rd_T67 x645000 x645001).f0) then (if ((rd_T67 x645000 x645001).f0) < (x645002.length : Int) then ((spec_TunedPitch.f k (rd x645002 ((rd_T67 x645000 x645001).f0)) ((rd_T67 x645000 x645001).f2) ((rd_T67 x645000 x645001).f3)).bind fun t658 => (if t658 = 0 then (some (x654000, x654001, x654002, false)) else (if 0 ≤ ((rd_T67 x645000 x645001).f1) then (if ((rd_T67 x645000 x645001).f1) < (x654002.length : Int) then (some (x654000, wrap64 (x645001 + 1), (x654002.set (((rd_T67 x645000 x645001).f1) : Int).toNat t658), true)) else (none)) else (none)))) else (none)) else (none)) else (none)) else (none))
def spec_WorkStep.f (k : Nat) (l0_0 : List (S67)) (a0_1 : Int) (l0_2 : List Int) : Option ((List (S67)) × Int × List Int × Bool) := (spec_l36Copy.f l0_0 a0_1 l0_2).bind fun bt646 => ((spec_WorkOk.f k l0_0 a0_1 l0_2).bind fun t654 => (if t654 = true then (spec_WorkStep.j0 k (a0_1 == (l0_0.length : Int)) l0_0 a0_1 l0_2 bt646.1 bt646.2.1 bt646.2.2) else (spec_WorkStep.j0 k true l0_0 a0_1 l0_2 bt646.1 bt646.2.1 bt646.2.2)))
def spec_WorkStep.T5 : Bool × List (List Nat × List Nat) := (true, [([], []), ([0], [0]), ([], []), ([2], [2]), ([1, 3], [1, 3]), ([4], [4]), ([], []), ([6], [6]), ([], []), ([8], [8]), ([5, 7, 9], [5, 7, 9]), ([10, 10, 0, 1, 2, 3, 4, 5, 6, 7, 8, 9, 10], [10])])
def spec_WorkStep.B5 : List Nat := [0, 1, 0, 4, 15, 31, 0, 64, 0, 256, 1023, 2047]
theorem spec_WorkStep.tab5 : rtab .any (opsOf Try.f39 5) = spec_WorkStep.T5 := by kernel_rfl
theorem spec_WorkStep.bits5 : waitsOk spec_WorkStep.T5.2 spec_WorkStep.B5 = true := by kernel_rfl
set_option maxHeartbeats 8000000 in
set_option maxRecDepth 100000 in
theorem spec_WorkStep.calls (k : Nat) (A0_0 : Option Addr) (c0_0 : Nat) (l0_0 : List (S67)) (a0_1 : Int) (A0_2 : Option Addr) (c0_2 : Nat) (l0_2 : List Int) (r1 : List (S67)) (r2 : Int) (r3 : List Int) (r4 : Bool) (w : World) (hr0_0 : Kd.C k67 w A0_0 l0_0.length l0_0) (hc0_0 : l0_0.length ≤ c0_0) (hr0_2 : Kd.C (Kd.int .i64) w A0_2 l0_2.length l0_2) (hc0_2 : l0_2.length ≤ c0_2) (h : spec_WorkStep.f k l0_0 a0_1 l0_2 = some (r1, r2, r3, r4)) :
  Calls Try.prog 39 #[.agg #[.slice A0_0 l0_0.length c0_0, .int .i64 a0_1, .slice A0_2 l0_2.length c0_2]] w fun e w' => ∃ v0_ v2_ : Value, e = .returned (.tuple #[.agg #[v0_, .int .i64 r2, v2_], .bool r4]) ∧ Kd.R k67 67 w' w.heap.size (fun _ => True) v0_ r1 ∧ Kd.R (Kd.int .i64) 3 w' w.heap.size (fun _ => True) v2_ r3 ∧ Below w.heap.size w w' := by
 have hu30 := Try.underlying30
 have hu67 := Try.underlying67
 have HR0_0 := Aside0.mk hr0_0
 have HC0_0 := Aside0.mk hc0_0
 clear hr0_0 hc0_0
 have HR0_2 := Aside0.mk hr0_2
 have HC0_2 := Aside0.mk hc0_2
 clear hr0_2 hc0_2
 have HB := Aside0.mk (Below.refl w.heap.size w)
 have H : ((spec_l36Copy.f l0_0 a0_1 l0_2).bind fun bt646 => ((spec_WorkOk.f k l0_0 a0_1 l0_2).bind fun t654 => (if t654 = true then (spec_WorkStep.j0 k (a0_1 == (l0_0.length : Int)) l0_0 a0_1 l0_2 bt646.1 bt646.2.1 bt646.2.2) else (spec_WorkStep.j0 k true l0_0 a0_1 l0_2 bt646.1 bt646.2.1 bt646.2.2)))) = some (r1, r2, r3, r4) := h
 clear h
 replace H := Option.bind_eq_some_iff.mp H
 obtain ⟨⟨t646, t649, t650⟩, A20, H⟩ := H
 (try dsimp only at H)
 have A2 := Aside0.mk A20
 clear A20
 have HC3 := Aside0.mk H
 clear H
 go_enter Try.func39, Try.ntmps39
 go_upto_region 2 with (first | ((with_reducible refine gate_dst (N := 1) rfl ?_); (try (refine gate_guard (by rfl) ?_; dsimp only)); refine box_event ?hg (N := 1) ?hd (cs := #[.slice A0_0 l0_0.length c0_0, .int .i64 a0_1, .slice A0_2 l0_2.length c0_2]) (t := 30) ?hr ?_; (case hd => rfl); (case hg => rfl); (case hr => first | (go_simp; done) | (go_simp; rfl)); intro gb644 hg w4 hbox hb; have n0_ := Aside0.mk (below_step (oB HB) hb); have n1_ := Aside0.mk (hbox); have n2_ := Aside0.mk ((by rw [hg]; exact (below_size (oB HB)) : w.heap.size ≤ gb644)); have n3_ := Aside0.mk ((by rw [hg]; exact (below_size (oB HB)) : w.heap.size ≤ gb644)); clear HB; have HB := n0_; have BK644 := n1_; have GW644 := n2_; have GE644 := n3_; clear n0_ n1_ n2_ n3_; clear hb hbox hg) | ((with_reducible refine gate_dst (N := 2) rfl ?_); (try (refine gate_guard (by rfl) ?_; dsimp only)); refine box_event ?hg (N := 2) ?hd (cs := #[.slice none 0 0, .int .i64 0, .slice none 0 0]) (t := 30) ?hr ?_; (case hd => rfl); (case hg => rfl); (case hr => first | (go_simp; done) | (go_simp; rfl)); intro gb645 hg w5 hbox hb; have n0_ := Aside0.mk (blk_below (g := gb644) (o := .cells #[.slice A0_0 l0_0.length c0_0, .int .i64 a0_1, .slice A0_2 l0_2.length c0_2] 30 (0, 0)) (oK BK644) hb); have n1_ := Aside0.mk (below_step (oB HB) hb); have n2_ := Aside0.mk (hbox); have n3_ := Aside0.mk ((by rw [hg]; exact (below_size (oB HB)) : w.heap.size ≤ gb645)); have n4_ := Aside0.mk ((by rw [hg]; exact (below_size (oB HB)) : w.heap.size ≤ gb645)); have n5_ := Aside0.mk ((by rw [hg]; exact Nat.ne_of_lt (blk_lt (g := gb644) (o := .cells #[.slice A0_0 l0_0.length c0_0, .int .i64 a0_1, .slice A0_2 l0_2.length c0_2] 30 (0, 0)) (oK BK644)) : gb644 ≠ gb645)); have n6_ := Aside0.mk ((by rw [hg]; exact Nat.ne_of_gt (blk_lt (g := gb644) (o := .cells #[.slice A0_0 l0_0.length c0_0, .int .i64 a0_1, .slice A0_2 l0_2.length c0_2] 30 (0, 0)) (oK BK644)) : gb645 ≠ gb644)); clear BK644; clear HB; have BK644 := n0_; have HB := n1_; have BK645 := n2_; have GW645 := n3_; have GE645 := n4_; have NB644_645 := n5_; have NB645_644 := n6_; clear n0_ n1_ n2_ n3_ n4_ n5_ n6_; clear hb hbox hg; have hnb6 := NB644_645.out; have hnc6 := NB645_644.out; have hcz7_0 : w5.cell? ⟨gb644, 0, none⟩ = some (.slice A0_0 l0_0.length c0_0) := (blk_cell BK644.out 0).trans rfl; have hcz7_1 : w5.cell? ⟨gb644, 1, none⟩ = some (.int .i64 a0_1) := (blk_cell BK644.out 1).trans rfl; have hcz7_2 : w5.cell? ⟨gb644, 2, none⟩ = some (.slice A0_2 l0_2.length c0_2) := (blk_cell BK644.out 2).trans rfl; have hfz7_0 := blk_frozen BK644.out 0; have hfz7_1 := blk_frozen BK644.out 1; have hfz7_2 := blk_frozen BK644.out 2) | ((with_reducible refine gate_callee (f := 68) rfl ?_); refine goesL_ (some 8) rfl rfl Try.func68 (by kernel_rfl) rfl #[.agg #[.slice A0_0 l0_0.length c0_0, .int .i64 a0_1, .slice A0_2 l0_2.length c0_2]] rfl (by (try simp only [List.map_toArray, List.map_cons, List.map_nil]); first | done | rfl | (simp only [List.length_drop, List.length_take]; rfl)) ?_; (with_reducible refine (spec_l36Copy.calls _ _ l0_0 a0_1 _ _ l0_2 t646 t649 t650 _ ?side1 ?side2 ?side3 ?side4 A2.out).mono ?_); (case side1 => exact oc_ HR0_0.out); (case side2 => exact HC0_0.out); (case side3 => exact oc_ HR0_2.out); (case side4 => exact HC0_2.out); rintro e w8 ⟨v647, v651, rfl, ho0, ho1, hb⟩; refine ⟨_, rfl, ?_⟩; have n0_ := Aside0.mk (Kd.R_lower ho0 (below_size (oB HB))); have n1_ := Aside0.mk (Kd.R_lower ho1 (below_size (oB HB))); have n2_ := Aside0.mk (blk_below (g := gb644) (o := .cells #[.slice A0_0 l0_0.length c0_0, .int .i64 a0_1, .slice A0_2 l0_2.length c0_2] 30 (0, 0)) (oK BK644) hb); have n3_ := Aside0.mk (blk_below (g := gb645) (o := .cells #[.slice none 0 0, .int .i64 0, .slice none 0 0] 30 (0, 0)) (oK BK645) hb); have n4_ := Aside0.mk (below_step (oB HB) hb); clear BK644; clear BK645; clear HB; have HO648 := n0_; have HO652 := n1_; have BK644 := n2_; have BK645 := n3_; have HB := n4_; clear n0_ n1_ n2_ n3_ n4_; (try clear hb); (try clear hb2); (try clear hk); (try clear hi); (try clear ho0); (try clear ho1)) | ((with_reducible refine gate_dst (N := 4) rfl ?_); (try (refine gate_guard (by rfl) ?_; dsimp only)); refine box_event ?hg (N := 4) ?hd (cs := #[.slice none 0 0, .int .i64 0, .slice none 0 0]) (t := 30) ?hr ?_; (case hd => rfl); (case hg => rfl); (case hr => first | (go_simp; done) | (go_simp; rfl)); intro gb653 hg w9 hbox hb; have n0_ := Aside0.mk (Kd.R_below (oR HO648) hb); have n1_ := Aside0.mk (Kd.R_below (oR HO652) hb); have n2_ := Aside0.mk (blk_below (g := gb644) (o := .cells #[.slice A0_0 l0_0.length c0_0, .int .i64 a0_1, .slice A0_2 l0_2.length c0_2] 30 (0, 0)) (oK BK644) hb); have n3_ := Aside0.mk (blk_below (g := gb645) (o := .cells #[.slice none 0 0, .int .i64 0, .slice none 0 0] 30 (0, 0)) (oK BK645) hb); have n4_ := Aside0.mk (below_step (oB HB) hb); have n5_ := Aside0.mk (hbox); have n6_ := Aside0.mk ((by rw [hg]; exact (below_size (oB HB)) : w.heap.size ≤ gb653)); have n7_ := Aside0.mk ((by rw [hg]; exact (below_size (oB HB)) : w.heap.size ≤ gb653)); have n8_ := Aside0.mk ((by rw [hg]; exact Nat.ne_of_lt (blk_lt (g := gb644) (o := .cells #[.slice A0_0 l0_0.length c0_0, .int .i64 a0_1, .slice A0_2 l0_2.length c0_2] 30 (0, 0)) (oK BK644)) : gb644 ≠ gb653)); have n9_ := Aside0.mk ((by rw [hg]; exact Nat.ne_of_gt (blk_lt (g := gb644) (o := .cells #[.slice A0_0 l0_0.length c0_0, .int .i64 a0_1, .slice A0_2 l0_2.length c0_2] 30 (0, 0)) (oK BK644)) : gb653 ≠ gb644)); have n10_ := Aside0.mk ((by rw [hg]; exact Nat.ne_of_lt (blk_lt (g := gb645) (o := .cells #[.slice none 0 0, .int .i64 0, .slice none 0 0] 30 (0, 0)) (oK BK645)) : gb645 ≠ gb653)); have n11_ := Aside0.mk ((by rw [hg]; exact Nat.ne_of_gt (blk_lt (g := gb645) (o := .cells #[.slice none 0 0, .int .i64 0, .slice none 0 0] 30 (0, 0)) (oK BK645)) : gb653 ≠ gb645)); clear HO648; clear HO652; clear BK644; clear BK645; clear HB; have HO648 := n0_; have HO652 := n1_; have BK644 := n2_; have BK645 := n3_; have HB := n4_; have BK653 := n5_; have GW653 := n6_; have GE653 := n7_; have NB644_653 := n8_; have NB653_644 := n9_; have NB645_653 := n10_; have NB653_645 := n11_; clear n0_ n1_ n2_ n3_ n4_ n5_ n6_ n7_ n8_ n9_ n10_ n11_; clear hb hbox hg; obtain ⟨Ao10, co10, eo10⟩ := Kd.R_slice HO648.out; subst eo10; have hnb11 := NB653_644.out; have hnc11 := NB644_653.out; have hnb12 := NB653_645.out; have hnc12 := NB645_653.out; have hcz13_0 : w9.cell? ⟨gb653, 0, none⟩ = some (.slice none 0 0) := (blk_cell BK653.out 0).trans rfl; have hcz13_1 : w9.cell? ⟨gb653, 1, none⟩ = some (.int .i64 0) := (blk_cell BK653.out 1).trans rfl; have hcz13_2 : w9.cell? ⟨gb653, 2, none⟩ = some (.slice none 0 0) := (blk_cell BK653.out 2).trans rfl; have hfz13_0 := blk_frozen BK653.out 0; have hfz13_1 := blk_frozen BK653.out 1; have hfz13_2 := blk_frozen BK653.out 2; obtain ⟨Ao14, co14, eo14⟩ := Kd.R_slice HO652.out; subst eo14))
 (try simp only [Act.put, List.setIfInBounds_toArray, List.set_cons_zero, List.set_cons_succ])
 go_cut [19] (fun v19 wc => ∃ (kq : Nat) (x19_2 : Bool), v19 = .bool x19_2 ∧ Aside0 (spec_WorkStep.j0 kq x19_2 l0_0 a0_1 l0_2 t646 t649 t650 = some (r1, r2, r3, r4)) ∧ Aside0 (kq ≤ k) ∧ Aside0 (Kd.R k67 67 wc w.heap.size (fun _ => True) (.slice Ao10 t646.length co10) t646) ∧ Aside0 (Kd.R (Kd.int .i64) 3 wc w.heap.size (fun _ => True) (.slice Ao14 t650.length co14) t650) ∧ Aside0 (wc.heap[gb644]? = some (.cells #[(.slice A0_0 l0_0.length c0_0), .int .i64 a0_1, (.slice A0_2 l0_2.length c0_2)] 30 (0, 0))) ∧ Aside0 (wc.heap[gb645]? = some (.cells #[(.slice none 0 0), .int .i64 0, (.slice none 0 0)] 30 (0, 0))) ∧ Aside0 (wc.heap[gb653]? = some (.cells #[(.slice Ao10 t646.length co10), .int .i64 t649, (.slice Ao14 t650.length co14)] 30 (0, 0))) ∧ Aside0 (Below w.heap.size w wc))
 case first =>
  have H := HC3.out
  clear HC3
  replace H := Option.bind_eq_some_iff.mp H
  obtain ⟨t654, A150, H⟩ := H
  (try dsimp only at H)
  have A15 := Aside0.mk A150
  clear A150
  by_cases c16 : t654 = true
  ·subst c16
   rw [if_pos rfl] at H
   have H' := Aside0.mk H
   clear H
   have hnb17 := NB644_645.out
   have hnc17 := NB645_644.out
   have hnb18 := NB644_653.out
   have hnc18 := NB653_644.out
   have hcz19_0 : w9.cell? ⟨gb644, 0, none⟩ = some (.slice A0_0 l0_0.length c0_0) := (blk_cell BK644.out 0).trans rfl
   have hcz19_1 : w9.cell? ⟨gb644, 1, none⟩ = some (.int .i64 a0_1) := (blk_cell BK644.out 1).trans rfl
   have hcz19_2 : w9.cell? ⟨gb644, 2, none⟩ = some (.slice A0_2 l0_2.length c0_2) := (blk_cell BK644.out 2).trans rfl
   have hfz19_0 := blk_frozen BK644.out 0
   have hfz19_1 := blk_frozen BK644.out 1
   have hfz19_2 := blk_frozen BK644.out 2
   go_wp2_with (first | ((with_reducible refine gate_callee (f := 16) rfl ?_); refine goesL_ (some 10) rfl rfl Try.func16 (by kernel_rfl) rfl #[.agg #[.slice A0_0 l0_0.length c0_0, .int .i64 a0_1, .slice A0_2 l0_2.length c0_2]] rfl (by (try simp only [List.map_toArray, List.map_cons, List.map_nil]); first | done | rfl | (simp only [List.length_drop, List.length_take]; rfl)) ?_; (with_reducible refine (spec_WorkOk.calls k _ _ l0_0 a0_1 _ _ l0_2 true _ ?side1 ?side2 ?side3 ?side4 A15.out).mono ?_); (case side1 => exact Kd.C_below HR0_0.out (oB HB)); (case side2 => exact HC0_0.out); (case side3 => exact Kd.C_below HR0_2.out (oB HB)); (case side4 => exact HC0_2.out); rintro e w20 ⟨rfl, hb⟩; refine ⟨_, rfl, ?_⟩; have n0_ := Aside0.mk (Kd.R_below (by (with_reducible repeat (first | apply Kd.R_alloc | apply Kd.R_drewN | apply Kd.R_drew)); exact (Kd.R_mono (Kd.R_far (p := ⟨gb653, 2, none⟩) (Kd.R_far (p := ⟨gb653, 1, none⟩) (Kd.R_far (p := ⟨gb653, 0, none⟩) (Kd.R_types HO648.out BK653.out (by decide)) (fun _ hk => hk.2) (.slice Ao10 t646.length co10)) (fun _ hk => hk.2) (.int .i64 t649)) (fun _ hk => hk.2) (.slice Ao14 t650.length co14)) (fun _ h_ => h_.1))) hb); have n1_ := Aside0.mk (Kd.R_below (by (with_reducible repeat (first | apply Kd.R_alloc | apply Kd.R_drewN | apply Kd.R_drew)); exact (Kd.R_mono (Kd.R_far (p := ⟨gb653, 2, none⟩) (Kd.R_far (p := ⟨gb653, 1, none⟩) (Kd.R_far (p := ⟨gb653, 0, none⟩) (Kd.R_types HO652.out BK653.out (by decide)) (fun _ hk => hk.2) (.slice Ao10 t646.length co10)) (fun _ hk => hk.2) (.int .i64 t649)) (fun _ hk => hk.2) (.slice Ao14 t650.length co14)) (fun _ h_ => h_.1))) hb); have n2_ := Aside0.mk (blk_below (g := gb644) (o := .cells #[.slice A0_0 l0_0.length c0_0, .int .i64 a0_1, .slice A0_2 l0_2.length c0_2] 30 (0, 0)) (by (with_reducible repeat (first | refine blk_drewN ?_ _ | refine blk_drew ?_ | refine blk_alloc ?_ _)); refine blk_far ?_ NB644_653.out _; (with_reducible repeat (first | refine blk_drewN ?_ _ | refine blk_drew ?_ | refine blk_alloc ?_ _)); refine blk_far ?_ NB644_653.out _; (with_reducible repeat (first | refine blk_drewN ?_ _ | refine blk_drew ?_ | refine blk_alloc ?_ _)); refine blk_far ?_ NB644_653.out _; (with_reducible repeat (first | refine blk_drewN ?_ _ | refine blk_drew ?_ | refine blk_alloc ?_ _)); exact BK644.out) hb); have n3_ := Aside0.mk (blk_below (g := gb645) (o := .cells #[.slice none 0 0, .int .i64 0, .slice none 0 0] 30 (0, 0)) (by (with_reducible repeat (first | refine blk_drewN ?_ _ | refine blk_drew ?_ | refine blk_alloc ?_ _)); refine blk_far ?_ NB645_653.out _; (with_reducible repeat (first | refine blk_drewN ?_ _ | refine blk_drew ?_ | refine blk_alloc ?_ _)); refine blk_far ?_ NB645_653.out _; (with_reducible repeat (first | refine blk_drewN ?_ _ | refine blk_drew ?_ | refine blk_alloc ?_ _)); refine blk_far ?_ NB645_653.out _; (with_reducible repeat (first | refine blk_drewN ?_ _ | refine blk_drew ?_ | refine blk_alloc ?_ _)); exact BK645.out) hb); have n4_ := Aside0.mk (blk_below (g := gb653) (o := .cells #[.slice Ao10 t646.length co10, .int .i64 t649, .slice Ao14 t650.length co14] 30 (0, 0)) (by (with_reducible repeat (first | refine blk_drewN ?_ _ | refine blk_drew ?_ | refine blk_alloc ?_ _)); refine blk_put (cs := #[.slice Ao10 t646.length co10, .int .i64 t649, .slice none 0 0]) ?_ 2 _ rfl; (with_reducible repeat (first | refine blk_drewN ?_ _ | refine blk_drew ?_ | refine blk_alloc ?_ _)); refine blk_put (cs := #[.slice Ao10 t646.length co10, .int .i64 0, .slice none 0 0]) ?_ 1 _ rfl; (with_reducible repeat (first | refine blk_drewN ?_ _ | refine blk_drew ?_ | refine blk_alloc ?_ _)); refine blk_put (cs := #[.slice none 0 0, .int .i64 0, .slice none 0 0]) ?_ 0 _ rfl; (with_reducible repeat (first | refine blk_drewN ?_ _ | refine blk_drew ?_ | refine blk_alloc ?_ _)); exact BK653.out) hb); have n5_ := Aside0.mk (below_step (oB HB) hb); clear HO648; clear HO652; clear BK644; clear BK645; clear BK653; clear HB; have HO648 := n0_; have HO652 := n1_; have BK644 := n2_; have BK645 := n3_; have BK653 := n4_; have HB := n5_; clear n0_ n1_ n2_ n3_ n4_ n5_; (try clear hb); (try clear hb2); (try clear hk); (try clear hi); have hcz21_0 : w20.cell? ⟨gb644, 0, none⟩ = some (.slice A0_0 l0_0.length c0_0) := (blk_cell BK644.out 0).trans rfl; have hcz21_1 : w20.cell? ⟨gb644, 1, none⟩ = some (.int .i64 a0_1) := (blk_cell BK644.out 1).trans rfl; have hcz21_2 : w20.cell? ⟨gb644, 2, none⟩ = some (.slice A0_2 l0_2.length c0_2) := (blk_cell BK644.out 2).trans rfl; have hfz21_0 := blk_frozen BK644.out 0; have hfz21_1 := blk_frozen BK644.out 1; have hfz21_2 := blk_frozen BK644.out 2))
   go_meet
   case rel => exact ⟨_, ((a0_1 == (l0_0.length : Int))), (by first | rfl | (simp; done) | (simp [*]; done)), H', ⟨by first | omega | exact Nat.le_refl _⟩, ⟨oR HO648⟩, ⟨oR HO652⟩, ⟨oK BK644⟩, ⟨oK BK645⟩, ⟨oK BK653⟩, ⟨oB HB⟩⟩
  ·replace c16 := Bool.eq_false_iff.mpr c16
   subst c16
   rw [if_neg (show ¬ (false = true) by decide)] at H
   have H' := Aside0.mk H
   clear H
   have hnb22 := NB644_645.out
   have hnc22 := NB645_644.out
   have hnb23 := NB644_653.out
   have hnc23 := NB653_644.out
   have hcz24_0 : w9.cell? ⟨gb644, 0, none⟩ = some (.slice A0_0 l0_0.length c0_0) := (blk_cell BK644.out 0).trans rfl
   have hcz24_1 : w9.cell? ⟨gb644, 1, none⟩ = some (.int .i64 a0_1) := (blk_cell BK644.out 1).trans rfl
   have hcz24_2 : w9.cell? ⟨gb644, 2, none⟩ = some (.slice A0_2 l0_2.length c0_2) := (blk_cell BK644.out 2).trans rfl
   have hfz24_0 := blk_frozen BK644.out 0
   have hfz24_1 := blk_frozen BK644.out 1
   have hfz24_2 := blk_frozen BK644.out 2
   go_wp2_with (first | ((with_reducible refine gate_callee (f := 16) rfl ?_); refine goesL_ (some 10) rfl rfl Try.func16 (by kernel_rfl) rfl #[.agg #[.slice A0_0 l0_0.length c0_0, .int .i64 a0_1, .slice A0_2 l0_2.length c0_2]] rfl (by (try simp only [List.map_toArray, List.map_cons, List.map_nil]); first | done | rfl | (simp only [List.length_drop, List.length_take]; rfl)) ?_; (with_reducible refine (spec_WorkOk.calls k _ _ l0_0 a0_1 _ _ l0_2 false _ ?side1 ?side2 ?side3 ?side4 A15.out).mono ?_); (case side1 => exact Kd.C_below HR0_0.out (oB HB)); (case side2 => exact HC0_0.out); (case side3 => exact Kd.C_below HR0_2.out (oB HB)); (case side4 => exact HC0_2.out); rintro e w25 ⟨rfl, hb⟩; refine ⟨_, rfl, ?_⟩; have n0_ := Aside0.mk (Kd.R_below (by (with_reducible repeat (first | apply Kd.R_alloc | apply Kd.R_drewN | apply Kd.R_drew)); exact (Kd.R_mono (Kd.R_far (p := ⟨gb653, 2, none⟩) (Kd.R_far (p := ⟨gb653, 1, none⟩) (Kd.R_far (p := ⟨gb653, 0, none⟩) (Kd.R_types HO648.out BK653.out (by decide)) (fun _ hk => hk.2) (.slice Ao10 t646.length co10)) (fun _ hk => hk.2) (.int .i64 t649)) (fun _ hk => hk.2) (.slice Ao14 t650.length co14)) (fun _ h_ => h_.1))) hb); have n1_ := Aside0.mk (Kd.R_below (by (with_reducible repeat (first | apply Kd.R_alloc | apply Kd.R_drewN | apply Kd.R_drew)); exact (Kd.R_mono (Kd.R_far (p := ⟨gb653, 2, none⟩) (Kd.R_far (p := ⟨gb653, 1, none⟩) (Kd.R_far (p := ⟨gb653, 0, none⟩) (Kd.R_types HO652.out BK653.out (by decide)) (fun _ hk => hk.2) (.slice Ao10 t646.length co10)) (fun _ hk => hk.2) (.int .i64 t649)) (fun _ hk => hk.2) (.slice Ao14 t650.length co14)) (fun _ h_ => h_.1))) hb); have n2_ := Aside0.mk (blk_below (g := gb644) (o := .cells #[.slice A0_0 l0_0.length c0_0, .int .i64 a0_1, .slice A0_2 l0_2.length c0_2] 30 (0, 0)) (by (with_reducible repeat (first | refine blk_drewN ?_ _ | refine blk_drew ?_ | refine blk_alloc ?_ _)); refine blk_far ?_ NB644_653.out _; (with_reducible repeat (first | refine blk_drewN ?_ _ | refine blk_drew ?_ | refine blk_alloc ?_ _)); refine blk_far ?_ NB644_653.out _; (with_reducible repeat (first | refine blk_drewN ?_ _ | refine blk_drew ?_ | refine blk_alloc ?_ _)); refine blk_far ?_ NB644_653.out _; (with_reducible repeat (first | refine blk_drewN ?_ _ | refine blk_drew ?_ | refine blk_alloc ?_ _)); exact BK644.out) hb); have n3_ := Aside0.mk (blk_below (g := gb645) (o := .cells #[.slice none 0 0, .int .i64 0, .slice none 0 0] 30 (0, 0)) (by (with_reducible repeat (first | refine blk_drewN ?_ _ | refine blk_drew ?_ | refine blk_alloc ?_ _)); refine blk_far ?_ NB645_653.out _; (with_reducible repeat (first | refine blk_drewN ?_ _ | refine blk_drew ?_ | refine blk_alloc ?_ _)); refine blk_far ?_ NB645_653.out _; (with_reducible repeat (first | refine blk_drewN ?_ _ | refine blk_drew ?_ | refine blk_alloc ?_ _)); refine blk_far ?_ NB645_653.out _; (with_reducible repeat (first | refine blk_drewN ?_ _ | refine blk_drew ?_ | refine blk_alloc ?_ _)); exact BK645.out) hb); have n4_ := Aside0.mk (blk_below (g := gb653) (o := .cells #[.slice Ao10 t646.length co10, .int .i64 t649, .slice Ao14 t650.length co14] 30 (0, 0)) (by (with_reducible repeat (first | refine blk_drewN ?_ _ | refine blk_drew ?_ | refine blk_alloc ?_ _)); refine blk_put (cs := #[.slice Ao10 t646.length co10, .int .i64 t649, .slice none 0 0]) ?_ 2 _ rfl; (with_reducible repeat (first | refine blk_drewN ?_ _ | refine blk_drew ?_ | refine blk_alloc ?_ _)); refine blk_put (cs := #[.slice Ao10 t646.length co10, .int .i64 0, .slice none 0 0]) ?_ 1 _ rfl; (with_reducible repeat (first | refine blk_drewN ?_ _ | refine blk_drew ?_ | refine blk_alloc ?_ _)); refine blk_put (cs := #[.slice none 0 0, .int .i64 0, .slice none 0 0]) ?_ 0 _ rfl; (with_reducible repeat (first | refine blk_drewN ?_ _ | refine blk_drew ?_ | refine blk_alloc ?_ _)); exact BK653.out) hb); have n5_ := Aside0.mk (below_step (oB HB) hb); clear HO648; clear HO652; clear BK644; clear BK645; clear BK653; clear HB; have HO648 := n0_; have HO652 := n1_; have BK644 := n2_; have BK645 := n3_; have BK653 := n4_; have HB := n5_; clear n0_ n1_ n2_ n3_ n4_ n5_; (try clear hb); (try clear hb2); (try clear hk); (try clear hi)))
   go_meet
   case rel => exact ⟨_, (true), (by first | rfl | (simp; done) | (simp [*]; done)), H', ⟨by first | omega | exact Nat.le_refl _⟩, ⟨oR HO648⟩, ⟨oR HO652⟩, ⟨oK BK644⟩, ⟨oK BK645⟩, ⟨oK BK653⟩, ⟨oB HB⟩⟩
 case rest =>
  clear HC3
  try clear c1
  try clear c2
  try clear p2
  try clear c3
  try clear c6
  try clear c11
  try clear c12
  try clear c16
  try clear c17
  try clear c18
  try clear c22
  try clear c23
  try clear hcz13_0
  try clear hcz13_1
  try clear hcz13_2
  try clear hcz19_0
  try clear hcz19_1
  try clear hcz19_2
  try clear hcz21_0
  try clear hcz21_1
  try clear hcz21_2
  try clear hcz24_0
  try clear hcz24_1
  try clear hcz24_2
  try clear hcz7_0
  try clear hcz7_1
  try clear hcz7_2
  try clear hfz13_0
  try clear hfz13_1
  try clear hfz13_2
  try clear hfz19_0
  try clear hfz19_1
  try clear hfz19_2
  try clear hfz21_0
  try clear hfz21_1
  try clear hfz21_2
  try clear hfz24_0
  try clear hfz24_1
  try clear hfz24_2
  try clear hfz7_0
  try clear hfz7_1
  try clear hfz7_2
  obtain ⟨kq, x19_2, rfl, HA, HJ2, HO_654000, HO_654002, BK644, BK645, BK653, HB⟩ := hcut
  cases kq with
  | zero => exact absurd HA.out (by simp [spec_WorkStep.j0])
  | succ kj2 =>
   have H := HA.out
   clear HA
   simp only [spec_WorkStep.j0] at H
   by_cases c26 : x19_2 = true
   ·subst c26
    rw [if_pos rfl] at H
    simp only [Option.some.injEq, Prod.mk.injEq] at H
    obtain ⟨rfl, rfl, rfl, rfl⟩ := H
    have hnb27 := NB653_644.out
    have hnc27 := NB644_653.out
    have hnb28 := NB653_645.out
    have hnc28 := NB645_653.out
    have hcz29_0 : wc.cell? ⟨gb653, 0, none⟩ = some (.slice Ao10 t646.length co10) := (blk_cell BK653.out 0).trans rfl
    have hcz29_1 : wc.cell? ⟨gb653, 1, none⟩ = some (.int .i64 t649) := (blk_cell BK653.out 1).trans rfl
    have hcz29_2 : wc.cell? ⟨gb653, 2, none⟩ = some (.slice Ao14 t650.length co14) := (blk_cell BK653.out 2).trans rfl
    have hfz29_0 := blk_frozen BK653.out 0
    have hfz29_1 := blk_frozen BK653.out 1
    have hfz29_2 := blk_frozen BK653.out 2
    have hnb30 := NB645_644.out
    have hnc30 := NB644_645.out
    have hcz31_0 : wc.cell? ⟨gb645, 0, none⟩ = some (.slice none 0 0) := (blk_cell BK645.out 0).trans rfl
    have hcz31_1 : wc.cell? ⟨gb645, 1, none⟩ = some (.int .i64 0) := (blk_cell BK645.out 1).trans rfl
    have hcz31_2 : wc.cell? ⟨gb645, 2, none⟩ = some (.slice none 0 0) := (blk_cell BK645.out 2).trans rfl
    have hfz31_0 := blk_frozen BK645.out 0
    have hfz31_1 := blk_frozen BK645.out 1
    have hfz31_2 := blk_frozen BK645.out 2
    go_wp2
    refine bodyPost_ret (results_ct rfl _ _ gb645 30 #[.slice Ao10 t646.length co10, .int .i64 t649, .slice Ao14 t650.length co14] (0, 0) _ rfl (by (with_reducible repeat (first | refine blk_drewN ?_ _ | refine blk_drew ?_ | refine blk_alloc ?_ _)); refine blk_put (cs := #[.slice Ao10 t646.length co10, .int .i64 t649, .slice none 0 0]) ?_ 2 _ rfl; (with_reducible repeat (first | refine blk_drewN ?_ _ | refine blk_drew ?_ | refine blk_alloc ?_ _)); refine blk_put (cs := #[.slice Ao10 t646.length co10, .int .i64 0, .slice none 0 0]) ?_ 1 _ rfl; (with_reducible repeat (first | refine blk_drewN ?_ _ | refine blk_drew ?_ | refine blk_alloc ?_ _)); refine blk_put (cs := #[.slice none 0 0, .int .i64 0, .slice none 0 0]) ?_ 0 _ rfl; (with_reducible repeat (first | refine blk_drewN ?_ _ | refine blk_drew ?_ | refine blk_alloc ?_ _)); exact BK645.out) Try.underlying30 rfl (by kernel_rfl)) rfl ?_
    exact ⟨_, _, by first | rfl | (simp [errW_none, errW_some] <;> rfl) | (simp [*, errW_none, errW_some] <;> rfl), by (with_reducible repeat (first | apply Kd.R_alloc | apply Kd.R_drewN | apply Kd.R_drew)); exact Kd.R_mono (Kd.R_far (p := ⟨gb645, 2, none⟩) (Kd.R_far (p := ⟨gb645, 1, none⟩) (Kd.R_far (p := ⟨gb645, 0, none⟩) (Kd.R_types HO_654000.out BK645.out (by decide)) (fun _ hk => hk.2) (.slice Ao10 t646.length co10)) (fun _ hk => hk.2) (.int .i64 t649)) (fun _ hk => hk.2) (.slice Ao14 t650.length co14)) (fun _ hk => trivial), by (with_reducible repeat (first | apply Kd.R_alloc | apply Kd.R_drewN | apply Kd.R_drew)); exact Kd.R_mono (Kd.R_far (p := ⟨gb645, 2, none⟩) (Kd.R_far (p := ⟨gb645, 1, none⟩) (Kd.R_far (p := ⟨gb645, 0, none⟩) (Kd.R_types HO_654002.out BK645.out (by decide)) (fun _ hk => hk.2) (.slice Ao10 t646.length co10)) (fun _ hk => hk.2) (.int .i64 t649)) (fun _ hk => hk.2) (.slice Ao14 t650.length co14)) (fun _ hk => trivial), oB HB⟩
   ·replace c26 := Bool.eq_false_iff.mpr c26
    subst c26
    rw [if_neg (show ¬ (false = true) by decide)] at H
    by_cases c32 : 0 ≤ a0_1
    ·rw [if_pos c32] at H
     have c32b0 : decide (0 ≤ a0_1) = true := decide_eq_true c32
     clear c32
     by_cases c33 : a0_1 < (l0_0.length : Int)
     ·rw [if_pos c33] at H
      have c33b0 : decide (a0_1 < (l0_0.length : Int)) = true := decide_eq_true c33
      clear c33
      by_cases c34 : 0 ≤ ((rd_T67 l0_0 a0_1).f0)
      ·rw [if_pos c34] at H
       have c34b0 : decide (0 ≤ ((rd_T67 l0_0 a0_1).f0)) = true := decide_eq_true c34
       clear c34
       by_cases c35 : ((rd_T67 l0_0 a0_1).f0) < (l0_2.length : Int)
       ·rw [if_pos c35] at H
        have c35b0 : decide (((rd_T67 l0_0 a0_1).f0) < (l0_2.length : Int)) = true := decide_eq_true c35
        clear c35
        replace H := Option.bind_eq_some_iff.mp H
        obtain ⟨t658, A360, H⟩ := H
        (try dsimp only at H)
        have A36 := Aside0.mk A360
        clear A360
        by_cases c37 : t658 = 0
        ·rw [if_pos c37] at H
         have c37b0 : (t658 == 0) = true := beq_iff_eq.mpr c37
         have c37b1 : (t658 != 0) = false := bne_eq_false_iff_eq.mpr c37
         clear c37
         simp only [Option.some.injEq, Prod.mk.injEq] at H
         obtain ⟨rfl, rfl, rfl, rfl⟩ := H
         have hnb38 := NB644_645.out
         have hnc38 := NB645_644.out
         have hnb39 := NB644_653.out
         have hnc39 := NB653_644.out
         have hcz40_0 : wc.cell? ⟨gb644, 0, none⟩ = some (.slice A0_0 l0_0.length c0_0) := (blk_cell BK644.out 0).trans rfl
         have hcz40_1 : wc.cell? ⟨gb644, 1, none⟩ = some (.int .i64 a0_1) := (blk_cell BK644.out 1).trans rfl
         have hcz40_2 : wc.cell? ⟨gb644, 2, none⟩ = some (.slice A0_2 l0_2.length c0_2) := (blk_cell BK644.out 2).trans rfl
         have hfz40_0 := blk_frozen BK644.out 0
         have hfz40_1 := blk_frozen BK644.out 1
         have hfz40_2 := blk_frozen BK644.out 2
         have p655 : 0 ≤ (a0_1 : Int) := of_decide_eq_true (by first | (with_reducible assumption) | assumption)
         have q655 : a0_1 < (l0_0.length : Int) := of_decide_eq_true (by first | (with_reducible assumption) | assumption)
         obtain ⟨ad655, e655, hx655_0, hx655_1, hx655_2, hx655_3⟩ := at_T67 HR0_0.out a0_1 p655 q655
         cases e655
         replace hx655_0 := (HB.out.cell (World.block_lt_of_cell? w _ hx655_0)).trans hx655_0
         replace hx655_1 := (HB.out.cell (World.block_lt_of_cell? w _ hx655_1)).trans hx655_1
         replace hx655_2 := (HB.out.cell (World.block_lt_of_cell? w _ hx655_2)).trans hx655_2
         replace hx655_3 := (HB.out.cell (World.block_lt_of_cell? w _ hx655_3)).trans hx655_3
         replace p655 := eq_true p655
         replace q655 := eq_true q655
         try go_wp2_with (first | ((with_reducible refine gate_dst (N := 5) rfl ?_); (try (refine gate_guard (by rfl) ?_; dsimp only)); refine box_event ?hg (N := 5) ?hd (cs := #[.int .i64 0, .int .i64 0, .int .i64 0, .int .i64 0]) (t := 67) ?hr ?_; (case hd => rfl); (case hg => rfl); (case hr => first | (go_simp; done) | (go_simp; rfl)); intro gb656 hg w41 hbox hb; have n0_ := Aside0.mk (Kd.R_below (Kd.R_elderB (oR HO_654000) gb656 (Nat.le_of_eq hg.symm)) hb); have n1_ := Aside0.mk (Kd.R_below (oR HO_654002) hb); have n2_ := Aside0.mk (blk_below (g := gb644) (o := .cells #[.slice (some ad655) l0_0.length c0_0, .int .i64 a0_1, .slice A0_2 l0_2.length c0_2] 30 (0, 0)) (oK BK644) hb); have n3_ := Aside0.mk (blk_below (g := gb645) (o := .cells #[.slice none 0 0, .int .i64 0, .slice none 0 0] 30 (0, 0)) (oK BK645) hb); have n4_ := Aside0.mk (blk_below (g := gb653) (o := .cells #[.slice Ao10 t646.length co10, .int .i64 t649, .slice Ao14 t650.length co14] 30 (0, 0)) (oK BK653) hb); have n5_ := Aside0.mk (below_step (oB HB) hb); have n6_ := Aside0.mk (hbox); have n7_ := Aside0.mk ((by rw [hg]; exact (below_size (oB HB)) : w.heap.size ≤ gb656)); have n8_ := Aside0.mk ((by rw [hg]; exact (below_size (oB HB)) : w.heap.size ≤ gb656)); have n9_ := Aside0.mk ((by rw [hg]; exact Nat.ne_of_lt (blk_lt (g := gb644) (o := .cells #[.slice (some ad655) l0_0.length c0_0, .int .i64 a0_1, .slice A0_2 l0_2.length c0_2] 30 (0, 0)) (oK BK644)) : gb644 ≠ gb656)); have n10_ := Aside0.mk ((by rw [hg]; exact Nat.ne_of_gt (blk_lt (g := gb644) (o := .cells #[.slice (some ad655) l0_0.length c0_0, .int .i64 a0_1, .slice A0_2 l0_2.length c0_2] 30 (0, 0)) (oK BK644)) : gb656 ≠ gb644)); have n11_ := Aside0.mk ((by rw [hg]; exact Nat.ne_of_lt (blk_lt (g := gb645) (o := .cells #[.slice none 0 0, .int .i64 0, .slice none 0 0] 30 (0, 0)) (oK BK645)) : gb645 ≠ gb656)); have n12_ := Aside0.mk ((by rw [hg]; exact Nat.ne_of_gt (blk_lt (g := gb645) (o := .cells #[.slice none 0 0, .int .i64 0, .slice none 0 0] 30 (0, 0)) (oK BK645)) : gb656 ≠ gb645)); have n13_ := Aside0.mk ((by rw [hg]; exact Nat.ne_of_lt (blk_lt (g := gb653) (o := .cells #[.slice Ao10 t646.length co10, .int .i64 t649, .slice Ao14 t650.length co14] 30 (0, 0)) (oK BK653)) : gb653 ≠ gb656)); have n14_ := Aside0.mk ((by rw [hg]; exact Nat.ne_of_gt (blk_lt (g := gb653) (o := .cells #[.slice Ao10 t646.length co10, .int .i64 t649, .slice Ao14 t650.length co14] 30 (0, 0)) (oK BK653)) : gb656 ≠ gb653)); clear HO_654000; clear HO_654002; clear BK644; clear BK645; clear BK653; clear HB; have HO_654000 := n0_; have HO_654002 := n1_; have BK644 := n2_; have BK645 := n3_; have BK653 := n4_; have HB := n5_; have BK656 := n6_; have GW656 := n7_; have GE656 := n8_; have NB644_656 := n9_; have NB656_644 := n10_; have NB645_656 := n11_; have NB656_645 := n12_; have NB653_656 := n13_; have NB656_653 := n14_; clear n0_ n1_ n2_ n3_ n4_ n5_ n6_ n7_ n8_ n9_ n10_ n11_ n12_ n13_ n14_; clear hb hbox hg; have hnb42 := NB656_644.out; have hnc42 := NB644_656.out; have hnb43 := NB656_645.out; have hnc43 := NB645_656.out; have hnb44 := NB656_653.out; have hnc44 := NB653_656.out; have hcz45_0 : w41.cell? ⟨gb656, 0, none⟩ = some (.int .i64 0) := (blk_cell BK656.out 0).trans rfl; have hcz45_1 : w41.cell? ⟨gb656, 1, none⟩ = some (.int .i64 0) := (blk_cell BK656.out 1).trans rfl; have hcz45_2 : w41.cell? ⟨gb656, 2, none⟩ = some (.int .i64 0) := (blk_cell BK656.out 2).trans rfl; have hcz45_3 : w41.cell? ⟨gb656, 3, none⟩ = some (.int .i64 0) := (blk_cell BK656.out 3).trans rfl; have hfz45_0 := blk_frozen BK656.out 0; have hfz45_1 := blk_frozen BK656.out 1; have hfz45_2 := blk_frozen BK656.out 2; have hfz45_3 := blk_frozen BK656.out 3))
         have n0_ : Aside0 (Kd.R k67 67 ((((w41.setCell ⟨gb656, 0, none⟩ (.int .i64 ((rd_T67 l0_0 a0_1).f0))).setCell ⟨gb656, 1, none⟩ (.int .i64 ((rd_T67 l0_0 a0_1).f1))).setCell ⟨gb656, 2, none⟩ (.int .i64 ((rd_T67 l0_0 a0_1).f2))).setCell ⟨gb656, 3, none⟩ (.int .i64 ((rd_T67 l0_0 a0_1).f3))) w.heap.size (fun k_ => k_ ≠ gb656) (.slice Ao10 t646.length co10) t646) := ⟨by (with_reducible repeat (first | apply Kd.R_alloc | apply Kd.R_drewN | apply Kd.R_drew)); exact Kd.R_mono (Kd.R_far (p := ⟨gb656, 3, none⟩) (Kd.R_far (p := ⟨gb656, 2, none⟩) (Kd.R_far (p := ⟨gb656, 1, none⟩) (Kd.R_far (p := ⟨gb656, 0, none⟩) (Kd.R_mono HO_654000.out (fun k_ hk => (⟨hk, hk.2⟩ : _ ∧ k_ ≠ gb656))) (fun _ hk => hk.2) (.int .i64 ((rd_T67 l0_0 a0_1).f0))) (fun _ hk => hk.2) (.int .i64 ((rd_T67 l0_0 a0_1).f1))) (fun _ hk => hk.2) (.int .i64 ((rd_T67 l0_0 a0_1).f2))) (fun _ hk => hk.2) (.int .i64 ((rd_T67 l0_0 a0_1).f3))) (fun _ hk => hk.1.2)⟩
         have n1_ : Aside0 (Kd.R (Kd.int .i64) 3 ((((w41.setCell ⟨gb656, 0, none⟩ (.int .i64 ((rd_T67 l0_0 a0_1).f0))).setCell ⟨gb656, 1, none⟩ (.int .i64 ((rd_T67 l0_0 a0_1).f1))).setCell ⟨gb656, 2, none⟩ (.int .i64 ((rd_T67 l0_0 a0_1).f2))).setCell ⟨gb656, 3, none⟩ (.int .i64 ((rd_T67 l0_0 a0_1).f3))) w.heap.size (fun _ => True) (.slice Ao14 t650.length co14) t650) := ⟨by (with_reducible repeat (first | apply Kd.R_alloc | apply Kd.R_drewN | apply Kd.R_drew)); exact Kd.R_mono (Kd.R_far (p := ⟨gb656, 3, none⟩) (Kd.R_far (p := ⟨gb656, 2, none⟩) (Kd.R_far (p := ⟨gb656, 1, none⟩) (Kd.R_far (p := ⟨gb656, 0, none⟩) (Kd.R_types HO_654002.out BK656.out (by decide)) (fun _ hk => hk.2) (.int .i64 ((rd_T67 l0_0 a0_1).f0))) (fun _ hk => hk.2) (.int .i64 ((rd_T67 l0_0 a0_1).f1))) (fun _ hk => hk.2) (.int .i64 ((rd_T67 l0_0 a0_1).f2))) (fun _ hk => hk.2) (.int .i64 ((rd_T67 l0_0 a0_1).f3))) (fun _ hk => trivial)⟩
         have n2_ : Aside0 (((((w41.setCell ⟨gb656, 0, none⟩ (.int .i64 ((rd_T67 l0_0 a0_1).f0))).setCell ⟨gb656, 1, none⟩ (.int .i64 ((rd_T67 l0_0 a0_1).f1))).setCell ⟨gb656, 2, none⟩ (.int .i64 ((rd_T67 l0_0 a0_1).f2))).setCell ⟨gb656, 3, none⟩ (.int .i64 ((rd_T67 l0_0 a0_1).f3))).heap[gb644]? = some (.cells #[.slice (some ad655) l0_0.length c0_0, .int .i64 a0_1, .slice A0_2 l0_2.length c0_2] 30 (0, 0))) := ⟨by (with_reducible repeat (first | refine blk_drewN ?_ _ | refine blk_drew ?_ | refine blk_alloc ?_ _)); refine blk_far ?_ NB644_656.out _; (with_reducible repeat (first | refine blk_drewN ?_ _ | refine blk_drew ?_ | refine blk_alloc ?_ _)); refine blk_far ?_ NB644_656.out _; (with_reducible repeat (first | refine blk_drewN ?_ _ | refine blk_drew ?_ | refine blk_alloc ?_ _)); refine blk_far ?_ NB644_656.out _; (with_reducible repeat (first | refine blk_drewN ?_ _ | refine blk_drew ?_ | refine blk_alloc ?_ _)); refine blk_far ?_ NB644_656.out _; (with_reducible repeat (first | refine blk_drewN ?_ _ | refine blk_drew ?_ | refine blk_alloc ?_ _)); exact BK644.out⟩
         have n3_ : Aside0 (((((w41.setCell ⟨gb656, 0, none⟩ (.int .i64 ((rd_T67 l0_0 a0_1).f0))).setCell ⟨gb656, 1, none⟩ (.int .i64 ((rd_T67 l0_0 a0_1).f1))).setCell ⟨gb656, 2, none⟩ (.int .i64 ((rd_T67 l0_0 a0_1).f2))).setCell ⟨gb656, 3, none⟩ (.int .i64 ((rd_T67 l0_0 a0_1).f3))).heap[gb645]? = some (.cells #[.slice none 0 0, .int .i64 0, .slice none 0 0] 30 (0, 0))) := ⟨by (with_reducible repeat (first | refine blk_drewN ?_ _ | refine blk_drew ?_ | refine blk_alloc ?_ _)); refine blk_far ?_ NB645_656.out _; (with_reducible repeat (first | refine blk_drewN ?_ _ | refine blk_drew ?_ | refine blk_alloc ?_ _)); refine blk_far ?_ NB645_656.out _; (with_reducible repeat (first | refine blk_drewN ?_ _ | refine blk_drew ?_ | refine blk_alloc ?_ _)); refine blk_far ?_ NB645_656.out _; (with_reducible repeat (first | refine blk_drewN ?_ _ | refine blk_drew ?_ | refine blk_alloc ?_ _)); refine blk_far ?_ NB645_656.out _; (with_reducible repeat (first | refine blk_drewN ?_ _ | refine blk_drew ?_ | refine blk_alloc ?_ _)); exact BK645.out⟩
         have n4_ : Aside0 (((((w41.setCell ⟨gb656, 0, none⟩ (.int .i64 ((rd_T67 l0_0 a0_1).f0))).setCell ⟨gb656, 1, none⟩ (.int .i64 ((rd_T67 l0_0 a0_1).f1))).setCell ⟨gb656, 2, none⟩ (.int .i64 ((rd_T67 l0_0 a0_1).f2))).setCell ⟨gb656, 3, none⟩ (.int .i64 ((rd_T67 l0_0 a0_1).f3))).heap[gb653]? = some (.cells #[.slice Ao10 t646.length co10, .int .i64 t649, .slice Ao14 t650.length co14] 30 (0, 0))) := ⟨by (with_reducible repeat (first | refine blk_drewN ?_ _ | refine blk_drew ?_ | refine blk_alloc ?_ _)); refine blk_far ?_ NB653_656.out _; (with_reducible repeat (first | refine blk_drewN ?_ _ | refine blk_drew ?_ | refine blk_alloc ?_ _)); refine blk_far ?_ NB653_656.out _; (with_reducible repeat (first | refine blk_drewN ?_ _ | refine blk_drew ?_ | refine blk_alloc ?_ _)); refine blk_far ?_ NB653_656.out _; (with_reducible repeat (first | refine blk_drewN ?_ _ | refine blk_drew ?_ | refine blk_alloc ?_ _)); refine blk_far ?_ NB653_656.out _; (with_reducible repeat (first | refine blk_drewN ?_ _ | refine blk_drew ?_ | refine blk_alloc ?_ _)); exact BK653.out⟩
         have n5_ : Aside0 (((((w41.setCell ⟨gb656, 0, none⟩ (.int .i64 ((rd_T67 l0_0 a0_1).f0))).setCell ⟨gb656, 1, none⟩ (.int .i64 ((rd_T67 l0_0 a0_1).f1))).setCell ⟨gb656, 2, none⟩ (.int .i64 ((rd_T67 l0_0 a0_1).f2))).setCell ⟨gb656, 3, none⟩ (.int .i64 ((rd_T67 l0_0 a0_1).f3))).heap[gb656]? = some (.cells #[.int .i64 ((rd_T67 l0_0 a0_1).f0), .int .i64 ((rd_T67 l0_0 a0_1).f1), .int .i64 ((rd_T67 l0_0 a0_1).f2), .int .i64 ((rd_T67 l0_0 a0_1).f3)] 67 (0, 0))) := ⟨by (with_reducible repeat (first | refine blk_drewN ?_ _ | refine blk_drew ?_ | refine blk_alloc ?_ _)); refine blk_put (cs := #[.int .i64 ((rd_T67 l0_0 a0_1).f0), .int .i64 ((rd_T67 l0_0 a0_1).f1), .int .i64 ((rd_T67 l0_0 a0_1).f2), .int .i64 0]) ?_ 3 _ rfl; (with_reducible repeat (first | refine blk_drewN ?_ _ | refine blk_drew ?_ | refine blk_alloc ?_ _)); refine blk_put (cs := #[.int .i64 ((rd_T67 l0_0 a0_1).f0), .int .i64 ((rd_T67 l0_0 a0_1).f1), .int .i64 0, .int .i64 0]) ?_ 2 _ rfl; (with_reducible repeat (first | refine blk_drewN ?_ _ | refine blk_drew ?_ | refine blk_alloc ?_ _)); refine blk_put (cs := #[.int .i64 ((rd_T67 l0_0 a0_1).f0), .int .i64 0, .int .i64 0, .int .i64 0]) ?_ 1 _ rfl; (with_reducible repeat (first | refine blk_drewN ?_ _ | refine blk_drew ?_ | refine blk_alloc ?_ _)); refine blk_put (cs := #[.int .i64 0, .int .i64 0, .int .i64 0, .int .i64 0]) ?_ 0 _ rfl; (with_reducible repeat (first | refine blk_drewN ?_ _ | refine blk_drew ?_ | refine blk_alloc ?_ _)); exact BK656.out⟩
         have n6_ : Aside0 (Below w.heap.size w ((((w41.setCell ⟨gb656, 0, none⟩ (.int .i64 ((rd_T67 l0_0 a0_1).f0))).setCell ⟨gb656, 1, none⟩ (.int .i64 ((rd_T67 l0_0 a0_1).f1))).setCell ⟨gb656, 2, none⟩ (.int .i64 ((rd_T67 l0_0 a0_1).f2))).setCell ⟨gb656, 3, none⟩ (.int .i64 ((rd_T67 l0_0 a0_1).f3)))) := ⟨oB HB⟩
         (try clear HO_654000)
         (try clear HO_654002)
         (try clear BK644)
         (try clear BK645)
         (try clear BK653)
         (try clear BK656)
         (try clear HB)
         generalize ((((w41.setCell ⟨gb656, 0, none⟩ (.int .i64 ((rd_T67 l0_0 a0_1).f0))).setCell ⟨gb656, 1, none⟩ (.int .i64 ((rd_T67 l0_0 a0_1).f1))).setCell ⟨gb656, 2, none⟩ (.int .i64 ((rd_T67 l0_0 a0_1).f2))).setCell ⟨gb656, 3, none⟩ (.int .i64 ((rd_T67 l0_0 a0_1).f3))) = w46 at n0_ n1_ n2_ n3_ n4_ n5_ n6_ ⊢
         have HO_654000 := n0_
         have HO_654002 := n1_
         have BK644 := n2_
         have BK645 := n3_
         have BK653 := n4_
         have BK656 := n5_
         have HB := n6_
         clear n0_ n1_ n2_ n3_ n4_ n5_ n6_
         have n0_ := Aside0.mk (Kd.R_drew HO_654000.out)
         have n1_ := Aside0.mk (Kd.R_drew HO_654002.out)
         have n2_ := Aside0.mk (blk_drew BK644.out)
         have n3_ := Aside0.mk (blk_drew BK645.out)
         have n4_ := Aside0.mk (blk_drew BK653.out)
         have n5_ := Aside0.mk (blk_drew BK656.out)
         have n6_ := Aside0.mk (below_drew1 HB.out)
         clear HO_654000
         clear HO_654002
         clear BK644
         clear BK645
         clear BK653
         clear BK656
         clear HB
         have HO_654000 := n0_
         have HO_654002 := n1_
         have BK644 := n2_
         have BK645 := n3_
         have BK653 := n4_
         have BK656 := n5_
         have HB := n6_
         clear n0_ n1_ n2_ n3_ n4_ n5_ n6_
         have p657 : 0 ≤ (((rd_T67 l0_0 a0_1).f0) : Int) := of_decide_eq_true (by first | (with_reducible assumption) | assumption)
         have q657 : ((rd_T67 l0_0 a0_1).f0) < (l0_2.length : Int) := of_decide_eq_true (by first | (with_reducible assumption) | assumption)
         obtain ⟨ad657, e657, hx657_0⟩ := Kd.at_int HR0_2.out ((rd_T67 l0_0 a0_1).f0) p657 q657
         have hw657_0 := hx657_0
         cases e657
         replace hx657_0 := (HB.out.cell (World.block_lt_of_cell? w _ hx657_0)).trans hx657_0
         replace p657 := eq_true p657
         replace q657 := eq_true q657
         refine start_ (n := 12) (S := fun w' => w'.cell? ⟨gb644, 0, none⟩ = some (.slice (some ad655) l0_0.length c0_0) ∧ w'.cell? ⟨gb644, 1, none⟩ = some (.int .i64 a0_1) ∧ w'.cell? ⟨gb644, 2, none⟩ = some (.slice (some ad657) l0_2.length c0_2) ∧ w'.cell? ⟨gb656, 0, none⟩ = some (.int .i64 ((rd_T67 l0_0 a0_1).f0)) ∧ w'.cell? ⟨gb656, 1, none⟩ = some (.int .i64 ((rd_T67 l0_0 a0_1).f1)) ∧ w'.cell? ⟨gb656, 2, none⟩ = some (.int .i64 ((rd_T67 l0_0 a0_1).f2)) ∧ w'.cell? ⟨gb656, 3, none⟩ = some (.int .i64 ((rd_T67 l0_0 a0_1).f3)) ∧ w'.cell? (ad657.add (((rd_T67 l0_0 a0_1).f0)).toNat) = some (.int .i64 (rd l0_2 ((rd_T67 l0_0 a0_1).f0)))) (ds := []) #[false, false, false, false, false, false, false, false, false, false, false, false] (by kernel_rfl) rfl rfl ⟨(blk_cell BK644.out 0).trans rfl, (blk_cell BK644.out 1).trans rfl, (blk_cell BK644.out 2).trans rfl, (blk_cell BK656.out 0).trans rfl, (blk_cell BK656.out 1).trans rfl, (blk_cell BK656.out 2).trans rfl, (blk_cell BK656.out 3).trans rfl, ((HB.out.cell (World.block_lt_of_cell? w _ hw657_0)).trans hw657_0)⟩ (fun hHeld => ?_); refine with_tabW spec_WorkStep.tab5 spec_WorkStep.bits5 (fun HT_ HW_ => ?_)
         generalize w46.drew = w47 at HO_654000 HO_654002 BK644 BK645 BK653 BK656 HB hx657_0 hHeld ⊢
         refine pure_ (i := 0) (N := some 27) (v := ?_) (a' := ?_) #[true, false, false, false, false, false, false, false, false, false, false, false] rfl rfl (any_of HT_.out (by kernel_rfl)) (fun _ _ _ h => h) (Or.inl ⟨by rfl, ?_⟩) ?_ ?_
         rotate_left
         ·intro w'
          go_simp
          with_reducible rfl
         rotate_left
         ·simp only [Act.put, List.setIfInBounds_toArray, List.set_cons_zero, List.set_cons_succ, i64_w, i32_w]
          rfl
         refine pure_ (i := 2) (N := some 29) (v := ?_) (a' := ?_) #[true, false, true, false, false, false, false, false, false, false, false, false] rfl rfl (any_of HT_.out (by kernel_rfl)) (fun _ _ _ h => h) (Or.inl ⟨by rfl, ?_⟩) ?_ ?_
         rotate_left
         ·intro w'
          go_simp
          with_reducible rfl
         rotate_left
         ·simp only [Act.put, List.setIfInBounds_toArray, List.set_cons_zero, List.set_cons_succ, i64_w, i32_w]
          rfl
         refine pure_ (i := 6) (N := some 33) (v := ?_) (a' := ?_) #[true, false, true, false, false, false, true, false, false, false, false, false] rfl rfl (any_of HT_.out (by kernel_rfl)) (fun _ _ _ h => h) (Or.inl ⟨by rfl, ?_⟩) ?_ ?_
         rotate_left
         ·intro w'
          go_simp
          with_reducible rfl
         rotate_left
         ·simp only [Act.put, List.setIfInBounds_toArray, List.set_cons_zero, List.set_cons_succ, i64_w, i32_w]
          rfl
         refine pure_ (i := 8) (N := some 35) (v := ?_) (a' := ?_) #[true, false, true, false, false, false, true, false, true, false, false, false] rfl rfl (any_of HT_.out (by kernel_rfl)) (fun _ _ _ h => h) (Or.inl ⟨by rfl, ?_⟩) ?_ ?_
         rotate_left
         ·intro w'
          go_simp
          with_reducible rfl
         rotate_left
         ·simp only [Act.put, List.setIfInBounds_toArray, List.set_cons_zero, List.set_cons_succ, i64_w, i32_w]
          rfl
         refine take_ (i := 1) (N := some 28) (v := ?_) (a' := ?_) #[true, true, true, false, false, false, true, false, true, false, false, false] rfl rfl (take_ofW HT_.out HW_.out (by kernel_rfl)) (fun _ _ _ h => h) (Or.inl ⟨by rfl, ?_⟩) hHeld ?_ ?_
         rotate_left
         ·rintro w' ⟨s0, s1, s2, s3, s4, s5, s6, s7⟩
          go_simp
          with_reducible rfl
         rotate_left
         ·simp only [Act.put, List.setIfInBounds_toArray, List.set_cons_zero, List.set_cons_succ, i64_w, i32_w]
          rfl
         refine take_ (i := 3) (N := some 30) (v := ?_) (a' := ?_) #[true, true, true, true, false, false, true, false, true, false, false, false] rfl rfl (take_ofW HT_.out HW_.out (by kernel_rfl)) (fun _ _ _ h => h) (Or.inl ⟨by rfl, ?_⟩) hHeld ?_ ?_
         rotate_left
         ·rintro w' ⟨s0, s1, s2, s3, s4, s5, s6, s7⟩
          go_simp
          with_reducible rfl
         rotate_left
         ·simp only [Act.put, List.setIfInBounds_toArray, List.set_cons_zero, List.set_cons_succ, i64_w, i32_w]
          rfl
         refine pure_ (i := 4) (N := some 31) (v := ?_) (a' := ?_) #[true, true, true, true, true, false, true, false, true, false, false, false] rfl rfl (any_of HT_.out (by kernel_rfl)) (fun _ _ _ h => h) (Or.inl ⟨by rfl, ?_⟩) ?_ ?_
         rotate_left
         ·intro w'
          go_simp
          with_reducible rfl
         rotate_left
         ·simp only [Act.put, List.setIfInBounds_toArray, List.set_cons_zero, List.set_cons_succ, i64_w, i32_w]
          rfl
         refine take_ (i := 5) (N := some 32) (v := ?_) (a' := ?_) #[true, true, true, true, true, true, true, false, true, false, false, false] rfl rfl (take_ofW HT_.out HW_.out (by kernel_rfl)) (fun _ _ _ h => h) (Or.inl ⟨by rfl, ?_⟩) hHeld ?_ ?_
         rotate_left
         ·rintro w' ⟨s0, s1, s2, s3, s4, s5, s6, s7⟩
          go_simp
          with_reducible rfl
         rotate_left
         ·simp only [Act.put, List.setIfInBounds_toArray, List.set_cons_zero, List.set_cons_succ, i64_w, i32_w]
          rfl
         refine take_ (i := 7) (N := some 34) (v := ?_) (a' := ?_) #[true, true, true, true, true, true, true, true, true, false, false, false] rfl rfl (take_ofW HT_.out HW_.out (by kernel_rfl)) (fun _ _ _ h => h) (Or.inl ⟨by rfl, ?_⟩) hHeld ?_ ?_
         rotate_left
         ·rintro w' ⟨s0, s1, s2, s3, s4, s5, s6, s7⟩
          go_simp
          with_reducible rfl
         rotate_left
         ·simp only [Act.put, List.setIfInBounds_toArray, List.set_cons_zero, List.set_cons_succ, i64_w, i32_w]
          rfl
         refine take_ (i := 9) (N := some 36) (v := ?_) (a' := ?_) #[true, true, true, true, true, true, true, true, true, true, false, false] rfl rfl (take_ofW HT_.out HW_.out (by kernel_rfl)) (fun _ _ _ h => h) (Or.inl ⟨by rfl, ?_⟩) hHeld ?_ ?_
         rotate_left
         ·rintro w' ⟨s0, s1, s2, s3, s4, s5, s6, s7⟩
          go_simp
          with_reducible rfl
         rotate_left
         ·simp only [Act.put, List.setIfInBounds_toArray, List.set_cons_zero, List.set_cons_succ, i64_w, i32_w]
          rfl
         refine one_ (i := 10) (N := some 37) #[true, true, true, true, true, true, true, true, true, true, true, false] rfl rfl (one_of HT_.out (by kernel_rfl)) (by decide) (fun K hK => ?_)
         refine goes_ Try.func72 (by kernel_rfl) rfl #[.int .i64 (rd l0_2 ((rd_T67 l0_0 a0_1).f0)), .int .i64 ((rd_T67 l0_0 a0_1).f2), .int .i64 ((rd_T67 l0_0 a0_1).f3)] (by rfl) rfl rfl (by (try simp only [List.map_toArray, List.map_cons, List.map_nil]); first | done | rfl | (simp only [List.length_drop, List.length_take]; rfl)) ?_
         with_reducible refine (spec_TunedPitch.calls kj2 (rd l0_2 ((rd_T67 l0_0 a0_1).f0)) ((rd_T67 l0_0 a0_1).f2) ((rd_T67 l0_0 a0_1).f3) t658 _ A36.out).mono ?_
         rintro e w48 ⟨rfl, hb⟩
         refine ⟨_, rfl, ?_⟩
         have n0_ := Aside0.mk (Kd.R_below (oR HO_654000) hb)
         have n1_ := Aside0.mk (Kd.R_below (oR HO_654002) hb)
         have n2_ := Aside0.mk (blk_below (g := gb644) (o := .cells #[.slice (some ad655) l0_0.length c0_0, .int .i64 a0_1, .slice (some ad657) l0_2.length c0_2] 30 (0, 0)) (oK BK644) hb)
         have n3_ := Aside0.mk (blk_below (g := gb645) (o := .cells #[.slice none 0 0, .int .i64 0, .slice none 0 0] 30 (0, 0)) (oK BK645) hb)
         have n4_ := Aside0.mk (blk_below (g := gb653) (o := .cells #[.slice Ao10 t646.length co10, .int .i64 t649, .slice Ao14 t650.length co14] 30 (0, 0)) (oK BK653) hb)
         have n5_ := Aside0.mk (blk_below (g := gb656) (o := .cells #[.int .i64 ((rd_T67 l0_0 a0_1).f0), .int .i64 ((rd_T67 l0_0 a0_1).f1), .int .i64 ((rd_T67 l0_0 a0_1).f2), .int .i64 ((rd_T67 l0_0 a0_1).f3)] 67 (0, 0)) (oK BK656) hb)
         have n6_ := Aside0.mk (below_step (oB HB) hb)
         clear HO_654000
         clear HO_654002
         clear BK644
         clear BK645
         clear BK653
         clear BK656
         clear HB
         have HO_654000 := n0_
         have HO_654002 := n1_
         have BK644 := n2_
         have BK645 := n3_
         have BK653 := n4_
         have BK656 := n5_
         have HB := n6_
         clear n0_ n1_ n2_ n3_ n4_ n5_ n6_
         (try clear hb)
         (try clear hb2)
         (try clear hk)
         (try clear hi)
         refine hK.out _ _ ⟨(blk_cell BK644.out 0).trans rfl, (blk_cell BK644.out 1).trans rfl, (blk_cell BK644.out 2).trans rfl, (blk_cell BK656.out 0).trans rfl, (blk_cell BK656.out 1).trans rfl, (blk_cell BK656.out 2).trans rfl, (blk_cell BK656.out 3).trans rfl, ((HB.out.cell (World.block_lt_of_cell? w _ hw657_0)).trans hw657_0)⟩ (fun hHeld => ?_)
         clear hK K
         refine norm_ (a' := ?_) ?_ ?_
         rotate_left
         ·show Act.put _ (some 37) _ = _
          simp only [Act.put, List.setIfInBounds_toArray, List.set_cons_zero, List.set_cons_succ, i64_w, i32_w]
          rfl
         refine pure_ (i := 11) (N := some 6) (v := ?_) (a' := ?_) #[true, true, true, true, true, true, true, true, true, true, true, true] rfl rfl (any_of HT_.out (by kernel_rfl)) (fun _ _ _ h => h) (Or.inl ⟨by rfl, ?_⟩) ?_ ?_
         rotate_left
         ·intro w'
          go_simp
          with_reducible rfl
         rotate_left
         ·simp only [Act.put, List.setIfInBounds_toArray, List.set_cons_zero, List.set_cons_succ, i64_w, i32_w]
          rfl
         refine done_ (done_of HT_.out (by kernel_rfl)) ?_
         have hnb49 := NB653_645.out
         have hnc49 := NB645_653.out
         have hcz50_0 : w48.cell? ⟨gb653, 0, none⟩ = some (.slice Ao10 t646.length co10) := (blk_cell BK653.out 0).trans rfl
         have hcz50_1 : w48.cell? ⟨gb653, 1, none⟩ = some (.int .i64 t649) := (blk_cell BK653.out 1).trans rfl
         have hcz50_2 : w48.cell? ⟨gb653, 2, none⟩ = some (.slice Ao14 t650.length co14) := (blk_cell BK653.out 2).trans rfl
         have hfz50_0 := blk_frozen BK653.out 0
         have hfz50_1 := blk_frozen BK653.out 1
         have hfz50_2 := blk_frozen BK653.out 2
         have hcz51_0 : w48.cell? ⟨gb645, 0, none⟩ = some (.slice none 0 0) := (blk_cell BK645.out 0).trans rfl
         have hcz51_1 : w48.cell? ⟨gb645, 1, none⟩ = some (.int .i64 0) := (blk_cell BK645.out 1).trans rfl
         have hcz51_2 : w48.cell? ⟨gb645, 2, none⟩ = some (.slice none 0 0) := (blk_cell BK645.out 2).trans rfl
         have hfz51_0 := blk_frozen BK645.out 0
         have hfz51_1 := blk_frozen BK645.out 1
         have hfz51_2 := blk_frozen BK645.out 2
         try go_wp2
         refine bodyPost_ret (results_ct rfl _ _ gb645 30 #[.slice Ao10 t646.length co10, .int .i64 t649, .slice Ao14 t650.length co14] (0, 0) _ rfl (by (with_reducible repeat (first | refine blk_drewN ?_ _ | refine blk_drew ?_ | refine blk_alloc ?_ _)); refine blk_put (cs := #[.slice Ao10 t646.length co10, .int .i64 t649, .slice none 0 0]) ?_ 2 _ rfl; (with_reducible repeat (first | refine blk_drewN ?_ _ | refine blk_drew ?_ | refine blk_alloc ?_ _)); refine blk_put (cs := #[.slice Ao10 t646.length co10, .int .i64 0, .slice none 0 0]) ?_ 1 _ rfl; (with_reducible repeat (first | refine blk_drewN ?_ _ | refine blk_drew ?_ | refine blk_alloc ?_ _)); refine blk_put (cs := #[.slice none 0 0, .int .i64 0, .slice none 0 0]) ?_ 0 _ rfl; (with_reducible repeat (first | refine blk_drewN ?_ _ | refine blk_drew ?_ | refine blk_alloc ?_ _)); exact BK645.out) Try.underlying30 rfl (by kernel_rfl)) rfl ?_
         exact ⟨_, _, by first | rfl | (simp [errW_none, errW_some] <;> rfl) | (simp [*, errW_none, errW_some] <;> rfl), by (with_reducible repeat (first | apply Kd.R_alloc | apply Kd.R_drewN | apply Kd.R_drew)); exact Kd.R_mono (Kd.R_far (p := ⟨gb645, 2, none⟩) (Kd.R_far (p := ⟨gb645, 1, none⟩) (Kd.R_far (p := ⟨gb645, 0, none⟩) (Kd.R_types HO_654000.out BK645.out (by decide)) (fun _ hk => hk.2) (.slice Ao10 t646.length co10)) (fun _ hk => hk.2) (.int .i64 t649)) (fun _ hk => hk.2) (.slice Ao14 t650.length co14)) (fun _ hk => trivial), by (with_reducible repeat (first | apply Kd.R_alloc | apply Kd.R_drewN | apply Kd.R_drew)); exact Kd.R_mono (Kd.R_far (p := ⟨gb645, 2, none⟩) (Kd.R_far (p := ⟨gb645, 1, none⟩) (Kd.R_far (p := ⟨gb645, 0, none⟩) (Kd.R_types HO_654002.out BK645.out (by decide)) (fun _ hk => hk.2) (.slice Ao10 t646.length co10)) (fun _ hk => hk.2) (.int .i64 t649)) (fun _ hk => hk.2) (.slice Ao14 t650.length co14)) (fun _ hk => trivial), oB HB⟩
        ·rw [if_neg c37] at H
         have c37b0 : (t658 == 0) = false := beq_eq_false_iff_ne.mpr c37
         have c37b1 : (t658 != 0) = true := bne_iff_ne.mpr c37
         by_cases c52 : 0 ≤ ((rd_T67 l0_0 a0_1).f1)
         ·rw [if_pos c52] at H
          have c52b0 : decide (0 ≤ ((rd_T67 l0_0 a0_1).f1)) = true := decide_eq_true c52
          clear c52
          by_cases c53 : ((rd_T67 l0_0 a0_1).f1) < (t650.length : Int)
          ·rw [if_pos c53] at H
           have c53b0 : decide (((rd_T67 l0_0 a0_1).f1) < (t650.length : Int)) = true := decide_eq_true c53
           clear c53
           obtain ⟨y659, hy659⟩ : ∃ y_ : List Int, y_ = (t650.set (((rd_T67 l0_0 a0_1).f1) : Int).toNat t658) := ⟨_, rfl⟩
           replace H : (some (t646, wrap64 (a0_1 + 1), y659, true)) = some (r1, r2, r3, r4) := by first | (rw [hy659]; with_reducible exact H) | (have H2_ := (Option.bind_some _ _).symm.trans H; rw [hy659]; with_reducible exact H2_) | (have H2_ := (Option.bind_some _ _).symm.trans H; with_reducible exact H2_) | with_reducible exact H | (rw [hy659]; exact H) | exact H
           have Ny659 := Aside0.mk hy659
           clear hy659
           simp only [Option.some.injEq, Prod.mk.injEq] at H
           obtain ⟨rfl, rfl, rfl, rfl⟩ := H
           have hnb55 := NB644_645.out
           have hnc55 := NB645_644.out
           have hnb56 := NB644_653.out
           have hnc56 := NB653_644.out
           have hcz57_0 : wc.cell? ⟨gb644, 0, none⟩ = some (.slice A0_0 l0_0.length c0_0) := (blk_cell BK644.out 0).trans rfl
           have hcz57_1 : wc.cell? ⟨gb644, 1, none⟩ = some (.int .i64 a0_1) := (blk_cell BK644.out 1).trans rfl
           have hcz57_2 : wc.cell? ⟨gb644, 2, none⟩ = some (.slice A0_2 l0_2.length c0_2) := (blk_cell BK644.out 2).trans rfl
           have hfz57_0 := blk_frozen BK644.out 0
           have hfz57_1 := blk_frozen BK644.out 1
           have hfz57_2 := blk_frozen BK644.out 2
           have p655 : 0 ≤ (a0_1 : Int) := of_decide_eq_true (by first | (with_reducible assumption) | assumption)
           have q655 : a0_1 < (l0_0.length : Int) := of_decide_eq_true (by first | (with_reducible assumption) | assumption)
           obtain ⟨ad655, e655, hx655_0, hx655_1, hx655_2, hx655_3⟩ := at_T67 HR0_0.out a0_1 p655 q655
           cases e655
           replace hx655_0 := (HB.out.cell (World.block_lt_of_cell? w _ hx655_0)).trans hx655_0
           replace hx655_1 := (HB.out.cell (World.block_lt_of_cell? w _ hx655_1)).trans hx655_1
           replace hx655_2 := (HB.out.cell (World.block_lt_of_cell? w _ hx655_2)).trans hx655_2
           replace hx655_3 := (HB.out.cell (World.block_lt_of_cell? w _ hx655_3)).trans hx655_3
           replace p655 := eq_true p655
           replace q655 := eq_true q655
           try go_wp2_with (first | ((with_reducible refine gate_dst (N := 5) rfl ?_); (try (refine gate_guard (by rfl) ?_; dsimp only)); refine box_event ?hg (N := 5) ?hd (cs := #[.int .i64 0, .int .i64 0, .int .i64 0, .int .i64 0]) (t := 67) ?hr ?_; (case hd => rfl); (case hg => rfl); (case hr => first | (go_simp; done) | (go_simp; rfl)); intro gb656 hg w58 hbox hb; have n0_ := Aside0.mk (Kd.R_below (Kd.R_elderB (oR HO_654000) gb656 (Nat.le_of_eq hg.symm)) hb); have n1_ := Aside0.mk (Kd.R_below (oR HO_654002) hb); have n2_ := Aside0.mk (blk_below (g := gb644) (o := .cells #[.slice (some ad655) l0_0.length c0_0, .int .i64 a0_1, .slice A0_2 l0_2.length c0_2] 30 (0, 0)) (oK BK644) hb); have n3_ := Aside0.mk (blk_below (g := gb645) (o := .cells #[.slice none 0 0, .int .i64 0, .slice none 0 0] 30 (0, 0)) (oK BK645) hb); have n4_ := Aside0.mk (blk_below (g := gb653) (o := .cells #[.slice Ao10 t646.length co10, .int .i64 t649, .slice Ao14 t650.length co14] 30 (0, 0)) (oK BK653) hb); have n5_ := Aside0.mk (below_step (oB HB) hb); have n6_ := Aside0.mk (hbox); have n7_ := Aside0.mk ((by rw [hg]; exact (below_size (oB HB)) : w.heap.size ≤ gb656)); have n8_ := Aside0.mk ((by rw [hg]; exact (below_size (oB HB)) : w.heap.size ≤ gb656)); have n9_ := Aside0.mk ((by rw [hg]; exact Nat.ne_of_lt (blk_lt (g := gb644) (o := .cells #[.slice (some ad655) l0_0.length c0_0, .int .i64 a0_1, .slice A0_2 l0_2.length c0_2] 30 (0, 0)) (oK BK644)) : gb644 ≠ gb656)); have n10_ := Aside0.mk ((by rw [hg]; exact Nat.ne_of_gt (blk_lt (g := gb644) (o := .cells #[.slice (some ad655) l0_0.length c0_0, .int .i64 a0_1, .slice A0_2 l0_2.length c0_2] 30 (0, 0)) (oK BK644)) : gb656 ≠ gb644)); have n11_ := Aside0.mk ((by rw [hg]; exact Nat.ne_of_lt (blk_lt (g := gb645) (o := .cells #[.slice none 0 0, .int .i64 0, .slice none 0 0] 30 (0, 0)) (oK BK645)) : gb645 ≠ gb656)); have n12_ := Aside0.mk ((by rw [hg]; exact Nat.ne_of_gt (blk_lt (g := gb645) (o := .cells #[.slice none 0 0, .int .i64 0, .slice none 0 0] 30 (0, 0)) (oK BK645)) : gb656 ≠ gb645)); have n13_ := Aside0.mk ((by rw [hg]; exact Nat.ne_of_lt (blk_lt (g := gb653) (o := .cells #[.slice Ao10 t646.length co10, .int .i64 t649, .slice Ao14 t650.length co14] 30 (0, 0)) (oK BK653)) : gb653 ≠ gb656)); have n14_ := Aside0.mk ((by rw [hg]; exact Nat.ne_of_gt (blk_lt (g := gb653) (o := .cells #[.slice Ao10 t646.length co10, .int .i64 t649, .slice Ao14 t650.length co14] 30 (0, 0)) (oK BK653)) : gb656 ≠ gb653)); clear HO_654000; clear HO_654002; clear BK644; clear BK645; clear BK653; clear HB; have HO_654000 := n0_; have HO_654002 := n1_; have BK644 := n2_; have BK645 := n3_; have BK653 := n4_; have HB := n5_; have BK656 := n6_; have GW656 := n7_; have GE656 := n8_; have NB644_656 := n9_; have NB656_644 := n10_; have NB645_656 := n11_; have NB656_645 := n12_; have NB653_656 := n13_; have NB656_653 := n14_; clear n0_ n1_ n2_ n3_ n4_ n5_ n6_ n7_ n8_ n9_ n10_ n11_ n12_ n13_ n14_; clear hb hbox hg; have hnb59 := NB656_644.out; have hnc59 := NB644_656.out; have hnb60 := NB656_645.out; have hnc60 := NB645_656.out; have hnb61 := NB656_653.out; have hnc61 := NB653_656.out; have hcz62_0 : w58.cell? ⟨gb656, 0, none⟩ = some (.int .i64 0) := (blk_cell BK656.out 0).trans rfl; have hcz62_1 : w58.cell? ⟨gb656, 1, none⟩ = some (.int .i64 0) := (blk_cell BK656.out 1).trans rfl; have hcz62_2 : w58.cell? ⟨gb656, 2, none⟩ = some (.int .i64 0) := (blk_cell BK656.out 2).trans rfl; have hcz62_3 : w58.cell? ⟨gb656, 3, none⟩ = some (.int .i64 0) := (blk_cell BK656.out 3).trans rfl; have hfz62_0 := blk_frozen BK656.out 0; have hfz62_1 := blk_frozen BK656.out 1; have hfz62_2 := blk_frozen BK656.out 2; have hfz62_3 := blk_frozen BK656.out 3))
           have n0_ : Aside0 (Kd.R k67 67 ((((w58.setCell ⟨gb656, 0, none⟩ (.int .i64 ((rd_T67 l0_0 a0_1).f0))).setCell ⟨gb656, 1, none⟩ (.int .i64 ((rd_T67 l0_0 a0_1).f1))).setCell ⟨gb656, 2, none⟩ (.int .i64 ((rd_T67 l0_0 a0_1).f2))).setCell ⟨gb656, 3, none⟩ (.int .i64 ((rd_T67 l0_0 a0_1).f3))) w.heap.size (fun k_ => k_ ≠ gb656) (.slice Ao10 t646.length co10) t646) := ⟨by (with_reducible repeat (first | apply Kd.R_alloc | apply Kd.R_drewN | apply Kd.R_drew)); exact Kd.R_mono (Kd.R_far (p := ⟨gb656, 3, none⟩) (Kd.R_far (p := ⟨gb656, 2, none⟩) (Kd.R_far (p := ⟨gb656, 1, none⟩) (Kd.R_far (p := ⟨gb656, 0, none⟩) (Kd.R_mono HO_654000.out (fun k_ hk => (⟨hk, hk.2⟩ : _ ∧ k_ ≠ gb656))) (fun _ hk => hk.2) (.int .i64 ((rd_T67 l0_0 a0_1).f0))) (fun _ hk => hk.2) (.int .i64 ((rd_T67 l0_0 a0_1).f1))) (fun _ hk => hk.2) (.int .i64 ((rd_T67 l0_0 a0_1).f2))) (fun _ hk => hk.2) (.int .i64 ((rd_T67 l0_0 a0_1).f3))) (fun _ hk => hk.1.2)⟩
           have n1_ : Aside0 (Kd.R (Kd.int .i64) 3 ((((w58.setCell ⟨gb656, 0, none⟩ (.int .i64 ((rd_T67 l0_0 a0_1).f0))).setCell ⟨gb656, 1, none⟩ (.int .i64 ((rd_T67 l0_0 a0_1).f1))).setCell ⟨gb656, 2, none⟩ (.int .i64 ((rd_T67 l0_0 a0_1).f2))).setCell ⟨gb656, 3, none⟩ (.int .i64 ((rd_T67 l0_0 a0_1).f3))) w.heap.size (fun _ => True) (.slice Ao14 t650.length co14) t650) := ⟨by (with_reducible repeat (first | apply Kd.R_alloc | apply Kd.R_drewN | apply Kd.R_drew)); exact Kd.R_mono (Kd.R_far (p := ⟨gb656, 3, none⟩) (Kd.R_far (p := ⟨gb656, 2, none⟩) (Kd.R_far (p := ⟨gb656, 1, none⟩) (Kd.R_far (p := ⟨gb656, 0, none⟩) (Kd.R_types HO_654002.out BK656.out (by decide)) (fun _ hk => hk.2) (.int .i64 ((rd_T67 l0_0 a0_1).f0))) (fun _ hk => hk.2) (.int .i64 ((rd_T67 l0_0 a0_1).f1))) (fun _ hk => hk.2) (.int .i64 ((rd_T67 l0_0 a0_1).f2))) (fun _ hk => hk.2) (.int .i64 ((rd_T67 l0_0 a0_1).f3))) (fun _ hk => trivial)⟩
           have n2_ : Aside0 (((((w58.setCell ⟨gb656, 0, none⟩ (.int .i64 ((rd_T67 l0_0 a0_1).f0))).setCell ⟨gb656, 1, none⟩ (.int .i64 ((rd_T67 l0_0 a0_1).f1))).setCell ⟨gb656, 2, none⟩ (.int .i64 ((rd_T67 l0_0 a0_1).f2))).setCell ⟨gb656, 3, none⟩ (.int .i64 ((rd_T67 l0_0 a0_1).f3))).heap[gb644]? = some (.cells #[.slice (some ad655) l0_0.length c0_0, .int .i64 a0_1, .slice A0_2 l0_2.length c0_2] 30 (0, 0))) := ⟨by (with_reducible repeat (first | refine blk_drewN ?_ _ | refine blk_drew ?_ | refine blk_alloc ?_ _)); refine blk_far ?_ NB644_656.out _; (with_reducible repeat (first | refine blk_drewN ?_ _ | refine blk_drew ?_ | refine blk_alloc ?_ _)); refine blk_far ?_ NB644_656.out _; (with_reducible repeat (first | refine blk_drewN ?_ _ | refine blk_drew ?_ | refine blk_alloc ?_ _)); refine blk_far ?_ NB644_656.out _; (with_reducible repeat (first | refine blk_drewN ?_ _ | refine blk_drew ?_ | refine blk_alloc ?_ _)); refine blk_far ?_ NB644_656.out _; (with_reducible repeat (first | refine blk_drewN ?_ _ | refine blk_drew ?_ | refine blk_alloc ?_ _)); exact BK644.out⟩
           have n3_ : Aside0 (((((w58.setCell ⟨gb656, 0, none⟩ (.int .i64 ((rd_T67 l0_0 a0_1).f0))).setCell ⟨gb656, 1, none⟩ (.int .i64 ((rd_T67 l0_0 a0_1).f1))).setCell ⟨gb656, 2, none⟩ (.int .i64 ((rd_T67 l0_0 a0_1).f2))).setCell ⟨gb656, 3, none⟩ (.int .i64 ((rd_T67 l0_0 a0_1).f3))).heap[gb645]? = some (.cells #[.slice none 0 0, .int .i64 0, .slice none 0 0] 30 (0, 0))) := ⟨by (with_reducible repeat (first | refine blk_drewN ?_ _ | refine blk_drew ?_ | refine blk_alloc ?_ _)); refine blk_far ?_ NB645_656.out _; (with_reducible repeat (first | refine blk_drewN ?_ _ | refine blk_drew ?_ | refine blk_alloc ?_ _)); refine blk_far ?_ NB645_656.out _; (with_reducible repeat (first | refine blk_drewN ?_ _ | refine blk_drew ?_ | refine blk_alloc ?_ _)); refine blk_far ?_ NB645_656.out _; (with_reducible repeat (first | refine blk_drewN ?_ _ | refine blk_drew ?_ | refine blk_alloc ?_ _)); refine blk_far ?_ NB645_656.out _; (with_reducible repeat (first | refine blk_drewN ?_ _ | refine blk_drew ?_ | refine blk_alloc ?_ _)); exact BK645.out⟩
           have n4_ : Aside0 (((((w58.setCell ⟨gb656, 0, none⟩ (.int .i64 ((rd_T67 l0_0 a0_1).f0))).setCell ⟨gb656, 1, none⟩ (.int .i64 ((rd_T67 l0_0 a0_1).f1))).setCell ⟨gb656, 2, none⟩ (.int .i64 ((rd_T67 l0_0 a0_1).f2))).setCell ⟨gb656, 3, none⟩ (.int .i64 ((rd_T67 l0_0 a0_1).f3))).heap[gb653]? = some (.cells #[.slice Ao10 t646.length co10, .int .i64 t649, .slice Ao14 t650.length co14] 30 (0, 0))) := ⟨by (with_reducible repeat (first | refine blk_drewN ?_ _ | refine blk_drew ?_ | refine blk_alloc ?_ _)); refine blk_far ?_ NB653_656.out _; (with_reducible repeat (first | refine blk_drewN ?_ _ | refine blk_drew ?_ | refine blk_alloc ?_ _)); refine blk_far ?_ NB653_656.out _; (with_reducible repeat (first | refine blk_drewN ?_ _ | refine blk_drew ?_ | refine blk_alloc ?_ _)); refine blk_far ?_ NB653_656.out _; (with_reducible repeat (first | refine blk_drewN ?_ _ | refine blk_drew ?_ | refine blk_alloc ?_ _)); refine blk_far ?_ NB653_656.out _; (with_reducible repeat (first | refine blk_drewN ?_ _ | refine blk_drew ?_ | refine blk_alloc ?_ _)); exact BK653.out⟩
           have n5_ : Aside0 (((((w58.setCell ⟨gb656, 0, none⟩ (.int .i64 ((rd_T67 l0_0 a0_1).f0))).setCell ⟨gb656, 1, none⟩ (.int .i64 ((rd_T67 l0_0 a0_1).f1))).setCell ⟨gb656, 2, none⟩ (.int .i64 ((rd_T67 l0_0 a0_1).f2))).setCell ⟨gb656, 3, none⟩ (.int .i64 ((rd_T67 l0_0 a0_1).f3))).heap[gb656]? = some (.cells #[.int .i64 ((rd_T67 l0_0 a0_1).f0), .int .i64 ((rd_T67 l0_0 a0_1).f1), .int .i64 ((rd_T67 l0_0 a0_1).f2), .int .i64 ((rd_T67 l0_0 a0_1).f3)] 67 (0, 0))) := ⟨by (with_reducible repeat (first | refine blk_drewN ?_ _ | refine blk_drew ?_ | refine blk_alloc ?_ _)); refine blk_put (cs := #[.int .i64 ((rd_T67 l0_0 a0_1).f0), .int .i64 ((rd_T67 l0_0 a0_1).f1), .int .i64 ((rd_T67 l0_0 a0_1).f2), .int .i64 0]) ?_ 3 _ rfl; (with_reducible repeat (first | refine blk_drewN ?_ _ | refine blk_drew ?_ | refine blk_alloc ?_ _)); refine blk_put (cs := #[.int .i64 ((rd_T67 l0_0 a0_1).f0), .int .i64 ((rd_T67 l0_0 a0_1).f1), .int .i64 0, .int .i64 0]) ?_ 2 _ rfl; (with_reducible repeat (first | refine blk_drewN ?_ _ | refine blk_drew ?_ | refine blk_alloc ?_ _)); refine blk_put (cs := #[.int .i64 ((rd_T67 l0_0 a0_1).f0), .int .i64 0, .int .i64 0, .int .i64 0]) ?_ 1 _ rfl; (with_reducible repeat (first | refine blk_drewN ?_ _ | refine blk_drew ?_ | refine blk_alloc ?_ _)); refine blk_put (cs := #[.int .i64 0, .int .i64 0, .int .i64 0, .int .i64 0]) ?_ 0 _ rfl; (with_reducible repeat (first | refine blk_drewN ?_ _ | refine blk_drew ?_ | refine blk_alloc ?_ _)); exact BK656.out⟩
           have n6_ : Aside0 (Below w.heap.size w ((((w58.setCell ⟨gb656, 0, none⟩ (.int .i64 ((rd_T67 l0_0 a0_1).f0))).setCell ⟨gb656, 1, none⟩ (.int .i64 ((rd_T67 l0_0 a0_1).f1))).setCell ⟨gb656, 2, none⟩ (.int .i64 ((rd_T67 l0_0 a0_1).f2))).setCell ⟨gb656, 3, none⟩ (.int .i64 ((rd_T67 l0_0 a0_1).f3)))) := ⟨oB HB⟩
           (try clear HO_654000)
           (try clear HO_654002)
           (try clear BK644)
           (try clear BK645)
           (try clear BK653)
           (try clear BK656)
           (try clear HB)
           generalize ((((w58.setCell ⟨gb656, 0, none⟩ (.int .i64 ((rd_T67 l0_0 a0_1).f0))).setCell ⟨gb656, 1, none⟩ (.int .i64 ((rd_T67 l0_0 a0_1).f1))).setCell ⟨gb656, 2, none⟩ (.int .i64 ((rd_T67 l0_0 a0_1).f2))).setCell ⟨gb656, 3, none⟩ (.int .i64 ((rd_T67 l0_0 a0_1).f3))) = w63 at n0_ n1_ n2_ n3_ n4_ n5_ n6_ ⊢
           have HO_654000 := n0_
           have HO_654002 := n1_
           have BK644 := n2_
           have BK645 := n3_
           have BK653 := n4_
           have BK656 := n5_
           have HB := n6_
           clear n0_ n1_ n2_ n3_ n4_ n5_ n6_
           have n0_ := Aside0.mk (Kd.R_drew HO_654000.out)
           have n1_ := Aside0.mk (Kd.R_drew HO_654002.out)
           have n2_ := Aside0.mk (blk_drew BK644.out)
           have n3_ := Aside0.mk (blk_drew BK645.out)
           have n4_ := Aside0.mk (blk_drew BK653.out)
           have n5_ := Aside0.mk (blk_drew BK656.out)
           have n6_ := Aside0.mk (below_drew1 HB.out)
           clear HO_654000
           clear HO_654002
           clear BK644
           clear BK645
           clear BK653
           clear BK656
           clear HB
           have HO_654000 := n0_
           have HO_654002 := n1_
           have BK644 := n2_
           have BK645 := n3_
           have BK653 := n4_
           have BK656 := n5_
           have HB := n6_
           clear n0_ n1_ n2_ n3_ n4_ n5_ n6_
           have p657 : 0 ≤ (((rd_T67 l0_0 a0_1).f0) : Int) := of_decide_eq_true (by first | (with_reducible assumption) | assumption)
           have q657 : ((rd_T67 l0_0 a0_1).f0) < (l0_2.length : Int) := of_decide_eq_true (by first | (with_reducible assumption) | assumption)
           obtain ⟨ad657, e657, hx657_0⟩ := Kd.at_int HR0_2.out ((rd_T67 l0_0 a0_1).f0) p657 q657
           have hw657_0 := hx657_0
           cases e657
           replace hx657_0 := (HB.out.cell (World.block_lt_of_cell? w _ hx657_0)).trans hx657_0
           replace p657 := eq_true p657
           replace q657 := eq_true q657
           refine start_ (n := 12) (S := fun w' => w'.cell? ⟨gb644, 0, none⟩ = some (.slice (some ad655) l0_0.length c0_0) ∧ w'.cell? ⟨gb644, 1, none⟩ = some (.int .i64 a0_1) ∧ w'.cell? ⟨gb644, 2, none⟩ = some (.slice (some ad657) l0_2.length c0_2) ∧ w'.cell? ⟨gb656, 0, none⟩ = some (.int .i64 ((rd_T67 l0_0 a0_1).f0)) ∧ w'.cell? ⟨gb656, 1, none⟩ = some (.int .i64 ((rd_T67 l0_0 a0_1).f1)) ∧ w'.cell? ⟨gb656, 2, none⟩ = some (.int .i64 ((rd_T67 l0_0 a0_1).f2)) ∧ w'.cell? ⟨gb656, 3, none⟩ = some (.int .i64 ((rd_T67 l0_0 a0_1).f3)) ∧ w'.cell? (ad657.add (((rd_T67 l0_0 a0_1).f0)).toNat) = some (.int .i64 (rd l0_2 ((rd_T67 l0_0 a0_1).f0)))) (ds := []) #[false, false, false, false, false, false, false, false, false, false, false, false] (by kernel_rfl) rfl rfl ⟨(blk_cell BK644.out 0).trans rfl, (blk_cell BK644.out 1).trans rfl, (blk_cell BK644.out 2).trans rfl, (blk_cell BK656.out 0).trans rfl, (blk_cell BK656.out 1).trans rfl, (blk_cell BK656.out 2).trans rfl, (blk_cell BK656.out 3).trans rfl, ((HB.out.cell (World.block_lt_of_cell? w _ hw657_0)).trans hw657_0)⟩ (fun hHeld => ?_); refine with_tabW spec_WorkStep.tab5 spec_WorkStep.bits5 (fun HT_ HW_ => ?_)
           generalize w63.drew = w64 at HO_654000 HO_654002 BK644 BK645 BK653 BK656 HB hx657_0 hHeld ⊢
           refine pure_ (i := 0) (N := some 27) (v := ?_) (a' := ?_) #[true, false, false, false, false, false, false, false, false, false, false, false] rfl rfl (any_of HT_.out (by kernel_rfl)) (fun _ _ _ h => h) (Or.inl ⟨by rfl, ?_⟩) ?_ ?_
           rotate_left
           ·intro w'
            go_simp
            with_reducible rfl
           rotate_left
           ·simp only [Act.put, List.setIfInBounds_toArray, List.set_cons_zero, List.set_cons_succ, i64_w, i32_w]
            rfl
           refine pure_ (i := 2) (N := some 29) (v := ?_) (a' := ?_) #[true, false, true, false, false, false, false, false, false, false, false, false] rfl rfl (any_of HT_.out (by kernel_rfl)) (fun _ _ _ h => h) (Or.inl ⟨by rfl, ?_⟩) ?_ ?_
           rotate_left
           ·intro w'
            go_simp
            with_reducible rfl
           rotate_left
           ·simp only [Act.put, List.setIfInBounds_toArray, List.set_cons_zero, List.set_cons_succ, i64_w, i32_w]
            rfl
           refine pure_ (i := 6) (N := some 33) (v := ?_) (a' := ?_) #[true, false, true, false, false, false, true, false, false, false, false, false] rfl rfl (any_of HT_.out (by kernel_rfl)) (fun _ _ _ h => h) (Or.inl ⟨by rfl, ?_⟩) ?_ ?_
           rotate_left
           ·intro w'
            go_simp
            with_reducible rfl
           rotate_left
           ·simp only [Act.put, List.setIfInBounds_toArray, List.set_cons_zero, List.set_cons_succ, i64_w, i32_w]
            rfl
           refine pure_ (i := 8) (N := some 35) (v := ?_) (a' := ?_) #[true, false, true, false, false, false, true, false, true, false, false, false] rfl rfl (any_of HT_.out (by kernel_rfl)) (fun _ _ _ h => h) (Or.inl ⟨by rfl, ?_⟩) ?_ ?_
           rotate_left
           ·intro w'
            go_simp
            with_reducible rfl
           rotate_left
           ·simp only [Act.put, List.setIfInBounds_toArray, List.set_cons_zero, List.set_cons_succ, i64_w, i32_w]
            rfl
           refine take_ (i := 1) (N := some 28) (v := ?_) (a' := ?_) #[true, true, true, false, false, false, true, false, true, false, false, false] rfl rfl (take_ofW HT_.out HW_.out (by kernel_rfl)) (fun _ _ _ h => h) (Or.inl ⟨by rfl, ?_⟩) hHeld ?_ ?_
           rotate_left
           ·rintro w' ⟨s0, s1, s2, s3, s4, s5, s6, s7⟩
            go_simp
            with_reducible rfl
           rotate_left
           ·simp only [Act.put, List.setIfInBounds_toArray, List.set_cons_zero, List.set_cons_succ, i64_w, i32_w]
            rfl
           refine take_ (i := 3) (N := some 30) (v := ?_) (a' := ?_) #[true, true, true, true, false, false, true, false, true, false, false, false] rfl rfl (take_ofW HT_.out HW_.out (by kernel_rfl)) (fun _ _ _ h => h) (Or.inl ⟨by rfl, ?_⟩) hHeld ?_ ?_
           rotate_left
           ·rintro w' ⟨s0, s1, s2, s3, s4, s5, s6, s7⟩
            go_simp
            with_reducible rfl
           rotate_left
           ·simp only [Act.put, List.setIfInBounds_toArray, List.set_cons_zero, List.set_cons_succ, i64_w, i32_w]
            rfl
           refine pure_ (i := 4) (N := some 31) (v := ?_) (a' := ?_) #[true, true, true, true, true, false, true, false, true, false, false, false] rfl rfl (any_of HT_.out (by kernel_rfl)) (fun _ _ _ h => h) (Or.inl ⟨by rfl, ?_⟩) ?_ ?_
           rotate_left
           ·intro w'
            go_simp
            with_reducible rfl
           rotate_left
           ·simp only [Act.put, List.setIfInBounds_toArray, List.set_cons_zero, List.set_cons_succ, i64_w, i32_w]
            rfl
           refine take_ (i := 5) (N := some 32) (v := ?_) (a' := ?_) #[true, true, true, true, true, true, true, false, true, false, false, false] rfl rfl (take_ofW HT_.out HW_.out (by kernel_rfl)) (fun _ _ _ h => h) (Or.inl ⟨by rfl, ?_⟩) hHeld ?_ ?_
           rotate_left
           ·rintro w' ⟨s0, s1, s2, s3, s4, s5, s6, s7⟩
            go_simp
            with_reducible rfl
           rotate_left
           ·simp only [Act.put, List.setIfInBounds_toArray, List.set_cons_zero, List.set_cons_succ, i64_w, i32_w]
            rfl
           refine take_ (i := 7) (N := some 34) (v := ?_) (a' := ?_) #[true, true, true, true, true, true, true, true, true, false, false, false] rfl rfl (take_ofW HT_.out HW_.out (by kernel_rfl)) (fun _ _ _ h => h) (Or.inl ⟨by rfl, ?_⟩) hHeld ?_ ?_
           rotate_left
           ·rintro w' ⟨s0, s1, s2, s3, s4, s5, s6, s7⟩
            go_simp
            with_reducible rfl
           rotate_left
           ·simp only [Act.put, List.setIfInBounds_toArray, List.set_cons_zero, List.set_cons_succ, i64_w, i32_w]
            rfl
           refine take_ (i := 9) (N := some 36) (v := ?_) (a' := ?_) #[true, true, true, true, true, true, true, true, true, true, false, false] rfl rfl (take_ofW HT_.out HW_.out (by kernel_rfl)) (fun _ _ _ h => h) (Or.inl ⟨by rfl, ?_⟩) hHeld ?_ ?_
           rotate_left
           ·rintro w' ⟨s0, s1, s2, s3, s4, s5, s6, s7⟩
            go_simp
            with_reducible rfl
           rotate_left
           ·simp only [Act.put, List.setIfInBounds_toArray, List.set_cons_zero, List.set_cons_succ, i64_w, i32_w]
            rfl
           refine one_ (i := 10) (N := some 37) #[true, true, true, true, true, true, true, true, true, true, true, false] rfl rfl (one_of HT_.out (by kernel_rfl)) (by decide) (fun K hK => ?_)
           refine goes_ Try.func72 (by kernel_rfl) rfl #[.int .i64 (rd l0_2 ((rd_T67 l0_0 a0_1).f0)), .int .i64 ((rd_T67 l0_0 a0_1).f2), .int .i64 ((rd_T67 l0_0 a0_1).f3)] (by rfl) rfl rfl (by (try simp only [List.map_toArray, List.map_cons, List.map_nil]); first | done | rfl | (simp only [List.length_drop, List.length_take]; rfl)) ?_
           with_reducible refine (spec_TunedPitch.calls kj2 (rd l0_2 ((rd_T67 l0_0 a0_1).f0)) ((rd_T67 l0_0 a0_1).f2) ((rd_T67 l0_0 a0_1).f3) t658 _ A36.out).mono ?_
           rintro e w65 ⟨rfl, hb⟩
           refine ⟨_, rfl, ?_⟩
           have n0_ := Aside0.mk (Kd.R_below (oR HO_654000) hb)
           have n1_ := Aside0.mk (Kd.R_below (oR HO_654002) hb)
           have n2_ := Aside0.mk (blk_below (g := gb644) (o := .cells #[.slice (some ad655) l0_0.length c0_0, .int .i64 a0_1, .slice (some ad657) l0_2.length c0_2] 30 (0, 0)) (oK BK644) hb)
           have n3_ := Aside0.mk (blk_below (g := gb645) (o := .cells #[.slice none 0 0, .int .i64 0, .slice none 0 0] 30 (0, 0)) (oK BK645) hb)
           have n4_ := Aside0.mk (blk_below (g := gb653) (o := .cells #[.slice Ao10 t646.length co10, .int .i64 t649, .slice Ao14 t650.length co14] 30 (0, 0)) (oK BK653) hb)
           have n5_ := Aside0.mk (blk_below (g := gb656) (o := .cells #[.int .i64 ((rd_T67 l0_0 a0_1).f0), .int .i64 ((rd_T67 l0_0 a0_1).f1), .int .i64 ((rd_T67 l0_0 a0_1).f2), .int .i64 ((rd_T67 l0_0 a0_1).f3)] 67 (0, 0)) (oK BK656) hb)
           have n6_ := Aside0.mk (below_step (oB HB) hb)
           clear HO_654000
           clear HO_654002
           clear BK644
           clear BK645
           clear BK653
           clear BK656
           clear HB
           have HO_654000 := n0_
           have HO_654002 := n1_
           have BK644 := n2_
           have BK645 := n3_
           have BK653 := n4_
           have BK656 := n5_
           have HB := n6_
           clear n0_ n1_ n2_ n3_ n4_ n5_ n6_
           (try clear hb)
           (try clear hb2)
           (try clear hk)
           (try clear hi)
           refine hK.out _ _ ⟨(blk_cell BK644.out 0).trans rfl, (blk_cell BK644.out 1).trans rfl, (blk_cell BK644.out 2).trans rfl, (blk_cell BK656.out 0).trans rfl, (blk_cell BK656.out 1).trans rfl, (blk_cell BK656.out 2).trans rfl, (blk_cell BK656.out 3).trans rfl, ((HB.out.cell (World.block_lt_of_cell? w _ hw657_0)).trans hw657_0)⟩ (fun hHeld => ?_)
           clear hK K
           refine norm_ (a' := ?_) ?_ ?_
           rotate_left
           ·show Act.put _ (some 37) _ = _
            simp only [Act.put, List.setIfInBounds_toArray, List.set_cons_zero, List.set_cons_succ, i64_w, i32_w]
            rfl
           refine pure_ (i := 11) (N := some 6) (v := ?_) (a' := ?_) #[true, true, true, true, true, true, true, true, true, true, true, true] rfl rfl (any_of HT_.out (by kernel_rfl)) (fun _ _ _ h => h) (Or.inl ⟨by rfl, ?_⟩) ?_ ?_
           rotate_left
           ·intro w'
            go_simp
            with_reducible rfl
           rotate_left
           ·simp only [Act.put, List.setIfInBounds_toArray, List.set_cons_zero, List.set_cons_succ, i64_w, i32_w]
            rfl
           refine done_ (done_of HT_.out (by kernel_rfl)) ?_
           have hnb66 := NB653_645.out
           have hnc66 := NB645_653.out
           have hcz67_0 : w65.cell? ⟨gb653, 0, none⟩ = some (.slice Ao10 t646.length co10) := (blk_cell BK653.out 0).trans rfl
           have hcz67_1 : w65.cell? ⟨gb653, 1, none⟩ = some (.int .i64 t649) := (blk_cell BK653.out 1).trans rfl
           have hcz67_2 : w65.cell? ⟨gb653, 2, none⟩ = some (.slice Ao14 t650.length co14) := (blk_cell BK653.out 2).trans rfl
           have hfz67_0 := blk_frozen BK653.out 0
           have hfz67_1 := blk_frozen BK653.out 1
           have hfz67_2 := blk_frozen BK653.out 2
           have hcz68_0 : w65.cell? ⟨gb656, 0, none⟩ = some (.int .i64 ((rd_T67 l0_0 a0_1).f0)) := (blk_cell BK656.out 0).trans rfl
           have hcz68_1 : w65.cell? ⟨gb656, 1, none⟩ = some (.int .i64 ((rd_T67 l0_0 a0_1).f1)) := (blk_cell BK656.out 1).trans rfl
           have hcz68_2 : w65.cell? ⟨gb656, 2, none⟩ = some (.int .i64 ((rd_T67 l0_0 a0_1).f2)) := (blk_cell BK656.out 2).trans rfl
           have hcz68_3 : w65.cell? ⟨gb656, 3, none⟩ = some (.int .i64 ((rd_T67 l0_0 a0_1).f3)) := (blk_cell BK656.out 3).trans rfl
           have hfz68_0 := blk_frozen BK656.out 0
           have hfz68_1 := blk_frozen BK656.out 1
           have hfz68_2 := blk_frozen BK656.out 2
           have hfz68_3 := blk_frozen BK656.out 3
           have p54 : 0 ≤ (((rd_T67 l0_0 a0_1).f1) : Int) := of_decide_eq_true (by first | (with_reducible assumption) | assumption)
           have q54 : (((rd_T67 l0_0 a0_1).f1) : Int) < ((t650.length : Int) : Int) := of_decide_eq_true (by first | (with_reducible assumption) | assumption)
           obtain ⟨go54, co54, eo54, gb54, gl54, cl54, HG54⟩ := Kd.R_form HO_654002.out (by omega)
           (first | cases eo54 | (injection eo54 with ea_ en_ ec_; (first | subst ea_ | (injection ea_ with ea_; subst ea_)); subst ec_; clear en_))
           have GB54 := Aside0.mk gb54
           have GG54 := Aside0.mk HG54
           clear gb54 gl54 HG54
           obtain ⟨hx54_0, hf54_0⟩ := Kd.R_celln 0 HO_654002.out (((rd_T67 l0_0 a0_1).f1) : Int) p54 q54
           replace p54 := eq_true p54
           replace q54 := eq_true q54
           obtain ⟨hy69_, hz69_⟩ := Kd.R_celln 0 HO_654002.out (((rd_T67 l0_0 a0_1).f1) : Int) (of_decide_eq_true (by first | (with_reducible assumption) | assumption)) (of_decide_eq_true (by first | (with_reducible assumption) | assumption))
           have HP69 := Kd.R_putg HO_654002.out (((rd_T67 l0_0 a0_1).f1) : Int) t658
           try go_wp2_with (first | ((with_reducible refine gate_store (t := 3) (p := 46) rfl ?_); refine store_event (t := 3) (p := 46) (v := ?vo_w70) (w1 := (w65.setCell ⟨go54, (((rd_T67 l0_0 a0_1).f1) : Int).toNat, none⟩ (.int .i64 t658))) ?hg ?ho ?hn ?hr ?_; (case ho => rfl); (case hg => rfl); (case hn => rfl); (case hr => first | (go_simp; done) | (go_simp; rfl)); intro w70 hw; have hg : w65.grownBy w70 (some go54) := (by rw [hw]; exact HP69.2); have hp_ : Kd.R (Kd.int .i64) 3 w70 w.heap.size (fun _ => True) (.slice (some ⟨go54, 0, none⟩) t650.length co14) y659 := (by rw [hw, Ny659.out]; exact HP69.1); clear HP69; have n0_ := Aside0.mk (Kd.R_over' (v := (.slice (some ⟨go54, 0, none⟩) t650.length co14)) (oR HO_654000) (Kd.R_typed HO_654002.out) (by decide) hg); have n1_ := Aside0.mk (hp_); have n2_ := Aside0.mk (blk_grown (g := gb644) (o := .cells #[.slice (some ad655) l0_0.length c0_0, .int .i64 a0_1, .slice (some ad657) l0_2.length c0_2] 30 (0, 0)) (oK BK644) hg (Kd.R_ne HO_654002.out BK644.out (by decide))); have n3_ := Aside0.mk (blk_grown (g := gb645) (o := .cells #[.slice none 0 0, .int .i64 0, .slice none 0 0] 30 (0, 0)) (oK BK645) hg (Kd.R_ne HO_654002.out BK645.out (by decide))); have n4_ := Aside0.mk (blk_grown (g := gb653) (o := .cells #[.slice Ao10 t646.length co10, .int .i64 t649, .slice (some ⟨go54, 0, none⟩) t650.length co14] 30 (0, 0)) (oK BK653) hg (Kd.R_ne HO_654002.out BK653.out (by decide))); have n5_ := Aside0.mk (blk_grown (g := gb656) (o := .cells #[.int .i64 ((rd_T67 l0_0 a0_1).f0), .int .i64 ((rd_T67 l0_0 a0_1).f1), .int .i64 ((rd_T67 l0_0 a0_1).f2), .int .i64 ((rd_T67 l0_0 a0_1).f3)] 67 (0, 0)) (oK BK656) hg (Kd.R_ne HO_654002.out BK656.out (by decide))); have n6_ := Aside0.mk ((by rw [hw]; exact below_set (HB.out) GB54.out : Below w.heap.size w w70)); clear HO_654000; clear HO_654002; clear BK644; clear BK645; clear BK653; clear BK656; clear HB; have HO_654000 := n0_; have HO_654002 := n1_; have BK644 := n2_; have BK645 := n3_; have BK653 := n4_; have BK656 := n5_; have HB := n6_; clear n0_ n1_ n2_ n3_ n4_ n5_ n6_; clear hg hw hp_; have hcz71_0 : w70.cell? ⟨gb644, 0, none⟩ = some (.slice (some ad655) l0_0.length c0_0) := (blk_cell BK644.out 0).trans rfl; have hcz71_1 : w70.cell? ⟨gb644, 1, none⟩ = some (.int .i64 a0_1) := (blk_cell BK644.out 1).trans rfl; have hcz71_2 : w70.cell? ⟨gb644, 2, none⟩ = some (.slice (some ad657) l0_2.length c0_2) := (blk_cell BK644.out 2).trans rfl; have hfz71_0 := blk_frozen BK644.out 0; have hfz71_1 := blk_frozen BK644.out 1; have hfz71_2 := blk_frozen BK644.out 2; have hcz72_0 : w70.cell? ⟨gb653, 0, none⟩ = some (.slice Ao10 t646.length co10) := (blk_cell BK653.out 0).trans rfl; have hcz72_1 : w70.cell? ⟨gb653, 1, none⟩ = some (.int .i64 t649) := (blk_cell BK653.out 1).trans rfl; have hcz72_2 : w70.cell? ⟨gb653, 2, none⟩ = some (.slice (some ⟨go54, 0, none⟩) t650.length co14) := (blk_cell BK653.out 2).trans rfl; have hfz72_0 := blk_frozen BK653.out 0; have hfz72_1 := blk_frozen BK653.out 1; have hfz72_2 := blk_frozen BK653.out 2; have hcz73_0 : w70.cell? ⟨gb645, 0, none⟩ = some (.slice none 0 0) := (blk_cell BK645.out 0).trans rfl; have hcz73_1 : w70.cell? ⟨gb645, 1, none⟩ = some (.int .i64 0) := (blk_cell BK645.out 1).trans rfl; have hcz73_2 : w70.cell? ⟨gb645, 2, none⟩ = some (.slice none 0 0) := (blk_cell BK645.out 2).trans rfl; have hfz73_0 := blk_frozen BK645.out 0; have hfz73_1 := blk_frozen BK645.out 1; have hfz73_2 := blk_frozen BK645.out 2))
           refine bodyPost_ret (results_ct rfl _ _ gb645 30 #[.slice Ao10 t646.length co10, .int .i64 (wrap64 (a0_1 + 1)), .slice (some ⟨go54, 0, none⟩) t650.length co14] (0, 0) _ rfl (by (with_reducible repeat (first | refine blk_drewN ?_ _ | refine blk_drew ?_ | refine blk_alloc ?_ _)); refine blk_put (cs := #[.slice Ao10 t646.length co10, .int .i64 (wrap64 (a0_1 + 1)), .slice none 0 0]) ?_ 2 _ rfl; (with_reducible repeat (first | refine blk_drewN ?_ _ | refine blk_drew ?_ | refine blk_alloc ?_ _)); refine blk_put (cs := #[.slice Ao10 t646.length co10, .int .i64 0, .slice none 0 0]) ?_ 1 _ rfl; (with_reducible repeat (first | refine blk_drewN ?_ _ | refine blk_drew ?_ | refine blk_alloc ?_ _)); refine blk_put (cs := #[.slice none 0 0, .int .i64 0, .slice none 0 0]) ?_ 0 _ rfl; (with_reducible repeat (first | refine blk_drewN ?_ _ | refine blk_drew ?_ | refine blk_alloc ?_ _)); refine blk_far ?_ NB645_653.out _; (with_reducible repeat (first | refine blk_drewN ?_ _ | refine blk_drew ?_ | refine blk_alloc ?_ _)); exact BK645.out) Try.underlying30 rfl (by kernel_rfl)) rfl ?_
           exact ⟨_, _, by first | rfl | (simp [errW_none, errW_some] <;> rfl) | (simp [*, errW_none, errW_some] <;> rfl), by (with_reducible repeat (first | apply Kd.R_alloc | apply Kd.R_drewN | apply Kd.R_drew)); exact Kd.R_mono (Kd.R_far (p := ⟨gb645, 2, none⟩) (Kd.R_far (p := ⟨gb645, 1, none⟩) (Kd.R_far (p := ⟨gb645, 0, none⟩) (Kd.R_far (p := ⟨gb653, 1, none⟩) (Kd.R_types (Kd.R_types HO_654000.out BK653.out (by decide)) BK645.out (by decide)) (fun _ hk => hk.1.2) (.int .i64 (wrap64 (a0_1 + 1)))) (fun _ hk => hk.2) (.slice Ao10 t646.length co10)) (fun _ hk => hk.2) (.int .i64 (wrap64 (a0_1 + 1)))) (fun _ hk => hk.2) (.slice (some ⟨go54, 0, none⟩) t650.length co14)) (fun _ hk => trivial), by (with_reducible repeat (first | apply Kd.R_alloc | apply Kd.R_drewN | apply Kd.R_drew)); exact Kd.R_mono (Kd.R_far (p := ⟨gb645, 2, none⟩) (Kd.R_far (p := ⟨gb645, 1, none⟩) (Kd.R_far (p := ⟨gb645, 0, none⟩) (Kd.R_far (p := ⟨gb653, 1, none⟩) (Kd.R_types (Kd.R_types HO_654002.out BK653.out (by decide)) BK645.out (by decide)) (fun _ hk => hk.1.2) (.int .i64 (wrap64 (a0_1 + 1)))) (fun _ hk => hk.2) (.slice Ao10 t646.length co10)) (fun _ hk => hk.2) (.int .i64 (wrap64 (a0_1 + 1)))) (fun _ hk => hk.2) (.slice (some ⟨go54, 0, none⟩) t650.length co14)) (fun _ hk => trivial), oB HB⟩
          ·rw [if_neg c53] at H
           exact absurd H (by simp)
         ·rw [if_neg c52] at H
          exact absurd H (by simp)
       ·rw [if_neg c35] at H
        exact absurd H (by simp)
      ·rw [if_neg c34] at H
       exact absurd H (by simp)
     ·rw [if_neg c33] at H
      exact absurd H (by simp)
    ·rw [if_neg c32] at H
     exact absurd H (by simp)
end Go.Proofs.Ytlhlmjklajdejaa.P


namespace Go.Proofs.Ytlhlmjklajdejaa.P
open Go.RowKit Go.Proofs.YtlhlmjklajdejaaW.PrintWords Go.Proofs.YtlhlmjklajdejaaW.PrintLast Go.Proofs.YtlhlmjklajdejaaW.PrintMore
attribute [local go_sem] max2_int min2_int max_two min_two max_three min_three max_four min_four
set_option linter.unusedVariables false
set_option linter.unusedSimpArgs false
mutual
def spec_WorkSteps.l0 : Nat → Int → Int → List (S67) → Int → List Int → Option ((List (S67)) × Int × List Int)
 | 0, _, _, _, _, _ => none
 | k + 1, x1, x6, x754000, x754001, x754002 => if x6 < x1 then (spec_WorkSteps.j1 k x1 x6 (decide (x6 < 100)) x754000 x754001 x754002) else (spec_WorkSteps.j1 k x1 x6 false x754000 x754001 x754002)
def spec_WorkSteps.j1 : Nat → Int → Int → Bool → List (S67) → Int → List Int → Option ((List (S67)) × Int × List Int)
 | 0, _, _, _, _, _, _ => none
 | k + 1, x1, x6, x17, x754000, x754001, x754002 => if x17 = true then ((spec_WorkStep.f k x754000 x754001 x754002).bind fun bt754 => (if bt754.2.2.2 = true then (spec_WorkSteps.l0 k x1 (wrap64 (x6 + 1)) bt754.1 bt754.2.1 bt754.2.2.1) else (some (x754000, x754001, x754002)))) else (some (x754000, x754001, x754002))
end
def spec_WorkSteps.f (k : Nat) (l0_0 : List (S67)) (a0_1 : Int) (l0_2 : List Int) (a1 : Int) : Option ((List (S67)) × Int × List Int) := (spec_l36Copy.f l0_0 a0_1 l0_2).bind fun bt746 => (spec_WorkSteps.l0 k a1 0 bt746.1 bt746.2.1 bt746.2.2)
set_option maxHeartbeats 8000000 in
set_option maxRecDepth 100000 in
theorem spec_WorkSteps.calls (k : Nat) (A0_0 : Option Addr) (c0_0 : Nat) (l0_0 : List (S67)) (a0_1 : Int) (A0_2 : Option Addr) (c0_2 : Nat) (l0_2 : List Int) (a1 : Int) (r1 : List (S67)) (r2 : Int) (r3 : List Int) (w : World) (hr0_0 : Kd.C k67 w A0_0 l0_0.length l0_0) (hc0_0 : l0_0.length ≤ c0_0) (hr0_2 : Kd.C (Kd.int .i64) w A0_2 l0_2.length l0_2) (hc0_2 : l0_2.length ≤ c0_2) (h : spec_WorkSteps.f k l0_0 a0_1 l0_2 a1 = some (r1, r2, r3)) :
  Calls Try.prog 41 #[.agg #[.slice A0_0 l0_0.length c0_0, .int .i64 a0_1, .slice A0_2 l0_2.length c0_2], .int .i64 a1] w fun e w' => ∃ v0_ v2_ : Value, e = .returned (.agg #[v0_, .int .i64 r2, v2_]) ∧ Kd.R k67 67 w' w.heap.size (fun _ => True) v0_ r1 ∧ Kd.R (Kd.int .i64) 3 w' w.heap.size (fun _ => True) v2_ r3 ∧ Below w.heap.size w w' := by
 have hu30 := Try.underlying30
 have HR0_0 := Aside0.mk hr0_0
 have HC0_0 := Aside0.mk hc0_0
 clear hr0_0 hc0_0
 have HR0_2 := Aside0.mk hr0_2
 have HC0_2 := Aside0.mk hc0_2
 clear hr0_2 hc0_2
 have HB := Aside0.mk (Below.refl w.heap.size w)
 have H : ((spec_l36Copy.f l0_0 a0_1 l0_2).bind fun bt746 => (spec_WorkSteps.l0 k a1 0 bt746.1 bt746.2.1 bt746.2.2)) = some (r1, r2, r3) := h
 clear h
 replace H := Option.bind_eq_some_iff.mp H
 obtain ⟨⟨t746, t749, t750⟩, A30, H⟩ := H
 (try dsimp only at H)
 have A3 := Aside0.mk A30
 clear A30
 have H' := Aside0.mk H
 clear H
 go_enter Try.func41, Try.ntmps41
 go_wp2_with (first | ((with_reducible refine gate_dst (N := 2) rfl ?_); refine box_event ?hg (N := 2) ?hd (cs := #[.slice A0_0 l0_0.length c0_0, .int .i64 a0_1, .slice A0_2 l0_2.length c0_2]) (t := 30) ?hr ?_; (case hd => rfl); (case hg => rfl); (case hr => first | (go_simp; done) | (go_simp; rfl)); intro gb744 hg w4 hbox hb; have n0_ := Aside0.mk (below_step (oB HB) hb); have n1_ := Aside0.mk (hbox); have n2_ := Aside0.mk ((by rw [hg]; exact (below_size (oB HB)) : w.heap.size ≤ gb744)); have n3_ := Aside0.mk ((by rw [hg]; exact (below_size (oB HB)) : w.heap.size ≤ gb744)); clear HB; have HB := n0_; have BK744 := n1_; have GW744 := n2_; have GE744 := n3_; clear n0_ n1_ n2_ n3_; clear hb hbox hg) | ((with_reducible refine gate_dst (N := 4) rfl ?_); refine box_event ?hg (N := 4) ?hd (cs := #[.slice none 0 0, .int .i64 0, .slice none 0 0]) (t := 30) ?hr ?_; (case hd => rfl); (case hg => rfl); (case hr => first | (go_simp; done) | (go_simp; rfl)); intro gb745 hg w5 hbox hb; have n0_ := Aside0.mk (blk_below (g := gb744) (o := .cells #[.slice A0_0 l0_0.length c0_0, .int .i64 a0_1, .slice A0_2 l0_2.length c0_2] 30 (0, 0)) (oK BK744) hb); have n1_ := Aside0.mk (below_step (oB HB) hb); have n2_ := Aside0.mk (hbox); have n3_ := Aside0.mk ((by rw [hg]; exact (below_size (oB HB)) : w.heap.size ≤ gb745)); have n4_ := Aside0.mk ((by rw [hg]; exact (below_size (oB HB)) : w.heap.size ≤ gb745)); have n5_ := Aside0.mk ((by rw [hg]; exact Nat.ne_of_lt (blk_lt (g := gb744) (o := .cells #[.slice A0_0 l0_0.length c0_0, .int .i64 a0_1, .slice A0_2 l0_2.length c0_2] 30 (0, 0)) (oK BK744)) : gb744 ≠ gb745)); have n6_ := Aside0.mk ((by rw [hg]; exact Nat.ne_of_gt (blk_lt (g := gb744) (o := .cells #[.slice A0_0 l0_0.length c0_0, .int .i64 a0_1, .slice A0_2 l0_2.length c0_2] 30 (0, 0)) (oK BK744)) : gb745 ≠ gb744)); clear BK744; clear HB; have BK744 := n0_; have HB := n1_; have BK745 := n2_; have GW745 := n3_; have GE745 := n4_; have NB744_745 := n5_; have NB745_744 := n6_; clear n0_ n1_ n2_ n3_ n4_ n5_ n6_; clear hb hbox hg; have hnb6 := NB744_745.out; have hnc6 := NB745_744.out; have hcz7_0 : w5.cell? ⟨gb744, 0, none⟩ = some (.slice A0_0 l0_0.length c0_0) := (blk_cell BK744.out 0).trans rfl; have hcz7_1 : w5.cell? ⟨gb744, 1, none⟩ = some (.int .i64 a0_1) := (blk_cell BK744.out 1).trans rfl; have hcz7_2 : w5.cell? ⟨gb744, 2, none⟩ = some (.slice A0_2 l0_2.length c0_2) := (blk_cell BK744.out 2).trans rfl; have hfz7_0 := blk_frozen BK744.out 0; have hfz7_1 := blk_frozen BK744.out 1; have hfz7_2 := blk_frozen BK744.out 2) | ((with_reducible refine gate_callee (f := 68) rfl ?_); refine goesL_ (some 10) rfl rfl Try.func68 (by kernel_rfl) rfl #[.agg #[.slice A0_0 l0_0.length c0_0, .int .i64 a0_1, .slice A0_2 l0_2.length c0_2]] rfl (by (try simp only [List.map_toArray, List.map_cons, List.map_nil]); first | done | rfl | (simp only [List.length_drop, List.length_take]; rfl)) ?_; (with_reducible refine (spec_l36Copy.calls _ _ l0_0 a0_1 _ _ l0_2 t746 t749 t750 _ ?side1 ?side2 ?side3 ?side4 A3.out).mono ?_); (case side1 => exact oc_ HR0_0.out); (case side2 => exact HC0_0.out); (case side3 => exact oc_ HR0_2.out); (case side4 => exact HC0_2.out); rintro e w8 ⟨v747, v751, rfl, ho0, ho1, hb⟩; refine ⟨_, rfl, ?_⟩; have n0_ := Aside0.mk (Kd.R_lower ho0 (below_size (oB HB))); have n1_ := Aside0.mk (Kd.R_lower ho1 (below_size (oB HB))); have n2_ := Aside0.mk (blk_below (g := gb744) (o := .cells #[.slice A0_0 l0_0.length c0_0, .int .i64 a0_1, .slice A0_2 l0_2.length c0_2] 30 (0, 0)) (oK BK744) hb); have n3_ := Aside0.mk (blk_below (g := gb745) (o := .cells #[.slice none 0 0, .int .i64 0, .slice none 0 0] 30 (0, 0)) (oK BK745) hb); have n4_ := Aside0.mk (below_step (oB HB) hb); clear BK744; clear BK745; clear HB; have HO748 := n0_; have HO752 := n1_; have BK744 := n2_; have BK745 := n3_; have HB := n4_; clear n0_ n1_ n2_ n3_ n4_; (try clear hb); (try clear hb2); (try clear hk); (try clear hi); (try clear ho0); (try clear ho1)) | ((with_reducible refine gate_dst (N := 5) rfl ?_); refine box_event ?hg (N := 5) ?hd (cs := #[.slice none 0 0, .int .i64 0, .slice none 0 0]) (t := 30) ?hr ?_; (case hd => rfl); (case hg => rfl); (case hr => first | (go_simp; done) | (go_simp; rfl)); intro gb753 hg w9 hbox hb; have n0_ := Aside0.mk (Kd.R_below (oR HO748) hb); have n1_ := Aside0.mk (Kd.R_below (oR HO752) hb); have n2_ := Aside0.mk (blk_below (g := gb744) (o := .cells #[.slice A0_0 l0_0.length c0_0, .int .i64 a0_1, .slice A0_2 l0_2.length c0_2] 30 (0, 0)) (oK BK744) hb); have n3_ := Aside0.mk (blk_below (g := gb745) (o := .cells #[.slice none 0 0, .int .i64 0, .slice none 0 0] 30 (0, 0)) (oK BK745) hb); have n4_ := Aside0.mk (below_step (oB HB) hb); have n5_ := Aside0.mk (hbox); have n6_ := Aside0.mk ((by rw [hg]; exact (below_size (oB HB)) : w.heap.size ≤ gb753)); have n7_ := Aside0.mk ((by rw [hg]; exact (below_size (oB HB)) : w.heap.size ≤ gb753)); have n8_ := Aside0.mk ((by rw [hg]; exact Nat.ne_of_lt (blk_lt (g := gb744) (o := .cells #[.slice A0_0 l0_0.length c0_0, .int .i64 a0_1, .slice A0_2 l0_2.length c0_2] 30 (0, 0)) (oK BK744)) : gb744 ≠ gb753)); have n9_ := Aside0.mk ((by rw [hg]; exact Nat.ne_of_gt (blk_lt (g := gb744) (o := .cells #[.slice A0_0 l0_0.length c0_0, .int .i64 a0_1, .slice A0_2 l0_2.length c0_2] 30 (0, 0)) (oK BK744)) : gb753 ≠ gb744)); have n10_ := Aside0.mk ((by rw [hg]; exact Nat.ne_of_lt (blk_lt (g := gb745) (o := .cells #[.slice none 0 0, .int .i64 0, .slice none 0 0] 30 (0, 0)) (oK BK745)) : gb745 ≠ gb753)); have n11_ := Aside0.mk ((by rw [hg]; exact Nat.ne_of_gt (blk_lt (g := gb745) (o := .cells #[.slice none 0 0, .int .i64 0, .slice none 0 0] 30 (0, 0)) (oK BK745)) : gb753 ≠ gb745)); clear HO748; clear HO752; clear BK744; clear BK745; clear HB; have HO748 := n0_; have HO752 := n1_; have BK744 := n2_; have BK745 := n3_; have HB := n4_; have BK753 := n5_; have GW753 := n6_; have GE753 := n7_; have NB744_753 := n8_; have NB753_744 := n9_; have NB745_753 := n10_; have NB753_745 := n11_; clear n0_ n1_ n2_ n3_ n4_ n5_ n6_ n7_ n8_ n9_ n10_ n11_; clear hb hbox hg; obtain ⟨Ao10, co10, eo10⟩ := Kd.R_slice HO748.out; subst eo10; have hnb11 := NB753_744.out; have hnc11 := NB744_753.out; have hnb12 := NB753_745.out; have hnc12 := NB745_753.out; have hcz13_0 : w9.cell? ⟨gb753, 0, none⟩ = some (.slice none 0 0) := (blk_cell BK753.out 0).trans rfl; have hcz13_1 : w9.cell? ⟨gb753, 1, none⟩ = some (.int .i64 0) := (blk_cell BK753.out 1).trans rfl; have hcz13_2 : w9.cell? ⟨gb753, 2, none⟩ = some (.slice none 0 0) := (blk_cell BK753.out 2).trans rfl; have hfz13_0 := blk_frozen BK753.out 0; have hfz13_1 := blk_frozen BK753.out 1; have hfz13_2 := blk_frozen BK753.out 2; obtain ⟨Ao14, co14, eo14⟩ := Kd.R_slice HO752.out; subst eo14))
 go_loopg [6] k (fun kq v6 w' => ∃ (x6_1 : Int) (x754000_1 : List (S67)) (x754001_1 : Int) (x754002_1 : List Int) (u754000 : Value) (u754002 : Value), v6 = .int .i64 x6_1 ∧ Aside0 (spec_WorkSteps.l0 kq a1 x6_1 x754000_1 x754001_1 x754002_1 = some (r1, r2, r3)) ∧ Aside0 (kq ≤ k) ∧ Aside0 (Kd.R k67 67 w' w.heap.size (fun _ => True) u754000 x754000_1) ∧ Aside0 (Kd.R (Kd.int .i64) 3 w' w.heap.size (fun _ => True) u754002 x754002_1) ∧ Aside0 (w'.heap[gb744]? = some (.cells #[(.slice A0_0 l0_0.length c0_0), .int .i64 a0_1, (.slice A0_2 l0_2.length c0_2)] 30 (0, 0))) ∧ Aside0 (w'.heap[gb745]? = some (.cells #[(.slice none 0 0), .int .i64 0, (.slice none 0 0)] 30 (0, 0))) ∧ Aside0 (w'.heap[gb753]? = some (.cells #[u754000, .int .i64 x754001_1, u754002] 30 (0, 0))) ∧ Aside0 (Below w.heap.size w w'))
 case atStart => exact ⟨(0), (t746), (t749), (t750), (.slice Ao10 t746.length co10), (.slice Ao14 t750.length co14), (by first | rfl | (simp; done) | (simp [*]; done)), H', ⟨Nat.le_refl _⟩, ⟨by (with_reducible repeat (first | apply Kd.R_alloc | apply Kd.R_drewN | apply Kd.R_drew)); exact Kd.R_mono (Kd.R_far (p := ⟨gb753, 2, none⟩) (Kd.R_far (p := ⟨gb753, 1, none⟩) (Kd.R_far (p := ⟨gb753, 0, none⟩) (Kd.R_types HO748.out BK753.out (by decide)) (fun _ hk => hk.2) (.slice Ao10 t746.length co10)) (fun _ hk => hk.2) (.int .i64 t749)) (fun _ hk => hk.2) (.slice Ao14 t750.length co14)) (fun _ hk => trivial)⟩, ⟨by (with_reducible repeat (first | apply Kd.R_alloc | apply Kd.R_drewN | apply Kd.R_drew)); exact Kd.R_mono (Kd.R_far (p := ⟨gb753, 2, none⟩) (Kd.R_far (p := ⟨gb753, 1, none⟩) (Kd.R_far (p := ⟨gb753, 0, none⟩) (Kd.R_types HO752.out BK753.out (by decide)) (fun _ hk => hk.2) (.slice Ao10 t746.length co10)) (fun _ hk => hk.2) (.int .i64 t749)) (fun _ hk => hk.2) (.slice Ao14 t750.length co14)) (fun _ hk => trivial)⟩, ⟨by (with_reducible repeat (first | refine blk_drewN ?_ _ | refine blk_drew ?_ | refine blk_alloc ?_ _)); refine blk_far ?_ NB744_753.out _; (with_reducible repeat (first | refine blk_drewN ?_ _ | refine blk_drew ?_ | refine blk_alloc ?_ _)); refine blk_far ?_ NB744_753.out _; (with_reducible repeat (first | refine blk_drewN ?_ _ | refine blk_drew ?_ | refine blk_alloc ?_ _)); refine blk_far ?_ NB744_753.out _; (with_reducible repeat (first | refine blk_drewN ?_ _ | refine blk_drew ?_ | refine blk_alloc ?_ _)); exact BK744.out⟩, ⟨by (with_reducible repeat (first | refine blk_drewN ?_ _ | refine blk_drew ?_ | refine blk_alloc ?_ _)); refine blk_far ?_ NB745_753.out _; (with_reducible repeat (first | refine blk_drewN ?_ _ | refine blk_drew ?_ | refine blk_alloc ?_ _)); refine blk_far ?_ NB745_753.out _; (with_reducible repeat (first | refine blk_drewN ?_ _ | refine blk_drew ?_ | refine blk_alloc ?_ _)); refine blk_far ?_ NB745_753.out _; (with_reducible repeat (first | refine blk_drewN ?_ _ | refine blk_drew ?_ | refine blk_alloc ?_ _)); exact BK745.out⟩, ⟨by (with_reducible repeat (first | refine blk_drewN ?_ _ | refine blk_drew ?_ | refine blk_alloc ?_ _)); refine blk_put (cs := #[.slice Ao10 t746.length co10, .int .i64 t749, .slice none 0 0]) ?_ 2 _ rfl; (with_reducible repeat (first | refine blk_drewN ?_ _ | refine blk_drew ?_ | refine blk_alloc ?_ _)); refine blk_put (cs := #[.slice Ao10 t746.length co10, .int .i64 0, .slice none 0 0]) ?_ 1 _ rfl; (with_reducible repeat (first | refine blk_drewN ?_ _ | refine blk_drew ?_ | refine blk_alloc ?_ _)); refine blk_put (cs := #[.slice none 0 0, .int .i64 0, .slice none 0 0]) ?_ 0 _ rfl; (with_reducible repeat (first | refine blk_drewN ?_ _ | refine blk_drew ?_ | refine blk_alloc ?_ _)); exact BK753.out⟩, ⟨oB HB⟩⟩
 case round =>
  clear H'
  try clear c1
  try clear p2
  try clear c4
  try clear c6
  try clear c11
  try clear c12
  try clear hcz13_0
  try clear hcz13_1
  try clear hcz13_2
  try clear hcz7_0
  try clear hcz7_1
  try clear hcz7_2
  try clear hfz13_0
  try clear hfz13_1
  try clear hfz13_2
  try clear hfz7_0
  try clear hfz7_1
  try clear hfz7_2
  obtain ⟨x6_1, x754000_1, x754001_1, x754002_1, u754000, u754002, rfl, HA, HK1, HO_754000, HO_754002, BK744, BK745, BK753, HB⟩ := hrel
  cases gk with
  | zero => exact absurd HA.out (by simp [spec_WorkSteps.l0])
  | succ k1 =>
   have H := HA.out
   clear HA
   simp only [spec_WorkSteps.l0] at H
   have HC15 := Aside0.mk H
   clear H
   go_upto_region 3 with (fail)
   go_cut [17] (fun v17 wc => ∃ (kq : Nat) (x17_14 : Bool), v17 = .bool x17_14 ∧ Aside0 (spec_WorkSteps.j1 kq a1 x6_1 x17_14 x754000_1 x754001_1 x754002_1 = some (r1, r2, r3)) ∧ Aside0 (kq ≤ k1) ∧ Aside0 (Kd.R k67 67 wc w.heap.size (fun _ => True) u754000 x754000_1) ∧ Aside0 (Kd.R (Kd.int .i64) 3 wc w.heap.size (fun _ => True) u754002 x754002_1) ∧ Aside0 (wc.heap[gb744]? = some (.cells #[(.slice A0_0 l0_0.length c0_0), .int .i64 a0_1, (.slice A0_2 l0_2.length c0_2)] 30 (0, 0))) ∧ Aside0 (wc.heap[gb745]? = some (.cells #[(.slice none 0 0), .int .i64 0, (.slice none 0 0)] 30 (0, 0))) ∧ Aside0 (wc.heap[gb753]? = some (.cells #[u754000, .int .i64 x754001_1, u754002] 30 (0, 0))) ∧ Aside0 (Below w.heap.size w wc))
   case first =>
    have H := HC15.out
    clear HC15
    by_cases c16 : x6_1 < a1
    ·rw [if_pos c16] at H
     have c16b0 : decide (x6_1 < a1) = true := decide_eq_true c16
     clear c16
     (first | rw [c16b0] | (simp only [i64_w, i32_w]; rw [c16b0]) | skip)
     have H' := Aside0.mk H
     clear H
     go_wp2
     go_meet
     case rel => exact ⟨_, (decide (x6_1 < 100)), (by first | rfl | (simp; done) | (simp [*]; done)), H', ⟨by have := HK1.out; first | omega | exact Nat.le_refl _⟩, ⟨oR HO_754000⟩, ⟨oR HO_754002⟩, ⟨oK BK744⟩, ⟨oK BK745⟩, ⟨oK BK753⟩, ⟨oB HB⟩⟩
    ·rw [if_neg c16] at H
     have c16b0 : decide (x6_1 < a1) = false := decide_eq_false c16
     clear c16
     (first | rw [c16b0] | (simp only [i64_w, i32_w]; rw [c16b0]) | skip)
     have H' := Aside0.mk H
     clear H
     go_wp2
     go_meet
     case rel => exact ⟨_, (false), (by first | rfl | (simp; done) | (simp [*]; done)), H', ⟨by have := HK1.out; first | omega | exact Nat.le_refl _⟩, ⟨oR HO_754000⟩, ⟨oR HO_754002⟩, ⟨oK BK744⟩, ⟨oK BK745⟩, ⟨oK BK753⟩, ⟨oB HB⟩⟩
   case rest =>
    clear HC15
    try clear c1
    try clear p2
    try clear c4
    try clear c6
    try clear c11
    try clear c12
    try clear c16
    try clear c16b0
    try clear hcz13_0
    try clear hcz13_1
    try clear hcz13_2
    try clear hcz7_0
    try clear hcz7_1
    try clear hcz7_2
    try clear hfz13_0
    try clear hfz13_1
    try clear hfz13_2
    try clear hfz7_0
    try clear hfz7_1
    try clear hfz7_2
    try clear p2
    obtain ⟨kq, x17_14, rfl, HA, HJ14, HO_754000, HO_754002, BK744, BK745, BK753, HB⟩ := hcut
    cases kq with
    | zero => exact absurd HA.out (by simp [spec_WorkSteps.j1])
    | succ kj14 =>
     have H := HA.out
     clear HA
     simp only [spec_WorkSteps.j1] at H
     by_cases c17 : x17_14 = true
     ·subst c17
      rw [if_pos rfl] at H
      replace H := Option.bind_eq_some_iff.mp H
      obtain ⟨⟨t754, t757, t758, t761⟩, A180, H⟩ := H
      (try dsimp only at H)
      have A18 := Aside0.mk A180
      clear A180
      by_cases c19 : t761 = true
      ·subst c19
       rw [if_pos rfl] at H
       have H' := Aside0.mk H
       clear H
       have hnb20 := NB753_744.out
       have hnc20 := NB744_753.out
       have hnb21 := NB753_745.out
       have hnc21 := NB745_753.out
       have hcz22_0 : wc.cell? ⟨gb753, 0, none⟩ = some (u754000) := (blk_cell BK753.out 0).trans rfl
       have hcz22_1 : wc.cell? ⟨gb753, 1, none⟩ = some (.int .i64 x754001_1) := (blk_cell BK753.out 1).trans rfl
       have hcz22_2 : wc.cell? ⟨gb753, 2, none⟩ = some (u754002) := (blk_cell BK753.out 2).trans rfl
       have hfz22_0 := blk_frozen BK753.out 0
       have hfz22_1 := blk_frozen BK753.out 1
       have hfz22_2 := blk_frozen BK753.out 2
       obtain ⟨Ao23, co23, eo23⟩ := Kd.R_slice HO_754000.out
       subst eo23
       obtain ⟨Ao24, co24, eo24⟩ := Kd.R_slice HO_754002.out
       subst eo24
       go_wp2_with (first | ((with_reducible refine gate_callee (f := 39) rfl ?_); refine goesL_ (some 22) rfl rfl Try.func39 (by kernel_rfl) rfl #[.agg #[.slice Ao23 x754000_1.length co23, .int .i64 x754001_1, .slice Ao24 x754002_1.length co24]] rfl (by (try simp only [List.map_toArray, List.map_cons, List.map_nil]); first | done | rfl | (simp only [List.length_drop, List.length_take]; rfl)) ?_; (with_reducible refine (spec_WorkStep.calls kj14 _ _ x754000_1 x754001_1 _ _ x754002_1 t754 t757 t758 true _ ?side1 ?side2 ?side3 ?side4 A18.out).mono ?_); (case side1 => repeat (first | exact (Kd.R_reads' HO_754000.out).2.2 | (with_reducible refine Kd.C_alloc ?_ _) | (with_reducible refine Kd.C_drewN ?_ _) | (with_reducible refine Kd.C_drew ?_))); (case side2 => exact (Kd.R_reads' HO_754000.out).2.1); (case side3 => repeat (first | exact (Kd.R_reads' HO_754002.out).2.2 | (with_reducible refine Kd.C_alloc ?_ _) | (with_reducible refine Kd.C_drewN ?_ _) | (with_reducible refine Kd.C_drew ?_))); (case side4 => exact (Kd.R_reads' HO_754002.out).2.1); rintro e w25 ⟨v755, v759, rfl, ho0, ho1, hb⟩; refine ⟨_, rfl, ?_⟩; have n0_ := Aside0.mk (Kd.R_elder' (oR HO_754000) (Kd.R_base ho0) hb); have n1_ := Aside0.mk (Kd.R_elder' (oR HO_754002) (Kd.R_base ho1) hb); have n2_ := Aside0.mk (Kd.R_lower (Kd.R_new' ho0 (Kd.R_lt (oR HO_754000))) (below_size (oB HB))); have n3_ := Aside0.mk (Kd.R_lower (Kd.R_new' ho1 (Kd.R_lt (oR HO_754002))) (below_size (oB HB))); have n4_ := Aside0.mk (blk_below (g := gb744) (o := .cells #[.slice A0_0 l0_0.length c0_0, .int .i64 a0_1, .slice A0_2 l0_2.length c0_2] 30 (0, 0)) (oK BK744) hb); have n5_ := Aside0.mk (blk_below (g := gb745) (o := .cells #[.slice none 0 0, .int .i64 0, .slice none 0 0] 30 (0, 0)) (oK BK745) hb); have n6_ := Aside0.mk (blk_below (g := gb753) (o := .cells #[.slice Ao23 x754000_1.length co23, .int .i64 x754001_1, .slice Ao24 x754002_1.length co24] 30 (0, 0)) (oK BK753) hb); have n7_ := Aside0.mk (below_step (oB HB) hb); clear HO_754000; clear HO_754002; clear BK744; clear BK745; clear BK753; clear HB; have HO_754000 := n0_; have HO_754002 := n1_; have HO756 := n2_; have HO760 := n3_; have BK744 := n4_; have BK745 := n5_; have BK753 := n6_; have HB := n7_; clear n0_ n1_ n2_ n3_ n4_ n5_ n6_ n7_; (try clear hb); (try clear hb2); (try clear hk); (try clear hi); (try clear ho0); (try clear ho1)) | ((with_reducible refine gate_dst (N := 7) rfl ?_); refine box_event ?hg (N := 7) ?hd (cs := #[.slice none 0 0, .int .i64 0, .slice none 0 0]) (t := 30) ?hr ?_; (case hd => rfl); (case hg => rfl); (case hr => first | (go_simp; done) | (go_simp; rfl)); intro gb762 hg w26 hbox hb; have n0_ := Aside0.mk (Kd.R_below (oR HO_754000) hb); have n1_ := Aside0.mk (Kd.R_below (oR HO_754002) hb); have n2_ := Aside0.mk (Kd.R_below (oR HO756) hb); have n3_ := Aside0.mk (Kd.R_below (oR HO760) hb); have n4_ := Aside0.mk (blk_below (g := gb744) (o := .cells #[.slice A0_0 l0_0.length c0_0, .int .i64 a0_1, .slice A0_2 l0_2.length c0_2] 30 (0, 0)) (oK BK744) hb); have n5_ := Aside0.mk (blk_below (g := gb745) (o := .cells #[.slice none 0 0, .int .i64 0, .slice none 0 0] 30 (0, 0)) (oK BK745) hb); have n6_ := Aside0.mk (blk_below (g := gb753) (o := .cells #[.slice Ao23 x754000_1.length co23, .int .i64 x754001_1, .slice Ao24 x754002_1.length co24] 30 (0, 0)) (oK BK753) hb); have n7_ := Aside0.mk (below_step (oB HB) hb); have n8_ := Aside0.mk (hbox); have n9_ := Aside0.mk ((by rw [hg]; exact (below_size (oB HB)) : w.heap.size ≤ gb762)); have n10_ := Aside0.mk ((by rw [hg]; exact (below_size (oB HB)) : w.heap.size ≤ gb762)); have n11_ := Aside0.mk ((by rw [hg]; exact Nat.ne_of_lt (blk_lt (g := gb744) (o := .cells #[.slice A0_0 l0_0.length c0_0, .int .i64 a0_1, .slice A0_2 l0_2.length c0_2] 30 (0, 0)) (oK BK744)) : gb744 ≠ gb762)); have n12_ := Aside0.mk ((by rw [hg]; exact Nat.ne_of_gt (blk_lt (g := gb744) (o := .cells #[.slice A0_0 l0_0.length c0_0, .int .i64 a0_1, .slice A0_2 l0_2.length c0_2] 30 (0, 0)) (oK BK744)) : gb762 ≠ gb744)); have n13_ := Aside0.mk ((by rw [hg]; exact Nat.ne_of_lt (blk_lt (g := gb745) (o := .cells #[.slice none 0 0, .int .i64 0, .slice none 0 0] 30 (0, 0)) (oK BK745)) : gb745 ≠ gb762)); have n14_ := Aside0.mk ((by rw [hg]; exact Nat.ne_of_gt (blk_lt (g := gb745) (o := .cells #[.slice none 0 0, .int .i64 0, .slice none 0 0] 30 (0, 0)) (oK BK745)) : gb762 ≠ gb745)); have n15_ := Aside0.mk ((by rw [hg]; exact Nat.ne_of_lt (blk_lt (g := gb753) (o := .cells #[.slice Ao23 x754000_1.length co23, .int .i64 x754001_1, .slice Ao24 x754002_1.length co24] 30 (0, 0)) (oK BK753)) : gb753 ≠ gb762)); have n16_ := Aside0.mk ((by rw [hg]; exact Nat.ne_of_gt (blk_lt (g := gb753) (o := .cells #[.slice Ao23 x754000_1.length co23, .int .i64 x754001_1, .slice Ao24 x754002_1.length co24] 30 (0, 0)) (oK BK753)) : gb762 ≠ gb753)); clear HO_754000; clear HO_754002; clear HO756; clear HO760; clear BK744; clear BK745; clear BK753; clear HB; have HO_754000 := n0_; have HO_754002 := n1_; have HO756 := n2_; have HO760 := n3_; have BK744 := n4_; have BK745 := n5_; have BK753 := n6_; have HB := n7_; have BK762 := n8_; have GW762 := n9_; have GE762 := n10_; have NB744_762 := n11_; have NB762_744 := n12_; have NB745_762 := n13_; have NB762_745 := n14_; have NB753_762 := n15_; have NB762_753 := n16_; clear n0_ n1_ n2_ n3_ n4_ n5_ n6_ n7_ n8_ n9_ n10_ n11_ n12_ n13_ n14_ n15_ n16_; clear hb hbox hg; obtain ⟨Ao27, co27, eo27⟩ := Kd.R_slice HO756.out; subst eo27; have hnb28 := NB762_744.out; have hnc28 := NB744_762.out; have hnb29 := NB762_745.out; have hnc29 := NB745_762.out; have hnb30 := NB762_753.out; have hnc30 := NB753_762.out; have hcz31_0 : w26.cell? ⟨gb762, 0, none⟩ = some (.slice none 0 0) := (blk_cell BK762.out 0).trans rfl; have hcz31_1 : w26.cell? ⟨gb762, 1, none⟩ = some (.int .i64 0) := (blk_cell BK762.out 1).trans rfl; have hcz31_2 : w26.cell? ⟨gb762, 2, none⟩ = some (.slice none 0 0) := (blk_cell BK762.out 2).trans rfl; have hfz31_0 := blk_frozen BK762.out 0; have hfz31_1 := blk_frozen BK762.out 1; have hfz31_2 := blk_frozen BK762.out 2; obtain ⟨Ao32, co32, eo32⟩ := Kd.R_slice HO760.out; subst eo32; have hcz33_0 : w26.cell? ⟨gb753, 0, none⟩ = some (.slice Ao23 x754000_1.length co23) := (blk_cell BK753.out 0).trans rfl; have hcz33_1 : w26.cell? ⟨gb753, 1, none⟩ = some (.int .i64 x754001_1) := (blk_cell BK753.out 1).trans rfl; have hcz33_2 : w26.cell? ⟨gb753, 2, none⟩ = some (.slice Ao24 x754002_1.length co24) := (blk_cell BK753.out 2).trans rfl; have hfz33_0 := blk_frozen BK753.out 0; have hfz33_1 := blk_frozen BK753.out 1; have hfz33_2 := blk_frozen BK753.out 2))
       go_roundg kj14
       case measure => have := HK1.out; have := HJ14.out; omega
       case rel => exact ⟨(wrap64 (x6_1 + 1)), (t754), (t757), (t758), (.slice Ao27 t754.length co27), (.slice Ao32 t758.length co32), (by first | rfl | (simp; done) | (simp [*]; done)), H', ⟨by have := HK1.out; have := HJ14.out; omega⟩, ⟨by (with_reducible repeat (first | apply Kd.R_alloc | apply Kd.R_drewN | apply Kd.R_drew)); exact Kd.R_mono (Kd.R_far (p := ⟨gb753, 2, none⟩) (Kd.R_far (p := ⟨gb753, 1, none⟩) (Kd.R_far (p := ⟨gb753, 0, none⟩) (Kd.R_far (p := ⟨gb762, 2, none⟩) (Kd.R_far (p := ⟨gb762, 1, none⟩) (Kd.R_far (p := ⟨gb762, 0, none⟩) (Kd.R_types (Kd.R_types HO756.out BK762.out (by decide)) BK753.out (by decide)) (fun _ hk => hk.1.2) (.slice Ao27 t754.length co27)) (fun _ hk => hk.1.2) (.int .i64 t757)) (fun _ hk => hk.1.2) (.slice Ao32 t758.length co32)) (fun _ hk => hk.2) (.slice Ao27 t754.length co27)) (fun _ hk => hk.2) (.int .i64 t757)) (fun _ hk => hk.2) (.slice Ao32 t758.length co32)) (fun _ hk => trivial)⟩, ⟨by (with_reducible repeat (first | apply Kd.R_alloc | apply Kd.R_drewN | apply Kd.R_drew)); exact Kd.R_mono (Kd.R_far (p := ⟨gb753, 2, none⟩) (Kd.R_far (p := ⟨gb753, 1, none⟩) (Kd.R_far (p := ⟨gb753, 0, none⟩) (Kd.R_far (p := ⟨gb762, 2, none⟩) (Kd.R_far (p := ⟨gb762, 1, none⟩) (Kd.R_far (p := ⟨gb762, 0, none⟩) (Kd.R_types (Kd.R_types HO760.out BK762.out (by decide)) BK753.out (by decide)) (fun _ hk => hk.1.2) (.slice Ao27 t754.length co27)) (fun _ hk => hk.1.2) (.int .i64 t757)) (fun _ hk => hk.1.2) (.slice Ao32 t758.length co32)) (fun _ hk => hk.2) (.slice Ao27 t754.length co27)) (fun _ hk => hk.2) (.int .i64 t757)) (fun _ hk => hk.2) (.slice Ao32 t758.length co32)) (fun _ hk => trivial)⟩, ⟨by (with_reducible repeat (first | refine blk_drewN ?_ _ | refine blk_drew ?_ | refine blk_alloc ?_ _)); refine blk_far ?_ NB744_753.out _; (with_reducible repeat (first | refine blk_drewN ?_ _ | refine blk_drew ?_ | refine blk_alloc ?_ _)); refine blk_far ?_ NB744_753.out _; (with_reducible repeat (first | refine blk_drewN ?_ _ | refine blk_drew ?_ | refine blk_alloc ?_ _)); refine blk_far ?_ NB744_753.out _; (with_reducible repeat (first | refine blk_drewN ?_ _ | refine blk_drew ?_ | refine blk_alloc ?_ _)); refine blk_far ?_ NB744_762.out _; (with_reducible repeat (first | refine blk_drewN ?_ _ | refine blk_drew ?_ | refine blk_alloc ?_ _)); refine blk_far ?_ NB744_762.out _; (with_reducible repeat (first | refine blk_drewN ?_ _ | refine blk_drew ?_ | refine blk_alloc ?_ _)); refine blk_far ?_ NB744_762.out _; (with_reducible repeat (first | refine blk_drewN ?_ _ | refine blk_drew ?_ | refine blk_alloc ?_ _)); exact BK744.out⟩, ⟨by (with_reducible repeat (first | refine blk_drewN ?_ _ | refine blk_drew ?_ | refine blk_alloc ?_ _)); refine blk_far ?_ NB745_753.out _; (with_reducible repeat (first | refine blk_drewN ?_ _ | refine blk_drew ?_ | refine blk_alloc ?_ _)); refine blk_far ?_ NB745_753.out _; (with_reducible repeat (first | refine blk_drewN ?_ _ | refine blk_drew ?_ | refine blk_alloc ?_ _)); refine blk_far ?_ NB745_753.out _; (with_reducible repeat (first | refine blk_drewN ?_ _ | refine blk_drew ?_ | refine blk_alloc ?_ _)); refine blk_far ?_ NB745_762.out _; (with_reducible repeat (first | refine blk_drewN ?_ _ | refine blk_drew ?_ | refine blk_alloc ?_ _)); refine blk_far ?_ NB745_762.out _; (with_reducible repeat (first | refine blk_drewN ?_ _ | refine blk_drew ?_ | refine blk_alloc ?_ _)); refine blk_far ?_ NB745_762.out _; (with_reducible repeat (first | refine blk_drewN ?_ _ | refine blk_drew ?_ | refine blk_alloc ?_ _)); exact BK745.out⟩, ⟨by (with_reducible repeat (first | refine blk_drewN ?_ _ | refine blk_drew ?_ | refine blk_alloc ?_ _)); refine blk_put (cs := #[.slice Ao27 t754.length co27, .int .i64 t757, .slice Ao24 x754002_1.length co24]) ?_ 2 _ rfl; (with_reducible repeat (first | refine blk_drewN ?_ _ | refine blk_drew ?_ | refine blk_alloc ?_ _)); refine blk_put (cs := #[.slice Ao27 t754.length co27, .int .i64 x754001_1, .slice Ao24 x754002_1.length co24]) ?_ 1 _ rfl; (with_reducible repeat (first | refine blk_drewN ?_ _ | refine blk_drew ?_ | refine blk_alloc ?_ _)); refine blk_put (cs := #[.slice Ao23 x754000_1.length co23, .int .i64 x754001_1, .slice Ao24 x754002_1.length co24]) ?_ 0 _ rfl; (with_reducible repeat (first | refine blk_drewN ?_ _ | refine blk_drew ?_ | refine blk_alloc ?_ _)); refine blk_far ?_ NB753_762.out _; (with_reducible repeat (first | refine blk_drewN ?_ _ | refine blk_drew ?_ | refine blk_alloc ?_ _)); refine blk_far ?_ NB753_762.out _; (with_reducible repeat (first | refine blk_drewN ?_ _ | refine blk_drew ?_ | refine blk_alloc ?_ _)); refine blk_far ?_ NB753_762.out _; (with_reducible repeat (first | refine blk_drewN ?_ _ | refine blk_drew ?_ | refine blk_alloc ?_ _)); exact BK753.out⟩, ⟨oB HB⟩⟩
      ·replace c19 := Bool.eq_false_iff.mpr c19
       subst c19
       rw [if_neg (show ¬ (false = true) by decide)] at H
       simp only [Option.some.injEq, Prod.mk.injEq] at H
       obtain ⟨rfl, rfl, rfl⟩ := H
       have hnb34 := NB753_744.out
       have hnc34 := NB744_753.out
       have hnb35 := NB753_745.out
       have hnc35 := NB745_753.out
       have hcz36_0 : wc.cell? ⟨gb753, 0, none⟩ = some (u754000) := (blk_cell BK753.out 0).trans rfl
       have hcz36_1 : wc.cell? ⟨gb753, 1, none⟩ = some (.int .i64 x754001_1) := (blk_cell BK753.out 1).trans rfl
       have hcz36_2 : wc.cell? ⟨gb753, 2, none⟩ = some (u754002) := (blk_cell BK753.out 2).trans rfl
       have hfz36_0 := blk_frozen BK753.out 0
       have hfz36_1 := blk_frozen BK753.out 1
       have hfz36_2 := blk_frozen BK753.out 2
       obtain ⟨Ao37, co37, eo37⟩ := Kd.R_slice HO_754000.out
       subst eo37
       obtain ⟨Ao38, co38, eo38⟩ := Kd.R_slice HO_754002.out
       subst eo38
       go_wp2_with (first | ((with_reducible refine gate_callee (f := 39) rfl ?_); refine goesL_ (some 22) rfl rfl Try.func39 (by kernel_rfl) rfl #[.agg #[.slice Ao37 x754000_1.length co37, .int .i64 x754001_1, .slice Ao38 x754002_1.length co38]] rfl (by (try simp only [List.map_toArray, List.map_cons, List.map_nil]); first | done | rfl | (simp only [List.length_drop, List.length_take]; rfl)) ?_; (with_reducible refine (spec_WorkStep.calls kj14 _ _ x754000_1 x754001_1 _ _ x754002_1 t754 t757 t758 false _ ?side1 ?side2 ?side3 ?side4 A18.out).mono ?_); (case side1 => repeat (first | exact (Kd.R_reads' HO_754000.out).2.2 | (with_reducible refine Kd.C_alloc ?_ _) | (with_reducible refine Kd.C_drewN ?_ _) | (with_reducible refine Kd.C_drew ?_))); (case side2 => exact (Kd.R_reads' HO_754000.out).2.1); (case side3 => repeat (first | exact (Kd.R_reads' HO_754002.out).2.2 | (with_reducible refine Kd.C_alloc ?_ _) | (with_reducible refine Kd.C_drewN ?_ _) | (with_reducible refine Kd.C_drew ?_))); (case side4 => exact (Kd.R_reads' HO_754002.out).2.1); rintro e w39 ⟨v755, v759, rfl, ho0, ho1, hb⟩; refine ⟨_, rfl, ?_⟩; have n0_ := Aside0.mk (Kd.R_elder' (oR HO_754000) (Kd.R_base ho0) hb); have n1_ := Aside0.mk (Kd.R_elder' (oR HO_754002) (Kd.R_base ho1) hb); have n2_ := Aside0.mk (Kd.R_lower (Kd.R_new' ho0 (Kd.R_lt (oR HO_754000))) (below_size (oB HB))); have n3_ := Aside0.mk (Kd.R_lower (Kd.R_new' ho1 (Kd.R_lt (oR HO_754002))) (below_size (oB HB))); have n4_ := Aside0.mk (blk_below (g := gb744) (o := .cells #[.slice A0_0 l0_0.length c0_0, .int .i64 a0_1, .slice A0_2 l0_2.length c0_2] 30 (0, 0)) (oK BK744) hb); have n5_ := Aside0.mk (blk_below (g := gb745) (o := .cells #[.slice none 0 0, .int .i64 0, .slice none 0 0] 30 (0, 0)) (oK BK745) hb); have n6_ := Aside0.mk (blk_below (g := gb753) (o := .cells #[.slice Ao37 x754000_1.length co37, .int .i64 x754001_1, .slice Ao38 x754002_1.length co38] 30 (0, 0)) (oK BK753) hb); have n7_ := Aside0.mk (below_step (oB HB) hb); clear HO_754000; clear HO_754002; clear BK744; clear BK745; clear BK753; clear HB; have HO_754000 := n0_; have HO_754002 := n1_; have HO756 := n2_; have HO760 := n3_; have BK744 := n4_; have BK745 := n5_; have BK753 := n6_; have HB := n7_; clear n0_ n1_ n2_ n3_ n4_ n5_ n6_ n7_; (try clear hb); (try clear hb2); (try clear hk); (try clear hi); (try clear ho0); (try clear ho1)) | ((with_reducible refine gate_dst (N := 7) rfl ?_); refine box_event ?hg (N := 7) ?hd (cs := #[.slice none 0 0, .int .i64 0, .slice none 0 0]) (t := 30) ?hr ?_; (case hd => rfl); (case hg => rfl); (case hr => first | (go_simp; done) | (go_simp; rfl)); intro gb762 hg w40 hbox hb; have n0_ := Aside0.mk (Kd.R_below (oR HO_754000) hb); have n1_ := Aside0.mk (Kd.R_below (oR HO_754002) hb); have n2_ := Aside0.mk (Kd.R_below (oR HO756) hb); have n3_ := Aside0.mk (Kd.R_below (oR HO760) hb); have n4_ := Aside0.mk (blk_below (g := gb744) (o := .cells #[.slice A0_0 l0_0.length c0_0, .int .i64 a0_1, .slice A0_2 l0_2.length c0_2] 30 (0, 0)) (oK BK744) hb); have n5_ := Aside0.mk (blk_below (g := gb745) (o := .cells #[.slice none 0 0, .int .i64 0, .slice none 0 0] 30 (0, 0)) (oK BK745) hb); have n6_ := Aside0.mk (blk_below (g := gb753) (o := .cells #[.slice Ao37 x754000_1.length co37, .int .i64 x754001_1, .slice Ao38 x754002_1.length co38] 30 (0, 0)) (oK BK753) hb); have n7_ := Aside0.mk (below_step (oB HB) hb); have n8_ := Aside0.mk (hbox); have n9_ := Aside0.mk ((by rw [hg]; exact (below_size (oB HB)) : w.heap.size ≤ gb762)); have n10_ := Aside0.mk ((by rw [hg]; exact (below_size (oB HB)) : w.heap.size ≤ gb762)); have n11_ := Aside0.mk ((by rw [hg]; exact Nat.ne_of_lt (blk_lt (g := gb744) (o := .cells #[.slice A0_0 l0_0.length c0_0, .int .i64 a0_1, .slice A0_2 l0_2.length c0_2] 30 (0, 0)) (oK BK744)) : gb744 ≠ gb762)); have n12_ := Aside0.mk ((by rw [hg]; exact Nat.ne_of_gt (blk_lt (g := gb744) (o := .cells #[.slice A0_0 l0_0.length c0_0, .int .i64 a0_1, .slice A0_2 l0_2.length c0_2] 30 (0, 0)) (oK BK744)) : gb762 ≠ gb744)); have n13_ := Aside0.mk ((by rw [hg]; exact Nat.ne_of_lt (blk_lt (g := gb745) (o := .cells #[.slice none 0 0, .int .i64 0, .slice none 0 0] 30 (0, 0)) (oK BK745)) : gb745 ≠ gb762)); have n14_ := Aside0.mk ((by rw [hg]; exact Nat.ne_of_gt (blk_lt (g := gb745) (o := .cells #[.slice none 0 0, .int .i64 0, .slice none 0 0] 30 (0, 0)) (oK BK745)) : gb762 ≠ gb745)); have n15_ := Aside0.mk ((by rw [hg]; exact Nat.ne_of_lt (blk_lt (g := gb753) (o := .cells #[.slice Ao37 x754000_1.length co37, .int .i64 x754001_1, .slice Ao38 x754002_1.length co38] 30 (0, 0)) (oK BK753)) : gb753 ≠ gb762)); have n16_ := Aside0.mk ((by rw [hg]; exact Nat.ne_of_gt (blk_lt (g := gb753) (o := .cells #[.slice Ao37 x754000_1.length co37, .int .i64 x754001_1, .slice Ao38 x754002_1.length co38] 30 (0, 0)) (oK BK753)) : gb762 ≠ gb753)); clear HO_754000; clear HO_754002; clear HO756; clear HO760; clear BK744; clear BK745; clear BK753; clear HB; have HO_754000 := n0_; have HO_754002 := n1_; have HO756 := n2_; have HO760 := n3_; have BK744 := n4_; have BK745 := n5_; have BK753 := n6_; have HB := n7_; have BK762 := n8_; have GW762 := n9_; have GE762 := n10_; have NB744_762 := n11_; have NB762_744 := n12_; have NB745_762 := n13_; have NB762_745 := n14_; have NB753_762 := n15_; have NB762_753 := n16_; clear n0_ n1_ n2_ n3_ n4_ n5_ n6_ n7_ n8_ n9_ n10_ n11_ n12_ n13_ n14_ n15_ n16_; clear hb hbox hg; obtain ⟨Ao41, co41, eo41⟩ := Kd.R_slice HO756.out; subst eo41; have hnb42 := NB762_744.out; have hnc42 := NB744_762.out; have hnb43 := NB762_745.out; have hnc43 := NB745_762.out; have hnb44 := NB762_753.out; have hnc44 := NB753_762.out; have hcz45_0 : w40.cell? ⟨gb762, 0, none⟩ = some (.slice none 0 0) := (blk_cell BK762.out 0).trans rfl; have hcz45_1 : w40.cell? ⟨gb762, 1, none⟩ = some (.int .i64 0) := (blk_cell BK762.out 1).trans rfl; have hcz45_2 : w40.cell? ⟨gb762, 2, none⟩ = some (.slice none 0 0) := (blk_cell BK762.out 2).trans rfl; have hfz45_0 := blk_frozen BK762.out 0; have hfz45_1 := blk_frozen BK762.out 1; have hfz45_2 := blk_frozen BK762.out 2; obtain ⟨Ao46, co46, eo46⟩ := Kd.R_slice HO760.out; subst eo46; have hcz47_0 : w40.cell? ⟨gb753, 0, none⟩ = some (.slice Ao37 x754000_1.length co37) := (blk_cell BK753.out 0).trans rfl; have hcz47_1 : w40.cell? ⟨gb753, 1, none⟩ = some (.int .i64 x754001_1) := (blk_cell BK753.out 1).trans rfl; have hcz47_2 : w40.cell? ⟨gb753, 2, none⟩ = some (.slice Ao38 x754002_1.length co38) := (blk_cell BK753.out 2).trans rfl; have hfz47_0 := blk_frozen BK753.out 0; have hfz47_1 := blk_frozen BK753.out 1; have hfz47_2 := blk_frozen BK753.out 2; have hnb48 := NB745_744.out; have hnc48 := NB744_745.out; have hcz49_0 : w40.cell? ⟨gb745, 0, none⟩ = some (.slice none 0 0) := (blk_cell BK745.out 0).trans rfl; have hcz49_1 : w40.cell? ⟨gb745, 1, none⟩ = some (.int .i64 0) := (blk_cell BK745.out 1).trans rfl; have hcz49_2 : w40.cell? ⟨gb745, 2, none⟩ = some (.slice none 0 0) := (blk_cell BK745.out 2).trans rfl; have hfz49_0 := blk_frozen BK745.out 0; have hfz49_1 := blk_frozen BK745.out 1; have hfz49_2 := blk_frozen BK745.out 2))
       refine bodyPost_ret (results_cell_row rfl _ _ gb745 30 #[.slice Ao37 x754000_1.length co37, .int .i64 x754001_1, .slice Ao38 x754002_1.length co38] (0, 0) _ rfl (by (with_reducible repeat (first | refine blk_drewN ?_ _ | refine blk_drew ?_ | refine blk_alloc ?_ _)); refine blk_put (cs := #[.slice Ao37 x754000_1.length co37, .int .i64 x754001_1, .slice none 0 0]) ?_ 2 _ rfl; (with_reducible repeat (first | refine blk_drewN ?_ _ | refine blk_drew ?_ | refine blk_alloc ?_ _)); refine blk_put (cs := #[.slice Ao37 x754000_1.length co37, .int .i64 0, .slice none 0 0]) ?_ 1 _ rfl; (with_reducible repeat (first | refine blk_drewN ?_ _ | refine blk_drew ?_ | refine blk_alloc ?_ _)); refine blk_put (cs := #[.slice none 0 0, .int .i64 0, .slice none 0 0]) ?_ 0 _ rfl; (with_reducible repeat (first | refine blk_drewN ?_ _ | refine blk_drew ?_ | refine blk_alloc ?_ _)); refine blk_far ?_ NB745_762.out _; (with_reducible repeat (first | refine blk_drewN ?_ _ | refine blk_drew ?_ | refine blk_alloc ?_ _)); refine blk_far ?_ NB745_762.out _; (with_reducible repeat (first | refine blk_drewN ?_ _ | refine blk_drew ?_ | refine blk_alloc ?_ _)); refine blk_far ?_ NB745_762.out _; (with_reducible repeat (first | refine blk_drewN ?_ _ | refine blk_drew ?_ | refine blk_alloc ?_ _)); exact BK745.out) Try.underlying30 rfl (by kernel_rfl)) rfl ?_
       exact ⟨_, _, by first | rfl | (simp [errW_none, errW_some] <;> rfl) | (simp [*, errW_none, errW_some] <;> rfl), by (with_reducible repeat (first | apply Kd.R_alloc | apply Kd.R_drewN | apply Kd.R_drew)); exact Kd.R_mono (Kd.R_far (p := ⟨gb745, 2, none⟩) (Kd.R_far (p := ⟨gb745, 1, none⟩) (Kd.R_far (p := ⟨gb745, 0, none⟩) (Kd.R_far (p := ⟨gb762, 2, none⟩) (Kd.R_far (p := ⟨gb762, 1, none⟩) (Kd.R_far (p := ⟨gb762, 0, none⟩) (Kd.R_types (Kd.R_types HO_754000.out BK762.out (by decide)) BK745.out (by decide)) (fun _ hk => hk.1.2) (.slice Ao41 t754.length co41)) (fun _ hk => hk.1.2) (.int .i64 t757)) (fun _ hk => hk.1.2) (.slice Ao46 t758.length co46)) (fun _ hk => hk.2) (.slice Ao37 x754000_1.length co37)) (fun _ hk => hk.2) (.int .i64 x754001_1)) (fun _ hk => hk.2) (.slice Ao38 x754002_1.length co38)) (fun _ hk => trivial), by (with_reducible repeat (first | apply Kd.R_alloc | apply Kd.R_drewN | apply Kd.R_drew)); exact Kd.R_mono (Kd.R_far (p := ⟨gb745, 2, none⟩) (Kd.R_far (p := ⟨gb745, 1, none⟩) (Kd.R_far (p := ⟨gb745, 0, none⟩) (Kd.R_far (p := ⟨gb762, 2, none⟩) (Kd.R_far (p := ⟨gb762, 1, none⟩) (Kd.R_far (p := ⟨gb762, 0, none⟩) (Kd.R_types (Kd.R_types HO_754002.out BK762.out (by decide)) BK745.out (by decide)) (fun _ hk => hk.1.2) (.slice Ao41 t754.length co41)) (fun _ hk => hk.1.2) (.int .i64 t757)) (fun _ hk => hk.1.2) (.slice Ao46 t758.length co46)) (fun _ hk => hk.2) (.slice Ao37 x754000_1.length co37)) (fun _ hk => hk.2) (.int .i64 x754001_1)) (fun _ hk => hk.2) (.slice Ao38 x754002_1.length co38)) (fun _ hk => trivial), oB HB⟩
     ·replace c17 := Bool.eq_false_iff.mpr c17
      subst c17
      rw [if_neg (show ¬ (false = true) by decide)] at H
      simp only [Option.some.injEq, Prod.mk.injEq] at H
      obtain ⟨rfl, rfl, rfl⟩ := H
      have hnb50 := NB753_744.out
      have hnc50 := NB744_753.out
      have hnb51 := NB753_745.out
      have hnc51 := NB745_753.out
      have hcz52_0 : wc.cell? ⟨gb753, 0, none⟩ = some (u754000) := (blk_cell BK753.out 0).trans rfl
      have hcz52_1 : wc.cell? ⟨gb753, 1, none⟩ = some (.int .i64 x754001_1) := (blk_cell BK753.out 1).trans rfl
      have hcz52_2 : wc.cell? ⟨gb753, 2, none⟩ = some (u754002) := (blk_cell BK753.out 2).trans rfl
      have hfz52_0 := blk_frozen BK753.out 0
      have hfz52_1 := blk_frozen BK753.out 1
      have hfz52_2 := blk_frozen BK753.out 2
      obtain ⟨Ao53, co53, eo53⟩ := Kd.R_slice HO_754000.out
      subst eo53
      have hnb54 := NB745_744.out
      have hnc54 := NB744_745.out
      have hcz55_0 : wc.cell? ⟨gb745, 0, none⟩ = some (.slice none 0 0) := (blk_cell BK745.out 0).trans rfl
      have hcz55_1 : wc.cell? ⟨gb745, 1, none⟩ = some (.int .i64 0) := (blk_cell BK745.out 1).trans rfl
      have hcz55_2 : wc.cell? ⟨gb745, 2, none⟩ = some (.slice none 0 0) := (blk_cell BK745.out 2).trans rfl
      have hfz55_0 := blk_frozen BK745.out 0
      have hfz55_1 := blk_frozen BK745.out 1
      have hfz55_2 := blk_frozen BK745.out 2
      obtain ⟨Ao56, co56, eo56⟩ := Kd.R_slice HO_754002.out
      subst eo56
      go_wp2
      refine bodyPost_ret (results_cell_row rfl _ _ gb745 30 #[.slice Ao53 x754000_1.length co53, .int .i64 x754001_1, .slice Ao56 x754002_1.length co56] (0, 0) _ rfl (by (with_reducible repeat (first | refine blk_drewN ?_ _ | refine blk_drew ?_ | refine blk_alloc ?_ _)); refine blk_put (cs := #[.slice Ao53 x754000_1.length co53, .int .i64 x754001_1, .slice none 0 0]) ?_ 2 _ rfl; (with_reducible repeat (first | refine blk_drewN ?_ _ | refine blk_drew ?_ | refine blk_alloc ?_ _)); refine blk_put (cs := #[.slice Ao53 x754000_1.length co53, .int .i64 0, .slice none 0 0]) ?_ 1 _ rfl; (with_reducible repeat (first | refine blk_drewN ?_ _ | refine blk_drew ?_ | refine blk_alloc ?_ _)); refine blk_put (cs := #[.slice none 0 0, .int .i64 0, .slice none 0 0]) ?_ 0 _ rfl; (with_reducible repeat (first | refine blk_drewN ?_ _ | refine blk_drew ?_ | refine blk_alloc ?_ _)); exact BK745.out) Try.underlying30 rfl (by kernel_rfl)) rfl ?_
      exact ⟨_, _, by first | rfl | (simp [errW_none, errW_some] <;> rfl) | (simp [*, errW_none, errW_some] <;> rfl), by (with_reducible repeat (first | apply Kd.R_alloc | apply Kd.R_drewN | apply Kd.R_drew)); exact Kd.R_mono (Kd.R_far (p := ⟨gb745, 2, none⟩) (Kd.R_far (p := ⟨gb745, 1, none⟩) (Kd.R_far (p := ⟨gb745, 0, none⟩) (Kd.R_types HO_754000.out BK745.out (by decide)) (fun _ hk => hk.2) (.slice Ao53 x754000_1.length co53)) (fun _ hk => hk.2) (.int .i64 x754001_1)) (fun _ hk => hk.2) (.slice Ao56 x754002_1.length co56)) (fun _ hk => trivial), by (with_reducible repeat (first | apply Kd.R_alloc | apply Kd.R_drewN | apply Kd.R_drew)); exact Kd.R_mono (Kd.R_far (p := ⟨gb745, 2, none⟩) (Kd.R_far (p := ⟨gb745, 1, none⟩) (Kd.R_far (p := ⟨gb745, 0, none⟩) (Kd.R_types HO_754002.out BK745.out (by decide)) (fun _ hk => hk.2) (.slice Ao53 x754000_1.length co53)) (fun _ hk => hk.2) (.int .i64 x754001_1)) (fun _ hk => hk.2) (.slice Ao56 x754002_1.length co56)) (fun _ hk => trivial), oB HB⟩
end Go.Proofs.Ytlhlmjklajdejaa.P


namespace Go.Proofs.Ytlhlmjklajdejaa.P
open Go.RowKit Go.Proofs.YtlhlmjklajdejaaW.PrintWords Go.Proofs.YtlhlmjklajdejaaW.PrintLast Go.Proofs.YtlhlmjklajdejaaW.PrintMore
attribute [local go_sem] max2_int min2_int max_two min_two max_three min_three max_four min_four
set_option linter.unusedVariables false
set_option linter.unusedSimpArgs false
def spec_l01PickInt.f (s0_0 : List Int) (s0_1 : Int) (s0_2 : Int) (l1 : List Int) : Option (Int × Int × Int) := (spec_l01Below.f s0_0 s0_1 s0_2 (l1.length : Int)).bind fun bt1097 => (if 0 ≤ bt1097.1 then (if bt1097.1 < (l1.length : Int) then (some (rd l1 bt1097.1, bt1097.2.1, bt1097.2.2)) else (none)) else (none))
set_option maxHeartbeats 8000000 in
set_option maxRecDepth 100000 in
theorem spec_l01PickInt.calls (g : Nat) (s0_0 : List Int) (s0_1 : Int) (s0_2 : Int) (A1 : Option Addr) (c1 : Nat) (l1 : List Int) (r1 : Int) (r2 : Int) (r3 : Int) (w0 w : World) (hI : IsS83 w0 w g s0_0 s0_1 s0_2) (hB : Below w0.heap.size w0 w) (hr1 : Kd.C (Kd.int .i64) w A1 l1.length l1) (hc1 : l1.length ≤ c1) (hf1 : ∀ ad, A1 = some ad → 0 < l1.length → ad.block ≠ g) (h : spec_l01PickInt.f s0_0 s0_1 s0_2 l1 = some (r1, r2, r3)) :
  Calls Try.prog 84 #[.pointer (some ⟨g, 0, none⟩), .slice A1 l1.length c1] w fun e w' => e = .returned (.int .i64 r1) ∧ IsS83 w0 w' g s0_0 r2 r3 ∧ Below w0.heap.size w0 w' ∧ KeepBut w w' g none := by
 have HR1 := Aside0.mk hr1
 have HC1 := Aside0.mk hc1
 clear hr1 hc1
 have HI0 := Aside0.mk hI
 have HK := Aside0.mk (KeepBut.refl w g none)
 have HL := Aside0.mk hB.size
 clear hI
 have HW0 := Aside0.mk hB.size
 have HB := Aside0.mk hB
 clear hB
 have H : ((spec_l01Below.f s0_0 s0_1 s0_2 (l1.length : Int)).bind fun bt1097 => (if 0 ≤ bt1097.1 then (if bt1097.1 < (l1.length : Int) then (some (rd l1 bt1097.1, bt1097.2.1, bt1097.2.2)) else (none)) else (none))) = some (r1, r2, r3) := h
 clear h
 replace H := Option.bind_eq_some_iff.mp H
 obtain ⟨⟨t1097, t1098, t1099⟩, A30, H⟩ := H
 (try dsimp only at H)
 have A3 := Aside0.mk A30
 clear A30
 by_cases c4 : 0 ≤ t1097
 ·rw [if_pos c4] at H
  have c4b0 : decide (0 ≤ t1097) = true := decide_eq_true c4
  clear c4
  by_cases c5 : t1097 < (l1.length : Int)
  ·rw [if_pos c5] at H
   have c5b0 : decide (t1097 < (l1.length : Int)) = true := decide_eq_true c5
   clear c5
   simp only [Option.some.injEq, Prod.mk.injEq] at H
   obtain ⟨rfl, rfl, rfl⟩ := H
   go_enter Try.func84, Try.ntmps84
   go_wp2_with (first | ((with_reducible refine gate_callee (f := 75) rfl ?_); refine goesL_ (some 9) rfl rfl Try.func75 (by kernel_rfl) rfl #[.pointer (some ⟨g, 0, none⟩), .int .i64 (l1.length : Int)] rfl (by (try simp only [List.map_toArray, List.map_cons, List.map_nil]); first | done | rfl | (simp only [List.length_drop, List.length_take]; rfl)) ?_; (with_reducible refine (spec_l01Below.calls g s0_0 s0_1 s0_2 (l1.length : Int) t1097 t1098 t1099 w0 _ ?side1 ?side2 A3.out).mono ?_); (case side1 => repeat (first | (with_reducible first | exact HI0.out | apply IsS83.alloc | apply IsS83.drewN | apply IsS83.drew | apply IsS83.set_1 | apply IsS83.set_2) | exact HI0.out)); (case side2 => repeat (first | (with_reducible first | exact HB.out | apply below_alloc | apply pw_below_drewN | apply below_drew1 | refine below_set ?_ (IsS83.ge HI0.out)) | exact HB.out)); rintro e w6 ⟨rfl, hi, hb, hk⟩; refine ⟨_, rfl, ?_⟩; have n0_ := Aside0.mk (KeepBut.trans (by repeat (first | (with_reducible first | exact HK.out | apply KeepBut.set_ | apply keep_drewN | apply keep_drew | apply keep_alloc) | exact HK.out)) hk (.inl rfl)); have n1_ := Aside0.mk (hb); have n2_ := Aside0.mk (hi); clear HK; clear HB; clear HI0; have HK := n0_; have HB := n1_; have HI0 := n2_; clear n0_ n1_ n2_; (try clear hb); (try clear hb2); (try clear hk); (try clear hi); have p1100 : 0 ≤ (t1097 : Int) := of_decide_eq_true (by first | (with_reducible assumption) | assumption); have q1100 : t1097 < (l1.length : Int) := of_decide_eq_true (by first | (with_reducible assumption) | assumption); obtain ⟨ad1100, e1100, hx1100_0⟩ := Kd.at_int HR1.out t1097 p1100 q1100; cases e1100; replace hx1100_0 := keep_cell HK.out hx1100_0 (by first | (rw [add_block]; exact hf1 _ rfl (by omega)) | exact hf1 _ rfl (by omega) | exact hf1 ad1100 rfl (by omega)); replace p1100 := eq_true p1100; replace q1100 := eq_true q1100))
   go_ret
   exact ⟨by first | rfl | (simp [errW_none, errW_some] <;> rfl) | (simp [*, errW_none, errW_some] <;> rfl), by repeat (first | (with_reducible first | exact HI0.out | apply IsS83.alloc | apply IsS83.drewN | apply IsS83.drew | apply IsS83.set_1 | apply IsS83.set_2) | exact HI0.out), by repeat (first | (with_reducible first | exact HB.out | apply below_alloc | apply pw_below_drewN | apply below_drew1 | refine below_set ?_ (IsS83.ge HI0.out)) | exact HB.out), by repeat (first | (with_reducible first | exact HK.out | apply KeepBut.set_ | apply keep_drewN | apply keep_drew | apply keep_alloc) | exact HK.out)⟩
  ·rw [if_neg c5] at H
   exact absurd H (by simp)
 ·rw [if_neg c4] at H
  exact absurd H (by simp)
end Go.Proofs.Ytlhlmjklajdejaa.P


namespace Go.Proofs.Ytlhlmjklajdejaa.P
open Go.RowKit Go.Proofs.YtlhlmjklajdejaaW.PrintWords Go.Proofs.YtlhlmjklajdejaaW.PrintLast Go.Proofs.YtlhlmjklajdejaaW.PrintMore
attribute [local go_sem] max2_int min2_int max_two min_two max_three min_three max_four min_four
set_option linter.unusedVariables false
set_option linter.unusedSimpArgs false
def spec_UsualPlan.l0 : Nat → Int → List (S67) → Int → Option ((List (S67)))
 | 0, _, _, _ => none
 | k + 1, x0, x3, x4 => if x4 < 11 then ((spec_l01In.f x0 0 5000).bind fun t1086 => (if t1086 = true then ((some (([1, 2, 1, 2, 1, 2, 2, 1, 2, 1, 2] : List Int) : List Int)).bind fun y1087 => (if 0 ≤ x4 then (if x4 < (y1087.length : Int) then (if x3.length < 4398046511104 then (spec_UsualPlan.l0 k x0 (x3 ++ [(⟨x4, wrap64 (x4 + 1), rd y1087 x4, x0⟩ : S67)]) (wrap64 (x4 + 1))) else (none)) else (none)) else (none))) else (some x3))) else (some x3)
def spec_UsualPlan.f (k : Nat) (a0 : Int) : Option ((List (S67))) := spec_UsualPlan.l0 k a0 (([] : List (S67))) 0
set_option maxHeartbeats 8000000 in
set_option maxRecDepth 100000 in
theorem spec_UsualPlan.calls (k : Nat) (a0 : Int) (r : List (S67)) (w : World) (h : spec_UsualPlan.f k a0 = some r) :
  Calls Try.prog 82 #[.int .i64 a0] w fun e w' => ∃ v0_ : Value, e = .returned (v0_) ∧ Kd.R k67 67 w' w.heap.size (fun _ => True) v0_ r ∧ Below w.heap.size w w' := by
 have hu67 := Try.underlying67
 have HB := Aside0.mk (Below.refl w.heap.size w)
 have H : (spec_UsualPlan.l0 k a0 (([] : List (S67))) 0) = some r := h
 clear h
 obtain ⟨y1083, hy1083⟩ : ∃ y_ : List (S67), y_ = (([] : List (S67))) := ⟨_, rfl⟩
 replace H : (spec_UsualPlan.l0 k a0 y1083 0) = some r := by first | (rw [hy1083]; with_reducible exact H) | (have H2_ := (Option.bind_some _ _).symm.trans H; rw [hy1083]; with_reducible exact H2_) | (have H2_ := (Option.bind_some _ _).symm.trans H; with_reducible exact H2_) | with_reducible exact H | (rw [hy1083]; exact H) | exact H
 have Ny1083 := Aside0.mk hy1083
 clear hy1083
 have H' := Aside0.mk H
 clear H
 go_enter Try.func82, Try.ntmps82
 go_wp2_with (first | ((with_reducible refine gate_dst (N := 6) rfl ?_); refine Kd.R_lit k67 _ 67 ?hg (N := 6) ?hd (xs := ([] : List (S67))) (inner := []) (ok := fun _ => True) (okp := fun _ => True) ?hr ?hp (fun _ hk => hk) trivial (Below.refl _ _) (Nat.le_refl _) (by simp) ?_; (case hd => rfl); (case hg => rfl); (case hr => first | (go_simp; done) | (go_simp; rfl)); (case hp => exact (Reps.none _ _)); intro v1084 w2 ho3 hb hg_ hnew_; clear hg_ hnew_; (first | rw [← Ny1083.out] at ho3 | (simp only [Int.reduceToNat] at ho3; rw [← Ny1083.out] at ho3)); have n0_ := Aside0.mk (Kd.R_lower ho3 (below_size (oB HB))); have n1_ := Aside0.mk (below_step (oB HB) hb); clear HB; have HO1085 := n0_; have HB := n1_; clear n0_ n1_; clear hb ho3))
 go_loopg [3, 4] k (fun kq v3 v4 w' => ∃ (x3_1 : List (S67)) (x4_1 : Int), v4 = .int .i64 x4_1 ∧ Aside0 (spec_UsualPlan.l0 kq a0 x3_1 x4_1 = some r) ∧ Aside0 (kq ≤ k) ∧ Aside0 (Kd.R k67 67 w' w.heap.size (fun _ => True) v3 x3_1) ∧ Aside0 (Below w.heap.size w w'))
 case atStart => exact ⟨(y1083), (0), (by first | rfl | (simp; done) | (simp [*]; done)), H', ⟨Nat.le_refl _⟩, ⟨oR HO1085⟩, ⟨oB HB⟩⟩
 case round =>
  clear H'
  try clear p2
  obtain ⟨x3_1, x4_1, rfl, HA, HK1, HO_3, HB⟩ := hrel
  cases gk with
  | zero => exact absurd HA.out (by simp [spec_UsualPlan.l0])
  | succ k1 =>
   have H := HA.out
   clear HA
   simp only [spec_UsualPlan.l0] at H
   by_cases c4 : x4_1 < 11
   ·rw [if_pos c4] at H
    have c4b0 : decide (x4_1 < 11) = true := decide_eq_true c4
    clear c4
    replace H := Option.bind_eq_some_iff.mp H
    obtain ⟨t1086, A50, H⟩ := H
    (try dsimp only at H)
    have A5 := Aside0.mk A50
    clear A50
    by_cases c6 : t1086 = true
    ·subst c6
     rw [if_pos rfl] at H
     obtain ⟨y1087, hy1087⟩ : ∃ y_ : List Int, y_ = (([1, 2, 1, 2, 1, 2, 2, 1, 2, 1, 2] : List Int)) := ⟨_, rfl⟩
     replace H : (if 0 ≤ x4_1 then (if x4_1 < (y1087.length : Int) then (if x3_1.length < 4398046511104 then (spec_UsualPlan.l0 k1 a0 (x3_1 ++ [(⟨x4_1, wrap64 (x4_1 + 1), rd y1087 x4_1, a0⟩ : S67)]) (wrap64 (x4_1 + 1))) else (none)) else (none)) else (none)) = some r := by first | (rw [hy1087]; with_reducible exact H) | (have H2_ := (Option.bind_some _ _).symm.trans H; rw [hy1087]; with_reducible exact H2_) | (have H2_ := (Option.bind_some _ _).symm.trans H; with_reducible exact H2_) | with_reducible exact H | (rw [hy1087]; exact H) | exact H
     have Ny1087 := Aside0.mk hy1087
     clear hy1087
     by_cases c7 : 0 ≤ x4_1
     ·rw [if_pos c7] at H
      have c7b0 : decide (0 ≤ x4_1) = true := decide_eq_true c7
      clear c7
      by_cases c8 : x4_1 < (y1087.length : Int)
      ·rw [if_pos c8] at H
       have c8b0 : decide (x4_1 < (y1087.length : Int)) = true := decide_eq_true c8
       clear c8
       by_cases c9 : x3_1.length < 4398046511104
       ·rw [if_pos c9] at H
        have LMc9 := Aside0.mk c9
        clear c9
        obtain ⟨y1091, hy1091⟩ : ∃ y_ : List (S67), y_ = (x3_1 ++ [(⟨x4_1, wrap64 (x4_1 + 1), rd y1087 x4_1, a0⟩ : S67)]) := ⟨_, rfl⟩
        replace H : (spec_UsualPlan.l0 k1 a0 y1091 (wrap64 (x4_1 + 1))) = some r := by first | (rw [hy1091]; with_reducible exact H) | (have H2_ := (Option.bind_some _ _).symm.trans H; rw [hy1091]; with_reducible exact H2_) | (have H2_ := (Option.bind_some _ _).symm.trans H; with_reducible exact H2_) | with_reducible exact H | (rw [hy1091]; exact H) | exact H
        have Ny1091 := Aside0.mk hy1091
        clear hy1091
        have H' := Aside0.mk H
        clear H
        go_wp2_with (first | (go_at_call 55; (with_reducible refine (spec_l01In.calls a0 0 5000 true _ A5.out).mono ?_); rintro e w' ⟨rfl, ⟨nd, rfl⟩⟩) | ((with_reducible refine gate_dst (N := 15) rfl ?_); refine Kd.R_lit (Kd.int .i64) _ 3 ?hg (N := 15) ?hd (xs := ([1, 2, 1, 2, 1, 2, 2, 1, 2, 1, 2] : List Int)) (inner := [.int .i64 1, .int .i64 2, .int .i64 1, .int .i64 2, .int .i64 1, .int .i64 2, .int .i64 2, .int .i64 1, .int .i64 2, .int .i64 1, .int .i64 2]) (ok := fun _ => True) (okp := fun _ => True) ?hr ?hp (fun _ hk => hk) trivial (Below.refl _ _) (Nat.le_refl _) (by simp) ?_; (case hd => rfl); (case hg => rfl); (case hr => first | (go_simp; done) | (go_simp; rfl)); (case hp => exact (Reps.one (show Kd.M (Kd.int .i64) _ _ _ 1 [.int .i64 1] from rfl) (Reps.one (show Kd.M (Kd.int .i64) _ _ _ 2 [.int .i64 2] from rfl) (Reps.one (show Kd.M (Kd.int .i64) _ _ _ 1 [.int .i64 1] from rfl) (Reps.one (show Kd.M (Kd.int .i64) _ _ _ 2 [.int .i64 2] from rfl) (Reps.one (show Kd.M (Kd.int .i64) _ _ _ 1 [.int .i64 1] from rfl) (Reps.one (show Kd.M (Kd.int .i64) _ _ _ 2 [.int .i64 2] from rfl) (Reps.one (show Kd.M (Kd.int .i64) _ _ _ 2 [.int .i64 2] from rfl) (Reps.one (show Kd.M (Kd.int .i64) _ _ _ 1 [.int .i64 1] from rfl) (Reps.one (show Kd.M (Kd.int .i64) _ _ _ 2 [.int .i64 2] from rfl) (Reps.one (show Kd.M (Kd.int .i64) _ _ _ 1 [.int .i64 1] from rfl) (Reps.one (show Kd.M (Kd.int .i64) _ _ _ 2 [.int .i64 2] from rfl) (Reps.none _ _))))))))))))); intro v1088 w10 ho11 hb hg_ hnew_; clear hg_ hnew_; (first | rw [← Ny1087.out] at ho11 | (simp only [Int.reduceToNat] at ho11; rw [← Ny1087.out] at ho11)); have n0_ := Aside0.mk (Kd.R_below (oR HO_3) hb); have n1_ := Aside0.mk (Kd.R_lower ho11 (below_size (oB HB))); have n2_ := Aside0.mk (below_step (oB HB) hb); clear HO_3; clear HB; have HO_3 := n0_; have HO1089 := n1_; have HB := n2_; clear n0_ n1_ n2_; clear hb ho11; obtain ⟨Ao12, co12, eo12⟩ := Kd.R_slice HO1089.out; subst eo12; have p1090 : 0 ≤ (x4_1 : Int) := of_decide_eq_true (by first | (with_reducible assumption) | assumption); have q1090 : x4_1 < (y1087.length : Int) := of_decide_eq_true (by first | (with_reducible assumption) | assumption); obtain ⟨ad1090, e1090, hx1090_0⟩ := Kd.at_int (Kd.R_reads' HO1089.out).2.2 x4_1 p1090 q1090; cases e1090; replace p1090 := eq_true p1090; replace q1090 := eq_true q1090) | ((with_reducible refine gate_builtin (b := .append) (xs := #[.tmp 19, .tmp 26]) rfl ?_); at_builtin; refine Kd.R_append k67 (w0 := w) w.heap.size rfl (.tmp 19) (.tmp 26) 28 67 (.agg #[(.int .i64 0), (.int .i64 0), (.int .i64 0), (.int .i64 0)]) 32 rfl Try.underlying28 info67 rfl (by decide) (by omega) u3 x3_1 (⟨x4_1, wrap64 (x4_1 + 1), rd y1087 x4_1, a0⟩ : S67) [.int .i64 x4_1, .int .i64 (wrap64 (x4_1 + 1)), .int .i64 (rd y1087 x4_1), .int .i64 a0] (fun _ => True) (fun _ => False) rfl rfl ?aP (fun _ hk => hk.elim) ?aF ?aO ?aB ?aS ?aL ?_; (case aP => exact k67_mkM _ _ _ (⟨x4_1, wrap64 (x4_1 + 1), rd y1087 x4_1, a0⟩ : S67)); (case aB => exact (oB HB)); (case aF => exact (fun _ _ => trivial)); (case aO => exact (oR HO_3)); (case aS => exact (below_size (oB HB))); (case aL => have := LMc9.out; omega); intro v1092 w13 ho hb hg hat; rw [← Ny1091.out] at ho; have n0_ := Aside0.mk (Kd.R_over' (oR HO1089) (Kd.R_typed (oR HO_3)) (by decide) hg); have n1_ := Aside0.mk (hb); have n2_ := Aside0.mk (ho); clear HO1089; clear HB; clear HO_3; have HO1089 := n0_; have HB := n1_; have HO1093 := n2_; clear n0_ n1_ n2_; clear ho hb hg hat))
        go_roundg k1
        case measure => have := HK1.out; omega
        case rel => exact ⟨(y1091), (wrap64 (x4_1 + 1)), (by first | rfl | (simp; done) | (simp [*]; done)), H', ⟨by have := HK1.out; omega⟩, ⟨oR HO1093⟩, ⟨oB HB⟩⟩
       ·rw [if_neg c9] at H
        exact absurd H (by simp)
      ·rw [if_neg c8] at H
       exact absurd H (by simp)
     ·rw [if_neg c7] at H
      exact absurd H (by simp)
    ·replace c6 := Bool.eq_false_iff.mpr c6
     subst c6
     rw [if_neg (show ¬ (false = true) by decide)] at H
     obtain rfl := Option.some.inj H
     go_wp2_with (first | (go_at_call 55; (with_reducible refine (spec_l01In.calls a0 0 5000 false _ A5.out).mono ?_); rintro e w' ⟨rfl, ⟨nd, rfl⟩⟩))
     go_ret
     exact ⟨_, by first | rfl | (simp [errW_none, errW_some] <;> rfl) | (simp [*, errW_none, errW_some] <;> rfl), oR HO_3, oB HB⟩
   ·rw [if_neg c4] at H
    have c4b0 : decide (x4_1 < 11) = false := decide_eq_false c4
    clear c4
    obtain rfl := Option.some.inj H
    go_wp2
    go_ret
    exact ⟨_, by first | rfl | (simp [errW_none, errW_some] <;> rfl) | (simp [*, errW_none, errW_some] <;> rfl), oR HO_3, oB HB⟩
end Go.Proofs.Ytlhlmjklajdejaa.P


namespace Go.Proofs.Ytlhlmjklajdejaa.P
open Go.RowKit Go.Proofs.YtlhlmjklajdejaaW.PrintWords Go.Proofs.YtlhlmjklajdejaaW.PrintLast Go.Proofs.YtlhlmjklajdejaaW.PrintMore
attribute [local go_sem] max2_int min2_int max_two min_two max_three min_three max_four min_four
set_option linter.unusedVariables false
set_option linter.unusedSimpArgs false
def spec_l01Once.f (s0_0 : List Int) (s0_1 : Int) (s0_2 : Int) (a1 : Int) : Option (Bool × Int × Int) := (spec_l01Below.f s0_0 s0_1 s0_2 a1).bind fun bt1094 => (some ((bt1094.1 == 0), bt1094.2.1, bt1094.2.2))
set_option maxHeartbeats 8000000 in
set_option maxRecDepth 100000 in
theorem spec_l01Once.calls (g : Nat) (s0_0 : List Int) (s0_1 : Int) (s0_2 : Int) (a1 : Int) (r1 : Bool) (r2 : Int) (r3 : Int) (w0 w : World) (hI : IsS83 w0 w g s0_0 s0_1 s0_2) (hB : Below w0.heap.size w0 w) (h : spec_l01Once.f s0_0 s0_1 s0_2 a1 = some (r1, r2, r3)) :
  Calls Try.prog 83 #[.pointer (some ⟨g, 0, none⟩), .int .i64 a1] w fun e w' => e = .returned (.bool r1) ∧ IsS83 w0 w' g s0_0 r2 r3 ∧ Below w0.heap.size w0 w' ∧ KeepBut w w' g none := by
 have HI0 := Aside0.mk hI
 have HK := Aside0.mk (KeepBut.refl w g none)
 have HL := Aside0.mk hB.size
 clear hI
 have HW0 := Aside0.mk hB.size
 have HB := Aside0.mk hB
 clear hB
 have H : ((spec_l01Below.f s0_0 s0_1 s0_2 a1).bind fun bt1094 => (some ((bt1094.1 == 0), bt1094.2.1, bt1094.2.2))) = some (r1, r2, r3) := h
 clear h
 replace H := Option.bind_eq_some_iff.mp H
 obtain ⟨⟨t1094, t1095, t1096⟩, A30, H⟩ := H
 (try dsimp only at H)
 have A3 := Aside0.mk A30
 clear A30
 simp only [Option.some.injEq, Prod.mk.injEq] at H
 obtain ⟨rfl, rfl, rfl⟩ := H
 go_enter Try.func83, Try.ntmps83
 go_wp2_with (first | ((with_reducible refine gate_callee (f := 75) rfl ?_); refine goesL_ (some 7) rfl rfl Try.func75 (by kernel_rfl) rfl #[.pointer (some ⟨g, 0, none⟩), .int .i64 a1] rfl (by (try simp only [List.map_toArray, List.map_cons, List.map_nil]); first | done | rfl | (simp only [List.length_drop, List.length_take]; rfl)) ?_; (with_reducible refine (spec_l01Below.calls g s0_0 s0_1 s0_2 a1 t1094 t1095 t1096 w0 _ ?side1 ?side2 A3.out).mono ?_); (case side1 => repeat (first | (with_reducible first | exact HI0.out | apply IsS83.alloc | apply IsS83.drewN | apply IsS83.drew | apply IsS83.set_1 | apply IsS83.set_2) | exact HI0.out)); (case side2 => repeat (first | (with_reducible first | exact HB.out | apply below_alloc | apply pw_below_drewN | apply below_drew1 | refine below_set ?_ (IsS83.ge HI0.out)) | exact HB.out)); rintro e w4 ⟨rfl, hi, hb, hk⟩; refine ⟨_, rfl, ?_⟩; have n0_ := Aside0.mk (KeepBut.trans (by repeat (first | (with_reducible first | exact HK.out | apply KeepBut.set_ | apply keep_drewN | apply keep_drew | apply keep_alloc) | exact HK.out)) hk (.inl rfl)); have n1_ := Aside0.mk (hb); have n2_ := Aside0.mk (hi); clear HK; clear HB; clear HI0; have HK := n0_; have HB := n1_; have HI0 := n2_; clear n0_ n1_ n2_; (try clear hb); (try clear hb2); (try clear hk); (try clear hi)))
 go_ret
 exact ⟨by first | rfl | (simp [errW_none, errW_some] <;> rfl) | (simp [*, errW_none, errW_some] <;> rfl), by repeat (first | (with_reducible first | exact HI0.out | apply IsS83.alloc | apply IsS83.drewN | apply IsS83.drew | apply IsS83.set_1 | apply IsS83.set_2) | exact HI0.out), by repeat (first | (with_reducible first | exact HB.out | apply below_alloc | apply pw_below_drewN | apply below_drew1 | refine below_set ?_ (IsS83.ge HI0.out)) | exact HB.out), by repeat (first | (with_reducible first | exact HK.out | apply KeepBut.set_ | apply keep_drewN | apply keep_drew | apply keep_alloc) | exact HK.out)⟩
end Go.Proofs.Ytlhlmjklajdejaa.P


namespace Go.Proofs.Ytlhlmjklajdejaa.P
open Go.RowKit Go.Proofs.YtlhlmjklajdejaaW.PrintWords Go.Proofs.YtlhlmjklajdejaaW.PrintLast Go.Proofs.YtlhlmjklajdejaaW.PrintMore
attribute [local go_sem] max2_int min2_int max_two min_two max_three min_three max_four min_four
set_option linter.unusedVariables false
set_option linter.unusedSimpArgs false
def spec_l19Plan.l0 : Nat → List (S67) → Int → List Int → Int → Int → Option ((List (S67)) × Int × Int)
 | 0, _, _, _, _, _ => none
 | k + 1, x3, x4, x1000, x1001, x1002 => if x4 < (x3.length : Int) then ((spec_l01Below.f x1000 x1001 x1002 1500).bind fun bt1116 => (if 0 ≤ x4 then ((some (x3.set (x4 : Int).toNat (⟨(rd_T67 x3 x4).f0, (rd_T67 x3 x4).f1, (rd_T67 x3 x4).f2, bt1116.1⟩ : S67) : List (S67))).bind fun y1119 => ((spec_l01Once.f x1000 bt1116.2.1 bt1116.2.2 5).bind fun bt1120 => (if bt1120.1 = true then (spec_l19Plan.l0 k (y1119.set (x4 : Int).toNat (⟨(rd_T67 y1119 x4).f0, (rd_T67 y1119 x4).f1, 2, (rd_T67 y1119 x4).f3⟩ : S67)) (wrap64 (x4 + 1)) x1000 bt1120.2.1 bt1120.2.2) else (spec_l19Plan.l0 k y1119 (wrap64 (x4 + 1)) x1000 bt1120.2.1 bt1120.2.2)))) else (none))) else ((spec_l01Below.f x1000 x1001 x1002 12).bind fun bt1104 => ((spec_l01PickInt.f x1000 bt1104.2.1 bt1104.2.2 (([11, 11, 11, bt1104.1] : List Int))).bind fun bt1110 => (if 0 ≤ bt1110.1 then (if bt1110.1 ≤ (x3.length : Int) then (some ((x3.take (bt1110.1 : Int).toNat), bt1110.2.1, bt1110.2.2)) else (none)) else (none))))
def spec_l19Plan.f (k : Nat) (s0_0 : List Int) (s0_1 : Int) (s0_2 : Int) : Option ((List (S67)) × Int × Int) := (spec_UsualPlan.f k 0).bind fun t1101 => (spec_l19Plan.l0 k t1101 0 s0_0 s0_1 s0_2)
set_option maxHeartbeats 8000000 in
set_option maxRecDepth 100000 in
theorem spec_l19Plan.calls (k : Nat) (g : Nat) (s0_0 : List Int) (s0_1 : Int) (s0_2 : Int) (r1 : List (S67)) (r2 : Int) (r3 : Int) (w0 w : World) (hI : IsS83 w0 w g s0_0 s0_1 s0_2) (hB : Below w0.heap.size w0 w) (h : spec_l19Plan.f k s0_0 s0_1 s0_2 = some (r1, r2, r3)) :
  Calls Try.prog 76 #[.pointer (some ⟨g, 0, none⟩)] w fun e w' => ∃ v0_ : Value, e = .returned (v0_) ∧ Kd.R k67 67 w' w.heap.size (fun _ => True) v0_ r1 ∧ IsS83 w0 w' g s0_0 r2 r3 ∧ Below w0.heap.size w0 w' ∧ KeepBut w w' g none := by
 have HI0 := Aside0.mk hI
 have HK := Aside0.mk (KeepBut.refl w g none)
 have HL := Aside0.mk hB.size
 clear hI
 have HW0 := Aside0.mk hB.size
 have HB := Aside0.mk hB
 clear hB
 have H : ((spec_UsualPlan.f k 0).bind fun t1101 => (spec_l19Plan.l0 k t1101 0 s0_0 s0_1 s0_2)) = some (r1, r2, r3) := h
 clear h
 replace H := Option.bind_eq_some_iff.mp H
 obtain ⟨t1101, A20, H⟩ := H
 (try dsimp only at H)
 have A2 := Aside0.mk A20
 clear A20
 have H' := Aside0.mk H
 clear H
 go_enter Try.func76, Try.ntmps76
 go_wp2_with (first | ((with_reducible refine gate_callee (f := 82) rfl ?_); refine goesL_ (some 5) rfl rfl Try.func82 (by kernel_rfl) rfl #[.int .i64 0] rfl (by (try simp only [List.map_toArray, List.map_cons, List.map_nil]); first | done | rfl | (simp only [List.length_drop, List.length_take]; rfl)) ?_; (with_reducible refine (spec_UsualPlan.calls k 0 t1101 _ A2.out).mono ?_); rintro e w3 ⟨v1102, rfl, ho0, hb⟩; refine ⟨_, rfl, ?_⟩; have n0_ := Aside0.mk (Kd.R_lower ho0 (keep_size (w := w) (g := g) (row := none) (by repeat (first | (with_reducible first | exact HK.out | apply KeepBut.set_ | apply keep_drewN | apply keep_drew | apply keep_alloc) | exact HK.out)))); have n1_ := Aside0.mk (IsS83.below (by repeat (first | (with_reducible first | exact HI0.out | apply IsS83.alloc | apply IsS83.drewN | apply IsS83.drew | apply IsS83.set_1 | apply IsS83.set_2) | exact HI0.out)) hb); have n2_ := Aside0.mk (KeepBut.trans (by repeat (first | (with_reducible first | exact HK.out | apply KeepBut.set_ | apply keep_drewN | apply keep_drew | apply keep_alloc) | exact HK.out)) (KeepBut.of_below hb g none) (.inl rfl)); have n3_ := Aside0.mk (below_step (by repeat (first | (with_reducible first | exact HB.out | apply below_alloc | apply pw_below_drewN | apply below_drew1 | refine below_set ?_ (IsS83.ge HI0.out)) | exact HB.out)) hb); clear HI0; clear HK; clear HB; have HO1103 := n0_; have HI0 := n1_; have HK := n2_; have HB := n3_; clear n0_ n1_ n2_ n3_; (try clear hb); (try clear hb2); (try clear hk); (try clear hi); (try clear ho0)))
 go_loopg [4] k (fun kq v4 w' => ∃ (x3_1 : List (S67)) (x4_1 : Int) (x1001_1 : Int) (x1002_1 : Int), v4 = .int .i64 x4_1 ∧ Aside0 (spec_l19Plan.l0 kq x3_1 x4_1 s0_0 x1001_1 x1002_1 = some (r1, r2, r3)) ∧ Aside0 (kq ≤ k) ∧ Aside0 (Kd.R k67 67 w' w.heap.size (fun _ => True) v1102 x3_1) ∧ Aside0 (IsS83 w0 w' g s0_0 x1001_1 x1002_1) ∧ Aside0 (KeepBut w w' g none) ∧ Aside0 (Below w0.heap.size w0 w'))
 case atStart => exact ⟨(t1101), (0), (s0_1), (s0_2), (by first | rfl | (simp; done) | (simp [*]; done)), H', ⟨Nat.le_refl _⟩, ⟨oR HO1103⟩, ⟨by repeat (first | (with_reducible first | exact HI0.out | apply IsS83.alloc | apply IsS83.drewN | apply IsS83.drew | apply IsS83.set_1 | apply IsS83.set_2) | exact HI0.out)⟩, ⟨by repeat (first | (with_reducible first | exact HK.out | apply KeepBut.set_ | apply keep_drewN | apply keep_drew | apply keep_alloc) | exact HK.out)⟩, ⟨by repeat (first | (with_reducible first | exact HB.out | apply below_alloc | apply pw_below_drewN | apply below_drew1 | refine below_set ?_ (IsS83.ge HI0.out)) | exact HB.out)⟩⟩
 case round =>
  clear H'
  try clear p2
  obtain ⟨x3_1, x4_1, x1001_1, x1002_1, rfl, HA, HK1, HO_3, HI0, HK, HB⟩ := hrel
  cases gk with
  | zero => exact absurd HA.out (by simp [spec_l19Plan.l0])
  | succ k1 =>
   have H := HA.out
   clear HA
   simp only [spec_l19Plan.l0] at H
   by_cases c4 : x4_1 < (x3_1.length : Int)
   ·rw [if_pos c4] at H
    have c4b0 : decide (x4_1 < (x3_1.length : Int)) = true := decide_eq_true c4
    clear c4
    replace H := Option.bind_eq_some_iff.mp H
    obtain ⟨⟨t1116, t1117, t1118⟩, A50, H⟩ := H
    (try dsimp only at H)
    have A5 := Aside0.mk A50
    clear A50
    by_cases c6 : 0 ≤ x4_1
    ·rw [if_pos c6] at H
     have c6b0 : decide (0 ≤ x4_1) = true := decide_eq_true c6
     clear c6
     obtain ⟨y1119, hy1119⟩ : ∃ y_ : List (S67), y_ = (x3_1.set (x4_1 : Int).toNat (⟨(rd_T67 x3_1 x4_1).f0, (rd_T67 x3_1 x4_1).f1, (rd_T67 x3_1 x4_1).f2, t1116⟩ : S67)) := ⟨_, rfl⟩
     replace H : ((spec_l01Once.f s0_0 t1117 t1118 5).bind fun bt1120 => (if bt1120.1 = true then (spec_l19Plan.l0 k1 (y1119.set (x4_1 : Int).toNat (⟨(rd_T67 y1119 x4_1).f0, (rd_T67 y1119 x4_1).f1, 2, (rd_T67 y1119 x4_1).f3⟩ : S67)) (wrap64 (x4_1 + 1)) s0_0 bt1120.2.1 bt1120.2.2) else (spec_l19Plan.l0 k1 y1119 (wrap64 (x4_1 + 1)) s0_0 bt1120.2.1 bt1120.2.2))) = some (r1, r2, r3) := by first | (rw [hy1119]; with_reducible exact H) | (have H2_ := (Option.bind_some _ _).symm.trans H; rw [hy1119]; with_reducible exact H2_) | (have H2_ := (Option.bind_some _ _).symm.trans H; with_reducible exact H2_) | with_reducible exact H | (rw [hy1119]; exact H) | exact H
     have Ny1119 := Aside0.mk hy1119
     clear hy1119
     replace H := Option.bind_eq_some_iff.mp H
     obtain ⟨⟨t1120, t1121, t1122⟩, A80, H⟩ := H
     (try dsimp only at H)
     have A8 := Aside0.mk A80
     clear A80
     by_cases c9 : t1120 = true
     ·subst c9
      rw [if_pos rfl] at H
      obtain ⟨y1123, hy1123⟩ : ∃ y_ : List (S67), y_ = (y1119.set (x4_1 : Int).toNat (⟨(rd_T67 y1119 x4_1).f0, (rd_T67 y1119 x4_1).f1, 2, (rd_T67 y1119 x4_1).f3⟩ : S67)) := ⟨_, rfl⟩
      replace H : (spec_l19Plan.l0 k1 y1123 (wrap64 (x4_1 + 1)) s0_0 t1121 t1122) = some (r1, r2, r3) := by first | (rw [hy1123]; with_reducible exact H) | (have H2_ := (Option.bind_some _ _).symm.trans H; rw [hy1123]; with_reducible exact H2_) | (have H2_ := (Option.bind_some _ _).symm.trans H; with_reducible exact H2_) | with_reducible exact H | (rw [hy1123]; exact H) | exact H
      have Ny1123 := Aside0.mk hy1123
      clear hy1123
      have H' := Aside0.mk H
      clear H
      obtain ⟨Ao11, co11, eo11⟩ := Kd.R_slice HO_3.out
      subst eo11
      go_wp2_with (first | ((with_reducible refine gate_callee (f := 75) rfl ?_); refine goesL_ (some 15) rfl rfl Try.func75 (by kernel_rfl) rfl #[.pointer (some ⟨g, 0, none⟩), .int .i64 1500] rfl (by (try simp only [List.map_toArray, List.map_cons, List.map_nil]); first | done | rfl | (simp only [List.length_drop, List.length_take]; rfl)) ?_; (with_reducible refine (spec_l01Below.calls g s0_0 x1001_1 x1002_1 1500 t1116 t1117 t1118 w0 _ ?side1 ?side2 A5.out).mono ?_); (case side1 => repeat (first | (with_reducible first | exact HI0.out | apply IsS83.alloc | apply IsS83.drewN | apply IsS83.drew | apply IsS83.set_1 | apply IsS83.set_2) | exact HI0.out)); (case side2 => repeat (first | (with_reducible first | exact HB.out | apply below_alloc | apply pw_below_drewN | apply below_drew1 | refine below_set ?_ (IsS83.ge HI0.out)) | exact HB.out)); rintro e w12 ⟨rfl, hi, hb, hk⟩; refine ⟨_, rfl, ?_⟩; have n0_ := Aside0.mk (Kd.R_mono (Kd.R_keep (IsS83.apart (show IsS83 w0 _ g s0_0 x1001_1 x1002_1 from by repeat (first | (with_reducible first | exact HI0.out | apply IsS83.alloc | apply IsS83.drewN | apply IsS83.drew | apply IsS83.set_1 | apply IsS83.set_2) | exact HI0.out)) (oR HO_3) (by decide)) hk (fun _ h => h.2)) (fun _ h => h.1)); have n1_ := Aside0.mk (KeepBut.trans (by repeat (first | (with_reducible first | exact HK.out | apply KeepBut.set_ | apply keep_drewN | apply keep_drew | apply keep_alloc) | exact HK.out)) hk (.inl rfl)); have n2_ := Aside0.mk (hb); have n3_ := Aside0.mk (hi); clear HO_3; clear HK; clear HB; clear HI0; have HO_3 := n0_; have HK := n1_; have HB := n2_; have HI0 := n3_; clear n0_ n1_ n2_ n3_; (try clear hb); (try clear hb2); (try clear hk); (try clear hi); have p7 : 0 ≤ (x4_1 : Int) := of_decide_eq_true (by first | (with_reducible assumption) | assumption); have q7 : (x4_1 : Int) < ((x3_1.length : Int) : Int) := of_decide_eq_true (by first | (with_reducible assumption) | assumption); obtain ⟨go7, co7, eo7, gb7, gl7, cl7, HG7⟩ := Kd.R_form HO_3.out (by omega); (first | cases eo7 | (injection eo7 with ea_ en_ ec_; (first | subst ea_ | (injection ea_ with ea_; subst ea_)); subst ec_; clear en_)); have GB7 := Aside0.mk gb7; have GG7 := Aside0.mk HG7; clear gb7 gl7 HG7; obtain ⟨ce7, hcl7, hM7, hcc7, hfr7⟩ := Kd.R_elem HO_3.out z67 (x4_1 : Int) p7 q7; obtain rfl := k67_openM hM7; have hx7_0 : w12.cell? ⟨go7, (x4_1 : Int).toNat * 4, none⟩ = some (.int .i64 ((rd_T67 x3_1 x4_1).f0)) := hcc7 0 _ rfl; have hx7_1 : w12.cell? ⟨go7, (x4_1 : Int).toNat * 4 + 1, none⟩ = some (.int .i64 ((rd_T67 x3_1 x4_1).f1)) := hcc7 1 _ rfl; have hx7_2 : w12.cell? ⟨go7, (x4_1 : Int).toNat * 4 + 2, none⟩ = some (.int .i64 ((rd_T67 x3_1 x4_1).f2)) := hcc7 2 _ rfl; have hx7_3 : w12.cell? ⟨go7, (x4_1 : Int).toNat * 4 + 3, none⟩ = some (.int .i64 ((rd_T67 x3_1 x4_1).f3)) := hcc7 3 _ rfl; have hf7_0 : w12.frozen? ⟨go7, (x4_1 : Int).toNat * 4, none⟩ = false := hfr7 0; have hf7_1 : w12.frozen? ⟨go7, (x4_1 : Int).toNat * 4 + 1, none⟩ = false := hfr7 1; have hf7_2 : w12.frozen? ⟨go7, (x4_1 : Int).toNat * 4 + 2, none⟩ = false := hfr7 2; have hf7_3 : w12.frozen? ⟨go7, (x4_1 : Int).toNat * 4 + 3, none⟩ = false := hfr7 3; clear hcl7 hcc7 hfr7 hM7; replace p7 := eq_true p7; replace q7 := eq_true q7; have HX13 := Aside0.mk (show Kd.R k67 67 w12 w.heap.size (fun _ => True) (.slice (some ⟨go7, 0, none⟩) x3_1.length co11) x3_1 from (oR HO_3)); obtain ⟨ce13, hcl13, hM13, hcc13, hfr13⟩ := Kd.R_elem HX13.out z67 (x4_1 : Int) (of_decide_eq_true (by first | (with_reducible assumption) | assumption)) (by have h_ : (x4_1 : Int) < ((x3_1.length : Int) : Int) := of_decide_eq_true (by first | (with_reducible assumption) | assumption); first | exact h_ | (have e_ := (Kd.R_reads' HO_3.out).1; omega) | simpa using h_); obtain rfl := k67_openM hM13; have HP13 := Kd.R_seg HX13.out (x4_1 : Int) (of_decide_eq_true (by first | (with_reducible assumption) | assumption)) (by have h_ : (x4_1 : Int) < ((x3_1.length : Int) : Int) := of_decide_eq_true (by first | (with_reducible assumption) | assumption); first | exact h_ | (have e_ := (Kd.R_reads' HO_3.out).1; omega) | simpa using h_) (seg := [.int .i64 t1116]) (j := 3) hcl13 hcc13 (show 4 ≤ 4 from by decide) (x' := (⟨(rd_T67 x3_1 x4_1).f0, (rd_T67 x3_1 x4_1).f1, (rd_T67 x3_1 x4_1).f2, t1116⟩ : S67)) (k67_mkM _ _ _ (⟨(rd_T67 x3_1 x4_1).f0, (rd_T67 x3_1 x4_1).f1, (rd_T67 x3_1 x4_1).f2, t1116⟩ : S67) ) (fun _ hk => hk); have hx13_3 := hcc13 3 _ rfl; (try simp only [show (k67).sz = 4 from rfl, Nat.mul_one, Nat.add_zero] at hx13_3); have hf13_3 := hfr13 3; (try simp only [show (k67).sz = 4 from rfl, Nat.mul_one, Nat.add_zero] at hf13_3); clear hcl13 hcc13 hfr13 hM13) | ((with_reducible refine gate_store (t := 3) (p := 17) rfl ?_); refine store_event (t := 3) (p := 17) (v := ?vo_w14) (w1 := (w12.setCell ⟨go7, (x4_1 : Int).toNat * 4 + 3, none⟩ (.int .i64 t1116))) ?hg ?ho ?hn ?hr ?_; (case ho => rfl); (case hg => rfl); (case hn => rfl); (case hr => first | (go_simp; done) | (go_simp; rfl)); intro w14 hw; have hg : w12.grownBy w14 (some go7) := (by rw [hw]; exact HP13.2); have hp_ : Kd.R k67 67 w14 w.heap.size (fun _ => True) (.slice (some ⟨go7, 0, none⟩) x3_1.length co11) y1119 := (by rw [hw, Ny1119.out]; exact HP13.1); clear HP13; have n0_ := Aside0.mk (hp_); have n1_ := Aside0.mk (IsS83.grown (by repeat (first | (with_reducible first | exact HI0.out | apply IsS83.alloc | apply IsS83.drewN | apply IsS83.drew | apply IsS83.set_1 | apply IsS83.set_2) | exact HI0.out)) hg (IsS83.own_ne HI0.out HO_3.out (by decide))); have n2_ := Aside0.mk ((by rw [hw]; exact below_set (HB.out) (Nat.le_trans HL.out GB7.out) : Below w0.heap.size w0 w14)); have n3_ := Aside0.mk (KeepBut.trans (by repeat (first | (with_reducible first | exact HK.out | apply KeepBut.set_ | apply keep_drewN | apply keep_drew | apply keep_alloc) | exact HK.out)) (KeepBut.of_grown hg g) (Kd.R_base2 HO_3.out)); clear HO_3; clear HI0; clear HB; clear HK; have HO_3 := n0_; have HI0 := n1_; have HB := n2_; have HK := n3_; clear n0_ n1_ n2_ n3_; clear hg hw hp_) | ((with_reducible refine gate_callee (f := 83) rfl ?_); refine goesL_ (some 19) rfl rfl Try.func83 (by kernel_rfl) rfl #[.pointer (some ⟨g, 0, none⟩), .int .i64 5] rfl (by (try simp only [List.map_toArray, List.map_cons, List.map_nil]); first | done | rfl | (simp only [List.length_drop, List.length_take]; rfl)) ?_; (with_reducible refine (spec_l01Once.calls g s0_0 t1117 t1118 5 true t1121 t1122 w0 _ ?side1 ?side2 A8.out).mono ?_); (case side1 => repeat (first | (with_reducible first | exact HI0.out | apply IsS83.alloc | apply IsS83.drewN | apply IsS83.drew | apply IsS83.set_1 | apply IsS83.set_2) | exact HI0.out)); (case side2 => repeat (first | (with_reducible first | exact HB.out | apply below_alloc | apply pw_below_drewN | apply below_drew1 | refine below_set ?_ (IsS83.ge HI0.out)) | exact HB.out)); rintro e w15 ⟨rfl, hi, hb, hk⟩; refine ⟨_, rfl, ?_⟩; have n0_ := Aside0.mk (Kd.R_mono (Kd.R_keep (IsS83.apart (show IsS83 w0 _ g s0_0 t1117 t1118 from by repeat (first | (with_reducible first | exact HI0.out | apply IsS83.alloc | apply IsS83.drewN | apply IsS83.drew | apply IsS83.set_1 | apply IsS83.set_2) | exact HI0.out)) (oR HO_3) (by decide)) hk (fun _ h => h.2)) (fun _ h => h.1)); have n1_ := Aside0.mk (KeepBut.trans (by repeat (first | (with_reducible first | exact HK.out | apply KeepBut.set_ | apply keep_drewN | apply keep_drew | apply keep_alloc) | exact HK.out)) hk (.inl rfl)); have n2_ := Aside0.mk (hb); have n3_ := Aside0.mk (hi); clear HO_3; clear HK; clear HB; clear HI0; have HO_3 := n0_; have HK := n1_; have HB := n2_; have HI0 := n3_; clear n0_ n1_ n2_ n3_; (try clear hb); (try clear hb2); (try clear hk); (try clear hi); have p10 : 0 ≤ (x4_1 : Int) := of_decide_eq_true (by first | (with_reducible assumption) | assumption); have q10 : (x4_1 : Int) < ((x3_1.length : Int) : Int) := of_decide_eq_true (by first | (with_reducible assumption) | assumption); obtain ⟨ce10, hcl10, hM10, hcc10, hfr10⟩ := Kd.R_elem HO_3.out z67 (x4_1 : Int) p10 q10; obtain rfl := k67_openM hM10; have hx10_0 : w15.cell? ⟨go7, (x4_1 : Int).toNat * 4, none⟩ = some (.int .i64 ((rd_T67 y1119 x4_1).f0)) := hcc10 0 _ rfl; have hx10_1 : w15.cell? ⟨go7, (x4_1 : Int).toNat * 4 + 1, none⟩ = some (.int .i64 ((rd_T67 y1119 x4_1).f1)) := hcc10 1 _ rfl; have hx10_2 : w15.cell? ⟨go7, (x4_1 : Int).toNat * 4 + 2, none⟩ = some (.int .i64 ((rd_T67 y1119 x4_1).f2)) := hcc10 2 _ rfl; have hx10_3 : w15.cell? ⟨go7, (x4_1 : Int).toNat * 4 + 3, none⟩ = some (.int .i64 ((rd_T67 y1119 x4_1).f3)) := hcc10 3 _ rfl; have hf10_0 : w15.frozen? ⟨go7, (x4_1 : Int).toNat * 4, none⟩ = false := hfr10 0; have hf10_1 : w15.frozen? ⟨go7, (x4_1 : Int).toNat * 4 + 1, none⟩ = false := hfr10 1; have hf10_2 : w15.frozen? ⟨go7, (x4_1 : Int).toNat * 4 + 2, none⟩ = false := hfr10 2; have hf10_3 : w15.frozen? ⟨go7, (x4_1 : Int).toNat * 4 + 3, none⟩ = false := hfr10 3; clear hcl10 hcc10 hfr10 hM10; replace p10 := eq_true p10; replace q10 := eq_true q10; have HX16 := Aside0.mk (show Kd.R k67 67 w15 w.heap.size (fun _ => True) (.slice (some ⟨go7, 0, none⟩) x3_1.length co11) y1119 from (oR HO_3)); obtain ⟨ce16, hcl16, hM16, hcc16, hfr16⟩ := Kd.R_elem HX16.out z67 (x4_1 : Int) (of_decide_eq_true (by first | (with_reducible assumption) | assumption)) (by have h_ : (x4_1 : Int) < ((x3_1.length : Int) : Int) := of_decide_eq_true (by first | (with_reducible assumption) | assumption); first | exact h_ | (have e_ := (Kd.R_reads' HO_3.out).1; omega) | simpa using h_); obtain rfl := k67_openM hM16; have HP16 := Kd.R_seg HX16.out (x4_1 : Int) (of_decide_eq_true (by first | (with_reducible assumption) | assumption)) (by have h_ : (x4_1 : Int) < ((x3_1.length : Int) : Int) := of_decide_eq_true (by first | (with_reducible assumption) | assumption); first | exact h_ | (have e_ := (Kd.R_reads' HO_3.out).1; omega) | simpa using h_) (seg := [.int .i64 2]) (j := 2) hcl16 hcc16 (show 3 ≤ 4 from by decide) (x' := (⟨(rd_T67 y1119 x4_1).f0, (rd_T67 y1119 x4_1).f1, 2, (rd_T67 y1119 x4_1).f3⟩ : S67)) (k67_mkM _ _ _ (⟨(rd_T67 y1119 x4_1).f0, (rd_T67 y1119 x4_1).f1, 2, (rd_T67 y1119 x4_1).f3⟩ : S67) ) (fun _ hk => hk); have hx16_2 := hcc16 2 _ rfl; (try simp only [show (k67).sz = 4 from rfl, Nat.mul_one, Nat.add_zero] at hx16_2); have hf16_2 := hfr16 2; (try simp only [show (k67).sz = 4 from rfl, Nat.mul_one, Nat.add_zero] at hf16_2); clear hcl16 hcc16 hfr16 hM16) | ((with_reducible refine gate_store (t := 3) (p := 23) rfl ?_); refine store_event (t := 3) (p := 23) (v := ?vo_w17) (w1 := (w15.setCell ⟨go7, (x4_1 : Int).toNat * 4 + 2, none⟩ (.int .i64 2))) ?hg ?ho ?hn ?hr ?_; (case ho => rfl); (case hg => rfl); (case hn => rfl); (case hr => first | (go_simp; done) | (go_simp; rfl)); intro w17 hw; have hg : w15.grownBy w17 (some go7) := (by rw [hw]; exact HP16.2); have hp_ : Kd.R k67 67 w17 w.heap.size (fun _ => True) (.slice (some ⟨go7, 0, none⟩) x3_1.length co11) y1123 := (by rw [hw, Ny1123.out]; exact HP16.1); clear HP16; have n0_ := Aside0.mk (hp_); have n1_ := Aside0.mk (IsS83.grown (by repeat (first | (with_reducible first | exact HI0.out | apply IsS83.alloc | apply IsS83.drewN | apply IsS83.drew | apply IsS83.set_1 | apply IsS83.set_2) | exact HI0.out)) hg (IsS83.own_ne HI0.out HO_3.out (by decide))); have n2_ := Aside0.mk ((by rw [hw]; exact below_set (HB.out) (Nat.le_trans HL.out GB7.out) : Below w0.heap.size w0 w17)); have n3_ := Aside0.mk (KeepBut.trans (by repeat (first | (with_reducible first | exact HK.out | apply KeepBut.set_ | apply keep_drewN | apply keep_drew | apply keep_alloc) | exact HK.out)) (KeepBut.of_grown hg g) (Kd.R_base2 HO_3.out)); clear HO_3; clear HI0; clear HB; clear HK; have HO_3 := n0_; have HI0 := n1_; have HB := n2_; have HK := n3_; clear n0_ n1_ n2_ n3_; clear hg hw hp_))
      go_roundg k1
      case measure => have := HK1.out; omega
      case rel => exact ⟨(y1123), (wrap64 (x4_1 + 1)), (t1121), (t1122), (by first | rfl | (simp; done) | (simp [*]; done)), H', ⟨by have := HK1.out; omega⟩, ⟨oR HO_3⟩, ⟨by repeat (first | (with_reducible first | exact HI0.out | apply IsS83.alloc | apply IsS83.drewN | apply IsS83.drew | apply IsS83.set_1 | apply IsS83.set_2) | exact HI0.out)⟩, ⟨by repeat (first | (with_reducible first | exact HK.out | apply KeepBut.set_ | apply keep_drewN | apply keep_drew | apply keep_alloc) | exact HK.out)⟩, ⟨by repeat (first | (with_reducible first | exact HB.out | apply below_alloc | apply pw_below_drewN | apply below_drew1 | refine below_set ?_ (IsS83.ge HI0.out)) | exact HB.out)⟩⟩
     ·replace c9 := Bool.eq_false_iff.mpr c9
      subst c9
      rw [if_neg (show ¬ (false = true) by decide)] at H
      have H' := Aside0.mk H
      clear H
      obtain ⟨Ao18, co18, eo18⟩ := Kd.R_slice HO_3.out
      subst eo18
      go_wp2_with (first | ((with_reducible refine gate_callee (f := 75) rfl ?_); refine goesL_ (some 15) rfl rfl Try.func75 (by kernel_rfl) rfl #[.pointer (some ⟨g, 0, none⟩), .int .i64 1500] rfl (by (try simp only [List.map_toArray, List.map_cons, List.map_nil]); first | done | rfl | (simp only [List.length_drop, List.length_take]; rfl)) ?_; (with_reducible refine (spec_l01Below.calls g s0_0 x1001_1 x1002_1 1500 t1116 t1117 t1118 w0 _ ?side1 ?side2 A5.out).mono ?_); (case side1 => repeat (first | (with_reducible first | exact HI0.out | apply IsS83.alloc | apply IsS83.drewN | apply IsS83.drew | apply IsS83.set_1 | apply IsS83.set_2) | exact HI0.out)); (case side2 => repeat (first | (with_reducible first | exact HB.out | apply below_alloc | apply pw_below_drewN | apply below_drew1 | refine below_set ?_ (IsS83.ge HI0.out)) | exact HB.out)); rintro e w19 ⟨rfl, hi, hb, hk⟩; refine ⟨_, rfl, ?_⟩; have n0_ := Aside0.mk (Kd.R_mono (Kd.R_keep (IsS83.apart (show IsS83 w0 _ g s0_0 x1001_1 x1002_1 from by repeat (first | (with_reducible first | exact HI0.out | apply IsS83.alloc | apply IsS83.drewN | apply IsS83.drew | apply IsS83.set_1 | apply IsS83.set_2) | exact HI0.out)) (oR HO_3) (by decide)) hk (fun _ h => h.2)) (fun _ h => h.1)); have n1_ := Aside0.mk (KeepBut.trans (by repeat (first | (with_reducible first | exact HK.out | apply KeepBut.set_ | apply keep_drewN | apply keep_drew | apply keep_alloc) | exact HK.out)) hk (.inl rfl)); have n2_ := Aside0.mk (hb); have n3_ := Aside0.mk (hi); clear HO_3; clear HK; clear HB; clear HI0; have HO_3 := n0_; have HK := n1_; have HB := n2_; have HI0 := n3_; clear n0_ n1_ n2_ n3_; (try clear hb); (try clear hb2); (try clear hk); (try clear hi); have p7 : 0 ≤ (x4_1 : Int) := of_decide_eq_true (by first | (with_reducible assumption) | assumption); have q7 : (x4_1 : Int) < ((x3_1.length : Int) : Int) := of_decide_eq_true (by first | (with_reducible assumption) | assumption); obtain ⟨go7, co7, eo7, gb7, gl7, cl7, HG7⟩ := Kd.R_form HO_3.out (by omega); (first | cases eo7 | (injection eo7 with ea_ en_ ec_; (first | subst ea_ | (injection ea_ with ea_; subst ea_)); subst ec_; clear en_)); have GB7 := Aside0.mk gb7; have GG7 := Aside0.mk HG7; clear gb7 gl7 HG7; obtain ⟨ce7, hcl7, hM7, hcc7, hfr7⟩ := Kd.R_elem HO_3.out z67 (x4_1 : Int) p7 q7; obtain rfl := k67_openM hM7; have hx7_0 : w19.cell? ⟨go7, (x4_1 : Int).toNat * 4, none⟩ = some (.int .i64 ((rd_T67 x3_1 x4_1).f0)) := hcc7 0 _ rfl; have hx7_1 : w19.cell? ⟨go7, (x4_1 : Int).toNat * 4 + 1, none⟩ = some (.int .i64 ((rd_T67 x3_1 x4_1).f1)) := hcc7 1 _ rfl; have hx7_2 : w19.cell? ⟨go7, (x4_1 : Int).toNat * 4 + 2, none⟩ = some (.int .i64 ((rd_T67 x3_1 x4_1).f2)) := hcc7 2 _ rfl; have hx7_3 : w19.cell? ⟨go7, (x4_1 : Int).toNat * 4 + 3, none⟩ = some (.int .i64 ((rd_T67 x3_1 x4_1).f3)) := hcc7 3 _ rfl; have hf7_0 : w19.frozen? ⟨go7, (x4_1 : Int).toNat * 4, none⟩ = false := hfr7 0; have hf7_1 : w19.frozen? ⟨go7, (x4_1 : Int).toNat * 4 + 1, none⟩ = false := hfr7 1; have hf7_2 : w19.frozen? ⟨go7, (x4_1 : Int).toNat * 4 + 2, none⟩ = false := hfr7 2; have hf7_3 : w19.frozen? ⟨go7, (x4_1 : Int).toNat * 4 + 3, none⟩ = false := hfr7 3; clear hcl7 hcc7 hfr7 hM7; replace p7 := eq_true p7; replace q7 := eq_true q7; have HX20 := Aside0.mk (show Kd.R k67 67 w19 w.heap.size (fun _ => True) (.slice (some ⟨go7, 0, none⟩) x3_1.length co18) x3_1 from (oR HO_3)); obtain ⟨ce20, hcl20, hM20, hcc20, hfr20⟩ := Kd.R_elem HX20.out z67 (x4_1 : Int) (of_decide_eq_true (by first | (with_reducible assumption) | assumption)) (by have h_ : (x4_1 : Int) < ((x3_1.length : Int) : Int) := of_decide_eq_true (by first | (with_reducible assumption) | assumption); first | exact h_ | (have e_ := (Kd.R_reads' HO_3.out).1; omega) | simpa using h_); obtain rfl := k67_openM hM20; have HP20 := Kd.R_seg HX20.out (x4_1 : Int) (of_decide_eq_true (by first | (with_reducible assumption) | assumption)) (by have h_ : (x4_1 : Int) < ((x3_1.length : Int) : Int) := of_decide_eq_true (by first | (with_reducible assumption) | assumption); first | exact h_ | (have e_ := (Kd.R_reads' HO_3.out).1; omega) | simpa using h_) (seg := [.int .i64 t1116]) (j := 3) hcl20 hcc20 (show 4 ≤ 4 from by decide) (x' := (⟨(rd_T67 x3_1 x4_1).f0, (rd_T67 x3_1 x4_1).f1, (rd_T67 x3_1 x4_1).f2, t1116⟩ : S67)) (k67_mkM _ _ _ (⟨(rd_T67 x3_1 x4_1).f0, (rd_T67 x3_1 x4_1).f1, (rd_T67 x3_1 x4_1).f2, t1116⟩ : S67) ) (fun _ hk => hk); have hx20_3 := hcc20 3 _ rfl; (try simp only [show (k67).sz = 4 from rfl, Nat.mul_one, Nat.add_zero] at hx20_3); have hf20_3 := hfr20 3; (try simp only [show (k67).sz = 4 from rfl, Nat.mul_one, Nat.add_zero] at hf20_3); clear hcl20 hcc20 hfr20 hM20) | ((with_reducible refine gate_store (t := 3) (p := 17) rfl ?_); refine store_event (t := 3) (p := 17) (v := ?vo_w21) (w1 := (w19.setCell ⟨go7, (x4_1 : Int).toNat * 4 + 3, none⟩ (.int .i64 t1116))) ?hg ?ho ?hn ?hr ?_; (case ho => rfl); (case hg => rfl); (case hn => rfl); (case hr => first | (go_simp; done) | (go_simp; rfl)); intro w21 hw; have hg : w19.grownBy w21 (some go7) := (by rw [hw]; exact HP20.2); have hp_ : Kd.R k67 67 w21 w.heap.size (fun _ => True) (.slice (some ⟨go7, 0, none⟩) x3_1.length co18) y1119 := (by rw [hw, Ny1119.out]; exact HP20.1); clear HP20; have n0_ := Aside0.mk (hp_); have n1_ := Aside0.mk (IsS83.grown (by repeat (first | (with_reducible first | exact HI0.out | apply IsS83.alloc | apply IsS83.drewN | apply IsS83.drew | apply IsS83.set_1 | apply IsS83.set_2) | exact HI0.out)) hg (IsS83.own_ne HI0.out HO_3.out (by decide))); have n2_ := Aside0.mk ((by rw [hw]; exact below_set (HB.out) (Nat.le_trans HL.out GB7.out) : Below w0.heap.size w0 w21)); have n3_ := Aside0.mk (KeepBut.trans (by repeat (first | (with_reducible first | exact HK.out | apply KeepBut.set_ | apply keep_drewN | apply keep_drew | apply keep_alloc) | exact HK.out)) (KeepBut.of_grown hg g) (Kd.R_base2 HO_3.out)); clear HO_3; clear HI0; clear HB; clear HK; have HO_3 := n0_; have HI0 := n1_; have HB := n2_; have HK := n3_; clear n0_ n1_ n2_ n3_; clear hg hw hp_) | ((with_reducible refine gate_callee (f := 83) rfl ?_); refine goesL_ (some 19) rfl rfl Try.func83 (by kernel_rfl) rfl #[.pointer (some ⟨g, 0, none⟩), .int .i64 5] rfl (by (try simp only [List.map_toArray, List.map_cons, List.map_nil]); first | done | rfl | (simp only [List.length_drop, List.length_take]; rfl)) ?_; (with_reducible refine (spec_l01Once.calls g s0_0 t1117 t1118 5 false t1121 t1122 w0 _ ?side1 ?side2 A8.out).mono ?_); (case side1 => repeat (first | (with_reducible first | exact HI0.out | apply IsS83.alloc | apply IsS83.drewN | apply IsS83.drew | apply IsS83.set_1 | apply IsS83.set_2) | exact HI0.out)); (case side2 => repeat (first | (with_reducible first | exact HB.out | apply below_alloc | apply pw_below_drewN | apply below_drew1 | refine below_set ?_ (IsS83.ge HI0.out)) | exact HB.out)); rintro e w22 ⟨rfl, hi, hb, hk⟩; refine ⟨_, rfl, ?_⟩; have n0_ := Aside0.mk (Kd.R_mono (Kd.R_keep (IsS83.apart (show IsS83 w0 _ g s0_0 t1117 t1118 from by repeat (first | (with_reducible first | exact HI0.out | apply IsS83.alloc | apply IsS83.drewN | apply IsS83.drew | apply IsS83.set_1 | apply IsS83.set_2) | exact HI0.out)) (oR HO_3) (by decide)) hk (fun _ h => h.2)) (fun _ h => h.1)); have n1_ := Aside0.mk (KeepBut.trans (by repeat (first | (with_reducible first | exact HK.out | apply KeepBut.set_ | apply keep_drewN | apply keep_drew | apply keep_alloc) | exact HK.out)) hk (.inl rfl)); have n2_ := Aside0.mk (hb); have n3_ := Aside0.mk (hi); clear HO_3; clear HK; clear HB; clear HI0; have HO_3 := n0_; have HK := n1_; have HB := n2_; have HI0 := n3_; clear n0_ n1_ n2_ n3_; (try clear hb); (try clear hb2); (try clear hk); (try clear hi)))
      go_roundg k1
      case measure => have := HK1.out; omega
      case rel => exact ⟨(y1119), (wrap64 (x4_1 + 1)), (t1121), (t1122), (by first | rfl | (simp; done) | (simp [*]; done)), H', ⟨by have := HK1.out; omega⟩, ⟨oR HO_3⟩, ⟨by repeat (first | (with_reducible first | exact HI0.out | apply IsS83.alloc | apply IsS83.drewN | apply IsS83.drew | apply IsS83.set_1 | apply IsS83.set_2) | exact HI0.out)⟩, ⟨by repeat (first | (with_reducible first | exact HK.out | apply KeepBut.set_ | apply keep_drewN | apply keep_drew | apply keep_alloc) | exact HK.out)⟩, ⟨by repeat (first | (with_reducible first | exact HB.out | apply below_alloc | apply pw_below_drewN | apply below_drew1 | refine below_set ?_ (IsS83.ge HI0.out)) | exact HB.out)⟩⟩
    ·rw [if_neg c6] at H
     exact absurd H (by simp)
   ·rw [if_neg c4] at H
    have c4b0 : decide (x4_1 < (x3_1.length : Int)) = false := decide_eq_false c4
    clear c4
    replace H := Option.bind_eq_some_iff.mp H
    obtain ⟨⟨t1104, t1105, t1106⟩, A230, H⟩ := H
    (try dsimp only at H)
    have A23 := Aside0.mk A230
    clear A230
    obtain ⟨y1107, hy1107⟩ : ∃ y_ : List Int, y_ = (([11, 11, 11, t1104] : List Int)) := ⟨_, rfl⟩
    replace H : ((spec_l01PickInt.f s0_0 t1105 t1106 y1107).bind fun bt1110 => (if 0 ≤ bt1110.1 then (if bt1110.1 ≤ (x3_1.length : Int) then (some ((x3_1.take (bt1110.1 : Int).toNat), bt1110.2.1, bt1110.2.2)) else (none)) else (none))) = some (r1, r2, r3) := by first | (rw [hy1107]; with_reducible exact H) | (have H2_ := (Option.bind_some _ _).symm.trans H; rw [hy1107]; with_reducible exact H2_) | (have H2_ := (Option.bind_some _ _).symm.trans H; with_reducible exact H2_) | with_reducible exact H | (rw [hy1107]; exact H) | exact H
    have Ny1107 := Aside0.mk hy1107
    clear hy1107
    replace H := Option.bind_eq_some_iff.mp H
    obtain ⟨⟨t1110, t1111, t1112⟩, A240, H⟩ := H
    (try dsimp only at H)
    have A24 := Aside0.mk A240
    clear A240
    by_cases c25 : 0 ≤ t1110
    ·rw [if_pos c25] at H
     have c25b0 := eq_true c25
     have c25b1 : decide (0 ≤ t1110) = true := decide_eq_true c25
     clear c25
     by_cases c26 : t1110 ≤ (x3_1.length : Int)
     ·rw [if_pos c26] at H
      have c26b0 := eq_true c26
      have c26b1 : decide (t1110 ≤ (x3_1.length : Int)) = true := decide_eq_true c26
      clear c26
      obtain ⟨y1113, hy1113⟩ : ∃ y_ : List (S67), y_ = (x3_1.take (t1110 : Int).toNat) := ⟨_, rfl⟩
      replace H : (some (y1113, t1111, t1112)) = some (r1, r2, r3) := by first | (rw [hy1113]; with_reducible exact H) | (have H2_ := (Option.bind_some _ _).symm.trans H; rw [hy1113]; with_reducible exact H2_) | (have H2_ := (Option.bind_some _ _).symm.trans H; with_reducible exact H2_) | with_reducible exact H | (rw [hy1113]; exact H) | exact H
      have Ny1113 := Aside0.mk hy1113
      clear hy1113
      simp only [Option.some.injEq, Prod.mk.injEq] at H
      obtain ⟨rfl, rfl, rfl⟩ := H
      obtain ⟨Ao27, co27, eo27⟩ := Kd.R_slice HO_3.out
      subst eo27
      go_wp2_with (first | ((with_reducible refine gate_callee (f := 75) rfl ?_); refine goesL_ (some 27) rfl rfl Try.func75 (by kernel_rfl) rfl #[.pointer (some ⟨g, 0, none⟩), .int .i64 12] rfl (by (try simp only [List.map_toArray, List.map_cons, List.map_nil]); first | done | rfl | (simp only [List.length_drop, List.length_take]; rfl)) ?_; (with_reducible refine (spec_l01Below.calls g s0_0 x1001_1 x1002_1 12 t1104 t1105 t1106 w0 _ ?side1 ?side2 A23.out).mono ?_); (case side1 => repeat (first | (with_reducible first | exact HI0.out | apply IsS83.alloc | apply IsS83.drewN | apply IsS83.drew | apply IsS83.set_1 | apply IsS83.set_2) | exact HI0.out)); (case side2 => repeat (first | (with_reducible first | exact HB.out | apply below_alloc | apply pw_below_drewN | apply below_drew1 | refine below_set ?_ (IsS83.ge HI0.out)) | exact HB.out)); rintro e w28 ⟨rfl, hi, hb, hk⟩; refine ⟨_, rfl, ?_⟩; have n0_ := Aside0.mk (Kd.R_mono (Kd.R_keep (IsS83.apart (show IsS83 w0 _ g s0_0 x1001_1 x1002_1 from by repeat (first | (with_reducible first | exact HI0.out | apply IsS83.alloc | apply IsS83.drewN | apply IsS83.drew | apply IsS83.set_1 | apply IsS83.set_2) | exact HI0.out)) (oR HO_3) (by decide)) hk (fun _ h => h.2)) (fun _ h => h.1)); have n1_ := Aside0.mk (KeepBut.trans (by repeat (first | (with_reducible first | exact HK.out | apply KeepBut.set_ | apply keep_drewN | apply keep_drew | apply keep_alloc) | exact HK.out)) hk (.inl rfl)); have n2_ := Aside0.mk (hb); have n3_ := Aside0.mk (hi); clear HO_3; clear HK; clear HB; clear HI0; have HO_3 := n0_; have HK := n1_; have HB := n2_; have HI0 := n3_; clear n0_ n1_ n2_ n3_; (try clear hb); (try clear hb2); (try clear hk); (try clear hi)) | ((with_reducible refine gate_dst (N := 28) rfl ?_); refine Kd.R_lit (Kd.int .i64) _ 3 ?hg (N := 28) ?hd (xs := ([11, 11, 11, t1104] : List Int)) (inner := [.int .i64 11, .int .i64 11, .int .i64 11, .int .i64 t1104]) (ok := fun _ => True) (okp := fun _ => True) ?hr ?hp (fun _ hk => hk) trivial (Below.refl _ _) (Nat.le_refl _) (by simp) ?_; (case hd => rfl); (case hg => rfl); (case hr => first | (go_simp; done) | (go_simp; rfl)); (case hp => exact (Reps.one (show Kd.M (Kd.int .i64) _ _ _ 11 [.int .i64 11] from rfl) (Reps.one (show Kd.M (Kd.int .i64) _ _ _ 11 [.int .i64 11] from rfl) (Reps.one (show Kd.M (Kd.int .i64) _ _ _ 11 [.int .i64 11] from rfl) (Reps.one (show Kd.M (Kd.int .i64) _ _ _ t1104 [.int .i64 t1104] from rfl) (Reps.none _ _)))))); intro v1108 w29 ho30 hb hg_ hnew_; clear hg_ hnew_; (first | rw [← Ny1107.out] at ho30 | (simp only [Int.reduceToNat] at ho30; rw [← Ny1107.out] at ho30)); have n0_ := Aside0.mk (Kd.R_below (oR HO_3) hb); have n1_ := Aside0.mk (Kd.R_lower ho30 (keep_size (w := w) (g := g) (row := none) (by repeat (first | (with_reducible first | exact HK.out | apply KeepBut.set_ | apply keep_drewN | apply keep_drew | apply keep_alloc) | exact HK.out)))); have n2_ := Aside0.mk (IsS83.below (by repeat (first | (with_reducible first | exact HI0.out | apply IsS83.alloc | apply IsS83.drewN | apply IsS83.drew | apply IsS83.set_1 | apply IsS83.set_2) | exact HI0.out)) hb); have n3_ := Aside0.mk (KeepBut.trans (by repeat (first | (with_reducible first | exact HK.out | apply KeepBut.set_ | apply keep_drewN | apply keep_drew | apply keep_alloc) | exact HK.out)) (KeepBut.of_below hb g none) (.inl rfl)); have n4_ := Aside0.mk (below_step (by repeat (first | (with_reducible first | exact HB.out | apply below_alloc | apply pw_below_drewN | apply below_drew1 | refine below_set ?_ (IsS83.ge HI0.out)) | exact HB.out)) hb); clear HO_3; clear HI0; clear HK; clear HB; have HO_3 := n0_; have HO1109 := n1_; have HI0 := n2_; have HK := n3_; have HB := n4_; clear n0_ n1_ n2_ n3_ n4_; clear hb ho30; obtain ⟨Ao31, co31, eo31⟩ := Kd.R_slice HO1109.out; subst eo31) | ((with_reducible refine gate_callee (f := 84) rfl ?_); refine goesL_ (some 29) rfl rfl Try.func84 (by kernel_rfl) rfl #[.pointer (some ⟨g, 0, none⟩), .slice Ao31 y1107.length co31] rfl (by (try simp only [List.map_toArray, List.map_cons, List.map_nil]); first | done | rfl | (simp only [List.length_drop, List.length_take]; rfl)) ?_; (with_reducible refine (spec_l01PickInt.calls g s0_0 t1105 t1106 _ _ y1107 t1110 t1111 t1112 w0 _ ?side1 ?side2 ?side3 ?side4 ?side5 A24.out).mono ?_); (case side1 => repeat (first | (with_reducible first | exact HI0.out | apply IsS83.alloc | apply IsS83.drewN | apply IsS83.drew | apply IsS83.set_1 | apply IsS83.set_2) | exact HI0.out)); (case side2 => repeat (first | (with_reducible first | exact HB.out | apply below_alloc | apply pw_below_drewN | apply below_drew1 | refine below_set ?_ (IsS83.ge HI0.out)) | exact HB.out)); (case side3 => repeat (first | exact (Kd.R_reads' HO1109.out).2.2 | (with_reducible refine Kd.C_alloc ?_ _) | (with_reducible refine Kd.C_drewN ?_ _) | (with_reducible refine Kd.C_drew ?_))); (case side4 => exact (Kd.R_reads' HO1109.out).2.1); (case side5 => exact far_slice (IsS83.own_ne HI0.out HO1109.out (by decide))); rintro e w32 ⟨rfl, hi, hb, hk⟩; refine ⟨_, rfl, ?_⟩; have n0_ := Aside0.mk (Kd.R_mono (Kd.R_keep (IsS83.apart (show IsS83 w0 _ g s0_0 t1105 t1106 from by repeat (first | (with_reducible first | exact HI0.out | apply IsS83.alloc | apply IsS83.drewN | apply IsS83.drew | apply IsS83.set_1 | apply IsS83.set_2) | exact HI0.out)) (oR HO_3) (by decide)) hk (fun _ h => h.2)) (fun _ h => h.1)); have n1_ := Aside0.mk (Kd.R_mono (Kd.R_keep (IsS83.apart (show IsS83 w0 _ g s0_0 t1105 t1106 from by repeat (first | (with_reducible first | exact HI0.out | apply IsS83.alloc | apply IsS83.drewN | apply IsS83.drew | apply IsS83.set_1 | apply IsS83.set_2) | exact HI0.out)) (oR HO1109) (by decide)) hk (fun _ h => h.2)) (fun _ h => h.1)); have n2_ := Aside0.mk (KeepBut.trans (by repeat (first | (with_reducible first | exact HK.out | apply KeepBut.set_ | apply keep_drewN | apply keep_drew | apply keep_alloc) | exact HK.out)) hk (.inl rfl)); have n3_ := Aside0.mk (hb); have n4_ := Aside0.mk (hi); clear HO_3; clear HO1109; clear HK; clear HB; clear HI0; have HO_3 := n0_; have HO1109 := n1_; have HK := n2_; have HB := n3_; have HI0 := n4_; clear n0_ n1_ n2_ n3_ n4_; (try clear hb); (try clear hb2); (try clear hk); (try clear hi); have q33 : (t1110 : Int) ≤ ((x3_1.length : Int) : Int) := of_decide_eq_true (by first | (with_reducible assumption) | assumption); obtain ⟨i033, hi033, _, hsz33, _⟩ := info_parts info67; have hcut33 := cut_to (P := Try.prog) 28 67 .i64 Try.underlying28 hi033 Ao27 x3_1.length co27 t1110 (of_decide_eq_true (by first | (with_reducible assumption) | assumption)) q33 (Kd.R_reads' HO_3.out).2.1; have hr33 := Kd.R_take (m := (t1110 : Int).toNat) HO_3.out (by omega); have hy33 : y1113.length = (t1110 : Int).toNat := (by rw [Ny1113.out, List.length_take]; omega); rw [← Ny1113.out] at hr33; rw [← hy33] at hr33 hcut33; clear hy33 hi033 hsz33 HO_3; have HO1115 := Aside0.mk hr33; clear hr33; replace q33 := eq_true q33))
      go_ret
      exact ⟨_, by first | rfl | (simp [errW_none, errW_some] <;> rfl) | (simp [*, errW_none, errW_some] <;> rfl), oR HO1115, by repeat (first | (with_reducible first | exact HI0.out | apply IsS83.alloc | apply IsS83.drewN | apply IsS83.drew | apply IsS83.set_1 | apply IsS83.set_2) | exact HI0.out), by repeat (first | (with_reducible first | exact HB.out | apply below_alloc | apply pw_below_drewN | apply below_drew1 | refine below_set ?_ (IsS83.ge HI0.out)) | exact HB.out), by repeat (first | (with_reducible first | exact HK.out | apply KeepBut.set_ | apply keep_drewN | apply keep_drew | apply keep_alloc) | exact HK.out)⟩
     ·rw [if_neg c26] at H
      exact absurd H (by simp)
    ·rw [if_neg c25] at H
     exact absurd H (by simp)
end Go.Proofs.Ytlhlmjklajdejaa.P


namespace Go.Proofs.Ytlhlmjklajdejaa.P
open Go.RowKit Go.Proofs.YtlhlmjklajdejaaW.PrintWords Go.Proofs.YtlhlmjklajdejaaW.PrintLast Go.Proofs.YtlhlmjklajdejaaW.PrintMore
attribute [local go_sem] max2_int min2_int max_two min_two max_three min_three max_four min_four
set_option linter.unusedVariables false
set_option linter.unusedSimpArgs false
def spec_l36Work.f (k : Nat) (s0_0 : List Int) (s0_1 : Int) (s0_2 : Int) : Option ((List (S67)) × Int × List Int × Int × Int) := (spec_l01Below.f s0_0 s0_1 s0_2 100000).bind fun bt1188 => ((spec_l19Plan.f k s0_0 bt1188.2.1 bt1188.2.2).bind fun bt1191 => ((spec_NewWork.f k (wrap64 (200000 + bt1188.1)) bt1191.1).bind fun bt1196 => ((spec_l01Below.f s0_0 bt1191.2.1 bt1191.2.2 12).bind fun bt1205 => ((spec_l01PickInt.f s0_0 bt1205.2.1 bt1205.2.2 (([100, bt1205.1] : List Int))).bind fun bt1211 => ((spec_WorkSteps.f k bt1196.1 bt1196.2.1 bt1196.2.2.1 bt1211.1).bind fun bt1214 => (some (bt1214.1, bt1214.2.1, bt1214.2.2, bt1211.2.1, bt1211.2.2)))))))
def spec_l36Work.T2 : Bool × List (List Nat × List Nat) := (true, [([], []), ([], []), ([], []), ([2], [2]), ([3], [3]), ([1, 4, 3], [1, 4]), ([0, 5, 5], [0, 5]), ([6, 6, 0, 1, 2, 3, 4, 5, 6], [6])])
def spec_l36Work.B2 : List Nat := [0, 0, 0, 4, 12, 30, 63, 127]
theorem spec_l36Work.tab2 : rtab .any (opsOf Try.f85 2) = spec_l36Work.T2 := by kernel_rfl
theorem spec_l36Work.bits2 : waitsOk spec_l36Work.T2.2 spec_l36Work.B2 = true := by kernel_rfl
set_option maxHeartbeats 8000000 in
set_option maxRecDepth 100000 in
theorem spec_l36Work.calls (k : Nat) (g : Nat) (s0_0 : List Int) (s0_1 : Int) (s0_2 : Int) (r1 : List (S67)) (r2 : Int) (r3 : List Int) (r4 : Int) (r5 : Int) (w0 w : World) (hI : IsS83 w0 w g s0_0 s0_1 s0_2) (hB : Below w0.heap.size w0 w) (h : spec_l36Work.f k s0_0 s0_1 s0_2 = some (r1, r2, r3, r4, r5)) :
  Calls Try.prog 85 #[.pointer (some ⟨g, 0, none⟩)] w fun e w' => ∃ v0_ v2_ : Value, e = .returned (.agg #[v0_, .int .i64 r2, v2_]) ∧ Kd.R k67 67 w' w.heap.size (fun _ => True) v0_ r1 ∧ Kd.R (Kd.int .i64) 3 w' w.heap.size (fun _ => True) v2_ r3 ∧ IsS83 w0 w' g s0_0 r4 r5 ∧ Below w0.heap.size w0 w' ∧ KeepBut w w' g none := by
 have hu30 := Try.underlying30
 have HI0 := Aside0.mk hI
 have HK := Aside0.mk (KeepBut.refl w g none)
 have HL := Aside0.mk hB.size
 clear hI
 have HW0 := Aside0.mk hB.size
 have HB := Aside0.mk hB
 clear hB
 have H : ((spec_l01Below.f s0_0 s0_1 s0_2 100000).bind fun bt1188 => ((spec_l19Plan.f k s0_0 bt1188.2.1 bt1188.2.2).bind fun bt1191 => ((spec_NewWork.f k (wrap64 (200000 + bt1188.1)) bt1191.1).bind fun bt1196 => ((spec_l01Below.f s0_0 bt1191.2.1 bt1191.2.2 12).bind fun bt1205 => ((spec_l01PickInt.f s0_0 bt1205.2.1 bt1205.2.2 (([100, bt1205.1] : List Int))).bind fun bt1211 => ((spec_WorkSteps.f k bt1196.1 bt1196.2.1 bt1196.2.2.1 bt1211.1).bind fun bt1214 => (some (bt1214.1, bt1214.2.1, bt1214.2.2, bt1211.2.1, bt1211.2.2)))))))) = some (r1, r2, r3, r4, r5) := h
 clear h
 replace H := Option.bind_eq_some_iff.mp H
 obtain ⟨⟨t1188, t1189, t1190⟩, A20, H⟩ := H
 (try dsimp only at H)
 have A2 := Aside0.mk A20
 clear A20
 replace H := Option.bind_eq_some_iff.mp H
 obtain ⟨⟨t1191, t1194, t1195⟩, A30, H⟩ := H
 (try dsimp only at H)
 have A3 := Aside0.mk A30
 clear A30
 replace H := Option.bind_eq_some_iff.mp H
 obtain ⟨⟨t1196, t1199, t1200, t1203⟩, A40, H⟩ := H
 (try dsimp only at H)
 have A4 := Aside0.mk A40
 clear A40
 replace H := Option.bind_eq_some_iff.mp H
 obtain ⟨⟨t1205, t1206, t1207⟩, A50, H⟩ := H
 (try dsimp only at H)
 have A5 := Aside0.mk A50
 clear A50
 obtain ⟨y1208, hy1208⟩ : ∃ y_ : List Int, y_ = (([100, t1205] : List Int)) := ⟨_, rfl⟩
 replace H : ((spec_l01PickInt.f s0_0 t1206 t1207 y1208).bind fun bt1211 => ((spec_WorkSteps.f k t1196 t1199 t1200 bt1211.1).bind fun bt1214 => (some (bt1214.1, bt1214.2.1, bt1214.2.2, bt1211.2.1, bt1211.2.2)))) = some (r1, r2, r3, r4, r5) := by first | (rw [hy1208]; with_reducible exact H) | (have H2_ := (Option.bind_some _ _).symm.trans H; rw [hy1208]; with_reducible exact H2_) | (have H2_ := (Option.bind_some _ _).symm.trans H; with_reducible exact H2_) | with_reducible exact H | (rw [hy1208]; exact H) | exact H
 have Ny1208 := Aside0.mk hy1208
 clear hy1208
 replace H := Option.bind_eq_some_iff.mp H
 obtain ⟨⟨t1211, t1212, t1213⟩, A60, H⟩ := H
 (try dsimp only at H)
 have A6 := Aside0.mk A60
 clear A60
 replace H := Option.bind_eq_some_iff.mp H
 obtain ⟨⟨t1214, t1217, t1218⟩, A70, H⟩ := H
 (try dsimp only at H)
 have A7 := Aside0.mk A70
 clear A70
 simp only [Option.some.injEq, Prod.mk.injEq] at H
 obtain ⟨rfl, rfl, rfl, rfl, rfl⟩ := H
 go_enter Try.func85, Try.ntmps85
 try go_wp2_with (first | ((with_reducible refine gate_dst (N := 2) rfl ?_); refine box_event ?hg (N := 2) ?hd (cs := #[.slice none 0 0, .int .i64 0, .slice none 0 0]) (t := 30) ?hr ?_; (case hd => rfl); (case hg => rfl); (case hr => first | (go_simp; done) | (go_simp; rfl)); intro gb1187 hg w8 hbox hb; have n0_ := Aside0.mk (IsS83.below (by repeat (first | (with_reducible first | exact HI0.out | apply IsS83.alloc | apply IsS83.drewN | apply IsS83.drew | apply IsS83.set_1 | apply IsS83.set_2) | exact HI0.out)) hb); have n1_ := Aside0.mk (KeepBut.trans (by repeat (first | (with_reducible first | exact HK.out | apply KeepBut.set_ | apply keep_drewN | apply keep_drew | apply keep_alloc) | exact HK.out)) (KeepBut.of_below hb g none) (.inl rfl)); have n2_ := Aside0.mk (below_step (by repeat (first | (with_reducible first | exact HB.out | apply below_alloc | apply pw_below_drewN | apply below_drew1 | refine below_set ?_ (IsS83.ge HI0.out)) | exact HB.out)) hb); have n3_ := Aside0.mk (hbox); have n4_ := Aside0.mk ((by rw [hg]; exact (keep_size (w := w) (g := g) (row := none) (by repeat (first | (with_reducible first | exact HK.out | apply KeepBut.set_ | apply keep_drewN | apply keep_drew | apply keep_alloc) | exact HK.out))) : w.heap.size ≤ gb1187)); have n5_ := Aside0.mk ((Nat.le_trans HW0.out (by rw [hg]; exact (keep_size (w := w) (g := g) (row := none) (by repeat (first | (with_reducible first | exact HK.out | apply KeepBut.set_ | apply keep_drewN | apply keep_drew | apply keep_alloc) | exact HK.out))) : w.heap.size ≤ gb1187) : w0.heap.size ≤ gb1187)); have n6_ := Aside0.mk ((by rw [hg]; exact Nat.ne_of_lt (IsS83.lt (show IsS83 w0 _ g s0_0 s0_1 s0_2 from by repeat (first | (with_reducible first | exact HI0.out | apply IsS83.alloc | apply IsS83.drewN | apply IsS83.drew | apply IsS83.set_1 | apply IsS83.set_2) | exact HI0.out))) : g ≠ gb1187)); have n7_ := Aside0.mk ((by rw [hg]; exact Nat.ne_of_gt (IsS83.lt (show IsS83 w0 _ g s0_0 s0_1 s0_2 from by repeat (first | (with_reducible first | exact HI0.out | apply IsS83.alloc | apply IsS83.drewN | apply IsS83.drew | apply IsS83.set_1 | apply IsS83.set_2) | exact HI0.out))) : gb1187 ≠ g)); clear HI0; clear HK; clear HB; have HI0 := n0_; have HK := n1_; have HB := n2_; have BK1187 := n3_; have GW1187 := n4_; have GE1187 := n5_; have NB0_1187 := n6_; have NB1187_0 := n7_; clear n0_ n1_ n2_ n3_ n4_ n5_ n6_ n7_; clear hb hbox hg) | ((with_reducible refine gate_callee (f := 75) rfl ?_); refine goesL_ (some 7) rfl rfl Try.func75 (by kernel_rfl) rfl #[.pointer (some ⟨g, 0, none⟩), .int .i64 100000] rfl (by (try simp only [List.map_toArray, List.map_cons, List.map_nil]); first | done | rfl | (simp only [List.length_drop, List.length_take]; rfl)) ?_; (with_reducible refine (spec_l01Below.calls g s0_0 s0_1 s0_2 100000 t1188 t1189 t1190 w0 _ ?side1 ?side2 A2.out).mono ?_); (case side1 => repeat (first | (with_reducible first | exact HI0.out | apply IsS83.alloc | apply IsS83.drewN | apply IsS83.drew | apply IsS83.set_1 | apply IsS83.set_2 | refine IsS83.far ?_ NB0_1187.out _) | exact HI0.out)); (case side2 => repeat (first | (with_reducible first | exact HB.out | apply below_alloc | apply pw_below_drewN | apply below_drew1 | refine below_set ?_ (IsS83.ge HI0.out) | refine below_set ?_ GE1187.out) | exact HB.out)); rintro e w9 ⟨rfl, hi, hb, hk⟩; refine ⟨_, rfl, ?_⟩; have n0_ := Aside0.mk (KeepBut.blk hk (g' := gb1187) (o := .cells #[.slice none 0 0, .int .i64 0, .slice none 0 0] 30 (0, 0)) (oK BK1187) NB1187_0.out (by simp)); have n1_ := Aside0.mk (KeepBut.trans (by repeat (first | (with_reducible first | exact HK.out | apply KeepBut.set_ | apply keep_drewN | apply keep_drew | apply keep_alloc | refine keep_far ?_ GW1187.out _) | exact HK.out)) hk (.inl rfl)); have n2_ := Aside0.mk (hb); have n3_ := Aside0.mk (hi); clear BK1187; clear HK; clear HB; clear HI0; have BK1187 := n0_; have HK := n1_; have HB := n2_; have HI0 := n3_; clear n0_ n1_ n2_ n3_; (try clear hb); (try clear hb2); (try clear hk); (try clear hi)) | ((with_reducible refine gate_callee (f := 76) rfl ?_); refine goesL_ (some 10) rfl rfl Try.func76 (by kernel_rfl) rfl #[.pointer (some ⟨g, 0, none⟩)] rfl (by (try simp only [List.map_toArray, List.map_cons, List.map_nil]); first | done | rfl | (simp only [List.length_drop, List.length_take]; rfl)) ?_; (with_reducible refine (spec_l19Plan.calls k g s0_0 t1189 t1190 t1191 t1194 t1195 w0 _ ?side1 ?side2 A3.out).mono ?_); (case side1 => repeat (first | (with_reducible first | exact HI0.out | apply IsS83.alloc | apply IsS83.drewN | apply IsS83.drew | apply IsS83.set_1 | apply IsS83.set_2 | refine IsS83.far ?_ NB0_1187.out _) | exact HI0.out)); (case side2 => repeat (first | (with_reducible first | exact HB.out | apply below_alloc | apply pw_below_drewN | apply below_drew1 | refine below_set ?_ (IsS83.ge HI0.out) | refine below_set ?_ GE1187.out) | exact HB.out)); rintro e w10 ⟨v1192, rfl, ho0, hi, hb, hk⟩; refine ⟨_, rfl, ?_⟩; have n0_ := Aside0.mk (KeepBut.blk hk (g' := gb1187) (o := .cells #[.slice none 0 0, .int .i64 0, .slice none 0 0] 30 (0, 0)) (oK BK1187) NB1187_0.out (by simp)); have n1_ := Aside0.mk (Kd.R_lower ho0 (keep_size (w := w) (g := g) (row := none) (by repeat (first | (with_reducible first | exact HK.out | apply KeepBut.set_ | apply keep_drewN | apply keep_drew | apply keep_alloc | refine keep_far ?_ GW1187.out _) | exact HK.out)))); have n2_ := Aside0.mk (KeepBut.trans (by repeat (first | (with_reducible first | exact HK.out | apply KeepBut.set_ | apply keep_drewN | apply keep_drew | apply keep_alloc | refine keep_far ?_ GW1187.out _) | exact HK.out)) hk (.inl rfl)); have n3_ := Aside0.mk (hb); have n4_ := Aside0.mk (hi); clear BK1187; clear HK; clear HB; clear HI0; have BK1187 := n0_; have HO1193 := n1_; have HK := n2_; have HB := n3_; have HI0 := n4_; clear n0_ n1_ n2_ n3_ n4_; (try clear hb); (try clear hb2); (try clear hk); (try clear hi); (try clear ho0); obtain ⟨Ao11, co11, eo11⟩ := Kd.R_slice HO1193.out; subst eo11) | ((with_reducible refine gate_callee (f := 23) rfl ?_); refine goesL_ (some 11) rfl rfl Try.func23 (by kernel_rfl) rfl #[.int .i64 (wrap64 (200000 + t1188)), .slice Ao11 t1191.length co11] rfl (by (try simp only [List.map_toArray, List.map_cons, List.map_nil]); first | done | rfl | (simp only [List.length_drop, List.length_take]; rfl)) ?_; (with_reducible refine (spec_NewWork.calls k (wrap64 (200000 + t1188)) _ _ t1191 t1196 t1199 t1200 t1203 _ ?side1 ?side2 A4.out).mono ?_); (case side1 => repeat (first | exact (Kd.R_reads' HO1193.out).2.2 | (with_reducible refine Kd.C_alloc ?_ _) | (with_reducible refine Kd.C_drewN ?_ _) | (with_reducible refine Kd.C_drew ?_))); (case side2 => exact (Kd.R_reads' HO1193.out).2.1); rintro e w12 ⟨v1197, v1201, rfl, ho0, ho1, hb⟩; refine ⟨_, rfl, ?_⟩; have n0_ := Aside0.mk (Kd.R_elder' (oR HO1193) (Kd.R_base ho0) hb); have n1_ := Aside0.mk (Kd.R_lower (Kd.R_new' ho0 (Kd.R_lt (oR HO1193))) (keep_size (w := w) (g := g) (row := none) (by repeat (first | (with_reducible first | exact HK.out | apply KeepBut.set_ | apply keep_drewN | apply keep_drew | apply keep_alloc | refine keep_far ?_ GW1187.out _) | exact HK.out)))); have n2_ := Aside0.mk (Kd.R_lower ho1 (keep_size (w := w) (g := g) (row := none) (by repeat (first | (with_reducible first | exact HK.out | apply KeepBut.set_ | apply keep_drewN | apply keep_drew | apply keep_alloc | refine keep_far ?_ GW1187.out _) | exact HK.out)))); have n3_ := Aside0.mk (IsS83.below (by repeat (first | (with_reducible first | exact HI0.out | apply IsS83.alloc | apply IsS83.drewN | apply IsS83.drew | apply IsS83.set_1 | apply IsS83.set_2 | refine IsS83.far ?_ NB0_1187.out _) | exact HI0.out)) hb); have n4_ := Aside0.mk (blk_below (g := gb1187) (o := .cells #[.slice none 0 0, .int .i64 0, .slice none 0 0] 30 (0, 0)) (oK BK1187) hb); have n5_ := Aside0.mk (KeepBut.trans (by repeat (first | (with_reducible first | exact HK.out | apply KeepBut.set_ | apply keep_drewN | apply keep_drew | apply keep_alloc | refine keep_far ?_ GW1187.out _) | exact HK.out)) (KeepBut.of_below hb g none) (.inl rfl)); have n6_ := Aside0.mk (below_step (by repeat (first | (with_reducible first | exact HB.out | apply below_alloc | apply pw_below_drewN | apply below_drew1 | refine below_set ?_ (IsS83.ge HI0.out) | refine below_set ?_ GE1187.out) | exact HB.out)) hb); clear HO1193; clear HI0; clear BK1187; clear HK; clear HB; have HO1193 := n0_; have HO1198 := n1_; have HO1202 := n2_; have HI0 := n3_; have BK1187 := n4_; have HK := n5_; have HB := n6_; clear n0_ n1_ n2_ n3_ n4_ n5_ n6_; (try clear hb); (try clear hb2); (try clear hk); (try clear hi); (try clear ho0); (try clear ho1)) | ((with_reducible refine gate_dst (N := 3) rfl ?_); refine box_event ?hg (N := 3) ?hd (cs := #[.slice none 0 0, .int .i64 0, .slice none 0 0]) (t := 30) ?hr ?_; (case hd => rfl); (case hg => rfl); (case hr => first | (go_simp; done) | (go_simp; rfl)); intro gb1204 hg w13 hbox hb; have n0_ := Aside0.mk (Kd.R_below (oR HO1193) hb); have n1_ := Aside0.mk (Kd.R_below (oR HO1198) hb); have n2_ := Aside0.mk (Kd.R_below (oR HO1202) hb); have n3_ := Aside0.mk (IsS83.below (by repeat (first | (with_reducible first | exact HI0.out | apply IsS83.alloc | apply IsS83.drewN | apply IsS83.drew | apply IsS83.set_1 | apply IsS83.set_2 | refine IsS83.far ?_ NB0_1187.out _) | exact HI0.out)) hb); have n4_ := Aside0.mk (blk_below (g := gb1187) (o := .cells #[.slice none 0 0, .int .i64 0, .slice none 0 0] 30 (0, 0)) (oK BK1187) hb); have n5_ := Aside0.mk (KeepBut.trans (by repeat (first | (with_reducible first | exact HK.out | apply KeepBut.set_ | apply keep_drewN | apply keep_drew | apply keep_alloc | refine keep_far ?_ GW1187.out _) | exact HK.out)) (KeepBut.of_below hb g none) (.inl rfl)); have n6_ := Aside0.mk (below_step (by repeat (first | (with_reducible first | exact HB.out | apply below_alloc | apply pw_below_drewN | apply below_drew1 | refine below_set ?_ (IsS83.ge HI0.out) | refine below_set ?_ GE1187.out) | exact HB.out)) hb); have n7_ := Aside0.mk (hbox); have n8_ := Aside0.mk ((by rw [hg]; exact (keep_size (w := w) (g := g) (row := none) (by repeat (first | (with_reducible first | exact HK.out | apply KeepBut.set_ | apply keep_drewN | apply keep_drew | apply keep_alloc | refine keep_far ?_ GW1187.out _) | exact HK.out))) : w.heap.size ≤ gb1204)); have n9_ := Aside0.mk ((Nat.le_trans HW0.out (by rw [hg]; exact (keep_size (w := w) (g := g) (row := none) (by repeat (first | (with_reducible first | exact HK.out | apply KeepBut.set_ | apply keep_drewN | apply keep_drew | apply keep_alloc | refine keep_far ?_ GW1187.out _) | exact HK.out))) : w.heap.size ≤ gb1204) : w0.heap.size ≤ gb1204)); have n10_ := Aside0.mk ((by rw [hg]; exact Nat.ne_of_lt (blk_lt (g := gb1187) (o := .cells #[.slice none 0 0, .int .i64 0, .slice none 0 0] 30 (0, 0)) (oK BK1187)) : gb1187 ≠ gb1204)); have n11_ := Aside0.mk ((by rw [hg]; exact Nat.ne_of_gt (blk_lt (g := gb1187) (o := .cells #[.slice none 0 0, .int .i64 0, .slice none 0 0] 30 (0, 0)) (oK BK1187)) : gb1204 ≠ gb1187)); have n12_ := Aside0.mk ((by rw [hg]; exact Nat.ne_of_lt (IsS83.lt (show IsS83 w0 _ g s0_0 t1194 t1195 from by repeat (first | (with_reducible first | exact HI0.out | apply IsS83.alloc | apply IsS83.drewN | apply IsS83.drew | apply IsS83.set_1 | apply IsS83.set_2 | refine IsS83.far ?_ NB0_1187.out _) | exact HI0.out))) : g ≠ gb1204)); have n13_ := Aside0.mk ((by rw [hg]; exact Nat.ne_of_gt (IsS83.lt (show IsS83 w0 _ g s0_0 t1194 t1195 from by repeat (first | (with_reducible first | exact HI0.out | apply IsS83.alloc | apply IsS83.drewN | apply IsS83.drew | apply IsS83.set_1 | apply IsS83.set_2 | refine IsS83.far ?_ NB0_1187.out _) | exact HI0.out))) : gb1204 ≠ g)); clear HO1193; clear HO1198; clear HO1202; clear HI0; clear BK1187; clear HK; clear HB; have HO1193 := n0_; have HO1198 := n1_; have HO1202 := n2_; have HI0 := n3_; have BK1187 := n4_; have HK := n5_; have HB := n6_; have BK1204 := n7_; have GW1204 := n8_; have GE1204 := n9_; have NB1187_1204 := n10_; have NB1204_1187 := n11_; have NB0_1204 := n12_; have NB1204_0 := n13_; clear n0_ n1_ n2_ n3_ n4_ n5_ n6_ n7_ n8_ n9_ n10_ n11_ n12_ n13_; clear hb hbox hg; obtain ⟨Ao14, co14, eo14⟩ := Kd.R_slice HO1198.out; subst eo14; have hnb15 := NB1204_1187.out; have hnc15 := NB1187_1204.out; have hnb16 := NB1204_0.out; have hnc16 := NB0_1204.out; have hcz17_0 : w13.cell? ⟨gb1204, 0, none⟩ = some (.slice none 0 0) := (blk_cell BK1204.out 0).trans rfl; have hcz17_1 : w13.cell? ⟨gb1204, 1, none⟩ = some (.int .i64 0) := (blk_cell BK1204.out 1).trans rfl; have hcz17_2 : w13.cell? ⟨gb1204, 2, none⟩ = some (.slice none 0 0) := (blk_cell BK1204.out 2).trans rfl; have hfz17_0 := blk_frozen BK1204.out 0; have hfz17_1 := blk_frozen BK1204.out 1; have hfz17_2 := blk_frozen BK1204.out 2; obtain ⟨Ao18, co18, eo18⟩ := Kd.R_slice HO1202.out; subst eo18))
 have n0_ : Aside0 (Kd.R k67 67 (((w13.setCell ⟨gb1204, 0, none⟩ (.slice Ao14 t1196.length co14)).setCell ⟨gb1204, 1, none⟩ (.int .i64 t1199)).setCell ⟨gb1204, 2, none⟩ (.slice Ao18 t1200.length co18)) w.heap.size (fun k_ => some k_ ≠ (.slice Ao14 t1196.length co14 : Value).ownBlock) (.slice Ao11 t1191.length co11) t1191) := ⟨by (with_reducible repeat (first | apply Kd.R_alloc | apply Kd.R_drewN | apply Kd.R_drew)); exact Kd.R_mono (Kd.R_far (p := ⟨gb1204, 2, none⟩) (Kd.R_far (p := ⟨gb1204, 1, none⟩) (Kd.R_far (p := ⟨gb1204, 0, none⟩) (Kd.R_types HO1193.out BK1204.out (by decide)) (fun _ hk => hk.2) (.slice Ao14 t1196.length co14)) (fun _ hk => hk.2) (.int .i64 t1199)) (fun _ hk => hk.2) (.slice Ao18 t1200.length co18)) (fun _ hk => hk.1.2)⟩
 have n1_ : Aside0 (Kd.R k67 67 (((w13.setCell ⟨gb1204, 0, none⟩ (.slice Ao14 t1196.length co14)).setCell ⟨gb1204, 1, none⟩ (.int .i64 t1199)).setCell ⟨gb1204, 2, none⟩ (.slice Ao18 t1200.length co18)) w.heap.size (fun k_ => some k_ ≠ (.slice Ao11 t1191.length co11 : Value).ownBlock) (.slice Ao14 t1196.length co14) t1196) := ⟨by (with_reducible repeat (first | apply Kd.R_alloc | apply Kd.R_drewN | apply Kd.R_drew)); exact Kd.R_mono (Kd.R_far (p := ⟨gb1204, 2, none⟩) (Kd.R_far (p := ⟨gb1204, 1, none⟩) (Kd.R_far (p := ⟨gb1204, 0, none⟩) (Kd.R_types HO1198.out BK1204.out (by decide)) (fun _ hk => hk.2) (.slice Ao14 t1196.length co14)) (fun _ hk => hk.2) (.int .i64 t1199)) (fun _ hk => hk.2) (.slice Ao18 t1200.length co18)) (fun _ hk => hk.1.2)⟩
 have n2_ : Aside0 (Kd.R (Kd.int .i64) 3 (((w13.setCell ⟨gb1204, 0, none⟩ (.slice Ao14 t1196.length co14)).setCell ⟨gb1204, 1, none⟩ (.int .i64 t1199)).setCell ⟨gb1204, 2, none⟩ (.slice Ao18 t1200.length co18)) w.heap.size (fun _ => True) (.slice Ao18 t1200.length co18) t1200) := ⟨by (with_reducible repeat (first | apply Kd.R_alloc | apply Kd.R_drewN | apply Kd.R_drew)); exact Kd.R_mono (Kd.R_far (p := ⟨gb1204, 2, none⟩) (Kd.R_far (p := ⟨gb1204, 1, none⟩) (Kd.R_far (p := ⟨gb1204, 0, none⟩) (Kd.R_types HO1202.out BK1204.out (by decide)) (fun _ hk => hk.2) (.slice Ao14 t1196.length co14)) (fun _ hk => hk.2) (.int .i64 t1199)) (fun _ hk => hk.2) (.slice Ao18 t1200.length co18)) (fun _ hk => trivial)⟩
 have n3_ : Aside0 ((((w13.setCell ⟨gb1204, 0, none⟩ (.slice Ao14 t1196.length co14)).setCell ⟨gb1204, 1, none⟩ (.int .i64 t1199)).setCell ⟨gb1204, 2, none⟩ (.slice Ao18 t1200.length co18)).heap[gb1187]? = some (.cells #[.slice none 0 0, .int .i64 0, .slice none 0 0] 30 (0, 0))) := ⟨by (with_reducible repeat (first | refine blk_drewN ?_ _ | refine blk_drew ?_ | refine blk_alloc ?_ _)); refine blk_far ?_ NB1187_1204.out _; (with_reducible repeat (first | refine blk_drewN ?_ _ | refine blk_drew ?_ | refine blk_alloc ?_ _)); refine blk_far ?_ NB1187_1204.out _; (with_reducible repeat (first | refine blk_drewN ?_ _ | refine blk_drew ?_ | refine blk_alloc ?_ _)); refine blk_far ?_ NB1187_1204.out _; (with_reducible repeat (first | refine blk_drewN ?_ _ | refine blk_drew ?_ | refine blk_alloc ?_ _)); exact BK1187.out⟩
 have n4_ : Aside0 ((((w13.setCell ⟨gb1204, 0, none⟩ (.slice Ao14 t1196.length co14)).setCell ⟨gb1204, 1, none⟩ (.int .i64 t1199)).setCell ⟨gb1204, 2, none⟩ (.slice Ao18 t1200.length co18)).heap[gb1204]? = some (.cells #[.slice Ao14 t1196.length co14, .int .i64 t1199, .slice Ao18 t1200.length co18] 30 (0, 0))) := ⟨by (with_reducible repeat (first | refine blk_drewN ?_ _ | refine blk_drew ?_ | refine blk_alloc ?_ _)); refine blk_put (cs := #[.slice Ao14 t1196.length co14, .int .i64 t1199, .slice none 0 0]) ?_ 2 _ rfl; (with_reducible repeat (first | refine blk_drewN ?_ _ | refine blk_drew ?_ | refine blk_alloc ?_ _)); refine blk_put (cs := #[.slice Ao14 t1196.length co14, .int .i64 0, .slice none 0 0]) ?_ 1 _ rfl; (with_reducible repeat (first | refine blk_drewN ?_ _ | refine blk_drew ?_ | refine blk_alloc ?_ _)); refine blk_put (cs := #[.slice none 0 0, .int .i64 0, .slice none 0 0]) ?_ 0 _ rfl; (with_reducible repeat (first | refine blk_drewN ?_ _ | refine blk_drew ?_ | refine blk_alloc ?_ _)); exact BK1204.out⟩
 have n5_ : Aside0 (IsS83 w0 (((w13.setCell ⟨gb1204, 0, none⟩ (.slice Ao14 t1196.length co14)).setCell ⟨gb1204, 1, none⟩ (.int .i64 t1199)).setCell ⟨gb1204, 2, none⟩ (.slice Ao18 t1200.length co18)) g s0_0 t1194 t1195) := ⟨by repeat (first | (with_reducible first | exact HI0.out | apply IsS83.alloc | apply IsS83.drewN | apply IsS83.drew | apply IsS83.set_1 | apply IsS83.set_2 | refine IsS83.far ?_ NB0_1187.out _ | refine IsS83.far ?_ NB0_1204.out _) | exact HI0.out)⟩
 have n6_ : Aside0 (KeepBut w (((w13.setCell ⟨gb1204, 0, none⟩ (.slice Ao14 t1196.length co14)).setCell ⟨gb1204, 1, none⟩ (.int .i64 t1199)).setCell ⟨gb1204, 2, none⟩ (.slice Ao18 t1200.length co18)) g none) := ⟨by repeat (first | (with_reducible first | exact HK.out | apply KeepBut.set_ | apply keep_drewN | apply keep_drew | apply keep_alloc | refine keep_far ?_ GW1187.out _ | refine keep_far ?_ GW1204.out _) | exact HK.out)⟩
 have n7_ : Aside0 (Below w0.heap.size w0 (((w13.setCell ⟨gb1204, 0, none⟩ (.slice Ao14 t1196.length co14)).setCell ⟨gb1204, 1, none⟩ (.int .i64 t1199)).setCell ⟨gb1204, 2, none⟩ (.slice Ao18 t1200.length co18))) := ⟨by repeat (first | (with_reducible first | exact HB.out | apply below_alloc | apply pw_below_drewN | apply below_drew1 | refine below_set ?_ (IsS83.ge HI0.out) | refine below_set ?_ GE1187.out | refine below_set ?_ GE1204.out) | exact HB.out)⟩
 (try clear HO1193)
 (try clear HO1198)
 (try clear HO1202)
 (try clear BK1187)
 (try clear BK1204)
 (try clear HI0)
 (try clear HK)
 (try clear HB)
 generalize (((w13.setCell ⟨gb1204, 0, none⟩ (.slice Ao14 t1196.length co14)).setCell ⟨gb1204, 1, none⟩ (.int .i64 t1199)).setCell ⟨gb1204, 2, none⟩ (.slice Ao18 t1200.length co18)) = w19 at n0_ n1_ n2_ n3_ n4_ n5_ n6_ n7_ ⊢
 have HO1193 := n0_
 have HO1198 := n1_
 have HO1202 := n2_
 have BK1187 := n3_
 have BK1204 := n4_
 have HI0 := n5_
 have HK := n6_
 have HB := n7_
 clear n0_ n1_ n2_ n3_ n4_ n5_ n6_ n7_
 have n0_ := Aside0.mk (Kd.R_drew HO1193.out)
 have n1_ := Aside0.mk (Kd.R_drew HO1198.out)
 have n2_ := Aside0.mk (Kd.R_drew HO1202.out)
 have n3_ := Aside0.mk (blk_drew BK1187.out)
 have n4_ := Aside0.mk (blk_drew BK1204.out)
 have n5_ := Aside0.mk (IsS83.drew HI0.out)
 have n6_ := Aside0.mk (keep_drew HK.out)
 have n7_ := Aside0.mk (below_drew1 HB.out)
 clear HO1193
 clear HO1198
 clear HO1202
 clear BK1187
 clear BK1204
 clear HI0
 clear HK
 clear HB
 have HO1193 := n0_
 have HO1198 := n1_
 have HO1202 := n2_
 have BK1187 := n3_
 have BK1204 := n4_
 have HI0 := n5_
 have HK := n6_
 have HB := n7_
 clear n0_ n1_ n2_ n3_ n4_ n5_ n6_ n7_
 refine start_ (n := 8) (S := fun w' => w'.cell? ⟨gb1204, 0, none⟩ = some (.slice Ao14 t1196.length co14) ∧ w'.cell? ⟨gb1204, 1, none⟩ = some (.int .i64 t1199) ∧ w'.cell? ⟨gb1204, 2, none⟩ = some (.slice Ao18 t1200.length co18)) (ds := []) #[false, false, false, false, false, false, false, false] (by kernel_rfl) rfl rfl ⟨(blk_cell BK1204.out 0).trans rfl, (blk_cell BK1204.out 1).trans rfl, (blk_cell BK1204.out 2).trans rfl⟩ (fun hHeld => ?_); refine with_tabW spec_l36Work.tab2 spec_l36Work.bits2 (fun HT_ HW_ => ?_)
 generalize w19.drew = w20 at HO1193 HO1198 HO1202 BK1187 BK1204 HI0 HK HB hHeld ⊢
 refine pure_ (i := 1) (N := some 15) (v := ?_) (a' := ?_) #[false, true, false, false, false, false, false, false] rfl rfl (any_of HT_.out (by kernel_rfl)) (fun _ _ _ h => h) (Or.inl ⟨by rfl, ?_⟩) ?_ ?_
 rotate_left
 ·intro w'
  go_simp
  with_reducible rfl
 rotate_left
 ·simp only [Act.put, List.setIfInBounds_toArray, List.set_cons_zero, List.set_cons_succ, i64_w, i32_w]
  rfl
 refine pure_ (i := 2) (N := some 16) (v := ?_) (a' := ?_) #[false, true, true, false, false, false, false, false] rfl rfl (any_of HT_.out (by kernel_rfl)) (fun _ _ _ h => h) (Or.inl ⟨by rfl, ?_⟩) ?_ ?_
 rotate_left
 ·intro w'
  go_simp
  with_reducible rfl
 rotate_left
 ·simp only [Act.put, List.setIfInBounds_toArray, List.set_cons_zero, List.set_cons_succ, i64_w, i32_w]
  rfl
 refine take_ (i := 0) (N := some 14) (v := ?_) (a' := ?_) #[true, true, true, false, false, false, false, false] rfl rfl (take_ofW HT_.out HW_.out (by kernel_rfl)) (fun _ _ _ h => h) (Or.inl ⟨by rfl, ?_⟩) hHeld ?_ ?_
 rotate_left
 ·rintro w' ⟨s0, s1, s2⟩
  go_simp
  with_reducible rfl
 rotate_left
 ·simp only [Act.put, List.setIfInBounds_toArray, List.set_cons_zero, List.set_cons_succ, i64_w, i32_w]
  rfl
 refine one_ (i := 3) (N := some 17) #[true, true, true, true, false, false, false, false] rfl rfl (one_of HT_.out (by kernel_rfl)) (by decide) (fun K hK => ?_)
 refine goes_ Try.func75 (by kernel_rfl) rfl #[.pointer (some ⟨g, 0, none⟩), .int .i64 12] (by rfl) rfl rfl (by (try simp only [List.map_toArray, List.map_cons, List.map_nil]); first | done | rfl | (simp only [List.length_drop, List.length_take]; rfl)) ?_
 with_reducible refine (spec_l01Below.calls g s0_0 t1194 t1195 12 t1205 t1206 t1207 w0 _ ?side1 ?side2 A5.out).mono ?_
 (case side1 => repeat (first | (with_reducible first | exact HI0.out | apply IsS83.alloc | apply IsS83.drewN | apply IsS83.drew | apply IsS83.set_1 | apply IsS83.set_2 | refine IsS83.far ?_ NB0_1187.out _ | refine IsS83.far ?_ NB0_1204.out _) | exact HI0.out))
 (case side2 => repeat (first | (with_reducible first | exact HB.out | apply below_alloc | apply pw_below_drewN | apply below_drew1 | refine below_set ?_ (IsS83.ge HI0.out) | refine below_set ?_ GE1187.out | refine below_set ?_ GE1204.out) | exact HB.out))
 rintro e w21 ⟨rfl, hi, hb, hk⟩
 refine ⟨_, rfl, ?_⟩
 have n0_ := Aside0.mk (KeepBut.blk hk (g' := gb1187) (o := .cells #[.slice none 0 0, .int .i64 0, .slice none 0 0] 30 (0, 0)) (oK BK1187) NB1187_0.out (by simp))
 have n1_ := Aside0.mk (Kd.R_mono (Kd.R_keep (IsS83.apart (show IsS83 w0 _ g s0_0 t1194 t1195 from by repeat (first | (with_reducible first | exact HI0.out | apply IsS83.alloc | apply IsS83.drewN | apply IsS83.drew | apply IsS83.set_1 | apply IsS83.set_2 | refine IsS83.far ?_ NB0_1187.out _ | refine IsS83.far ?_ NB0_1204.out _) | exact HI0.out)) (oR HO1193) (by decide)) hk (fun _ h => h.2)) (fun _ h => h.1))
 have n2_ := Aside0.mk (Kd.R_mono (Kd.R_keep (IsS83.apart (show IsS83 w0 _ g s0_0 t1194 t1195 from by repeat (first | (with_reducible first | exact HI0.out | apply IsS83.alloc | apply IsS83.drewN | apply IsS83.drew | apply IsS83.set_1 | apply IsS83.set_2 | refine IsS83.far ?_ NB0_1187.out _ | refine IsS83.far ?_ NB0_1204.out _) | exact HI0.out)) (oR HO1198) (by decide)) hk (fun _ h => h.2)) (fun _ h => h.1))
 have n3_ := Aside0.mk (Kd.R_mono (Kd.R_keep (IsS83.apart (show IsS83 w0 _ g s0_0 t1194 t1195 from by repeat (first | (with_reducible first | exact HI0.out | apply IsS83.alloc | apply IsS83.drewN | apply IsS83.drew | apply IsS83.set_1 | apply IsS83.set_2 | refine IsS83.far ?_ NB0_1187.out _ | refine IsS83.far ?_ NB0_1204.out _) | exact HI0.out)) (oR HO1202) (by decide)) hk (fun _ h => h.2)) (fun _ h => h.1))
 have n4_ := Aside0.mk (KeepBut.blk hk (g' := gb1204) (o := .cells #[.slice Ao14 t1196.length co14, .int .i64 t1199, .slice Ao18 t1200.length co18] 30 (0, 0)) (oK BK1204) NB1204_0.out (by simp))
 have n5_ := Aside0.mk (KeepBut.trans (by repeat (first | (with_reducible first | exact HK.out | apply KeepBut.set_ | apply keep_drewN | apply keep_drew | apply keep_alloc | refine keep_far ?_ GW1187.out _ | refine keep_far ?_ GW1204.out _) | exact HK.out)) hk (.inl rfl))
 have n6_ := Aside0.mk (hb)
 have n7_ := Aside0.mk (hi)
 clear BK1187
 clear HO1193
 clear HO1198
 clear HO1202
 clear BK1204
 clear HK
 clear HB
 clear HI0
 have BK1187 := n0_
 have HO1193 := n1_
 have HO1198 := n2_
 have HO1202 := n3_
 have BK1204 := n4_
 have HK := n5_
 have HB := n6_
 have HI0 := n7_
 clear n0_ n1_ n2_ n3_ n4_ n5_ n6_ n7_
 (try clear hb)
 (try clear hb2)
 (try clear hk)
 (try clear hi)
 refine hK.out _ _ ⟨(blk_cell BK1204.out 0).trans rfl, (blk_cell BK1204.out 1).trans rfl, (blk_cell BK1204.out 2).trans rfl⟩ (fun hHeld => ?_)
 clear hK K
 refine norm_ (a' := ?_) ?_ ?_
 rotate_left
 ·show Act.put _ (some 17) _ = _
  simp only [Act.put, List.setIfInBounds_toArray, List.set_cons_zero, List.set_cons_succ, i64_w, i32_w]
  rfl
 refine one_ (i := 4) (N := some 18) #[true, true, true, true, true, false, false, false] rfl rfl (one_of HT_.out (by kernel_rfl)) (by decide) (fun K hK => ?_)
 refine Kd.R_lit_step (Kd.int .i64) _ 3 ?hg (N := 18) ?hd (xs := ([100, t1205] : List Int)) (inner := [.int .i64 100, .int .i64 t1205]) (ok := fun _ => True) (okp := fun _ => True) ?hr ?hp (fun _ hk => hk) trivial (Below.refl _ _) (Nat.le_refl _) (by simp) ?_; (case hd => rfl); (case hg => rfl); (case hr => first | (go_simp; done) | (go_simp; rfl)); (case hp => exact (Reps.one (show Kd.M (Kd.int .i64) _ _ _ 100 [.int .i64 100] from rfl) (Reps.one (show Kd.M (Kd.int .i64) _ _ _ t1205 [.int .i64 t1205] from rfl) (Reps.none _ _))))
 intro v1209 w22 ho23 hb hg_ hnew_
 clear hg_ hnew_
 (first | rw [← Ny1208.out] at ho23 | (simp only [Int.reduceToNat] at ho23; rw [← Ny1208.out] at ho23))
 have n0_ := Aside0.mk (Kd.R_below (oR HO1193) hb)
 have n1_ := Aside0.mk (Kd.R_below (oR HO1198) hb)
 have n2_ := Aside0.mk (Kd.R_elder' (oR HO1202) (Kd.R_base ho23) hb)
 have n3_ := Aside0.mk (Kd.R_lower (Kd.R_new' ho23 (Kd.R_lt (oR HO1202))) (keep_size (w := w) (g := g) (row := none) (by repeat (first | (with_reducible first | exact HK.out | apply KeepBut.set_ | apply keep_drewN | apply keep_drew | apply keep_alloc | refine keep_far ?_ GW1187.out _ | refine keep_far ?_ GW1204.out _) | exact HK.out))))
 have n4_ := Aside0.mk (IsS83.below (by repeat (first | (with_reducible first | exact HI0.out | apply IsS83.alloc | apply IsS83.drewN | apply IsS83.drew | apply IsS83.set_1 | apply IsS83.set_2 | refine IsS83.far ?_ NB0_1187.out _ | refine IsS83.far ?_ NB0_1204.out _) | exact HI0.out)) hb)
 have n5_ := Aside0.mk (blk_below (g := gb1187) (o := .cells #[.slice none 0 0, .int .i64 0, .slice none 0 0] 30 (0, 0)) (oK BK1187) hb)
 have n6_ := Aside0.mk (blk_below (g := gb1204) (o := .cells #[.slice Ao14 t1196.length co14, .int .i64 t1199, .slice Ao18 t1200.length co18] 30 (0, 0)) (oK BK1204) hb)
 have n7_ := Aside0.mk (KeepBut.trans (by repeat (first | (with_reducible first | exact HK.out | apply KeepBut.set_ | apply keep_drewN | apply keep_drew | apply keep_alloc | refine keep_far ?_ GW1187.out _ | refine keep_far ?_ GW1204.out _) | exact HK.out)) (KeepBut.of_below hb g none) (.inl rfl))
 have n8_ := Aside0.mk (below_step (by repeat (first | (with_reducible first | exact HB.out | apply below_alloc | apply pw_below_drewN | apply below_drew1 | refine below_set ?_ (IsS83.ge HI0.out) | refine below_set ?_ GE1187.out | refine below_set ?_ GE1204.out) | exact HB.out)) hb)
 clear HO1193
 clear HO1198
 clear HO1202
 clear HI0
 clear BK1187
 clear BK1204
 clear HK
 clear HB
 have HO1193 := n0_
 have HO1198 := n1_
 have HO1202 := n2_
 have HO1210 := n3_
 have HI0 := n4_
 have BK1187 := n5_
 have BK1204 := n6_
 have HK := n7_
 have HB := n8_
 clear n0_ n1_ n2_ n3_ n4_ n5_ n6_ n7_ n8_
 clear hb ho23
 obtain ⟨Ao24, co24, eo24⟩ := Kd.R_slice HO1210.out
 (first | subst eo24 | (injection eo24 with f1_ f2_ f3_; have f4_ := f1_.symm; have f5_ := f3_.symm; clear f1_ f2_ f3_; subst f4_; subst f5_))
 refine hK.out _ _ ⟨(blk_cell BK1204.out 0).trans rfl, (blk_cell BK1204.out 1).trans rfl, (blk_cell BK1204.out 2).trans rfl⟩ (fun hHeld => ?_)
 clear hK K
 refine norm_ (a' := ?_) ?_ ?_
 rotate_left
 ·show Act.put _ (some 18) _ = _
  simp only [Act.put, List.setIfInBounds_toArray, List.set_cons_zero, List.set_cons_succ, i64_w, i32_w]
  rfl
 refine one_ (i := 5) (N := some 19) #[true, true, true, true, true, true, false, false] rfl rfl (one_of HT_.out (by kernel_rfl)) (by decide) (fun K hK => ?_)
 refine goes_ Try.func84 (by kernel_rfl) rfl #[.pointer (some ⟨g, 0, none⟩), .slice Ao24 y1208.length co24] (by rfl) rfl rfl (by (try simp only [List.map_toArray, List.map_cons, List.map_nil]); first | done | rfl | (simp only [List.length_drop, List.length_take]; rfl)) ?_
 with_reducible refine (spec_l01PickInt.calls g s0_0 t1206 t1207 _ _ y1208 t1211 t1212 t1213 w0 _ ?side1 ?side2 ?side3 ?side4 ?side5 A6.out).mono ?_
 (case side1 => repeat (first | (with_reducible first | exact HI0.out | apply IsS83.alloc | apply IsS83.drewN | apply IsS83.drew | apply IsS83.set_1 | apply IsS83.set_2 | refine IsS83.far ?_ NB0_1187.out _ | refine IsS83.far ?_ NB0_1204.out _) | exact HI0.out))
 (case side2 => repeat (first | (with_reducible first | exact HB.out | apply below_alloc | apply pw_below_drewN | apply below_drew1 | refine below_set ?_ (IsS83.ge HI0.out) | refine below_set ?_ GE1187.out | refine below_set ?_ GE1204.out) | exact HB.out))
 (case side3 => repeat (first | exact (Kd.R_reads' HO1210.out).2.2 | (with_reducible refine Kd.C_alloc ?_ _) | (with_reducible refine Kd.C_drewN ?_ _) | (with_reducible refine Kd.C_drew ?_)))
 (case side4 => exact (Kd.R_reads' HO1210.out).2.1)
 (case side5 => exact far_slice (IsS83.own_ne HI0.out HO1210.out (by decide)))
 rintro e w25 ⟨rfl, hi, hb, hk⟩
 refine ⟨_, rfl, ?_⟩
 have n0_ := Aside0.mk (KeepBut.blk hk (g' := gb1187) (o := .cells #[.slice none 0 0, .int .i64 0, .slice none 0 0] 30 (0, 0)) (oK BK1187) NB1187_0.out (by simp))
 have n1_ := Aside0.mk (Kd.R_mono (Kd.R_keep (IsS83.apart (show IsS83 w0 _ g s0_0 t1206 t1207 from by repeat (first | (with_reducible first | exact HI0.out | apply IsS83.alloc | apply IsS83.drewN | apply IsS83.drew | apply IsS83.set_1 | apply IsS83.set_2 | refine IsS83.far ?_ NB0_1187.out _ | refine IsS83.far ?_ NB0_1204.out _) | exact HI0.out)) (oR HO1193) (by decide)) hk (fun _ h => h.2)) (fun _ h => h.1))
 have n2_ := Aside0.mk (Kd.R_mono (Kd.R_keep (IsS83.apart (show IsS83 w0 _ g s0_0 t1206 t1207 from by repeat (first | (with_reducible first | exact HI0.out | apply IsS83.alloc | apply IsS83.drewN | apply IsS83.drew | apply IsS83.set_1 | apply IsS83.set_2 | refine IsS83.far ?_ NB0_1187.out _ | refine IsS83.far ?_ NB0_1204.out _) | exact HI0.out)) (oR HO1198) (by decide)) hk (fun _ h => h.2)) (fun _ h => h.1))
 have n3_ := Aside0.mk (Kd.R_mono (Kd.R_keep (IsS83.apart (show IsS83 w0 _ g s0_0 t1206 t1207 from by repeat (first | (with_reducible first | exact HI0.out | apply IsS83.alloc | apply IsS83.drewN | apply IsS83.drew | apply IsS83.set_1 | apply IsS83.set_2 | refine IsS83.far ?_ NB0_1187.out _ | refine IsS83.far ?_ NB0_1204.out _) | exact HI0.out)) (oR HO1202) (by decide)) hk (fun _ h => h.2)) (fun _ h => h.1))
 have n4_ := Aside0.mk (KeepBut.blk hk (g' := gb1204) (o := .cells #[.slice Ao14 t1196.length co14, .int .i64 t1199, .slice Ao18 t1200.length co18] 30 (0, 0)) (oK BK1204) NB1204_0.out (by simp))
 have n5_ := Aside0.mk (Kd.R_mono (Kd.R_keep (IsS83.apart (show IsS83 w0 _ g s0_0 t1206 t1207 from by repeat (first | (with_reducible first | exact HI0.out | apply IsS83.alloc | apply IsS83.drewN | apply IsS83.drew | apply IsS83.set_1 | apply IsS83.set_2 | refine IsS83.far ?_ NB0_1187.out _ | refine IsS83.far ?_ NB0_1204.out _) | exact HI0.out)) (oR HO1210) (by decide)) hk (fun _ h => h.2)) (fun _ h => h.1))
 have n6_ := Aside0.mk (KeepBut.trans (by repeat (first | (with_reducible first | exact HK.out | apply KeepBut.set_ | apply keep_drewN | apply keep_drew | apply keep_alloc | refine keep_far ?_ GW1187.out _ | refine keep_far ?_ GW1204.out _) | exact HK.out)) hk (.inl rfl))
 have n7_ := Aside0.mk (hb)
 have n8_ := Aside0.mk (hi)
 clear BK1187
 clear HO1193
 clear HO1198
 clear HO1202
 clear BK1204
 clear HO1210
 clear HK
 clear HB
 clear HI0
 have BK1187 := n0_
 have HO1193 := n1_
 have HO1198 := n2_
 have HO1202 := n3_
 have BK1204 := n4_
 have HO1210 := n5_
 have HK := n6_
 have HB := n7_
 have HI0 := n8_
 clear n0_ n1_ n2_ n3_ n4_ n5_ n6_ n7_ n8_
 (try clear hb)
 (try clear hb2)
 (try clear hk)
 (try clear hi)
 refine hK.out _ _ ⟨(blk_cell BK1204.out 0).trans rfl, (blk_cell BK1204.out 1).trans rfl, (blk_cell BK1204.out 2).trans rfl⟩ (fun hHeld => ?_)
 clear hK K
 refine norm_ (a' := ?_) ?_ ?_
 rotate_left
 ·show Act.put _ (some 19) _ = _
  simp only [Act.put, List.setIfInBounds_toArray, List.set_cons_zero, List.set_cons_succ, i64_w, i32_w]
  rfl
 refine one_ (i := 6) (N := some 20) #[true, true, true, true, true, true, true, false] rfl rfl (one_of HT_.out (by kernel_rfl)) (by decide) (fun K hK => ?_)
 refine goes_ Try.func41 (by kernel_rfl) rfl #[.agg #[.slice Ao14 t1196.length co14, .int .i64 t1199, .slice Ao18 t1200.length co18], .int .i64 t1211] (by rfl) rfl rfl (by (try simp only [List.map_toArray, List.map_cons, List.map_nil]); first | done | rfl | (simp only [List.length_drop, List.length_take]; rfl)) ?_
 with_reducible refine (spec_WorkSteps.calls k _ _ t1196 t1199 _ _ t1200 t1211 t1214 t1217 t1218 _ ?side1 ?side2 ?side3 ?side4 A7.out).mono ?_
 (case side1 => repeat (first | exact (Kd.R_reads' HO1198.out).2.2 | (with_reducible refine Kd.C_alloc ?_ _) | (with_reducible refine Kd.C_drewN ?_ _) | (with_reducible refine Kd.C_drew ?_)))
 (case side2 => exact (Kd.R_reads' HO1198.out).2.1)
 (case side3 => repeat (first | exact (Kd.R_reads' HO1202.out).2.2 | (with_reducible refine Kd.C_alloc ?_ _) | (with_reducible refine Kd.C_drewN ?_ _) | (with_reducible refine Kd.C_drew ?_)))
 (case side4 => exact (Kd.R_reads' HO1202.out).2.1)
 rintro e w26 ⟨v1215, v1219, rfl, ho0, ho1, hb⟩
 refine ⟨_, rfl, ?_⟩
 have n0_ := Aside0.mk (Kd.R_elder' (oR HO1193) (Kd.R_base ho0) hb)
 have n1_ := Aside0.mk (Kd.R_elder' (oR HO1198) (Kd.R_base ho0) hb)
 have n2_ := Aside0.mk (Kd.R_elder' (oR HO1202) (Kd.R_base ho1) hb)
 have n3_ := Aside0.mk (Kd.R_elder' (oR HO1210) (Kd.R_base ho1) hb)
 have n4_ := Aside0.mk (Kd.R_lower (Kd.R_new' (Kd.R_new' ho0 (Kd.R_lt (oR HO1193))) (Kd.R_lt (oR HO1198))) (keep_size (w := w) (g := g) (row := none) (by repeat (first | (with_reducible first | exact HK.out | apply KeepBut.set_ | apply keep_drewN | apply keep_drew | apply keep_alloc | refine keep_far ?_ GW1187.out _ | refine keep_far ?_ GW1204.out _) | exact HK.out))))
 have n5_ := Aside0.mk (Kd.R_lower (Kd.R_new' (Kd.R_new' ho1 (Kd.R_lt (oR HO1202))) (Kd.R_lt (oR HO1210))) (keep_size (w := w) (g := g) (row := none) (by repeat (first | (with_reducible first | exact HK.out | apply KeepBut.set_ | apply keep_drewN | apply keep_drew | apply keep_alloc | refine keep_far ?_ GW1187.out _ | refine keep_far ?_ GW1204.out _) | exact HK.out))))
 have n6_ := Aside0.mk (IsS83.below (by repeat (first | (with_reducible first | exact HI0.out | apply IsS83.alloc | apply IsS83.drewN | apply IsS83.drew | apply IsS83.set_1 | apply IsS83.set_2 | refine IsS83.far ?_ NB0_1187.out _ | refine IsS83.far ?_ NB0_1204.out _) | exact HI0.out)) hb)
 have n7_ := Aside0.mk (blk_below (g := gb1187) (o := .cells #[.slice none 0 0, .int .i64 0, .slice none 0 0] 30 (0, 0)) (oK BK1187) hb)
 have n8_ := Aside0.mk (blk_below (g := gb1204) (o := .cells #[.slice Ao14 t1196.length co14, .int .i64 t1199, .slice Ao18 t1200.length co18] 30 (0, 0)) (oK BK1204) hb)
 have n9_ := Aside0.mk (KeepBut.trans (by repeat (first | (with_reducible first | exact HK.out | apply KeepBut.set_ | apply keep_drewN | apply keep_drew | apply keep_alloc | refine keep_far ?_ GW1187.out _ | refine keep_far ?_ GW1204.out _) | exact HK.out)) (KeepBut.of_below hb g none) (.inl rfl))
 have n10_ := Aside0.mk (below_step (by repeat (first | (with_reducible first | exact HB.out | apply below_alloc | apply pw_below_drewN | apply below_drew1 | refine below_set ?_ (IsS83.ge HI0.out) | refine below_set ?_ GE1187.out | refine below_set ?_ GE1204.out) | exact HB.out)) hb)
 clear HO1193
 clear HO1198
 clear HO1202
 clear HO1210
 clear HI0
 clear BK1187
 clear BK1204
 clear HK
 clear HB
 have HO1193 := n0_
 have HO1198 := n1_
 have HO1202 := n2_
 have HO1210 := n3_
 have HO1216 := n4_
 have HO1220 := n5_
 have HI0 := n6_
 have BK1187 := n7_
 have BK1204 := n8_
 have HK := n9_
 have HB := n10_
 clear n0_ n1_ n2_ n3_ n4_ n5_ n6_ n7_ n8_ n9_ n10_
 (try clear hb)
 (try clear hb2)
 (try clear hk)
 (try clear hi)
 (try clear ho0)
 (try clear ho1)
 obtain ⟨Ao27, co27, eo27⟩ := Kd.R_slice HO1216.out
 (first | subst eo27 | (injection eo27 with f1_ f2_ f3_; have f4_ := f1_.symm; have f5_ := f3_.symm; clear f1_ f2_ f3_; subst f4_; subst f5_))
 obtain ⟨Ao30, co30, eo30⟩ := Kd.R_slice HO1220.out
 (first | subst eo30 | (injection eo30 with f1_ f2_ f3_; have f4_ := f1_.symm; have f5_ := f3_.symm; clear f1_ f2_ f3_; subst f4_; subst f5_))
 refine hK.out _ _ ⟨(blk_cell BK1204.out 0).trans rfl, (blk_cell BK1204.out 1).trans rfl, (blk_cell BK1204.out 2).trans rfl⟩ (fun hHeld => ?_)
 clear hK K
 refine norm_ (a' := ?_) ?_ ?_
 rotate_left
 ·show Act.put _ (some 20) _ = _
  simp only [Act.put, List.setIfInBounds_toArray, List.set_cons_zero, List.set_cons_succ, i64_w, i32_w]
  rfl
 refine one_ (i := 7) (N := none) #[true, true, true, true, true, true, true, true] rfl rfl (one_of HT_.out (by kernel_rfl)) (by decide) (fun K hK => ?_)
 have hs28 : w26.cell? ⟨gb1187, 0, none⟩ = some (.slice none 0 0) := (blk_cell BK1187.out 0).trans rfl
 have hfs28 := blk_frozen BK1187.out 0
 have hns28_1 := NB1204_1187.out
 have hms28_1 := NB1187_1204.out
 have hs29 : w26.cell? ⟨gb1187, 1, none⟩ = some (.int .i64 0) := (blk_cell BK1187.out 1).trans rfl
 have hfs29 := blk_frozen BK1187.out 1
 have hns29_1 := NB1204_1187.out
 have hms29_1 := NB1187_1204.out
 have hs31 : w26.cell? ⟨gb1187, 2, none⟩ = some (.slice none 0 0) := (blk_cell BK1187.out 2).trans rfl
 have hfs31 := blk_frozen BK1187.out 2
 have hns31_1 := NB1204_1187.out
 have hms31_1 := NB1187_1204.out
 refine skip_ (w1 := ?_) (by rfl) rfl ?_ ?_
 rotate_left
 ·go_simp
  rfl
 refine hK.out _ _ ⟨((cell_far (p := ⟨gb1187, _, none⟩) NB1204_1187.out _).trans (((cell_far (p := ⟨gb1187, _, none⟩) NB1204_1187.out _).trans (((cell_far (p := ⟨gb1187, _, none⟩) NB1204_1187.out _).trans (hHeld.1)))))), ((cell_far (p := ⟨gb1187, _, none⟩) NB1204_1187.out _).trans (((cell_far (p := ⟨gb1187, _, none⟩) NB1204_1187.out _).trans (((cell_far (p := ⟨gb1187, _, none⟩) NB1204_1187.out _).trans (hHeld.2.1)))))), ((cell_far (p := ⟨gb1187, _, none⟩) NB1204_1187.out _).trans (((cell_far (p := ⟨gb1187, _, none⟩) NB1204_1187.out _).trans (((cell_far (p := ⟨gb1187, _, none⟩) NB1204_1187.out _).trans (hHeld.2.2))))))⟩ (fun hHeld => ?_)
 clear hK K
 refine done_ (done_of HT_.out (by kernel_rfl)) ?_
 try go_wp2
 refine bodyPost_ret (results_cell_row rfl _ _ gb1187 30 #[.slice Ao27 t1214.length co27, .int .i64 t1217, .slice Ao30 t1218.length co30] (0, 0) _ rfl (by (with_reducible repeat (first | refine blk_drewN ?_ _ | refine blk_drew ?_ | refine blk_alloc ?_ _)); refine blk_put (cs := #[.slice Ao27 t1214.length co27, .int .i64 t1217, .slice none 0 0]) ?_ 2 _ rfl; (with_reducible repeat (first | refine blk_drewN ?_ _ | refine blk_drew ?_ | refine blk_alloc ?_ _)); refine blk_put (cs := #[.slice Ao27 t1214.length co27, .int .i64 0, .slice none 0 0]) ?_ 1 _ rfl; (with_reducible repeat (first | refine blk_drewN ?_ _ | refine blk_drew ?_ | refine blk_alloc ?_ _)); refine blk_put (cs := #[.slice none 0 0, .int .i64 0, .slice none 0 0]) ?_ 0 _ rfl; (with_reducible repeat (first | refine blk_drewN ?_ _ | refine blk_drew ?_ | refine blk_alloc ?_ _)); exact BK1187.out) Try.underlying30 rfl (by kernel_rfl)) rfl ?_
 exact ⟨_, _, by first | rfl | (simp [errW_none, errW_some] <;> rfl) | (simp [*, errW_none, errW_some] <;> rfl), by (with_reducible repeat (first | apply Kd.R_alloc | apply Kd.R_drewN | apply Kd.R_drew)); exact Kd.R_mono (Kd.R_far (p := ⟨gb1187, 2, none⟩) (Kd.R_far (p := ⟨gb1187, 1, none⟩) (Kd.R_far (p := ⟨gb1187, 0, none⟩) (Kd.R_types HO1216.out BK1187.out (by decide)) (fun _ hk => hk.2) (.slice Ao27 t1214.length co27)) (fun _ hk => hk.2) (.int .i64 t1217)) (fun _ hk => hk.2) (.slice Ao30 t1218.length co30)) (fun _ hk => trivial), by (with_reducible repeat (first | apply Kd.R_alloc | apply Kd.R_drewN | apply Kd.R_drew)); exact Kd.R_mono (Kd.R_far (p := ⟨gb1187, 2, none⟩) (Kd.R_far (p := ⟨gb1187, 1, none⟩) (Kd.R_far (p := ⟨gb1187, 0, none⟩) (Kd.R_types HO1220.out BK1187.out (by decide)) (fun _ hk => hk.2) (.slice Ao27 t1214.length co27)) (fun _ hk => hk.2) (.int .i64 t1217)) (fun _ hk => hk.2) (.slice Ao30 t1218.length co30)) (fun _ hk => trivial), by repeat (first | (with_reducible first | exact HI0.out | apply IsS83.alloc | apply IsS83.drewN | apply IsS83.drew | apply IsS83.set_1 | apply IsS83.set_2 | refine IsS83.far ?_ NB0_1187.out _ | refine IsS83.far ?_ NB0_1204.out _) | exact HI0.out), by repeat (first | (with_reducible first | exact HB.out | apply below_alloc | apply pw_below_drewN | apply below_drew1 | refine below_set ?_ (IsS83.ge HI0.out) | refine below_set ?_ GE1187.out | refine below_set ?_ GE1204.out) | exact HB.out), by repeat (first | (with_reducible first | exact HK.out | apply KeepBut.set_ | apply keep_drewN | apply keep_drew | apply keep_alloc | refine keep_far ?_ GW1187.out _ | refine keep_far ?_ GW1204.out _) | exact HK.out)⟩
end Go.Proofs.Ytlhlmjklajdejaa.P


namespace Go.Proofs.Ytlhlmjklajdejaa.P
open Go.RowKit Go.Proofs.YtlhlmjklajdejaaW.PrintWords Go.Proofs.YtlhlmjklajdejaaW.PrintLast Go.Proofs.YtlhlmjklajdejaaW.PrintMore
attribute [local go_sem] max2_int min2_int max_two min_two max_three min_three max_four min_four
set_option linter.unusedVariables false
set_option linter.unusedSimpArgs false
def spec_l37Work.l0 : Nat → Int → Int → List Int → Int → Int → List (S67) → Int → List Int → Option ((List (S67)) × Int × List Int × Int × Int)
 | 0, _, _, _, _, _, _, _, _ => none
 | k + 1, x4, x5, x1000, x1001, x1002, x1232000, x1232001, x1232002 => if x5 < x4 then ((spec_l01Below.f x1000 x1001 x1002 12).bind fun bt1235 => ((spec_l01Below.f x1000 bt1235.2.1 bt1235.2.2 2001).bind fun bt1238 => ((spec_KnockKey.f k x1232000 x1232001 x1232002 bt1235.1 (wrap64 (bt1238.1 - 1000))).bind fun bt1241 => (spec_l37Work.l0 k x4 (wrap64 (x5 + 1)) x1000 bt1238.2.1 bt1238.2.2 bt1241.1 bt1241.2.1 bt1241.2.2.1)))) else (some (x1232000, x1232001, x1232002, x1001, x1002))
def spec_l37Work.f (k : Nat) (s0_0 : List Int) (s0_1 : Int) (s0_2 : Int) : Option ((List (S67)) × Int × List Int × Int × Int) := (spec_l36Work.f k s0_0 s0_1 s0_2).bind fun bt1222 => ((spec_l01Below.f s0_0 bt1222.2.2.2.1 bt1222.2.2.2.2 4).bind fun bt1232 => (spec_l37Work.l0 k bt1232.1 0 s0_0 bt1232.2.1 bt1232.2.2 bt1222.1 bt1222.2.1 bt1222.2.2.1))
def spec_l37Work.T7 : Bool × List (List Nat × List Nat) := (true, [([], []), ([], []), ([], []), ([2], [2]), ([3], [3]), ([0, 1, 4, 3], [0, 1, 4]), ([5], [5]), ([6], [6]), ([6], [6]), ([7, 5, 0, 1, 2, 3, 4, 5, 6, 7], [7])])
def spec_l37Work.B7 : List Nat := [0, 0, 0, 4, 12, 31, 63, 127, 127, 255]
theorem spec_l37Work.tab7 : rtab .any (opsOf Try.f78 7) = spec_l37Work.T7 := by kernel_rfl
theorem spec_l37Work.bits7 : waitsOk spec_l37Work.T7.2 spec_l37Work.B7 = true := by kernel_rfl
set_option maxHeartbeats 8000000 in
set_option maxRecDepth 100000 in
theorem spec_l37Work.calls (k : Nat) (g : Nat) (s0_0 : List Int) (s0_1 : Int) (s0_2 : Int) (r1 : List (S67)) (r2 : Int) (r3 : List Int) (r4 : Int) (r5 : Int) (w0 w : World) (hI : IsS83 w0 w g s0_0 s0_1 s0_2) (hB : Below w0.heap.size w0 w) (h : spec_l37Work.f k s0_0 s0_1 s0_2 = some (r1, r2, r3, r4, r5)) :
  Calls Try.prog 78 #[.pointer (some ⟨g, 0, none⟩)] w fun e w' => ∃ v0_ v2_ : Value, e = .returned (.agg #[v0_, .int .i64 r2, v2_]) ∧ Kd.R k67 67 w' w.heap.size (fun _ => True) v0_ r1 ∧ Kd.R (Kd.int .i64) 3 w' w.heap.size (fun _ => True) v2_ r3 ∧ IsS83 w0 w' g s0_0 r4 r5 ∧ Below w0.heap.size w0 w' ∧ KeepBut w w' g none := by
 have hu30 := Try.underlying30
 have HI0 := Aside0.mk hI
 have HK := Aside0.mk (KeepBut.refl w g none)
 have HL := Aside0.mk hB.size
 clear hI
 have HW0 := Aside0.mk hB.size
 have HB := Aside0.mk hB
 clear hB
 have H : ((spec_l36Work.f k s0_0 s0_1 s0_2).bind fun bt1222 => ((spec_l01Below.f s0_0 bt1222.2.2.2.1 bt1222.2.2.2.2 4).bind fun bt1232 => (spec_l37Work.l0 k bt1232.1 0 s0_0 bt1232.2.1 bt1232.2.2 bt1222.1 bt1222.2.1 bt1222.2.2.1))) = some (r1, r2, r3, r4, r5) := h
 clear h
 replace H := Option.bind_eq_some_iff.mp H
 obtain ⟨⟨t1222, t1225, t1226, t1229, t1230⟩, A20, H⟩ := H
 (try dsimp only at H)
 have A2 := Aside0.mk A20
 clear A20
 replace H := Option.bind_eq_some_iff.mp H
 obtain ⟨⟨t1232, t1233, t1234⟩, A30, H⟩ := H
 (try dsimp only at H)
 have A3 := Aside0.mk A30
 clear A30
 have H' := Aside0.mk H
 clear H
 go_enter Try.func78, Try.ntmps78
 go_wp2_with (first | ((with_reducible refine gate_dst (N := 2) rfl ?_); refine box_event ?hg (N := 2) ?hd (cs := #[.slice none 0 0, .int .i64 0, .slice none 0 0]) (t := 30) ?hr ?_; (case hd => rfl); (case hg => rfl); (case hr => first | (go_simp; done) | (go_simp; rfl)); intro gb1221 hg w4 hbox hb; have n0_ := Aside0.mk (IsS83.below (by repeat (first | (with_reducible first | exact HI0.out | apply IsS83.alloc | apply IsS83.drewN | apply IsS83.drew | apply IsS83.set_1 | apply IsS83.set_2) | exact HI0.out)) hb); have n1_ := Aside0.mk (KeepBut.trans (by repeat (first | (with_reducible first | exact HK.out | apply KeepBut.set_ | apply keep_drewN | apply keep_drew | apply keep_alloc) | exact HK.out)) (KeepBut.of_below hb g none) (.inl rfl)); have n2_ := Aside0.mk (below_step (by repeat (first | (with_reducible first | exact HB.out | apply below_alloc | apply pw_below_drewN | apply below_drew1 | refine below_set ?_ (IsS83.ge HI0.out)) | exact HB.out)) hb); have n3_ := Aside0.mk (hbox); have n4_ := Aside0.mk ((by rw [hg]; exact (keep_size (w := w) (g := g) (row := none) (by repeat (first | (with_reducible first | exact HK.out | apply KeepBut.set_ | apply keep_drewN | apply keep_drew | apply keep_alloc) | exact HK.out))) : w.heap.size ≤ gb1221)); have n5_ := Aside0.mk ((Nat.le_trans HW0.out (by rw [hg]; exact (keep_size (w := w) (g := g) (row := none) (by repeat (first | (with_reducible first | exact HK.out | apply KeepBut.set_ | apply keep_drewN | apply keep_drew | apply keep_alloc) | exact HK.out))) : w.heap.size ≤ gb1221) : w0.heap.size ≤ gb1221)); have n6_ := Aside0.mk ((by rw [hg]; exact Nat.ne_of_lt (IsS83.lt (show IsS83 w0 _ g s0_0 s0_1 s0_2 from by repeat (first | (with_reducible first | exact HI0.out | apply IsS83.alloc | apply IsS83.drewN | apply IsS83.drew | apply IsS83.set_1 | apply IsS83.set_2) | exact HI0.out))) : g ≠ gb1221)); have n7_ := Aside0.mk ((by rw [hg]; exact Nat.ne_of_gt (IsS83.lt (show IsS83 w0 _ g s0_0 s0_1 s0_2 from by repeat (first | (with_reducible first | exact HI0.out | apply IsS83.alloc | apply IsS83.drewN | apply IsS83.drew | apply IsS83.set_1 | apply IsS83.set_2) | exact HI0.out))) : gb1221 ≠ g)); clear HI0; clear HK; clear HB; have HI0 := n0_; have HK := n1_; have HB := n2_; have BK1221 := n3_; have GW1221 := n4_; have GE1221 := n5_; have NB0_1221 := n6_; have NB1221_0 := n7_; clear n0_ n1_ n2_ n3_ n4_ n5_ n6_ n7_; clear hb hbox hg) | ((with_reducible refine gate_callee (f := 85) rfl ?_); refine goesL_ (some 8) rfl rfl Try.func85 (by kernel_rfl) rfl #[.pointer (some ⟨g, 0, none⟩)] rfl (by (try simp only [List.map_toArray, List.map_cons, List.map_nil]); first | done | rfl | (simp only [List.length_drop, List.length_take]; rfl)) ?_; (with_reducible refine (spec_l36Work.calls k g s0_0 s0_1 s0_2 t1222 t1225 t1226 t1229 t1230 w0 _ ?side1 ?side2 A2.out).mono ?_); (case side1 => repeat (first | (with_reducible first | exact HI0.out | apply IsS83.alloc | apply IsS83.drewN | apply IsS83.drew | apply IsS83.set_1 | apply IsS83.set_2 | refine IsS83.far ?_ NB0_1221.out _) | exact HI0.out)); (case side2 => repeat (first | (with_reducible first | exact HB.out | apply below_alloc | apply pw_below_drewN | apply below_drew1 | refine below_set ?_ (IsS83.ge HI0.out) | refine below_set ?_ GE1221.out) | exact HB.out)); rintro e w5 ⟨v1223, v1227, rfl, ho0, ho1, hi, hb, hk⟩; refine ⟨_, rfl, ?_⟩; have n0_ := Aside0.mk (KeepBut.blk hk (g' := gb1221) (o := .cells #[.slice none 0 0, .int .i64 0, .slice none 0 0] 30 (0, 0)) (oK BK1221) NB1221_0.out (by simp)); have n1_ := Aside0.mk (Kd.R_lower ho0 (keep_size (w := w) (g := g) (row := none) (by repeat (first | (with_reducible first | exact HK.out | apply KeepBut.set_ | apply keep_drewN | apply keep_drew | apply keep_alloc | refine keep_far ?_ GW1221.out _) | exact HK.out)))); have n2_ := Aside0.mk (Kd.R_lower ho1 (keep_size (w := w) (g := g) (row := none) (by repeat (first | (with_reducible first | exact HK.out | apply KeepBut.set_ | apply keep_drewN | apply keep_drew | apply keep_alloc | refine keep_far ?_ GW1221.out _) | exact HK.out)))); have n3_ := Aside0.mk (KeepBut.trans (by repeat (first | (with_reducible first | exact HK.out | apply KeepBut.set_ | apply keep_drewN | apply keep_drew | apply keep_alloc | refine keep_far ?_ GW1221.out _) | exact HK.out)) hk (.inl rfl)); have n4_ := Aside0.mk (hb); have n5_ := Aside0.mk (hi); clear BK1221; clear HK; clear HB; clear HI0; have BK1221 := n0_; have HO1224 := n1_; have HO1228 := n2_; have HK := n3_; have HB := n4_; have HI0 := n5_; clear n0_ n1_ n2_ n3_ n4_ n5_; (try clear hb); (try clear hb2); (try clear hk); (try clear hi); (try clear ho0); (try clear ho1)) | ((with_reducible refine gate_dst (N := 3) rfl ?_); refine box_event ?hg (N := 3) ?hd (cs := #[.slice none 0 0, .int .i64 0, .slice none 0 0]) (t := 30) ?hr ?_; (case hd => rfl); (case hg => rfl); (case hr => first | (go_simp; done) | (go_simp; rfl)); intro gb1231 hg w6 hbox hb; have n0_ := Aside0.mk (Kd.R_below (oR HO1224) hb); have n1_ := Aside0.mk (Kd.R_below (oR HO1228) hb); have n2_ := Aside0.mk (IsS83.below (by repeat (first | (with_reducible first | exact HI0.out | apply IsS83.alloc | apply IsS83.drewN | apply IsS83.drew | apply IsS83.set_1 | apply IsS83.set_2 | refine IsS83.far ?_ NB0_1221.out _) | exact HI0.out)) hb); have n3_ := Aside0.mk (blk_below (g := gb1221) (o := .cells #[.slice none 0 0, .int .i64 0, .slice none 0 0] 30 (0, 0)) (oK BK1221) hb); have n4_ := Aside0.mk (KeepBut.trans (by repeat (first | (with_reducible first | exact HK.out | apply KeepBut.set_ | apply keep_drewN | apply keep_drew | apply keep_alloc | refine keep_far ?_ GW1221.out _) | exact HK.out)) (KeepBut.of_below hb g none) (.inl rfl)); have n5_ := Aside0.mk (below_step (by repeat (first | (with_reducible first | exact HB.out | apply below_alloc | apply pw_below_drewN | apply below_drew1 | refine below_set ?_ (IsS83.ge HI0.out) | refine below_set ?_ GE1221.out) | exact HB.out)) hb); have n6_ := Aside0.mk (hbox); have n7_ := Aside0.mk ((by rw [hg]; exact (keep_size (w := w) (g := g) (row := none) (by repeat (first | (with_reducible first | exact HK.out | apply KeepBut.set_ | apply keep_drewN | apply keep_drew | apply keep_alloc | refine keep_far ?_ GW1221.out _) | exact HK.out))) : w.heap.size ≤ gb1231)); have n8_ := Aside0.mk ((Nat.le_trans HW0.out (by rw [hg]; exact (keep_size (w := w) (g := g) (row := none) (by repeat (first | (with_reducible first | exact HK.out | apply KeepBut.set_ | apply keep_drewN | apply keep_drew | apply keep_alloc | refine keep_far ?_ GW1221.out _) | exact HK.out))) : w.heap.size ≤ gb1231) : w0.heap.size ≤ gb1231)); have n9_ := Aside0.mk ((by rw [hg]; exact Nat.ne_of_lt (blk_lt (g := gb1221) (o := .cells #[.slice none 0 0, .int .i64 0, .slice none 0 0] 30 (0, 0)) (oK BK1221)) : gb1221 ≠ gb1231)); have n10_ := Aside0.mk ((by rw [hg]; exact Nat.ne_of_gt (blk_lt (g := gb1221) (o := .cells #[.slice none 0 0, .int .i64 0, .slice none 0 0] 30 (0, 0)) (oK BK1221)) : gb1231 ≠ gb1221)); have n11_ := Aside0.mk ((by rw [hg]; exact Nat.ne_of_lt (IsS83.lt (show IsS83 w0 _ g s0_0 t1229 t1230 from by repeat (first | (with_reducible first | exact HI0.out | apply IsS83.alloc | apply IsS83.drewN | apply IsS83.drew | apply IsS83.set_1 | apply IsS83.set_2 | refine IsS83.far ?_ NB0_1221.out _) | exact HI0.out))) : g ≠ gb1231)); have n12_ := Aside0.mk ((by rw [hg]; exact Nat.ne_of_gt (IsS83.lt (show IsS83 w0 _ g s0_0 t1229 t1230 from by repeat (first | (with_reducible first | exact HI0.out | apply IsS83.alloc | apply IsS83.drewN | apply IsS83.drew | apply IsS83.set_1 | apply IsS83.set_2 | refine IsS83.far ?_ NB0_1221.out _) | exact HI0.out))) : gb1231 ≠ g)); clear HO1224; clear HO1228; clear HI0; clear BK1221; clear HK; clear HB; have HO1224 := n0_; have HO1228 := n1_; have HI0 := n2_; have BK1221 := n3_; have HK := n4_; have HB := n5_; have BK1231 := n6_; have GW1231 := n7_; have GE1231 := n8_; have NB1221_1231 := n9_; have NB1231_1221 := n10_; have NB0_1231 := n11_; have NB1231_0 := n12_; clear n0_ n1_ n2_ n3_ n4_ n5_ n6_ n7_ n8_ n9_ n10_ n11_ n12_; clear hb hbox hg; obtain ⟨Ao7, co7, eo7⟩ := Kd.R_slice HO1224.out; subst eo7; have hnb8 := NB1231_1221.out; have hnc8 := NB1221_1231.out; have hnb9 := NB1231_0.out; have hnc9 := NB0_1231.out; have hcz10_0 : w6.cell? ⟨gb1231, 0, none⟩ = some (.slice none 0 0) := (blk_cell BK1231.out 0).trans rfl; have hcz10_1 : w6.cell? ⟨gb1231, 1, none⟩ = some (.int .i64 0) := (blk_cell BK1231.out 1).trans rfl; have hcz10_2 : w6.cell? ⟨gb1231, 2, none⟩ = some (.slice none 0 0) := (blk_cell BK1231.out 2).trans rfl; have hfz10_0 := blk_frozen BK1231.out 0; have hfz10_1 := blk_frozen BK1231.out 1; have hfz10_2 := blk_frozen BK1231.out 2; obtain ⟨Ao11, co11, eo11⟩ := Kd.R_slice HO1228.out; subst eo11) | ((with_reducible refine gate_callee (f := 75) rfl ?_); refine goesL_ (some 10) rfl rfl Try.func75 (by kernel_rfl) rfl #[.pointer (some ⟨g, 0, none⟩), .int .i64 4] rfl (by (try simp only [List.map_toArray, List.map_cons, List.map_nil]); first | done | rfl | (simp only [List.length_drop, List.length_take]; rfl)) ?_; (with_reducible refine (spec_l01Below.calls g s0_0 t1229 t1230 4 t1232 t1233 t1234 w0 _ ?side1 ?side2 A3.out).mono ?_); (case side1 => repeat (first | (with_reducible first | exact HI0.out | apply IsS83.alloc | apply IsS83.drewN | apply IsS83.drew | apply IsS83.set_1 | apply IsS83.set_2 | refine IsS83.far ?_ NB0_1221.out _ | refine IsS83.far ?_ NB0_1231.out _) | exact HI0.out)); (case side2 => repeat (first | (with_reducible first | exact HB.out | apply below_alloc | apply pw_below_drewN | apply below_drew1 | refine below_set ?_ (IsS83.ge HI0.out) | refine below_set ?_ GE1221.out | refine below_set ?_ GE1231.out) | exact HB.out)); rintro e w12 ⟨rfl, hi, hb, hk⟩; refine ⟨_, rfl, ?_⟩; have n0_ := Aside0.mk (KeepBut.blk hk (g' := gb1221) (o := .cells #[.slice none 0 0, .int .i64 0, .slice none 0 0] 30 (0, 0)) (by (with_reducible repeat (first | refine blk_drewN ?_ _ | refine blk_drew ?_ | refine blk_alloc ?_ _)); refine blk_far ?_ NB1221_1231.out _; (with_reducible repeat (first | refine blk_drewN ?_ _ | refine blk_drew ?_ | refine blk_alloc ?_ _)); refine blk_far ?_ NB1221_1231.out _; (with_reducible repeat (first | refine blk_drewN ?_ _ | refine blk_drew ?_ | refine blk_alloc ?_ _)); refine blk_far ?_ NB1221_1231.out _; (with_reducible repeat (first | refine blk_drewN ?_ _ | refine blk_drew ?_ | refine blk_alloc ?_ _)); exact BK1221.out) NB1221_0.out (by simp)); have n1_ := Aside0.mk (Kd.R_mono (Kd.R_keep (IsS83.apart (show IsS83 w0 _ g s0_0 t1229 t1230 from by repeat (first | (with_reducible first | exact HI0.out | apply IsS83.alloc | apply IsS83.drewN | apply IsS83.drew | apply IsS83.set_1 | apply IsS83.set_2 | refine IsS83.far ?_ NB0_1221.out _ | refine IsS83.far ?_ NB0_1231.out _) | exact HI0.out)) (by (with_reducible repeat (first | apply Kd.R_alloc | apply Kd.R_drewN | apply Kd.R_drew)); exact (Kd.R_mono (Kd.R_far (p := ⟨gb1231, 2, none⟩) (Kd.R_far (p := ⟨gb1231, 1, none⟩) (Kd.R_far (p := ⟨gb1231, 0, none⟩) (Kd.R_types HO1224.out BK1231.out (by decide)) (fun _ hk => hk.2) (.slice Ao7 t1222.length co7)) (fun _ hk => hk.2) (.int .i64 t1225)) (fun _ hk => hk.2) (.slice Ao11 t1226.length co11)) (fun _ h_ => h_.1))) (by decide)) hk (fun _ h => h.2)) (fun _ h => h.1)); have n2_ := Aside0.mk (Kd.R_mono (Kd.R_keep (IsS83.apart (show IsS83 w0 _ g s0_0 t1229 t1230 from by repeat (first | (with_reducible first | exact HI0.out | apply IsS83.alloc | apply IsS83.drewN | apply IsS83.drew | apply IsS83.set_1 | apply IsS83.set_2 | refine IsS83.far ?_ NB0_1221.out _ | refine IsS83.far ?_ NB0_1231.out _) | exact HI0.out)) (by (with_reducible repeat (first | apply Kd.R_alloc | apply Kd.R_drewN | apply Kd.R_drew)); exact (Kd.R_mono (Kd.R_far (p := ⟨gb1231, 2, none⟩) (Kd.R_far (p := ⟨gb1231, 1, none⟩) (Kd.R_far (p := ⟨gb1231, 0, none⟩) (Kd.R_types HO1228.out BK1231.out (by decide)) (fun _ hk => hk.2) (.slice Ao7 t1222.length co7)) (fun _ hk => hk.2) (.int .i64 t1225)) (fun _ hk => hk.2) (.slice Ao11 t1226.length co11)) (fun _ h_ => h_.1))) (by decide)) hk (fun _ h => h.2)) (fun _ h => h.1)); have n3_ := Aside0.mk (KeepBut.blk hk (g' := gb1231) (o := .cells #[.slice Ao7 t1222.length co7, .int .i64 t1225, .slice Ao11 t1226.length co11] 30 (0, 0)) (by (with_reducible repeat (first | refine blk_drewN ?_ _ | refine blk_drew ?_ | refine blk_alloc ?_ _)); refine blk_put (cs := #[.slice Ao7 t1222.length co7, .int .i64 t1225, .slice none 0 0]) ?_ 2 _ rfl; (with_reducible repeat (first | refine blk_drewN ?_ _ | refine blk_drew ?_ | refine blk_alloc ?_ _)); refine blk_put (cs := #[.slice Ao7 t1222.length co7, .int .i64 0, .slice none 0 0]) ?_ 1 _ rfl; (with_reducible repeat (first | refine blk_drewN ?_ _ | refine blk_drew ?_ | refine blk_alloc ?_ _)); refine blk_put (cs := #[.slice none 0 0, .int .i64 0, .slice none 0 0]) ?_ 0 _ rfl; (with_reducible repeat (first | refine blk_drewN ?_ _ | refine blk_drew ?_ | refine blk_alloc ?_ _)); exact BK1231.out) NB1231_0.out (by simp)); have n4_ := Aside0.mk (KeepBut.trans (by repeat (first | (with_reducible first | exact HK.out | apply KeepBut.set_ | apply keep_drewN | apply keep_drew | apply keep_alloc | refine keep_far ?_ GW1221.out _ | refine keep_far ?_ GW1231.out _) | exact HK.out)) hk (.inl rfl)); have n5_ := Aside0.mk (hb); have n6_ := Aside0.mk (hi); clear BK1221; clear HO1224; clear HO1228; clear BK1231; clear HK; clear HB; clear HI0; have BK1221 := n0_; have HO1224 := n1_; have HO1228 := n2_; have BK1231 := n3_; have HK := n4_; have HB := n5_; have HI0 := n6_; clear n0_ n1_ n2_ n3_ n4_ n5_ n6_; (try clear hb); (try clear hb2); (try clear hk); (try clear hi)))
 go_loopg [5] k (fun kq v5 w' => ∃ (x5_1 : Int) (x1001_1 : Int) (x1002_1 : Int) (x1232000_1 : List (S67)) (x1232001_1 : Int) (x1232002_1 : List Int) (u1232000 : Value) (u1232002 : Value), v5 = .int .i64 x5_1 ∧ Aside0 (spec_l37Work.l0 kq t1232 x5_1 s0_0 x1001_1 x1002_1 x1232000_1 x1232001_1 x1232002_1 = some (r1, r2, r3, r4, r5)) ∧ Aside0 (kq ≤ k) ∧ Aside0 (Kd.R k67 67 w' w.heap.size (fun _ => True) u1232000 x1232000_1) ∧ Aside0 (Kd.R (Kd.int .i64) 3 w' w.heap.size (fun _ => True) u1232002 x1232002_1) ∧ Aside0 (w'.heap[gb1221]? = some (.cells #[(.slice none 0 0), .int .i64 0, (.slice none 0 0)] 30 (0, 0))) ∧ Aside0 (w'.heap[gb1231]? = some (.cells #[u1232000, .int .i64 x1232001_1, u1232002] 30 (0, 0))) ∧ Aside0 (IsS83 w0 w' g s0_0 x1001_1 x1002_1) ∧ Aside0 (KeepBut w w' g none) ∧ Aside0 (Below w0.heap.size w0 w'))
 case atStart => exact ⟨(0), (t1233), (t1234), (t1222), (t1225), (t1226), (.slice Ao7 t1222.length co7), (.slice Ao11 t1226.length co11), (by first | rfl | (simp; done) | (simp [*]; done)), H', ⟨Nat.le_refl _⟩, ⟨oR HO1224⟩, ⟨oR HO1228⟩, ⟨oK BK1221⟩, ⟨oK BK1231⟩, ⟨by repeat (first | (with_reducible first | exact HI0.out | apply IsS83.alloc | apply IsS83.drewN | apply IsS83.drew | apply IsS83.set_1 | apply IsS83.set_2 | refine IsS83.far ?_ NB0_1221.out _ | refine IsS83.far ?_ NB0_1231.out _) | exact HI0.out)⟩, ⟨by repeat (first | (with_reducible first | exact HK.out | apply KeepBut.set_ | apply keep_drewN | apply keep_drew | apply keep_alloc | refine keep_far ?_ GW1221.out _ | refine keep_far ?_ GW1231.out _) | exact HK.out)⟩, ⟨by repeat (first | (with_reducible first | exact HB.out | apply below_alloc | apply pw_below_drewN | apply below_drew1 | refine below_set ?_ (IsS83.ge HI0.out) | refine below_set ?_ GE1221.out | refine below_set ?_ GE1231.out) | exact HB.out)⟩⟩
 case round =>
  clear H'
  try clear p2
  try clear c7
  try clear c8
  try clear c9
  try clear hcz10_0
  try clear hcz10_1
  try clear hcz10_2
  try clear hfz10_0
  try clear hfz10_1
  try clear hfz10_2
  obtain ⟨x5_1, x1001_1, x1002_1, x1232000_1, x1232001_1, x1232002_1, u1232000, u1232002, rfl, HA, HK1, HO_1232000, HO_1232002, BK1221, BK1231, HI0, HK, HB⟩ := hrel
  cases gk with
  | zero => exact absurd HA.out (by simp [spec_l37Work.l0])
  | succ k1 =>
   have H := HA.out
   clear HA
   simp only [spec_l37Work.l0] at H
   by_cases c13 : x5_1 < t1232
   ·rw [if_pos c13] at H
    have c13b0 : decide (x5_1 < t1232) = true := decide_eq_true c13
    clear c13
    replace H := Option.bind_eq_some_iff.mp H
    obtain ⟨⟨t1235, t1236, t1237⟩, A140, H⟩ := H
    (try dsimp only at H)
    have A14 := Aside0.mk A140
    clear A140
    replace H := Option.bind_eq_some_iff.mp H
    obtain ⟨⟨t1238, t1239, t1240⟩, A150, H⟩ := H
    (try dsimp only at H)
    have A15 := Aside0.mk A150
    clear A150
    replace H := Option.bind_eq_some_iff.mp H
    obtain ⟨⟨t1241, t1244, t1245, t1248⟩, A160, H⟩ := H
    (try dsimp only at H)
    have A16 := Aside0.mk A160
    clear A160
    have H' := Aside0.mk H
    clear H
    try go_wp2_with (first | ((with_reducible refine gate_callee (f := 75) rfl ?_); refine goesL_ (some 17) rfl rfl Try.func75 (by kernel_rfl) rfl #[.pointer (some ⟨g, 0, none⟩), .int .i64 12] rfl (by (try simp only [List.map_toArray, List.map_cons, List.map_nil]); first | done | rfl | (simp only [List.length_drop, List.length_take]; rfl)) ?_; (with_reducible refine (spec_l01Below.calls g s0_0 x1001_1 x1002_1 12 t1235 t1236 t1237 w0 _ ?side1 ?side2 A14.out).mono ?_); (case side1 => repeat (first | (with_reducible first | exact HI0.out | apply IsS83.alloc | apply IsS83.drewN | apply IsS83.drew | apply IsS83.set_1 | apply IsS83.set_2 | refine IsS83.far ?_ NB0_1221.out _ | refine IsS83.far ?_ NB0_1231.out _) | exact HI0.out)); (case side2 => repeat (first | (with_reducible first | exact HB.out | apply below_alloc | apply pw_below_drewN | apply below_drew1 | refine below_set ?_ (IsS83.ge HI0.out) | refine below_set ?_ GE1221.out | refine below_set ?_ GE1231.out) | exact HB.out)); rintro e w17 ⟨rfl, hi, hb, hk⟩; refine ⟨_, rfl, ?_⟩; have n0_ := Aside0.mk (Kd.R_mono (Kd.R_keep (IsS83.apart (show IsS83 w0 _ g s0_0 x1001_1 x1002_1 from by repeat (first | (with_reducible first | exact HI0.out | apply IsS83.alloc | apply IsS83.drewN | apply IsS83.drew | apply IsS83.set_1 | apply IsS83.set_2 | refine IsS83.far ?_ NB0_1221.out _ | refine IsS83.far ?_ NB0_1231.out _) | exact HI0.out)) (oR HO_1232000) (by decide)) hk (fun _ h => h.2)) (fun _ h => h.1)); have n1_ := Aside0.mk (Kd.R_mono (Kd.R_keep (IsS83.apart (show IsS83 w0 _ g s0_0 x1001_1 x1002_1 from by repeat (first | (with_reducible first | exact HI0.out | apply IsS83.alloc | apply IsS83.drewN | apply IsS83.drew | apply IsS83.set_1 | apply IsS83.set_2 | refine IsS83.far ?_ NB0_1221.out _ | refine IsS83.far ?_ NB0_1231.out _) | exact HI0.out)) (oR HO_1232002) (by decide)) hk (fun _ h => h.2)) (fun _ h => h.1)); have n2_ := Aside0.mk (KeepBut.blk hk (g' := gb1221) (o := .cells #[.slice none 0 0, .int .i64 0, .slice none 0 0] 30 (0, 0)) (oK BK1221) NB1221_0.out (by simp)); have n3_ := Aside0.mk (KeepBut.blk hk (g' := gb1231) (o := .cells #[u1232000, .int .i64 x1232001_1, u1232002] 30 (0, 0)) (oK BK1231) NB1231_0.out (by simp)); have n4_ := Aside0.mk (KeepBut.trans (by repeat (first | (with_reducible first | exact HK.out | apply KeepBut.set_ | apply keep_drewN | apply keep_drew | apply keep_alloc | refine keep_far ?_ GW1221.out _ | refine keep_far ?_ GW1231.out _) | exact HK.out)) hk (.inl rfl)); have n5_ := Aside0.mk (hb); have n6_ := Aside0.mk (hi); clear HO_1232000; clear HO_1232002; clear BK1221; clear BK1231; clear HK; clear HB; clear HI0; have HO_1232000 := n0_; have HO_1232002 := n1_; have BK1221 := n2_; have BK1231 := n3_; have HK := n4_; have HB := n5_; have HI0 := n6_; clear n0_ n1_ n2_ n3_ n4_ n5_ n6_; (try clear hb); (try clear hb2); (try clear hk); (try clear hi)))
    have n0_ := Aside0.mk (Kd.R_drew HO_1232000.out)
    have n1_ := Aside0.mk (Kd.R_drew HO_1232002.out)
    have n2_ := Aside0.mk (blk_drew BK1221.out)
    have n3_ := Aside0.mk (blk_drew BK1231.out)
    have n4_ := Aside0.mk (IsS83.drew HI0.out)
    have n5_ := Aside0.mk (keep_drew HK.out)
    have n6_ := Aside0.mk (below_drew1 HB.out)
    clear HO_1232000
    clear HO_1232002
    clear BK1221
    clear BK1231
    clear HI0
    clear HK
    clear HB
    have HO_1232000 := n0_
    have HO_1232002 := n1_
    have BK1221 := n2_
    have BK1231 := n3_
    have HI0 := n4_
    have HK := n5_
    have HB := n6_
    clear n0_ n1_ n2_ n3_ n4_ n5_ n6_
    refine start_ (n := 10) (S := fun w' => w'.cell? ⟨gb1231, 0, none⟩ = some (u1232000) ∧ w'.cell? ⟨gb1231, 1, none⟩ = some (.int .i64 x1232001_1) ∧ w'.cell? ⟨gb1231, 2, none⟩ = some (u1232002)) (ds := [9]) #[false, false, false, false, false, false, false, false, false, false] (by kernel_rfl) rfl rfl ⟨(blk_cell BK1231.out 0).trans rfl, (blk_cell BK1231.out 1).trans rfl, (blk_cell BK1231.out 2).trans rfl⟩ (fun hHeld => ?_); refine with_tabW spec_l37Work.tab7 spec_l37Work.bits7 (fun HT_ HW_ => ?_)
    generalize w17.drew = w18 at HO_1232000 HO_1232002 BK1221 BK1231 HI0 HK HB hHeld ⊢
    refine pure_ (i := 1) (N := some 20) (v := ?_) (a' := ?_) #[false, true, false, false, false, false, false, false, false, false] rfl rfl (any_of HT_.out (by kernel_rfl)) (fun _ _ _ h => h) (Or.inl ⟨by rfl, ?_⟩) ?_ ?_
    rotate_left
    ·intro w'
     go_simp
     with_reducible rfl
    rotate_left
    ·simp only [Act.put, List.setIfInBounds_toArray, List.set_cons_zero, List.set_cons_succ, i64_w, i32_w]
     rfl
    refine pure_ (i := 2) (N := some 21) (v := ?_) (a' := ?_) #[false, true, true, false, false, false, false, false, false, false] rfl rfl (any_of HT_.out (by kernel_rfl)) (fun _ _ _ h => h) (Or.inl ⟨by rfl, ?_⟩) ?_ ?_
    rotate_left
    ·intro w'
     go_simp
     with_reducible rfl
    rotate_left
    ·simp only [Act.put, List.setIfInBounds_toArray, List.set_cons_zero, List.set_cons_succ, i64_w, i32_w]
     rfl
    refine take_ (i := 0) (N := some 19) (v := ?_) (a' := ?_) #[true, true, true, false, false, false, false, false, false, false] rfl rfl (take_ofW HT_.out HW_.out (by kernel_rfl)) (fun _ _ _ h => h) (Or.inl ⟨by rfl, ?_⟩) hHeld ?_ ?_
    rotate_left
    ·rintro w' ⟨s0, s1, s2⟩
     go_simp
     with_reducible rfl
    rotate_left
    ·simp only [Act.put, List.setIfInBounds_toArray, List.set_cons_zero, List.set_cons_succ, i64_w, i32_w]
     rfl
    refine one_ (i := 3) (N := some 22) #[true, true, true, true, false, false, false, false, false, false] rfl rfl (one_of HT_.out (by kernel_rfl)) (by decide) (fun K hK => ?_)
    refine goes_ Try.func75 (by kernel_rfl) rfl #[.pointer (some ⟨g, 0, none⟩), .int .i64 2001] (by rfl) rfl rfl (by (try simp only [List.map_toArray, List.map_cons, List.map_nil]); first | done | rfl | (simp only [List.length_drop, List.length_take]; rfl)) ?_
    with_reducible refine (spec_l01Below.calls g s0_0 t1236 t1237 2001 t1238 t1239 t1240 w0 _ ?side1 ?side2 A15.out).mono ?_
    (case side1 => repeat (first | (with_reducible first | exact HI0.out | apply IsS83.alloc | apply IsS83.drewN | apply IsS83.drew | apply IsS83.set_1 | apply IsS83.set_2 | refine IsS83.far ?_ NB0_1221.out _ | refine IsS83.far ?_ NB0_1231.out _) | exact HI0.out))
    (case side2 => repeat (first | (with_reducible first | exact HB.out | apply below_alloc | apply pw_below_drewN | apply below_drew1 | refine below_set ?_ (IsS83.ge HI0.out) | refine below_set ?_ GE1221.out | refine below_set ?_ GE1231.out) | exact HB.out))
    rintro e w19 ⟨rfl, hi, hb, hk⟩
    refine ⟨_, rfl, ?_⟩
    have n0_ := Aside0.mk (Kd.R_mono (Kd.R_keep (IsS83.apart (show IsS83 w0 _ g s0_0 t1236 t1237 from by repeat (first | (with_reducible first | exact HI0.out | apply IsS83.alloc | apply IsS83.drewN | apply IsS83.drew | apply IsS83.set_1 | apply IsS83.set_2 | refine IsS83.far ?_ NB0_1221.out _ | refine IsS83.far ?_ NB0_1231.out _) | exact HI0.out)) (oR HO_1232000) (by decide)) hk (fun _ h => h.2)) (fun _ h => h.1))
    have n1_ := Aside0.mk (Kd.R_mono (Kd.R_keep (IsS83.apart (show IsS83 w0 _ g s0_0 t1236 t1237 from by repeat (first | (with_reducible first | exact HI0.out | apply IsS83.alloc | apply IsS83.drewN | apply IsS83.drew | apply IsS83.set_1 | apply IsS83.set_2 | refine IsS83.far ?_ NB0_1221.out _ | refine IsS83.far ?_ NB0_1231.out _) | exact HI0.out)) (oR HO_1232002) (by decide)) hk (fun _ h => h.2)) (fun _ h => h.1))
    have n2_ := Aside0.mk (KeepBut.blk hk (g' := gb1221) (o := .cells #[.slice none 0 0, .int .i64 0, .slice none 0 0] 30 (0, 0)) (oK BK1221) NB1221_0.out (by simp))
    have n3_ := Aside0.mk (KeepBut.blk hk (g' := gb1231) (o := .cells #[u1232000, .int .i64 x1232001_1, u1232002] 30 (0, 0)) (oK BK1231) NB1231_0.out (by simp))
    have n4_ := Aside0.mk (KeepBut.trans (by repeat (first | (with_reducible first | exact HK.out | apply KeepBut.set_ | apply keep_drewN | apply keep_drew | apply keep_alloc | refine keep_far ?_ GW1221.out _ | refine keep_far ?_ GW1231.out _) | exact HK.out)) hk (.inl rfl))
    have n5_ := Aside0.mk (hb)
    have n6_ := Aside0.mk (hi)
    clear HO_1232000
    clear HO_1232002
    clear BK1221
    clear BK1231
    clear HK
    clear HB
    clear HI0
    have HO_1232000 := n0_
    have HO_1232002 := n1_
    have BK1221 := n2_
    have BK1231 := n3_
    have HK := n4_
    have HB := n5_
    have HI0 := n6_
    clear n0_ n1_ n2_ n3_ n4_ n5_ n6_
    (try clear hb)
    (try clear hb2)
    (try clear hk)
    (try clear hi)
    obtain ⟨Ao20, co20, eo20⟩ := Kd.R_slice HO_1232000.out
    (first | subst eo20 | (injection eo20 with f1_ f2_ f3_; have f4_ := f1_.symm; have f5_ := f3_.symm; clear f1_ f2_ f3_; subst f4_; subst f5_))
    obtain ⟨Ao21, co21, eo21⟩ := Kd.R_slice HO_1232002.out
    (first | subst eo21 | (injection eo21 with f1_ f2_ f3_; have f4_ := f1_.symm; have f5_ := f3_.symm; clear f1_ f2_ f3_; subst f4_; subst f5_))
    refine hK.out _ _ ⟨(blk_cell BK1231.out 0).trans rfl, (blk_cell BK1231.out 1).trans rfl, (blk_cell BK1231.out 2).trans rfl⟩ (fun hHeld => ?_)
    clear hK K
    refine norm_ (a' := ?_) ?_ ?_
    rotate_left
    ·show Act.put _ (some 22) _ = _
     simp only [Act.put, List.setIfInBounds_toArray, List.set_cons_zero, List.set_cons_succ, i64_w, i32_w]
     rfl
    refine pure_ (i := 4) (N := some 23) (v := ?_) (a' := ?_) #[true, true, true, true, true, false, false, false, false, false] rfl rfl (any_of HT_.out (by kernel_rfl)) (fun _ _ _ h => h) (Or.inl ⟨by rfl, ?_⟩) ?_ ?_
    rotate_left
    ·intro w'
     go_simp
     with_reducible rfl
    rotate_left
    ·simp only [Act.put, List.setIfInBounds_toArray, List.set_cons_zero, List.set_cons_succ, i64_w, i32_w]
     rfl
    refine one_ (i := 5) (N := some 24) #[true, true, true, true, true, true, false, false, false, false] rfl rfl (one_of HT_.out (by kernel_rfl)) (by decide) (fun K hK => ?_)
    refine goes_ Try.func30 (by kernel_rfl) rfl #[.agg #[.slice Ao20 x1232000_1.length co20, .int .i64 x1232001_1, .slice Ao21 x1232002_1.length co21], .int .i64 t1235, .int .i64 (wrap64 (t1238 - 1000))] (by rfl) rfl rfl (by (try simp only [List.map_toArray, List.map_cons, List.map_nil]); first | done | rfl | (simp only [List.length_drop, List.length_take]; rfl)) ?_
    with_reducible refine (spec_KnockKey.calls k1 _ _ x1232000_1 x1232001_1 _ _ x1232002_1 t1235 (wrap64 (t1238 - 1000)) t1241 t1244 t1245 t1248 _ ?side1 ?side2 ?side3 ?side4 A16.out).mono ?_
    (case side1 => repeat (first | exact (Kd.R_reads' HO_1232000.out).2.2 | (with_reducible refine Kd.C_alloc ?_ _) | (with_reducible refine Kd.C_drewN ?_ _) | (with_reducible refine Kd.C_drew ?_)))
    (case side2 => exact (Kd.R_reads' HO_1232000.out).2.1)
    (case side3 => repeat (first | exact (Kd.R_reads' HO_1232002.out).2.2 | (with_reducible refine Kd.C_alloc ?_ _) | (with_reducible refine Kd.C_drewN ?_ _) | (with_reducible refine Kd.C_drew ?_)))
    (case side4 => exact (Kd.R_reads' HO_1232002.out).2.1)
    rintro e w22 ⟨v1242, v1246, rfl, ho0, ho1, hb⟩
    refine ⟨_, rfl, ?_⟩
    have n0_ := Aside0.mk (Kd.R_elder' (oR HO_1232000) (Kd.R_base ho0) hb)
    have n1_ := Aside0.mk (Kd.R_elder' (oR HO_1232002) (Kd.R_base ho1) hb)
    have n2_ := Aside0.mk (Kd.R_lower (Kd.R_new' ho0 (Kd.R_lt (oR HO_1232000))) (keep_size (w := w) (g := g) (row := none) (by repeat (first | (with_reducible first | exact HK.out | apply KeepBut.set_ | apply keep_drewN | apply keep_drew | apply keep_alloc | refine keep_far ?_ GW1221.out _ | refine keep_far ?_ GW1231.out _) | exact HK.out))))
    have n3_ := Aside0.mk (Kd.R_lower (Kd.R_new' ho1 (Kd.R_lt (oR HO_1232002))) (keep_size (w := w) (g := g) (row := none) (by repeat (first | (with_reducible first | exact HK.out | apply KeepBut.set_ | apply keep_drewN | apply keep_drew | apply keep_alloc | refine keep_far ?_ GW1221.out _ | refine keep_far ?_ GW1231.out _) | exact HK.out))))
    have n4_ := Aside0.mk (blk_below (g := gb1221) (o := .cells #[.slice none 0 0, .int .i64 0, .slice none 0 0] 30 (0, 0)) (oK BK1221) hb)
    have n5_ := Aside0.mk (blk_below (g := gb1231) (o := .cells #[.slice Ao20 x1232000_1.length co20, .int .i64 x1232001_1, .slice Ao21 x1232002_1.length co21] 30 (0, 0)) (oK BK1231) hb)
    have n6_ := Aside0.mk (IsS83.below (by repeat (first | (with_reducible first | exact HI0.out | apply IsS83.alloc | apply IsS83.drewN | apply IsS83.drew | apply IsS83.set_1 | apply IsS83.set_2 | refine IsS83.far ?_ NB0_1221.out _ | refine IsS83.far ?_ NB0_1231.out _) | exact HI0.out)) hb)
    have n7_ := Aside0.mk (KeepBut.trans (by repeat (first | (with_reducible first | exact HK.out | apply KeepBut.set_ | apply keep_drewN | apply keep_drew | apply keep_alloc | refine keep_far ?_ GW1221.out _ | refine keep_far ?_ GW1231.out _) | exact HK.out)) (KeepBut.of_below hb g none) (.inl rfl))
    have n8_ := Aside0.mk (below_step (by repeat (first | (with_reducible first | exact HB.out | apply below_alloc | apply pw_below_drewN | apply below_drew1 | refine below_set ?_ (IsS83.ge HI0.out) | refine below_set ?_ GE1221.out | refine below_set ?_ GE1231.out) | exact HB.out)) hb)
    clear HO_1232000
    clear HO_1232002
    clear BK1221
    clear BK1231
    clear HI0
    clear HK
    clear HB
    have HO_1232000 := n0_
    have HO_1232002 := n1_
    have HO1243 := n2_
    have HO1247 := n3_
    have BK1221 := n4_
    have BK1231 := n5_
    have HI0 := n6_
    have HK := n7_
    have HB := n8_
    clear n0_ n1_ n2_ n3_ n4_ n5_ n6_ n7_ n8_
    (try clear hb)
    (try clear hb2)
    (try clear hk)
    (try clear hi)
    (try clear ho0)
    (try clear ho1)
    obtain ⟨Ao23, co23, eo23⟩ := Kd.R_slice HO1243.out
    (first | subst eo23 | (injection eo23 with f1_ f2_ f3_; have f4_ := f1_.symm; have f5_ := f3_.symm; clear f1_ f2_ f3_; subst f4_; subst f5_))
    obtain ⟨Ao26, co26, eo26⟩ := Kd.R_slice HO1247.out
    (first | subst eo26 | (injection eo26 with f1_ f2_ f3_; have f4_ := f1_.symm; have f5_ := f3_.symm; clear f1_ f2_ f3_; subst f4_; subst f5_))
    refine hK.out _ _ ⟨(blk_cell BK1231.out 0).trans rfl, (blk_cell BK1231.out 1).trans rfl, (blk_cell BK1231.out 2).trans rfl⟩ (fun hHeld => ?_)
    clear hK K
    refine norm_ (a' := ?_) ?_ ?_
    rotate_left
    ·show Act.put _ (some 24) _ = _
     simp only [Act.put, List.setIfInBounds_toArray, List.set_cons_zero, List.set_cons_succ, i64_w, i32_w]
     rfl
    refine pure_ (i := 6) (N := some 18) (v := ?_) (a' := ?_) #[true, true, true, true, true, true, true, false, false, false] rfl rfl (any_of HT_.out (by kernel_rfl)) (fun _ _ _ h => h) (Or.inl ⟨by rfl, ?_⟩) ?_ ?_
    rotate_left
    ·intro w'
     go_simp
     with_reducible rfl
    rotate_left
    ·simp only [Act.put, List.setIfInBounds_toArray, List.set_cons_zero, List.set_cons_succ, i64_w, i32_w]
     rfl
    refine pure_ (i := 7) (N := some 25) (v := ?_) (a' := ?_) #[true, true, true, true, true, true, true, true, false, false] rfl rfl (any_of HT_.out (by kernel_rfl)) (fun _ _ _ h => h) (Or.inl ⟨by rfl, ?_⟩) ?_ ?_
    rotate_left
    ·intro w'
     go_simp
     with_reducible rfl
    rotate_left
    ·simp only [Act.put, List.setIfInBounds_toArray, List.set_cons_zero, List.set_cons_succ, i64_w, i32_w]
     rfl
    refine pure_ (i := 8) (N := some 26) (v := ?_) (a' := ?_) #[true, true, true, true, true, true, true, true, true, false] rfl rfl (any_of HT_.out (by kernel_rfl)) (fun _ _ _ h => h) (Or.inl ⟨by rfl, ?_⟩) ?_ ?_
    rotate_left
    ·intro w'
     go_simp
     with_reducible rfl
    rotate_left
    ·simp only [Act.put, List.setIfInBounds_toArray, List.set_cons_zero, List.set_cons_succ, i64_w, i32_w]
     rfl
    refine last_ (i := 9) (N := none) #[true, true, true, true, true, true, true, true, true, true] rfl rfl (one_of HT_.out (by kernel_rfl)) (by decide) (fun K hK => ?_)
    have hs24 : w22.cell? ⟨gb1231, 0, none⟩ = some (.slice Ao20 x1232000_1.length co20) := (blk_cell BK1231.out 0).trans rfl
    have hfs24 := blk_frozen BK1231.out 0
    have hns24_0 := NB1221_1231.out
    have hms24_0 := NB1231_1221.out
    have hs25 : w22.cell? ⟨gb1231, 1, none⟩ = some (.int .i64 x1232001_1) := (blk_cell BK1231.out 1).trans rfl
    have hfs25 := blk_frozen BK1231.out 1
    have hns25_0 := NB1221_1231.out
    have hms25_0 := NB1231_1221.out
    have hs27 : w22.cell? ⟨gb1231, 2, none⟩ = some (.slice Ao21 x1232002_1.length co21) := (blk_cell BK1231.out 2).trans rfl
    have hfs27 := blk_frozen BK1231.out 2
    have hns27_0 := NB1221_1231.out
    have hms27_0 := NB1231_1221.out
    refine skip_ (w1 := ?_) (by rfl) rfl ?_ ?_
    rotate_left
    ·go_simp
     rfl
    refine hK.out _ _ ?_
    clear hK K
    refine done_ (done_of HT_.out (by kernel_rfl)) ?_
    try go_wp2
    go_roundg k1
    case measure => have := HK1.out; omega
    case rel => exact ⟨(wrap64 (x5_1 + 1)), (t1239), (t1240), (t1241), (t1244), (t1245), (.slice Ao23 t1241.length co23), (.slice Ao26 t1245.length co26), (by first | rfl | (simp; done) | (simp [*]; done)), H', ⟨by have := HK1.out; omega⟩, ⟨by (with_reducible repeat (first | apply Kd.R_alloc | apply Kd.R_drewN | apply Kd.R_drew)); exact Kd.R_mono (Kd.R_far (p := ⟨gb1231, 2, none⟩) (Kd.R_far (p := ⟨gb1231, 1, none⟩) (Kd.R_far (p := ⟨gb1231, 0, none⟩) (Kd.R_types HO1243.out BK1231.out (by decide)) (fun _ hk => hk.2) (.slice Ao23 t1241.length co23)) (fun _ hk => hk.2) (.int .i64 t1244)) (fun _ hk => hk.2) (.slice Ao26 t1245.length co26)) (fun _ hk => trivial)⟩, ⟨by (with_reducible repeat (first | apply Kd.R_alloc | apply Kd.R_drewN | apply Kd.R_drew)); exact Kd.R_mono (Kd.R_far (p := ⟨gb1231, 2, none⟩) (Kd.R_far (p := ⟨gb1231, 1, none⟩) (Kd.R_far (p := ⟨gb1231, 0, none⟩) (Kd.R_types HO1247.out BK1231.out (by decide)) (fun _ hk => hk.2) (.slice Ao23 t1241.length co23)) (fun _ hk => hk.2) (.int .i64 t1244)) (fun _ hk => hk.2) (.slice Ao26 t1245.length co26)) (fun _ hk => trivial)⟩, ⟨by (with_reducible repeat (first | refine blk_drewN ?_ _ | refine blk_drew ?_ | refine blk_alloc ?_ _)); refine blk_far ?_ NB1221_1231.out _; (with_reducible repeat (first | refine blk_drewN ?_ _ | refine blk_drew ?_ | refine blk_alloc ?_ _)); refine blk_far ?_ NB1221_1231.out _; (with_reducible repeat (first | refine blk_drewN ?_ _ | refine blk_drew ?_ | refine blk_alloc ?_ _)); refine blk_far ?_ NB1221_1231.out _; (with_reducible repeat (first | refine blk_drewN ?_ _ | refine blk_drew ?_ | refine blk_alloc ?_ _)); exact BK1221.out⟩, ⟨by (with_reducible repeat (first | refine blk_drewN ?_ _ | refine blk_drew ?_ | refine blk_alloc ?_ _)); refine blk_put (cs := #[.slice Ao23 t1241.length co23, .int .i64 t1244, .slice Ao21 x1232002_1.length co21]) ?_ 2 _ rfl; (with_reducible repeat (first | refine blk_drewN ?_ _ | refine blk_drew ?_ | refine blk_alloc ?_ _)); refine blk_put (cs := #[.slice Ao23 t1241.length co23, .int .i64 x1232001_1, .slice Ao21 x1232002_1.length co21]) ?_ 1 _ rfl; (with_reducible repeat (first | refine blk_drewN ?_ _ | refine blk_drew ?_ | refine blk_alloc ?_ _)); refine blk_put (cs := #[.slice Ao20 x1232000_1.length co20, .int .i64 x1232001_1, .slice Ao21 x1232002_1.length co21]) ?_ 0 _ rfl; (with_reducible repeat (first | refine blk_drewN ?_ _ | refine blk_drew ?_ | refine blk_alloc ?_ _)); exact BK1231.out⟩, ⟨by repeat (first | (with_reducible first | exact HI0.out | apply IsS83.alloc | apply IsS83.drewN | apply IsS83.drew | apply IsS83.set_1 | apply IsS83.set_2 | refine IsS83.far ?_ NB0_1221.out _ | refine IsS83.far ?_ NB0_1231.out _) | exact HI0.out)⟩, ⟨by repeat (first | (with_reducible first | exact HK.out | apply KeepBut.set_ | apply keep_drewN | apply keep_drew | apply keep_alloc | refine keep_far ?_ GW1221.out _ | refine keep_far ?_ GW1231.out _) | exact HK.out)⟩, ⟨by repeat (first | (with_reducible first | exact HB.out | apply below_alloc | apply pw_below_drewN | apply below_drew1 | refine below_set ?_ (IsS83.ge HI0.out) | refine below_set ?_ GE1221.out | refine below_set ?_ GE1231.out) | exact HB.out)⟩⟩
   ·rw [if_neg c13] at H
    have c13b0 : decide (x5_1 < t1232) = false := decide_eq_false c13
    clear c13
    simp only [Option.some.injEq, Prod.mk.injEq] at H
    obtain ⟨rfl, rfl, rfl, rfl, rfl⟩ := H
    have hnb28 := NB1231_1221.out
    have hnc28 := NB1221_1231.out
    have hnb29 := NB1231_0.out
    have hnc29 := NB0_1231.out
    have hcz30_0 : wr.cell? ⟨gb1231, 0, none⟩ = some (u1232000) := (blk_cell BK1231.out 0).trans rfl
    have hcz30_1 : wr.cell? ⟨gb1231, 1, none⟩ = some (.int .i64 x1232001_1) := (blk_cell BK1231.out 1).trans rfl
    have hcz30_2 : wr.cell? ⟨gb1231, 2, none⟩ = some (u1232002) := (blk_cell BK1231.out 2).trans rfl
    have hfz30_0 := blk_frozen BK1231.out 0
    have hfz30_1 := blk_frozen BK1231.out 1
    have hfz30_2 := blk_frozen BK1231.out 2
    obtain ⟨Ao31, co31, eo31⟩ := Kd.R_slice HO_1232000.out
    subst eo31
    have hnb32 := NB1221_0.out
    have hnc32 := NB0_1221.out
    have hcz33_0 : wr.cell? ⟨gb1221, 0, none⟩ = some (.slice none 0 0) := (blk_cell BK1221.out 0).trans rfl
    have hcz33_1 : wr.cell? ⟨gb1221, 1, none⟩ = some (.int .i64 0) := (blk_cell BK1221.out 1).trans rfl
    have hcz33_2 : wr.cell? ⟨gb1221, 2, none⟩ = some (.slice none 0 0) := (blk_cell BK1221.out 2).trans rfl
    have hfz33_0 := blk_frozen BK1221.out 0
    have hfz33_1 := blk_frozen BK1221.out 1
    have hfz33_2 := blk_frozen BK1221.out 2
    obtain ⟨Ao34, co34, eo34⟩ := Kd.R_slice HO_1232002.out
    subst eo34
    go_wp2
    refine bodyPost_ret (results_cell_row rfl _ _ gb1221 30 #[.slice Ao31 x1232000_1.length co31, .int .i64 x1232001_1, .slice Ao34 x1232002_1.length co34] (0, 0) _ rfl (by (with_reducible repeat (first | refine blk_drewN ?_ _ | refine blk_drew ?_ | refine blk_alloc ?_ _)); refine blk_put (cs := #[.slice Ao31 x1232000_1.length co31, .int .i64 x1232001_1, .slice none 0 0]) ?_ 2 _ rfl; (with_reducible repeat (first | refine blk_drewN ?_ _ | refine blk_drew ?_ | refine blk_alloc ?_ _)); refine blk_put (cs := #[.slice Ao31 x1232000_1.length co31, .int .i64 0, .slice none 0 0]) ?_ 1 _ rfl; (with_reducible repeat (first | refine blk_drewN ?_ _ | refine blk_drew ?_ | refine blk_alloc ?_ _)); refine blk_put (cs := #[.slice none 0 0, .int .i64 0, .slice none 0 0]) ?_ 0 _ rfl; (with_reducible repeat (first | refine blk_drewN ?_ _ | refine blk_drew ?_ | refine blk_alloc ?_ _)); exact BK1221.out) Try.underlying30 rfl (by kernel_rfl)) rfl ?_
    exact ⟨_, _, by first | rfl | (simp [errW_none, errW_some] <;> rfl) | (simp [*, errW_none, errW_some] <;> rfl), by (with_reducible repeat (first | apply Kd.R_alloc | apply Kd.R_drewN | apply Kd.R_drew)); exact Kd.R_mono (Kd.R_far (p := ⟨gb1221, 2, none⟩) (Kd.R_far (p := ⟨gb1221, 1, none⟩) (Kd.R_far (p := ⟨gb1221, 0, none⟩) (Kd.R_types HO_1232000.out BK1221.out (by decide)) (fun _ hk => hk.2) (.slice Ao31 x1232000_1.length co31)) (fun _ hk => hk.2) (.int .i64 x1232001_1)) (fun _ hk => hk.2) (.slice Ao34 x1232002_1.length co34)) (fun _ hk => trivial), by (with_reducible repeat (first | apply Kd.R_alloc | apply Kd.R_drewN | apply Kd.R_drew)); exact Kd.R_mono (Kd.R_far (p := ⟨gb1221, 2, none⟩) (Kd.R_far (p := ⟨gb1221, 1, none⟩) (Kd.R_far (p := ⟨gb1221, 0, none⟩) (Kd.R_types HO_1232002.out BK1221.out (by decide)) (fun _ hk => hk.2) (.slice Ao31 x1232000_1.length co31)) (fun _ hk => hk.2) (.int .i64 x1232001_1)) (fun _ hk => hk.2) (.slice Ao34 x1232002_1.length co34)) (fun _ hk => trivial), by repeat (first | (with_reducible first | exact HI0.out | apply IsS83.alloc | apply IsS83.drewN | apply IsS83.drew | apply IsS83.set_1 | apply IsS83.set_2 | refine IsS83.far ?_ NB0_1221.out _ | refine IsS83.far ?_ NB0_1231.out _) | exact HI0.out), by repeat (first | (with_reducible first | exact HB.out | apply below_alloc | apply pw_below_drewN | apply below_drew1 | refine below_set ?_ (IsS83.ge HI0.out) | refine below_set ?_ GE1221.out | refine below_set ?_ GE1231.out) | exact HB.out), by repeat (first | (with_reducible first | exact HK.out | apply KeepBut.set_ | apply keep_drewN | apply keep_drew | apply keep_alloc | refine keep_far ?_ GW1221.out _ | refine keep_far ?_ GW1231.out _) | exact HK.out)⟩
end Go.Proofs.Ytlhlmjklajdejaa.P

