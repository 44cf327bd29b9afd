/- What functions of the program come to (f), that their calls come to just this (calls), and the plain laws over lists and numbers. No condition but those of the given row. -/
import Derived.Test.YtbkkpllejgedcaaC3
namespace Go.Proofs.Ytbkkpllejgedcaa.P
open Go.RowKit Go.Proofs.YtbkkpllejgedcaaW.PrintWords Go.Proofs.YtbkkpllejgedcaaW.PrintLast Go.Proofs.YtbkkpllejgedcaaW.PrintMore
attribute [local go_sem] max2_int min2_int max_two min_two max_three min_three max_four min_four
set_option linter.unusedVariables false
set_option linter.unusedSimpArgs false
def spec_WorkStep.j0 : Nat → Bool → List (S96) → Int → List Int → List (S96) → Int → List Int → Option ((List (S96)) × Int × List Int × Bool)
  | 0, _, _, _, _, _, _, _ => none
  | k + 1, x19, x1391000, x1391001, x1391002, x1400000, x1400001, x1400002 => if x19 = true then (some (x1400000, x1400001, x1400002, false)) else (if 0 ≤ x1391001 then (if x1391001 < (x1391000.length : Int) then (if 0 ≤ ((rd_T96 x1391000 x1391001).f0) then (if ((rd_T96 x1391000 x1391001).f0) < (x1391002.length : Int) then ((spec_TunedPitch.f k (rd x1391002 ((rd_T96 x1391000 x1391001).f0)) ((rd_T96 x1391000 x1391001).f2) ((rd_T96 x1391000 x1391001).f3)).bind fun t1404 => (if t1404 = 0 then (some (x1400000, x1400001, x1400002, false)) else (if 0 ≤ ((rd_T96 x1391000 x1391001).f1) then (if ((rd_T96 x1391000 x1391001).f1) < (x1400002.length : Int) then (some (x1400000, wrap64 (x1391001 + 1), (x1400002.set (((rd_T96 x1391000 x1391001).f1) : Int).toNat t1404), true)) else (none)) else (none)))) else (none)) else (none)) else (none)) else (none))
def spec_WorkStep.f (k : Nat) (l0_0 : List (S96)) (a0_1 : Int) (l0_2 : List Int) : Option ((List (S96)) × Int × List Int × Bool) := (spec_l36Copy.f l0_0 a0_1 l0_2).bind fun bt1392 => ((spec_WorkOk.f k l0_0 a0_1 l0_2).bind fun t1400 => (if t1400 = true then (spec_WorkStep.j0 k (a0_1 == (l0_0.length : Int)) l0_0 a0_1 l0_2 bt1392.1 bt1392.2.1 bt1392.2.2) else (spec_WorkStep.j0 k true l0_0 a0_1 l0_2 bt1392.1 bt1392.2.1 bt1392.2.2)))
def spec_WorkStep.T5 : Bool × List (List Nat × List Nat) := (true, [([], []), ([0], [0]), ([], []), ([2], [2]), ([1, 3], [1, 3]), ([4], [4]), ([], []), ([6], [6]), ([], []), ([8], [8]), ([5, 7, 9], [5, 7, 9]), ([10, 10, 0, 1, 2, 3, 4, 5, 6, 7, 8, 9, 10], [10])])
def spec_WorkStep.B5 : List Nat := [0, 1, 0, 4, 15, 31, 0, 64, 0, 256, 1023, 2047]
theorem spec_WorkStep.tab5 : rtab .any (opsOf Try.f88 5) = spec_WorkStep.T5 := by kernel_rfl
theorem spec_WorkStep.bits5 : waitsOk spec_WorkStep.T5.2 spec_WorkStep.B5 = true := by kernel_rfl
set_option maxHeartbeats 8000000 in
set_option maxRecDepth 100000 in
theorem spec_WorkStep.calls (k : Nat) (A0_0 : Option Addr) (c0_0 : Nat) (l0_0 : List (S96)) (a0_1 : Int) (A0_2 : Option Addr) (c0_2 : Nat) (l0_2 : List Int) (r1 : List (S96)) (r2 : Int) (r3 : List Int) (r4 : Bool) (w : World) (hr0_0 : Kd.C k96 w A0_0 l0_0.length l0_0) (hc0_0 : l0_0.length ≤ c0_0) (hr0_2 : Kd.C (Kd.int .i64) w A0_2 l0_2.length l0_2) (hc0_2 : l0_2.length ≤ c0_2) (h : spec_WorkStep.f k l0_0 a0_1 l0_2 = some (r1, r2, r3, r4)) :
    Calls Try.prog 88 #[.agg #[.slice A0_0 l0_0.length c0_0, .int .i64 a0_1, .slice A0_2 l0_2.length c0_2]] w fun e w' => ∃ v0_ v2_ : Value, e = .returned (.tuple #[.agg #[v0_, .int .i64 r2, v2_], .bool r4]) ∧ Kd.R k96 96 w' w.heap.size (fun _ => True) v0_ r1 ∧ Kd.R (Kd.int .i64) 3 w' w.heap.size (fun _ => True) v2_ r3 ∧ Below w.heap.size w w' := by
  have hu33 := Try.underlying33
  have hu96 := Try.underlying96
  have HR0_0 := Aside0.mk hr0_0
  have HC0_0 := Aside0.mk hc0_0
  clear hr0_0 hc0_0
  have HR0_2 := Aside0.mk hr0_2
  have HC0_2 := Aside0.mk hc0_2
  clear hr0_2 hc0_2
  have HB := Aside0.mk (Below.refl w.heap.size w)
  have H : ((spec_l36Copy.f l0_0 a0_1 l0_2).bind fun bt1392 => ((spec_WorkOk.f k l0_0 a0_1 l0_2).bind fun t1400 => (if t1400 = true then (spec_WorkStep.j0 k (a0_1 == (l0_0.length : Int)) l0_0 a0_1 l0_2 bt1392.1 bt1392.2.1 bt1392.2.2) else (spec_WorkStep.j0 k true l0_0 a0_1 l0_2 bt1392.1 bt1392.2.1 bt1392.2.2)))) = some (r1, r2, r3, r4) := h
  clear h
  replace H := Option.bind_eq_some_iff.mp H
  obtain ⟨⟨t1392, t1395, t1396⟩, A20, H⟩ := H
  (try dsimp only at H)
  have A2 := Aside0.mk A20
  clear A20
  have HC3 := Aside0.mk H
  clear H
  go_enter Try.func88, Try.ntmps88
  go_upto_region 2 with (first | ((with_reducible refine gate_dst (N := 1) rfl ?_); (try (refine gate_guard (by rfl) ?_; dsimp only)); refine box_event ?hg (N := 1) ?hd (cs := #[.slice A0_0 l0_0.length c0_0, .int .i64 a0_1, .slice A0_2 l0_2.length c0_2]) (t := 33) ?hr ?_; (case hd => rfl); (case hg => rfl); (case hr => first | (go_simp; done) | (go_simp; rfl)); intro gb1390 hg w4 hbox hb; have n0_ := Aside0.mk (below_step (oB HB) hb); have n1_ := Aside0.mk (hbox); have n2_ := Aside0.mk ((by rw [hg]; exact (below_size (oB HB)) : w.heap.size ≤ gb1390)); have n3_ := Aside0.mk ((by rw [hg]; exact (below_size (oB HB)) : w.heap.size ≤ gb1390)); clear HB; have HB := n0_; have BK1390 := n1_; have GW1390 := n2_; have GE1390 := n3_; clear n0_ n1_ n2_ n3_; clear hb hbox hg) | ((with_reducible refine gate_dst (N := 2) rfl ?_); (try (refine gate_guard (by rfl) ?_; dsimp only)); refine box_event ?hg (N := 2) ?hd (cs := #[.slice none 0 0, .int .i64 0, .slice none 0 0]) (t := 33) ?hr ?_; (case hd => rfl); (case hg => rfl); (case hr => first | (go_simp; done) | (go_simp; rfl)); intro gb1391 hg w5 hbox hb; have n0_ := Aside0.mk (blk_below (g := gb1390) (o := .cells #[.slice A0_0 l0_0.length c0_0, .int .i64 a0_1, .slice A0_2 l0_2.length c0_2] 33 (0, 0)) (oK BK1390) hb); have n1_ := Aside0.mk (below_step (oB HB) hb); have n2_ := Aside0.mk (hbox); have n3_ := Aside0.mk ((by rw [hg]; exact (below_size (oB HB)) : w.heap.size ≤ gb1391)); have n4_ := Aside0.mk ((by rw [hg]; exact (below_size (oB HB)) : w.heap.size ≤ gb1391)); have n5_ := Aside0.mk ((by rw [hg]; exact Nat.ne_of_lt (blk_lt (g := gb1390) (o := .cells #[.slice A0_0 l0_0.length c0_0, .int .i64 a0_1, .slice A0_2 l0_2.length c0_2] 33 (0, 0)) (oK BK1390)) : gb1390 ≠ gb1391)); have n6_ := Aside0.mk ((by rw [hg]; exact Nat.ne_of_gt (blk_lt (g := gb1390) (o := .cells #[.slice A0_0 l0_0.length c0_0, .int .i64 a0_1, .slice A0_2 l0_2.length c0_2] 33 (0, 0)) (oK BK1390)) : gb1391 ≠ gb1390)); clear BK1390; clear HB; have BK1390 := n0_; have HB := n1_; have BK1391 := n2_; have GW1391 := n3_; have GE1391 := n4_; have NB1390_1391 := n5_; have NB1391_1390 := n6_; clear n0_ n1_ n2_ n3_ n4_ n5_ n6_; clear hb hbox hg; have hnb6 := NB1390_1391.out; have hnc6 := NB1391_1390.out; have hcz7_0 : w5.cell? ⟨gb1390, 0, none⟩ = some (.slice A0_0 l0_0.length c0_0) := (blk_cell BK1390.out 0).trans rfl; have hcz7_1 : w5.cell? ⟨gb1390, 1, none⟩ = some (.int .i64 a0_1) := (blk_cell BK1390.out 1).trans rfl; have hcz7_2 : w5.cell? ⟨gb1390, 2, none⟩ = some (.slice A0_2 l0_2.length c0_2) := (blk_cell BK1390.out 2).trans rfl; have hfz7_0 := blk_frozen BK1390.out 0; have hfz7_1 := blk_frozen BK1390.out 1; have hfz7_2 := blk_frozen BK1390.out 2) | ((with_reducible refine gate_callee (f := 118) rfl ?_); refine goesL_ (some 8) rfl rfl Try.func118 (by kernel_rfl) rfl #[.agg #[.slice A0_0 l0_0.length c0_0, .int .i64 a0_1, .slice A0_2 l0_2.length c0_2]] rfl (by (try simp only [List.map_toArray, List.map_cons, List.map_nil]); first | done | rfl | (simp only [List.length_drop, List.length_take]; rfl)) ?_; (with_reducible refine (spec_l36Copy.calls _ _ l0_0 a0_1 _ _ l0_2 t1392 t1395 t1396 _ ?side1 ?side2 ?side3 ?side4 A2.out).mono ?_); (case side1 => exact oc_ HR0_0.out); (case side2 => exact HC0_0.out); (case side3 => exact oc_ HR0_2.out); (case side4 => exact HC0_2.out); rintro e w8 ⟨v1393, v1397, rfl, ho0, ho1, hb⟩; refine ⟨_, rfl, ?_⟩; have n0_ := Aside0.mk (Kd.R_lower ho0 (below_size (oB HB))); have n1_ := Aside0.mk (Kd.R_lower ho1 (below_size (oB HB))); have n2_ := Aside0.mk (blk_below (g := gb1390) (o := .cells #[.slice A0_0 l0_0.length c0_0, .int .i64 a0_1, .slice A0_2 l0_2.length c0_2] 33 (0, 0)) (oK BK1390) hb); have n3_ := Aside0.mk (blk_below (g := gb1391) (o := .cells #[.slice none 0 0, .int .i64 0, .slice none 0 0] 33 (0, 0)) (oK BK1391) hb); have n4_ := Aside0.mk (below_step (oB HB) hb); clear BK1390; clear BK1391; clear HB; have HO1394 := n0_; have HO1398 := n1_; have BK1390 := n2_; have BK1391 := n3_; have HB := n4_; clear n0_ n1_ n2_ n3_ n4_; (try clear hb); (try clear hb2); (try clear hk); (try clear hi); (try clear ho0); (try clear ho1)) | ((with_reducible refine gate_dst (N := 4) rfl ?_); (try (refine gate_guard (by rfl) ?_; dsimp only)); refine box_event ?hg (N := 4) ?hd (cs := #[.slice none 0 0, .int .i64 0, .slice none 0 0]) (t := 33) ?hr ?_; (case hd => rfl); (case hg => rfl); (case hr => first | (go_simp; done) | (go_simp; rfl)); intro gb1399 hg w9 hbox hb; have n0_ := Aside0.mk (Kd.R_below (oR HO1394) hb); have n1_ := Aside0.mk (Kd.R_below (oR HO1398) hb); have n2_ := Aside0.mk (blk_below (g := gb1390) (o := .cells #[.slice A0_0 l0_0.length c0_0, .int .i64 a0_1, .slice A0_2 l0_2.length c0_2] 33 (0, 0)) (oK BK1390) hb); have n3_ := Aside0.mk (blk_below (g := gb1391) (o := .cells #[.slice none 0 0, .int .i64 0, .slice none 0 0] 33 (0, 0)) (oK BK1391) hb); have n4_ := Aside0.mk (below_step (oB HB) hb); have n5_ := Aside0.mk (hbox); have n6_ := Aside0.mk ((by rw [hg]; exact (below_size (oB HB)) : w.heap.size ≤ gb1399)); have n7_ := Aside0.mk ((by rw [hg]; exact (below_size (oB HB)) : w.heap.size ≤ gb1399)); have n8_ := Aside0.mk ((by rw [hg]; exact Nat.ne_of_lt (blk_lt (g := gb1390) (o := .cells #[.slice A0_0 l0_0.length c0_0, .int .i64 a0_1, .slice A0_2 l0_2.length c0_2] 33 (0, 0)) (oK BK1390)) : gb1390 ≠ gb1399)); have n9_ := Aside0.mk ((by rw [hg]; exact Nat.ne_of_gt (blk_lt (g := gb1390) (o := .cells #[.slice A0_0 l0_0.length c0_0, .int .i64 a0_1, .slice A0_2 l0_2.length c0_2] 33 (0, 0)) (oK BK1390)) : gb1399 ≠ gb1390)); have n10_ := Aside0.mk ((by rw [hg]; exact Nat.ne_of_lt (blk_lt (g := gb1391) (o := .cells #[.slice none 0 0, .int .i64 0, .slice none 0 0] 33 (0, 0)) (oK BK1391)) : gb1391 ≠ gb1399)); have n11_ := Aside0.mk ((by rw [hg]; exact Nat.ne_of_gt (blk_lt (g := gb1391) (o := .cells #[.slice none 0 0, .int .i64 0, .slice none 0 0] 33 (0, 0)) (oK BK1391)) : gb1399 ≠ gb1391)); clear HO1394; clear HO1398; clear BK1390; clear BK1391; clear HB; have HO1394 := n0_; have HO1398 := n1_; have BK1390 := n2_; have BK1391 := n3_; have HB := n4_; have BK1399 := n5_; have GW1399 := n6_; have GE1399 := n7_; have NB1390_1399 := n8_; have NB1399_1390 := n9_; have NB1391_1399 := n10_; have NB1399_1391 := n11_; clear n0_ n1_ n2_ n3_ n4_ n5_ n6_ n7_ n8_ n9_ n10_ n11_; clear hb hbox hg; obtain ⟨Ao10, co10, eo10⟩ := Kd.R_slice HO1394.out; subst eo10; have hnb11 := NB1399_1390.out; have hnc11 := NB1390_1399.out; have hnb12 := NB1399_1391.out; have hnc12 := NB1391_1399.out; have hcz13_0 : w9.cell? ⟨gb1399, 0, none⟩ = some (.slice none 0 0) := (blk_cell BK1399.out 0).trans rfl; have hcz13_1 : w9.cell? ⟨gb1399, 1, none⟩ = some (.int .i64 0) := (blk_cell BK1399.out 1).trans rfl; have hcz13_2 : w9.cell? ⟨gb1399, 2, none⟩ = some (.slice none 0 0) := (blk_cell BK1399.out 2).trans rfl; have hfz13_0 := blk_frozen BK1399.out 0; have hfz13_1 := blk_frozen BK1399.out 1; have hfz13_2 := blk_frozen BK1399.out 2; obtain ⟨Ao14, co14, eo14⟩ := Kd.R_slice HO1398.out; subst eo14))
  (try simp only [Act.put, List.setIfInBounds_toArray, List.set_cons_zero, List.set_cons_succ])
  go_cut [19] (fun v19 wc => ∃ (kq : Nat) (x19_2 : Bool), v19 = .bool x19_2 ∧ Aside0 (spec_WorkStep.j0 kq x19_2 l0_0 a0_1 l0_2 t1392 t1395 t1396 = some (r1, r2, r3, r4)) ∧ Aside0 (kq ≤ k) ∧ Aside0 (Kd.R k96 96 wc w.heap.size (fun _ => True) (.slice Ao10 t1392.length co10) t1392) ∧ Aside0 (Kd.R (Kd.int .i64) 3 wc w.heap.size (fun _ => True) (.slice Ao14 t1396.length co14) t1396) ∧ Aside0 (wc.heap[gb1390]? = some (.cells #[(.slice A0_0 l0_0.length c0_0), .int .i64 a0_1, (.slice A0_2 l0_2.length c0_2)] 33 (0, 0))) ∧ Aside0 (wc.heap[gb1391]? = some (.cells #[(.slice none 0 0), .int .i64 0, (.slice none 0 0)] 33 (0, 0))) ∧ Aside0 (wc.heap[gb1399]? = some (.cells #[(.slice Ao10 t1392.length co10), .int .i64 t1395, (.slice Ao14 t1396.length co14)] 33 (0, 0))) ∧ Aside0 (Below w.heap.size w wc))
  case first =>
    have H := HC3.out
    clear HC3
    replace H := Option.bind_eq_some_iff.mp H
    obtain ⟨t1400, A150, H⟩ := H
    (try dsimp only at H)
    have A15 := Aside0.mk A150
    clear A150
    by_cases c16 : t1400 = true
    · subst c16
      rw [if_pos rfl] at H
      have H' := Aside0.mk H
      clear H
      have hnb17 := NB1390_1391.out
      have hnc17 := NB1391_1390.out
      have hnb18 := NB1390_1399.out
      have hnc18 := NB1399_1390.out
      have hcz19_0 : w9.cell? ⟨gb1390, 0, none⟩ = some (.slice A0_0 l0_0.length c0_0) := (blk_cell BK1390.out 0).trans rfl
      have hcz19_1 : w9.cell? ⟨gb1390, 1, none⟩ = some (.int .i64 a0_1) := (blk_cell BK1390.out 1).trans rfl
      have hcz19_2 : w9.cell? ⟨gb1390, 2, none⟩ = some (.slice A0_2 l0_2.length c0_2) := (blk_cell BK1390.out 2).trans rfl
      have hfz19_0 := blk_frozen BK1390.out 0
      have hfz19_1 := blk_frozen BK1390.out 1
      have hfz19_2 := blk_frozen BK1390.out 2
      go_wp2_with (first | ((with_reducible refine gate_callee (f := 60) rfl ?_); refine goesL_ (some 10) rfl rfl Try.func60 (by kernel_rfl) rfl #[.agg #[.slice A0_0 l0_0.length c0_0, .int .i64 a0_1, .slice A0_2 l0_2.length c0_2]] rfl (by (try simp only [List.map_toArray, List.map_cons, List.map_nil]); first | done | rfl | (simp only [List.length_drop, List.length_take]; rfl)) ?_; (with_reducible refine (spec_WorkOk.calls k _ _ l0_0 a0_1 _ _ l0_2 true _ ?side1 ?side2 ?side3 ?side4 A15.out).mono ?_); (case side1 => exact Kd.C_below HR0_0.out (oB HB)); (case side2 => exact HC0_0.out); (case side3 => exact Kd.C_below HR0_2.out (oB HB)); (case side4 => exact HC0_2.out); rintro e w20 ⟨rfl, hb⟩; refine ⟨_, rfl, ?_⟩; have n0_ := Aside0.mk (Kd.R_below (by (with_reducible repeat (first | apply Kd.R_alloc | apply Kd.R_drewN | apply Kd.R_drew)); exact (Kd.R_mono (Kd.R_far (p := ⟨gb1399, 2, none⟩) (Kd.R_far (p := ⟨gb1399, 1, none⟩) (Kd.R_far (p := ⟨gb1399, 0, none⟩) (Kd.R_types HO1394.out BK1399.out (by decide)) (fun _ hk => hk.2) (.slice Ao10 t1392.length co10)) (fun _ hk => hk.2) (.int .i64 t1395)) (fun _ hk => hk.2) (.slice Ao14 t1396.length co14)) (fun _ h_ => h_.1))) hb); have n1_ := Aside0.mk (Kd.R_below (by (with_reducible repeat (first | apply Kd.R_alloc | apply Kd.R_drewN | apply Kd.R_drew)); exact (Kd.R_mono (Kd.R_far (p := ⟨gb1399, 2, none⟩) (Kd.R_far (p := ⟨gb1399, 1, none⟩) (Kd.R_far (p := ⟨gb1399, 0, none⟩) (Kd.R_types HO1398.out BK1399.out (by decide)) (fun _ hk => hk.2) (.slice Ao10 t1392.length co10)) (fun _ hk => hk.2) (.int .i64 t1395)) (fun _ hk => hk.2) (.slice Ao14 t1396.length co14)) (fun _ h_ => h_.1))) hb); have n2_ := Aside0.mk (blk_below (g := gb1390) (o := .cells #[.slice A0_0 l0_0.length c0_0, .int .i64 a0_1, .slice A0_2 l0_2.length c0_2] 33 (0, 0)) (by (with_reducible repeat (first | refine blk_drewN ?_ _ | refine blk_drew ?_ | refine blk_alloc ?_ _)); refine blk_far ?_ NB1390_1399.out _; (with_reducible repeat (first | refine blk_drewN ?_ _ | refine blk_drew ?_ | refine blk_alloc ?_ _)); refine blk_far ?_ NB1390_1399.out _; (with_reducible repeat (first | refine blk_drewN ?_ _ | refine blk_drew ?_ | refine blk_alloc ?_ _)); refine blk_far ?_ NB1390_1399.out _; (with_reducible repeat (first | refine blk_drewN ?_ _ | refine blk_drew ?_ | refine blk_alloc ?_ _)); exact BK1390.out) hb); have n3_ := Aside0.mk (blk_below (g := gb1391) (o := .cells #[.slice none 0 0, .int .i64 0, .slice none 0 0] 33 (0, 0)) (by (with_reducible repeat (first | refine blk_drewN ?_ _ | refine blk_drew ?_ | refine blk_alloc ?_ _)); refine blk_far ?_ NB1391_1399.out _; (with_reducible repeat (first | refine blk_drewN ?_ _ | refine blk_drew ?_ | refine blk_alloc ?_ _)); refine blk_far ?_ NB1391_1399.out _; (with_reducible repeat (first | refine blk_drewN ?_ _ | refine blk_drew ?_ | refine blk_alloc ?_ _)); refine blk_far ?_ NB1391_1399.out _; (with_reducible repeat (first | refine blk_drewN ?_ _ | refine blk_drew ?_ | refine blk_alloc ?_ _)); exact BK1391.out) hb); have n4_ := Aside0.mk (blk_below (g := gb1399) (o := .cells #[.slice Ao10 t1392.length co10, .int .i64 t1395, .slice Ao14 t1396.length co14] 33 (0, 0)) (by (with_reducible repeat (first | refine blk_drewN ?_ _ | refine blk_drew ?_ | refine blk_alloc ?_ _)); refine blk_put (cs := #[.slice Ao10 t1392.length co10, .int .i64 t1395, .slice none 0 0]) ?_ 2 _ rfl; (with_reducible repeat (first | refine blk_drewN ?_ _ | refine blk_drew ?_ | refine blk_alloc ?_ _)); refine blk_put (cs := #[.slice Ao10 t1392.length co10, .int .i64 0, .slice none 0 0]) ?_ 1 _ rfl; (with_reducible repeat (first | refine blk_drewN ?_ _ | refine blk_drew ?_ | refine blk_alloc ?_ _)); refine blk_put (cs := #[.slice none 0 0, .int .i64 0, .slice none 0 0]) ?_ 0 _ rfl; (with_reducible repeat (first | refine blk_drewN ?_ _ | refine blk_drew ?_ | refine blk_alloc ?_ _)); exact BK1399.out) hb); have n5_ := Aside0.mk (below_step (oB HB) hb); clear HO1394; clear HO1398; clear BK1390; clear BK1391; clear BK1399; clear HB; have HO1394 := n0_; have HO1398 := n1_; have BK1390 := n2_; have BK1391 := n3_; have BK1399 := n4_; have HB := n5_; clear n0_ n1_ n2_ n3_ n4_ n5_; (try clear hb); (try clear hb2); (try clear hk); (try clear hi); have hcz21_0 : w20.cell? ⟨gb1390, 0, none⟩ = some (.slice A0_0 l0_0.length c0_0) := (blk_cell BK1390.out 0).trans rfl; have hcz21_1 : w20.cell? ⟨gb1390, 1, none⟩ = some (.int .i64 a0_1) := (blk_cell BK1390.out 1).trans rfl; have hcz21_2 : w20.cell? ⟨gb1390, 2, none⟩ = some (.slice A0_2 l0_2.length c0_2) := (blk_cell BK1390.out 2).trans rfl; have hfz21_0 := blk_frozen BK1390.out 0; have hfz21_1 := blk_frozen BK1390.out 1; have hfz21_2 := blk_frozen BK1390.out 2))
      go_meet
      case rel => exact ⟨_, ((a0_1 == (l0_0.length : Int))), (by first | rfl | (simp; done) | (simp [*]; done)), H', ⟨by first | omega | exact Nat.le_refl _⟩, ⟨oR HO1394⟩, ⟨oR HO1398⟩, ⟨oK BK1390⟩, ⟨oK BK1391⟩, ⟨oK BK1399⟩, ⟨oB HB⟩⟩
    · replace c16 := Bool.eq_false_iff.mpr c16
      subst c16
      rw [if_neg (show ¬ (false = true) by decide)] at H
      have H' := Aside0.mk H
      clear H
      have hnb22 := NB1390_1391.out
      have hnc22 := NB1391_1390.out
      have hnb23 := NB1390_1399.out
      have hnc23 := NB1399_1390.out
      have hcz24_0 : w9.cell? ⟨gb1390, 0, none⟩ = some (.slice A0_0 l0_0.length c0_0) := (blk_cell BK1390.out 0).trans rfl
      have hcz24_1 : w9.cell? ⟨gb1390, 1, none⟩ = some (.int .i64 a0_1) := (blk_cell BK1390.out 1).trans rfl
      have hcz24_2 : w9.cell? ⟨gb1390, 2, none⟩ = some (.slice A0_2 l0_2.length c0_2) := (blk_cell BK1390.out 2).trans rfl
      have hfz24_0 := blk_frozen BK1390.out 0
      have hfz24_1 := blk_frozen BK1390.out 1
      have hfz24_2 := blk_frozen BK1390.out 2
      go_wp2_with (first | ((with_reducible refine gate_callee (f := 60) rfl ?_); refine goesL_ (some 10) rfl rfl Try.func60 (by kernel_rfl) rfl #[.agg #[.slice A0_0 l0_0.length c0_0, .int .i64 a0_1, .slice A0_2 l0_2.length c0_2]] rfl (by (try simp only [List.map_toArray, List.map_cons, List.map_nil]); first | done | rfl | (simp only [List.length_drop, List.length_take]; rfl)) ?_; (with_reducible refine (spec_WorkOk.calls k _ _ l0_0 a0_1 _ _ l0_2 false _ ?side1 ?side2 ?side3 ?side4 A15.out).mono ?_); (case side1 => exact Kd.C_below HR0_0.out (oB HB)); (case side2 => exact HC0_0.out); (case side3 => exact Kd.C_below HR0_2.out (oB HB)); (case side4 => exact HC0_2.out); rintro e w25 ⟨rfl, hb⟩; refine ⟨_, rfl, ?_⟩; have n0_ := Aside0.mk (Kd.R_below (by (with_reducible repeat (first | apply Kd.R_alloc | apply Kd.R_drewN | apply Kd.R_drew)); exact (Kd.R_mono (Kd.R_far (p := ⟨gb1399, 2, none⟩) (Kd.R_far (p := ⟨gb1399, 1, none⟩) (Kd.R_far (p := ⟨gb1399, 0, none⟩) (Kd.R_types HO1394.out BK1399.out (by decide)) (fun _ hk => hk.2) (.slice Ao10 t1392.length co10)) (fun _ hk => hk.2) (.int .i64 t1395)) (fun _ hk => hk.2) (.slice Ao14 t1396.length co14)) (fun _ h_ => h_.1))) hb); have n1_ := Aside0.mk (Kd.R_below (by (with_reducible repeat (first | apply Kd.R_alloc | apply Kd.R_drewN | apply Kd.R_drew)); exact (Kd.R_mono (Kd.R_far (p := ⟨gb1399, 2, none⟩) (Kd.R_far (p := ⟨gb1399, 1, none⟩) (Kd.R_far (p := ⟨gb1399, 0, none⟩) (Kd.R_types HO1398.out BK1399.out (by decide)) (fun _ hk => hk.2) (.slice Ao10 t1392.length co10)) (fun _ hk => hk.2) (.int .i64 t1395)) (fun _ hk => hk.2) (.slice Ao14 t1396.length co14)) (fun _ h_ => h_.1))) hb); have n2_ := Aside0.mk (blk_below (g := gb1390) (o := .cells #[.slice A0_0 l0_0.length c0_0, .int .i64 a0_1, .slice A0_2 l0_2.length c0_2] 33 (0, 0)) (by (with_reducible repeat (first | refine blk_drewN ?_ _ | refine blk_drew ?_ | refine blk_alloc ?_ _)); refine blk_far ?_ NB1390_1399.out _; (with_reducible repeat (first | refine blk_drewN ?_ _ | refine blk_drew ?_ | refine blk_alloc ?_ _)); refine blk_far ?_ NB1390_1399.out _; (with_reducible repeat (first | refine blk_drewN ?_ _ | refine blk_drew ?_ | refine blk_alloc ?_ _)); refine blk_far ?_ NB1390_1399.out _; (with_reducible repeat (first | refine blk_drewN ?_ _ | refine blk_drew ?_ | refine blk_alloc ?_ _)); exact BK1390.out) hb); have n3_ := Aside0.mk (blk_below (g := gb1391) (o := .cells #[.slice none 0 0, .int .i64 0, .slice none 0 0] 33 (0, 0)) (by (with_reducible repeat (first | refine blk_drewN ?_ _ | refine blk_drew ?_ | refine blk_alloc ?_ _)); refine blk_far ?_ NB1391_1399.out _; (with_reducible repeat (first | refine blk_drewN ?_ _ | refine blk_drew ?_ | refine blk_alloc ?_ _)); refine blk_far ?_ NB1391_1399.out _; (with_reducible repeat (first | refine blk_drewN ?_ _ | refine blk_drew ?_ | refine blk_alloc ?_ _)); refine blk_far ?_ NB1391_1399.out _; (with_reducible repeat (first | refine blk_drewN ?_ _ | refine blk_drew ?_ | refine blk_alloc ?_ _)); exact BK1391.out) hb); have n4_ := Aside0.mk (blk_below (g := gb1399) (o := .cells #[.slice Ao10 t1392.length co10, .int .i64 t1395, .slice Ao14 t1396.length co14] 33 (0, 0)) (by (with_reducible repeat (first | refine blk_drewN ?_ _ | refine blk_drew ?_ | refine blk_alloc ?_ _)); refine blk_put (cs := #[.slice Ao10 t1392.length co10, .int .i64 t1395, .slice none 0 0]) ?_ 2 _ rfl; (with_reducible repeat (first | refine blk_drewN ?_ _ | refine blk_drew ?_ | refine blk_alloc ?_ _)); refine blk_put (cs := #[.slice Ao10 t1392.length co10, .int .i64 0, .slice none 0 0]) ?_ 1 _ rfl; (with_reducible repeat (first | refine blk_drewN ?_ _ | refine blk_drew ?_ | refine blk_alloc ?_ _)); refine blk_put (cs := #[.slice none 0 0, .int .i64 0, .slice none 0 0]) ?_ 0 _ rfl; (with_reducible repeat (first | refine blk_drewN ?_ _ | refine blk_drew ?_ | refine blk_alloc ?_ _)); exact BK1399.out) hb); have n5_ := Aside0.mk (below_step (oB HB) hb); clear HO1394; clear HO1398; clear BK1390; clear BK1391; clear BK1399; clear HB; have HO1394 := n0_; have HO1398 := n1_; have BK1390 := n2_; have BK1391 := n3_; have BK1399 := n4_; have HB := n5_; clear n0_ n1_ n2_ n3_ n4_ n5_; (try clear hb); (try clear hb2); (try clear hk); (try clear hi)))
      go_meet
      case rel => exact ⟨_, (true), (by first | rfl | (simp; done) | (simp [*]; done)), H', ⟨by first | omega | exact Nat.le_refl _⟩, ⟨oR HO1394⟩, ⟨oR HO1398⟩, ⟨oK BK1390⟩, ⟨oK BK1391⟩, ⟨oK BK1399⟩, ⟨oB HB⟩⟩
  case rest =>
    clear HC3
    try clear c1
    try clear c2
    try clear p2
    try clear c6
    try clear c8
    try clear c11
    try clear c12
    try clear c16
    try clear c17
    try clear c18
    try clear c22
    try clear c23
    try clear hcz13_0
    try clear hcz13_1
    try clear hcz13_2
    try clear hcz19_0
    try clear hcz19_1
    try clear hcz19_2
    try clear hcz21_0
    try clear hcz21_1
    try clear hcz21_2
    try clear hcz24_0
    try clear hcz24_1
    try clear hcz24_2
    try clear hcz7_0
    try clear hcz7_1
    try clear hcz7_2
    try clear hfz13_0
    try clear hfz13_1
    try clear hfz13_2
    try clear hfz19_0
    try clear hfz19_1
    try clear hfz19_2
    try clear hfz21_0
    try clear hfz21_1
    try clear hfz21_2
    try clear hfz24_0
    try clear hfz24_1
    try clear hfz24_2
    try clear hfz7_0
    try clear hfz7_1
    try clear hfz7_2
    obtain ⟨kq, x19_2, rfl, HA, HJ2, HO_1400000, HO_1400002, BK1390, BK1391, BK1399, HB⟩ := hcut
    cases kq with
    | zero => exact absurd HA.out (by simp [spec_WorkStep.j0])
    | succ kj2 =>
      have H := HA.out
      clear HA
      simp only [spec_WorkStep.j0] at H
      by_cases c26 : x19_2 = true
      · subst c26
        rw [if_pos rfl] at H
        simp only [Option.some.injEq, Prod.mk.injEq] at H
        obtain ⟨rfl, rfl, rfl, rfl⟩ := H
        have hnb27 := NB1399_1390.out
        have hnc27 := NB1390_1399.out
        have hnb28 := NB1399_1391.out
        have hnc28 := NB1391_1399.out
        have hcz29_0 : wc.cell? ⟨gb1399, 0, none⟩ = some (.slice Ao10 t1392.length co10) := (blk_cell BK1399.out 0).trans rfl
        have hcz29_1 : wc.cell? ⟨gb1399, 1, none⟩ = some (.int .i64 t1395) := (blk_cell BK1399.out 1).trans rfl
        have hcz29_2 : wc.cell? ⟨gb1399, 2, none⟩ = some (.slice Ao14 t1396.length co14) := (blk_cell BK1399.out 2).trans rfl
        have hfz29_0 := blk_frozen BK1399.out 0
        have hfz29_1 := blk_frozen BK1399.out 1
        have hfz29_2 := blk_frozen BK1399.out 2
        have hnb30 := NB1391_1390.out
        have hnc30 := NB1390_1391.out
        have hcz31_0 : wc.cell? ⟨gb1391, 0, none⟩ = some (.slice none 0 0) := (blk_cell BK1391.out 0).trans rfl
        have hcz31_1 : wc.cell? ⟨gb1391, 1, none⟩ = some (.int .i64 0) := (blk_cell BK1391.out 1).trans rfl
        have hcz31_2 : wc.cell? ⟨gb1391, 2, none⟩ = some (.slice none 0 0) := (blk_cell BK1391.out 2).trans rfl
        have hfz31_0 := blk_frozen BK1391.out 0
        have hfz31_1 := blk_frozen BK1391.out 1
        have hfz31_2 := blk_frozen BK1391.out 2
        go_wp2
        refine bodyPost_ret (results_ct rfl _ _ gb1391 33 #[.slice Ao10 t1392.length co10, .int .i64 t1395, .slice Ao14 t1396.length co14] (0, 0) _ rfl (by (with_reducible repeat (first | refine blk_drewN ?_ _ | refine blk_drew ?_ | refine blk_alloc ?_ _)); refine blk_put (cs := #[.slice Ao10 t1392.length co10, .int .i64 t1395, .slice none 0 0]) ?_ 2 _ rfl; (with_reducible repeat (first | refine blk_drewN ?_ _ | refine blk_drew ?_ | refine blk_alloc ?_ _)); refine blk_put (cs := #[.slice Ao10 t1392.length co10, .int .i64 0, .slice none 0 0]) ?_ 1 _ rfl; (with_reducible repeat (first | refine blk_drewN ?_ _ | refine blk_drew ?_ | refine blk_alloc ?_ _)); refine blk_put (cs := #[.slice none 0 0, .int .i64 0, .slice none 0 0]) ?_ 0 _ rfl; (with_reducible repeat (first | refine blk_drewN ?_ _ | refine blk_drew ?_ | refine blk_alloc ?_ _)); exact BK1391.out) Try.underlying33 rfl (by kernel_rfl)) rfl ?_
        exact ⟨_, _, by first | rfl | (simp [errW_none, errW_some] <;> rfl) | (simp [*, errW_none, errW_some] <;> rfl), by (with_reducible repeat (first | apply Kd.R_alloc | apply Kd.R_drewN | apply Kd.R_drew)); exact Kd.R_mono (Kd.R_far (p := ⟨gb1391, 2, none⟩) (Kd.R_far (p := ⟨gb1391, 1, none⟩) (Kd.R_far (p := ⟨gb1391, 0, none⟩) (Kd.R_types HO_1400000.out BK1391.out (by decide)) (fun _ hk => hk.2) (.slice Ao10 t1392.length co10)) (fun _ hk => hk.2) (.int .i64 t1395)) (fun _ hk => hk.2) (.slice Ao14 t1396.length co14)) (fun _ hk => trivial), by (with_reducible repeat (first | apply Kd.R_alloc | apply Kd.R_drewN | apply Kd.R_drew)); exact Kd.R_mono (Kd.R_far (p := ⟨gb1391, 2, none⟩) (Kd.R_far (p := ⟨gb1391, 1, none⟩) (Kd.R_far (p := ⟨gb1391, 0, none⟩) (Kd.R_types HO_1400002.out BK1391.out (by decide)) (fun _ hk => hk.2) (.slice Ao10 t1392.length co10)) (fun _ hk => hk.2) (.int .i64 t1395)) (fun _ hk => hk.2) (.slice Ao14 t1396.length co14)) (fun _ hk => trivial), oB HB⟩
      · replace c26 := Bool.eq_false_iff.mpr c26
        subst c26
        rw [if_neg (show ¬ (false = true) by decide)] at H
        by_cases c32 : 0 ≤ a0_1
        · rw [if_pos c32] at H
          have c32b0 : decide (0 ≤ a0_1) = true := decide_eq_true c32
          clear c32
          by_cases c33 : a0_1 < (l0_0.length : Int)
          · rw [if_pos c33] at H
            have c33b0 : decide (a0_1 < (l0_0.length : Int)) = true := decide_eq_true c33
            clear c33
            by_cases c34 : 0 ≤ ((rd_T96 l0_0 a0_1).f0)
            · rw [if_pos c34] at H
              have c34b0 : decide (0 ≤ ((rd_T96 l0_0 a0_1).f0)) = true := decide_eq_true c34
              clear c34
              by_cases c35 : ((rd_T96 l0_0 a0_1).f0) < (l0_2.length : Int)
              · rw [if_pos c35] at H
                have c35b0 : decide (((rd_T96 l0_0 a0_1).f0) < (l0_2.length : Int)) = true := decide_eq_true c35
                clear c35
                replace H := Option.bind_eq_some_iff.mp H
                obtain ⟨t1404, A360, H⟩ := H
                (try dsimp only at H)
                have A36 := Aside0.mk A360
                clear A360
                by_cases c37 : t1404 = 0
                · rw [if_pos c37] at H
                  have c37b0 : (t1404 == 0) = true := beq_iff_eq.mpr c37
                  have c37b1 : (t1404 != 0) = false := bne_eq_false_iff_eq.mpr c37
                  clear c37
                  simp only [Option.some.injEq, Prod.mk.injEq] at H
                  obtain ⟨rfl, rfl, rfl, rfl⟩ := H
                  have hnb38 := NB1390_1391.out
                  have hnc38 := NB1391_1390.out
                  have hnb39 := NB1390_1399.out
                  have hnc39 := NB1399_1390.out
                  have hcz40_0 : wc.cell? ⟨gb1390, 0, none⟩ = some (.slice A0_0 l0_0.length c0_0) := (blk_cell BK1390.out 0).trans rfl
                  have hcz40_1 : wc.cell? ⟨gb1390, 1, none⟩ = some (.int .i64 a0_1) := (blk_cell BK1390.out 1).trans rfl
                  have hcz40_2 : wc.cell? ⟨gb1390, 2, none⟩ = some (.slice A0_2 l0_2.length c0_2) := (blk_cell BK1390.out 2).trans rfl
                  have hfz40_0 := blk_frozen BK1390.out 0
                  have hfz40_1 := blk_frozen BK1390.out 1
                  have hfz40_2 := blk_frozen BK1390.out 2
                  have p1401 : 0 ≤ (a0_1 : Int) := of_decide_eq_true (by first | (with_reducible assumption) | assumption)
                  have q1401 : a0_1 < (l0_0.length : Int) := of_decide_eq_true (by first | (with_reducible assumption) | assumption)
                  obtain ⟨ad1401, e1401, hx1401_0, hx1401_1, hx1401_2, hx1401_3⟩ := at_T96 HR0_0.out a0_1 p1401 q1401
                  cases e1401
                  replace hx1401_0 := (HB.out.cell (World.block_lt_of_cell? w _ hx1401_0)).trans hx1401_0
                  replace hx1401_1 := (HB.out.cell (World.block_lt_of_cell? w _ hx1401_1)).trans hx1401_1
                  replace hx1401_2 := (HB.out.cell (World.block_lt_of_cell? w _ hx1401_2)).trans hx1401_2
                  replace hx1401_3 := (HB.out.cell (World.block_lt_of_cell? w _ hx1401_3)).trans hx1401_3
                  replace p1401 := eq_true p1401
                  replace q1401 := eq_true q1401
                  try go_wp2_with (first | ((with_reducible refine gate_dst (N := 5) rfl ?_); (try (refine gate_guard (by rfl) ?_; dsimp only)); refine box_event ?hg (N := 5) ?hd (cs := #[.int .i64 0, .int .i64 0, .int .i64 0, .int .i64 0]) (t := 96) ?hr ?_; (case hd => rfl); (case hg => rfl); (case hr => first | (go_simp; done) | (go_simp; rfl)); intro gb1402 hg w41 hbox hb; have n0_ := Aside0.mk (Kd.R_below (Kd.R_elderB (oR HO_1400000) gb1402 (Nat.le_of_eq hg.symm)) hb); have n1_ := Aside0.mk (Kd.R_below (oR HO_1400002) hb); have n2_ := Aside0.mk (blk_below (g := gb1390) (o := .cells #[.slice (some ad1401) l0_0.length c0_0, .int .i64 a0_1, .slice A0_2 l0_2.length c0_2] 33 (0, 0)) (oK BK1390) hb); have n3_ := Aside0.mk (blk_below (g := gb1391) (o := .cells #[.slice none 0 0, .int .i64 0, .slice none 0 0] 33 (0, 0)) (oK BK1391) hb); have n4_ := Aside0.mk (blk_below (g := gb1399) (o := .cells #[.slice Ao10 t1392.length co10, .int .i64 t1395, .slice Ao14 t1396.length co14] 33 (0, 0)) (oK BK1399) hb); have n5_ := Aside0.mk (below_step (oB HB) hb); have n6_ := Aside0.mk (hbox); have n7_ := Aside0.mk ((by rw [hg]; exact (below_size (oB HB)) : w.heap.size ≤ gb1402)); have n8_ := Aside0.mk ((by rw [hg]; exact (below_size (oB HB)) : w.heap.size ≤ gb1402)); have n9_ := Aside0.mk ((by rw [hg]; exact Nat.ne_of_lt (blk_lt (g := gb1390) (o := .cells #[.slice (some ad1401) l0_0.length c0_0, .int .i64 a0_1, .slice A0_2 l0_2.length c0_2] 33 (0, 0)) (oK BK1390)) : gb1390 ≠ gb1402)); have n10_ := Aside0.mk ((by rw [hg]; exact Nat.ne_of_gt (blk_lt (g := gb1390) (o := .cells #[.slice (some ad1401) l0_0.length c0_0, .int .i64 a0_1, .slice A0_2 l0_2.length c0_2] 33 (0, 0)) (oK BK1390)) : gb1402 ≠ gb1390)); have n11_ := Aside0.mk ((by rw [hg]; exact Nat.ne_of_lt (blk_lt (g := gb1391) (o := .cells #[.slice none 0 0, .int .i64 0, .slice none 0 0] 33 (0, 0)) (oK BK1391)) : gb1391 ≠ gb1402)); have n12_ := Aside0.mk ((by rw [hg]; exact Nat.ne_of_gt (blk_lt (g := gb1391) (o := .cells #[.slice none 0 0, .int .i64 0, .slice none 0 0] 33 (0, 0)) (oK BK1391)) : gb1402 ≠ gb1391)); have n13_ := Aside0.mk ((by rw [hg]; exact Nat.ne_of_lt (blk_lt (g := gb1399) (o := .cells #[.slice Ao10 t1392.length co10, .int .i64 t1395, .slice Ao14 t1396.length co14] 33 (0, 0)) (oK BK1399)) : gb1399 ≠ gb1402)); have n14_ := Aside0.mk ((by rw [hg]; exact Nat.ne_of_gt (blk_lt (g := gb1399) (o := .cells #[.slice Ao10 t1392.length co10, .int .i64 t1395, .slice Ao14 t1396.length co14] 33 (0, 0)) (oK BK1399)) : gb1402 ≠ gb1399)); clear HO_1400000; clear HO_1400002; clear BK1390; clear BK1391; clear BK1399; clear HB; have HO_1400000 := n0_; have HO_1400002 := n1_; have BK1390 := n2_; have BK1391 := n3_; have BK1399 := n4_; have HB := n5_; have BK1402 := n6_; have GW1402 := n7_; have GE1402 := n8_; have NB1390_1402 := n9_; have NB1402_1390 := n10_; have NB1391_1402 := n11_; have NB1402_1391 := n12_; have NB1399_1402 := n13_; have NB1402_1399 := n14_; clear n0_ n1_ n2_ n3_ n4_ n5_ n6_ n7_ n8_ n9_ n10_ n11_ n12_ n13_ n14_; clear hb hbox hg; have hnb42 := NB1402_1390.out; have hnc42 := NB1390_1402.out; have hnb43 := NB1402_1391.out; have hnc43 := NB1391_1402.out; have hnb44 := NB1402_1399.out; have hnc44 := NB1399_1402.out; have hcz45_0 : w41.cell? ⟨gb1402, 0, none⟩ = some (.int .i64 0) := (blk_cell BK1402.out 0).trans rfl; have hcz45_1 : w41.cell? ⟨gb1402, 1, none⟩ = some (.int .i64 0) := (blk_cell BK1402.out 1).trans rfl; have hcz45_2 : w41.cell? ⟨gb1402, 2, none⟩ = some (.int .i64 0) := (blk_cell BK1402.out 2).trans rfl; have hcz45_3 : w41.cell? ⟨gb1402, 3, none⟩ = some (.int .i64 0) := (blk_cell BK1402.out 3).trans rfl; have hfz45_0 := blk_frozen BK1402.out 0; have hfz45_1 := blk_frozen BK1402.out 1; have hfz45_2 := blk_frozen BK1402.out 2; have hfz45_3 := blk_frozen BK1402.out 3))
                  have n0_ : Aside0 (Kd.R k96 96 ((((w41.setCell ⟨gb1402, 0, none⟩ (.int .i64 ((rd_T96 l0_0 a0_1).f0))).setCell ⟨gb1402, 1, none⟩ (.int .i64 ((rd_T96 l0_0 a0_1).f1))).setCell ⟨gb1402, 2, none⟩ (.int .i64 ((rd_T96 l0_0 a0_1).f2))).setCell ⟨gb1402, 3, none⟩ (.int .i64 ((rd_T96 l0_0 a0_1).f3))) w.heap.size (fun k_ => k_ ≠ gb1402) (.slice Ao10 t1392.length co10) t1392) := ⟨by (with_reducible repeat (first | apply Kd.R_alloc | apply Kd.R_drewN | apply Kd.R_drew)); exact Kd.R_mono (Kd.R_far (p := ⟨gb1402, 3, none⟩) (Kd.R_far (p := ⟨gb1402, 2, none⟩) (Kd.R_far (p := ⟨gb1402, 1, none⟩) (Kd.R_far (p := ⟨gb1402, 0, none⟩) (Kd.R_mono HO_1400000.out (fun k_ hk => (⟨hk, hk.2⟩ : _ ∧ k_ ≠ gb1402))) (fun _ hk => hk.2) (.int .i64 ((rd_T96 l0_0 a0_1).f0))) (fun _ hk => hk.2) (.int .i64 ((rd_T96 l0_0 a0_1).f1))) (fun _ hk => hk.2) (.int .i64 ((rd_T96 l0_0 a0_1).f2))) (fun _ hk => hk.2) (.int .i64 ((rd_T96 l0_0 a0_1).f3))) (fun _ hk => hk.1.2)⟩
                  have n1_ : Aside0 (Kd.R (Kd.int .i64) 3 ((((w41.setCell ⟨gb1402, 0, none⟩ (.int .i64 ((rd_T96 l0_0 a0_1).f0))).setCell ⟨gb1402, 1, none⟩ (.int .i64 ((rd_T96 l0_0 a0_1).f1))).setCell ⟨gb1402, 2, none⟩ (.int .i64 ((rd_T96 l0_0 a0_1).f2))).setCell ⟨gb1402, 3, none⟩ (.int .i64 ((rd_T96 l0_0 a0_1).f3))) w.heap.size (fun _ => True) (.slice Ao14 t1396.length co14) t1396) := ⟨by (with_reducible repeat (first | apply Kd.R_alloc | apply Kd.R_drewN | apply Kd.R_drew)); exact Kd.R_mono (Kd.R_far (p := ⟨gb1402, 3, none⟩) (Kd.R_far (p := ⟨gb1402, 2, none⟩) (Kd.R_far (p := ⟨gb1402, 1, none⟩) (Kd.R_far (p := ⟨gb1402, 0, none⟩) (Kd.R_types HO_1400002.out BK1402.out (by decide)) (fun _ hk => hk.2) (.int .i64 ((rd_T96 l0_0 a0_1).f0))) (fun _ hk => hk.2) (.int .i64 ((rd_T96 l0_0 a0_1).f1))) (fun _ hk => hk.2) (.int .i64 ((rd_T96 l0_0 a0_1).f2))) (fun _ hk => hk.2) (.int .i64 ((rd_T96 l0_0 a0_1).f3))) (fun _ hk => trivial)⟩
                  have n2_ : Aside0 (((((w41.setCell ⟨gb1402, 0, none⟩ (.int .i64 ((rd_T96 l0_0 a0_1).f0))).setCell ⟨gb1402, 1, none⟩ (.int .i64 ((rd_T96 l0_0 a0_1).f1))).setCell ⟨gb1402, 2, none⟩ (.int .i64 ((rd_T96 l0_0 a0_1).f2))).setCell ⟨gb1402, 3, none⟩ (.int .i64 ((rd_T96 l0_0 a0_1).f3))).heap[gb1390]? = some (.cells #[.slice (some ad1401) l0_0.length c0_0, .int .i64 a0_1, .slice A0_2 l0_2.length c0_2] 33 (0, 0))) := ⟨by (with_reducible repeat (first | refine blk_drewN ?_ _ | refine blk_drew ?_ | refine blk_alloc ?_ _)); refine blk_far ?_ NB1390_1402.out _; (with_reducible repeat (first | refine blk_drewN ?_ _ | refine blk_drew ?_ | refine blk_alloc ?_ _)); refine blk_far ?_ NB1390_1402.out _; (with_reducible repeat (first | refine blk_drewN ?_ _ | refine blk_drew ?_ | refine blk_alloc ?_ _)); refine blk_far ?_ NB1390_1402.out _; (with_reducible repeat (first | refine blk_drewN ?_ _ | refine blk_drew ?_ | refine blk_alloc ?_ _)); refine blk_far ?_ NB1390_1402.out _; (with_reducible repeat (first | refine blk_drewN ?_ _ | refine blk_drew ?_ | refine blk_alloc ?_ _)); exact BK1390.out⟩
                  have n3_ : Aside0 (((((w41.setCell ⟨gb1402, 0, none⟩ (.int .i64 ((rd_T96 l0_0 a0_1).f0))).setCell ⟨gb1402, 1, none⟩ (.int .i64 ((rd_T96 l0_0 a0_1).f1))).setCell ⟨gb1402, 2, none⟩ (.int .i64 ((rd_T96 l0_0 a0_1).f2))).setCell ⟨gb1402, 3, none⟩ (.int .i64 ((rd_T96 l0_0 a0_1).f3))).heap[gb1391]? = some (.cells #[.slice none 0 0, .int .i64 0, .slice none 0 0] 33 (0, 0))) := ⟨by (with_reducible repeat (first | refine blk_drewN ?_ _ | refine blk_drew ?_ | refine blk_alloc ?_ _)); refine blk_far ?_ NB1391_1402.out _; (with_reducible repeat (first | refine blk_drewN ?_ _ | refine blk_drew ?_ | refine blk_alloc ?_ _)); refine blk_far ?_ NB1391_1402.out _; (with_reducible repeat (first | refine blk_drewN ?_ _ | refine blk_drew ?_ | refine blk_alloc ?_ _)); refine blk_far ?_ NB1391_1402.out _; (with_reducible repeat (first | refine blk_drewN ?_ _ | refine blk_drew ?_ | refine blk_alloc ?_ _)); refine blk_far ?_ NB1391_1402.out _; (with_reducible repeat (first | refine blk_drewN ?_ _ | refine blk_drew ?_ | refine blk_alloc ?_ _)); exact BK1391.out⟩
                  have n4_ : Aside0 (((((w41.setCell ⟨gb1402, 0, none⟩ (.int .i64 ((rd_T96 l0_0 a0_1).f0))).setCell ⟨gb1402, 1, none⟩ (.int .i64 ((rd_T96 l0_0 a0_1).f1))).setCell ⟨gb1402, 2, none⟩ (.int .i64 ((rd_T96 l0_0 a0_1).f2))).setCell ⟨gb1402, 3, none⟩ (.int .i64 ((rd_T96 l0_0 a0_1).f3))).heap[gb1399]? = some (.cells #[.slice Ao10 t1392.length co10, .int .i64 t1395, .slice Ao14 t1396.length co14] 33 (0, 0))) := ⟨by (with_reducible repeat (first | refine blk_drewN ?_ _ | refine blk_drew ?_ | refine blk_alloc ?_ _)); refine blk_far ?_ NB1399_1402.out _; (with_reducible repeat (first | refine blk_drewN ?_ _ | refine blk_drew ?_ | refine blk_alloc ?_ _)); refine blk_far ?_ NB1399_1402.out _; (with_reducible repeat (first | refine blk_drewN ?_ _ | refine blk_drew ?_ | refine blk_alloc ?_ _)); refine blk_far ?_ NB1399_1402.out _; (with_reducible repeat (first | refine blk_drewN ?_ _ | refine blk_drew ?_ | refine blk_alloc ?_ _)); refine blk_far ?_ NB1399_1402.out _; (with_reducible repeat (first | refine blk_drewN ?_ _ | refine blk_drew ?_ | refine blk_alloc ?_ _)); exact BK1399.out⟩
                  have n5_ : Aside0 (((((w41.setCell ⟨gb1402, 0, none⟩ (.int .i64 ((rd_T96 l0_0 a0_1).f0))).setCell ⟨gb1402, 1, none⟩ (.int .i64 ((rd_T96 l0_0 a0_1).f1))).setCell ⟨gb1402, 2, none⟩ (.int .i64 ((rd_T96 l0_0 a0_1).f2))).setCell ⟨gb1402, 3, none⟩ (.int .i64 ((rd_T96 l0_0 a0_1).f3))).heap[gb1402]? = some (.cells #[.int .i64 ((rd_T96 l0_0 a0_1).f0), .int .i64 ((rd_T96 l0_0 a0_1).f1), .int .i64 ((rd_T96 l0_0 a0_1).f2), .int .i64 ((rd_T96 l0_0 a0_1).f3)] 96 (0, 0))) := ⟨by (with_reducible repeat (first | refine blk_drewN ?_ _ | refine blk_drew ?_ | refine blk_alloc ?_ _)); refine blk_put (cs := #[.int .i64 ((rd_T96 l0_0 a0_1).f0), .int .i64 ((rd_T96 l0_0 a0_1).f1), .int .i64 ((rd_T96 l0_0 a0_1).f2), .int .i64 0]) ?_ 3 _ rfl; (with_reducible repeat (first | refine blk_drewN ?_ _ | refine blk_drew ?_ | refine blk_alloc ?_ _)); refine blk_put (cs := #[.int .i64 ((rd_T96 l0_0 a0_1).f0), .int .i64 ((rd_T96 l0_0 a0_1).f1), .int .i64 0, .int .i64 0]) ?_ 2 _ rfl; (with_reducible repeat (first | refine blk_drewN ?_ _ | refine blk_drew ?_ | refine blk_alloc ?_ _)); refine blk_put (cs := #[.int .i64 ((rd_T96 l0_0 a0_1).f0), .int .i64 0, .int .i64 0, .int .i64 0]) ?_ 1 _ rfl; (with_reducible repeat (first | refine blk_drewN ?_ _ | refine blk_drew ?_ | refine blk_alloc ?_ _)); refine blk_put (cs := #[.int .i64 0, .int .i64 0, .int .i64 0, .int .i64 0]) ?_ 0 _ rfl; (with_reducible repeat (first | refine blk_drewN ?_ _ | refine blk_drew ?_ | refine blk_alloc ?_ _)); exact BK1402.out⟩
                  have n6_ : Aside0 (Below w.heap.size w ((((w41.setCell ⟨gb1402, 0, none⟩ (.int .i64 ((rd_T96 l0_0 a0_1).f0))).setCell ⟨gb1402, 1, none⟩ (.int .i64 ((rd_T96 l0_0 a0_1).f1))).setCell ⟨gb1402, 2, none⟩ (.int .i64 ((rd_T96 l0_0 a0_1).f2))).setCell ⟨gb1402, 3, none⟩ (.int .i64 ((rd_T96 l0_0 a0_1).f3)))) := ⟨oB HB⟩
                  (try clear HO_1400000)
                  (try clear HO_1400002)
                  (try clear BK1390)
                  (try clear BK1391)
                  (try clear BK1399)
                  (try clear BK1402)
                  (try clear HB)
                  generalize ((((w41.setCell ⟨gb1402, 0, none⟩ (.int .i64 ((rd_T96 l0_0 a0_1).f0))).setCell ⟨gb1402, 1, none⟩ (.int .i64 ((rd_T96 l0_0 a0_1).f1))).setCell ⟨gb1402, 2, none⟩ (.int .i64 ((rd_T96 l0_0 a0_1).f2))).setCell ⟨gb1402, 3, none⟩ (.int .i64 ((rd_T96 l0_0 a0_1).f3))) = w46 at n0_ n1_ n2_ n3_ n4_ n5_ n6_ ⊢
                  have HO_1400000 := n0_
                  have HO_1400002 := n1_
                  have BK1390 := n2_
                  have BK1391 := n3_
                  have BK1399 := n4_
                  have BK1402 := n5_
                  have HB := n6_
                  clear n0_ n1_ n2_ n3_ n4_ n5_ n6_
                  have n0_ := Aside0.mk (Kd.R_drew HO_1400000.out)
                  have n1_ := Aside0.mk (Kd.R_drew HO_1400002.out)
                  have n2_ := Aside0.mk (blk_drew BK1390.out)
                  have n3_ := Aside0.mk (blk_drew BK1391.out)
                  have n4_ := Aside0.mk (blk_drew BK1399.out)
                  have n5_ := Aside0.mk (blk_drew BK1402.out)
                  have n6_ := Aside0.mk (below_drew1 HB.out)
                  clear HO_1400000
                  clear HO_1400002
                  clear BK1390
                  clear BK1391
                  clear BK1399
                  clear BK1402
                  clear HB
                  have HO_1400000 := n0_
                  have HO_1400002 := n1_
                  have BK1390 := n2_
                  have BK1391 := n3_
                  have BK1399 := n4_
                  have BK1402 := n5_
                  have HB := n6_
                  clear n0_ n1_ n2_ n3_ n4_ n5_ n6_
                  have p1403 : 0 ≤ (((rd_T96 l0_0 a0_1).f0) : Int) := of_decide_eq_true (by first | (with_reducible assumption) | assumption)
                  have q1403 : ((rd_T96 l0_0 a0_1).f0) < (l0_2.length : Int) := of_decide_eq_true (by first | (with_reducible assumption) | assumption)
                  obtain ⟨ad1403, e1403, hx1403_0⟩ := Kd.at_int HR0_2.out ((rd_T96 l0_0 a0_1).f0) p1403 q1403
                  have hw1403_0 := hx1403_0
                  cases e1403
                  replace hx1403_0 := (HB.out.cell (World.block_lt_of_cell? w _ hx1403_0)).trans hx1403_0
                  replace p1403 := eq_true p1403
                  replace q1403 := eq_true q1403
                  refine start_ (n := 12) (S := fun w' => w'.cell? ⟨gb1390, 0, none⟩ = some (.slice (some ad1401) l0_0.length c0_0) ∧ w'.cell? ⟨gb1390, 1, none⟩ = some (.int .i64 a0_1) ∧ w'.cell? ⟨gb1390, 2, none⟩ = some (.slice (some ad1403) l0_2.length c0_2) ∧ w'.cell? ⟨gb1402, 0, none⟩ = some (.int .i64 ((rd_T96 l0_0 a0_1).f0)) ∧ w'.cell? ⟨gb1402, 1, none⟩ = some (.int .i64 ((rd_T96 l0_0 a0_1).f1)) ∧ w'.cell? ⟨gb1402, 2, none⟩ = some (.int .i64 ((rd_T96 l0_0 a0_1).f2)) ∧ w'.cell? ⟨gb1402, 3, none⟩ = some (.int .i64 ((rd_T96 l0_0 a0_1).f3)) ∧ w'.cell? (ad1403.add (((rd_T96 l0_0 a0_1).f0)).toNat) = some (.int .i64 (rd l0_2 ((rd_T96 l0_0 a0_1).f0)))) (ds := []) #[false, false, false, false, false, false, false, false, false, false, false, false] (by kernel_rfl) rfl rfl ⟨(blk_cell BK1390.out 0).trans rfl, (blk_cell BK1390.out 1).trans rfl, (blk_cell BK1390.out 2).trans rfl, (blk_cell BK1402.out 0).trans rfl, (blk_cell BK1402.out 1).trans rfl, (blk_cell BK1402.out 2).trans rfl, (blk_cell BK1402.out 3).trans rfl, ((HB.out.cell (World.block_lt_of_cell? w _ hw1403_0)).trans hw1403_0)⟩ (fun hHeld => ?_); refine with_tabW spec_WorkStep.tab5 spec_WorkStep.bits5 (fun HT_ HW_ => ?_)
                  generalize w46.drew = w47 at HO_1400000 HO_1400002 BK1390 BK1391 BK1399 BK1402 HB hx1403_0 hHeld ⊢
                  refine pure_ (i := 0) (N := some 27) (v := ?_) (a' := ?_) #[true, false, false, false, false, false, false, false, false, false, false, false] rfl rfl (any_of HT_.out (by kernel_rfl)) (fun _ _ _ h => h) (Or.inl ⟨by rfl, ?_⟩) ?_ ?_
                  rotate_left
                  · intro w'
                    go_simp
                    with_reducible rfl
                  rotate_left
                  · simp only [Act.put, List.setIfInBounds_toArray, List.set_cons_zero, List.set_cons_succ, i64_w, i32_w]
                    rfl
                  refine pure_ (i := 2) (N := some 29) (v := ?_) (a' := ?_) #[true, false, true, false, false, false, false, false, false, false, false, false] rfl rfl (any_of HT_.out (by kernel_rfl)) (fun _ _ _ h => h) (Or.inl ⟨by rfl, ?_⟩) ?_ ?_
                  rotate_left
                  · intro w'
                    go_simp
                    with_reducible rfl
                  rotate_left
                  · simp only [Act.put, List.setIfInBounds_toArray, List.set_cons_zero, List.set_cons_succ, i64_w, i32_w]
                    rfl
                  refine pure_ (i := 6) (N := some 33) (v := ?_) (a' := ?_) #[true, false, true, false, false, false, true, false, false, false, false, false] rfl rfl (any_of HT_.out (by kernel_rfl)) (fun _ _ _ h => h) (Or.inl ⟨by rfl, ?_⟩) ?_ ?_
                  rotate_left
                  · intro w'
                    go_simp
                    with_reducible rfl
                  rotate_left
                  · simp only [Act.put, List.setIfInBounds_toArray, List.set_cons_zero, List.set_cons_succ, i64_w, i32_w]
                    rfl
                  refine pure_ (i := 8) (N := some 35) (v := ?_) (a' := ?_) #[true, false, true, false, false, false, true, false, true, false, false, false] rfl rfl (any_of HT_.out (by kernel_rfl)) (fun _ _ _ h => h) (Or.inl ⟨by rfl, ?_⟩) ?_ ?_
                  rotate_left
                  · intro w'
                    go_simp
                    with_reducible rfl
                  rotate_left
                  · simp only [Act.put, List.setIfInBounds_toArray, List.set_cons_zero, List.set_cons_succ, i64_w, i32_w]
                    rfl
                  refine take_ (i := 1) (N := some 28) (v := ?_) (a' := ?_) #[true, true, true, false, false, false, true, false, true, false, false, false] rfl rfl (take_ofW HT_.out HW_.out (by kernel_rfl)) (fun _ _ _ h => h) (Or.inl ⟨by rfl, ?_⟩) hHeld ?_ ?_
                  rotate_left
                  · rintro w' ⟨s0, s1, s2, s3, s4, s5, s6, s7⟩
                    go_simp
                    with_reducible rfl
                  rotate_left
                  · simp only [Act.put, List.setIfInBounds_toArray, List.set_cons_zero, List.set_cons_succ, i64_w, i32_w]
                    rfl
                  refine take_ (i := 3) (N := some 30) (v := ?_) (a' := ?_) #[true, true, true, true, false, false, true, false, true, false, false, false] rfl rfl (take_ofW HT_.out HW_.out (by kernel_rfl)) (fun _ _ _ h => h) (Or.inl ⟨by rfl, ?_⟩) hHeld ?_ ?_
                  rotate_left
                  · rintro w' ⟨s0, s1, s2, s3, s4, s5, s6, s7⟩
                    go_simp
                    with_reducible rfl
                  rotate_left
                  · simp only [Act.put, List.setIfInBounds_toArray, List.set_cons_zero, List.set_cons_succ, i64_w, i32_w]
                    rfl
                  refine pure_ (i := 4) (N := some 31) (v := ?_) (a' := ?_) #[true, true, true, true, true, false, true, false, true, false, false, false] rfl rfl (any_of HT_.out (by kernel_rfl)) (fun _ _ _ h => h) (Or.inl ⟨by rfl, ?_⟩) ?_ ?_
                  rotate_left
                  · intro w'
                    go_simp
                    with_reducible rfl
                  rotate_left
                  · simp only [Act.put, List.setIfInBounds_toArray, List.set_cons_zero, List.set_cons_succ, i64_w, i32_w]
                    rfl
                  refine take_ (i := 5) (N := some 32) (v := ?_) (a' := ?_) #[true, true, true, true, true, true, true, false, true, false, false, false] rfl rfl (take_ofW HT_.out HW_.out (by kernel_rfl)) (fun _ _ _ h => h) (Or.inl ⟨by rfl, ?_⟩) hHeld ?_ ?_
                  rotate_left
                  · rintro w' ⟨s0, s1, s2, s3, s4, s5, s6, s7⟩
                    go_simp
                    with_reducible rfl
                  rotate_left
                  · simp only [Act.put, List.setIfInBounds_toArray, List.set_cons_zero, List.set_cons_succ, i64_w, i32_w]
                    rfl
                  refine take_ (i := 7) (N := some 34) (v := ?_) (a' := ?_) #[true, true, true, true, true, true, true, true, true, false, false, false] rfl rfl (take_ofW HT_.out HW_.out (by kernel_rfl)) (fun _ _ _ h => h) (Or.inl ⟨by rfl, ?_⟩) hHeld ?_ ?_
                  rotate_left
                  · rintro w' ⟨s0, s1, s2, s3, s4, s5, s6, s7⟩
                    go_simp
                    with_reducible rfl
                  rotate_left
                  · simp only [Act.put, List.setIfInBounds_toArray, List.set_cons_zero, List.set_cons_succ, i64_w, i32_w]
                    rfl
                  refine take_ (i := 9) (N := some 36) (v := ?_) (a' := ?_) #[true, true, true, true, true, true, true, true, true, true, false, false] rfl rfl (take_ofW HT_.out HW_.out (by kernel_rfl)) (fun _ _ _ h => h) (Or.inl ⟨by rfl, ?_⟩) hHeld ?_ ?_
                  rotate_left
                  · rintro w' ⟨s0, s1, s2, s3, s4, s5, s6, s7⟩
                    go_simp
                    with_reducible rfl
                  rotate_left
                  · simp only [Act.put, List.setIfInBounds_toArray, List.set_cons_zero, List.set_cons_succ, i64_w, i32_w]
                    rfl
                  refine one_ (i := 10) (N := some 37) #[true, true, true, true, true, true, true, true, true, true, true, false] rfl rfl (one_of HT_.out (by kernel_rfl)) (by decide) (fun K hK => ?_)
                  refine goes_ Try.func116 (by kernel_rfl) rfl #[.int .i64 (rd l0_2 ((rd_T96 l0_0 a0_1).f0)), .int .i64 ((rd_T96 l0_0 a0_1).f2), .int .i64 ((rd_T96 l0_0 a0_1).f3)] (by rfl) rfl rfl (by (try simp only [List.map_toArray, List.map_cons, List.map_nil]); first | done | rfl | (simp only [List.length_drop, List.length_take]; rfl)) ?_
                  with_reducible refine (spec_TunedPitch.calls kj2 (rd l0_2 ((rd_T96 l0_0 a0_1).f0)) ((rd_T96 l0_0 a0_1).f2) ((rd_T96 l0_0 a0_1).f3) t1404 _ A36.out).mono ?_
                  rintro e w48 ⟨rfl, hb⟩
                  refine ⟨_, rfl, ?_⟩
                  have n0_ := Aside0.mk (Kd.R_below (oR HO_1400000) hb)
                  have n1_ := Aside0.mk (Kd.R_below (oR HO_1400002) hb)
                  have n2_ := Aside0.mk (blk_below (g := gb1390) (o := .cells #[.slice (some ad1401) l0_0.length c0_0, .int .i64 a0_1, .slice (some ad1403) l0_2.length c0_2] 33 (0, 0)) (oK BK1390) hb)
                  have n3_ := Aside0.mk (blk_below (g := gb1391) (o := .cells #[.slice none 0 0, .int .i64 0, .slice none 0 0] 33 (0, 0)) (oK BK1391) hb)
                  have n4_ := Aside0.mk (blk_below (g := gb1399) (o := .cells #[.slice Ao10 t1392.length co10, .int .i64 t1395, .slice Ao14 t1396.length co14] 33 (0, 0)) (oK BK1399) hb)
                  have n5_ := Aside0.mk (blk_below (g := gb1402) (o := .cells #[.int .i64 ((rd_T96 l0_0 a0_1).f0), .int .i64 ((rd_T96 l0_0 a0_1).f1), .int .i64 ((rd_T96 l0_0 a0_1).f2), .int .i64 ((rd_T96 l0_0 a0_1).f3)] 96 (0, 0)) (oK BK1402) hb)
                  have n6_ := Aside0.mk (below_step (oB HB) hb)
                  clear HO_1400000
                  clear HO_1400002
                  clear BK1390
                  clear BK1391
                  clear BK1399
                  clear BK1402
                  clear HB
                  have HO_1400000 := n0_
                  have HO_1400002 := n1_
                  have BK1390 := n2_
                  have BK1391 := n3_
                  have BK1399 := n4_
                  have BK1402 := n5_
                  have HB := n6_
                  clear n0_ n1_ n2_ n3_ n4_ n5_ n6_
                  (try clear hb)
                  (try clear hb2)
                  (try clear hk)
                  (try clear hi)
                  refine hK.out _ _ ⟨(blk_cell BK1390.out 0).trans rfl, (blk_cell BK1390.out 1).trans rfl, (blk_cell BK1390.out 2).trans rfl, (blk_cell BK1402.out 0).trans rfl, (blk_cell BK1402.out 1).trans rfl, (blk_cell BK1402.out 2).trans rfl, (blk_cell BK1402.out 3).trans rfl, ((HB.out.cell (World.block_lt_of_cell? w _ hw1403_0)).trans hw1403_0)⟩ (fun hHeld => ?_)
                  clear hK K
                  refine norm_ (a' := ?_) ?_ ?_
                  rotate_left
                  · show Act.put _ (some 37) _ = _
                    simp only [Act.put, List.setIfInBounds_toArray, List.set_cons_zero, List.set_cons_succ, i64_w, i32_w]
                    rfl
                  refine pure_ (i := 11) (N := some 6) (v := ?_) (a' := ?_) #[true, true, true, true, true, true, true, true, true, true, true, true] rfl rfl (any_of HT_.out (by kernel_rfl)) (fun _ _ _ h => h) (Or.inl ⟨by rfl, ?_⟩) ?_ ?_
                  rotate_left
                  · intro w'
                    go_simp
                    with_reducible rfl
                  rotate_left
                  · simp only [Act.put, List.setIfInBounds_toArray, List.set_cons_zero, List.set_cons_succ, i64_w, i32_w]
                    rfl
                  refine done_ (done_of HT_.out (by kernel_rfl)) ?_
                  have hnb49 := NB1399_1391.out
                  have hnc49 := NB1391_1399.out
                  have hcz50_0 : w48.cell? ⟨gb1399, 0, none⟩ = some (.slice Ao10 t1392.length co10) := (blk_cell BK1399.out 0).trans rfl
                  have hcz50_1 : w48.cell? ⟨gb1399, 1, none⟩ = some (.int .i64 t1395) := (blk_cell BK1399.out 1).trans rfl
                  have hcz50_2 : w48.cell? ⟨gb1399, 2, none⟩ = some (.slice Ao14 t1396.length co14) := (blk_cell BK1399.out 2).trans rfl
                  have hfz50_0 := blk_frozen BK1399.out 0
                  have hfz50_1 := blk_frozen BK1399.out 1
                  have hfz50_2 := blk_frozen BK1399.out 2
                  have hcz51_0 : w48.cell? ⟨gb1391, 0, none⟩ = some (.slice none 0 0) := (blk_cell BK1391.out 0).trans rfl
                  have hcz51_1 : w48.cell? ⟨gb1391, 1, none⟩ = some (.int .i64 0) := (blk_cell BK1391.out 1).trans rfl
                  have hcz51_2 : w48.cell? ⟨gb1391, 2, none⟩ = some (.slice none 0 0) := (blk_cell BK1391.out 2).trans rfl
                  have hfz51_0 := blk_frozen BK1391.out 0
                  have hfz51_1 := blk_frozen BK1391.out 1
                  have hfz51_2 := blk_frozen BK1391.out 2
                  try go_wp2
                  refine bodyPost_ret (results_ct rfl _ _ gb1391 33 #[.slice Ao10 t1392.length co10, .int .i64 t1395, .slice Ao14 t1396.length co14] (0, 0) _ rfl (by (with_reducible repeat (first | refine blk_drewN ?_ _ | refine blk_drew ?_ | refine blk_alloc ?_ _)); refine blk_put (cs := #[.slice Ao10 t1392.length co10, .int .i64 t1395, .slice none 0 0]) ?_ 2 _ rfl; (with_reducible repeat (first | refine blk_drewN ?_ _ | refine blk_drew ?_ | refine blk_alloc ?_ _)); refine blk_put (cs := #[.slice Ao10 t1392.length co10, .int .i64 0, .slice none 0 0]) ?_ 1 _ rfl; (with_reducible repeat (first | refine blk_drewN ?_ _ | refine blk_drew ?_ | refine blk_alloc ?_ _)); refine blk_put (cs := #[.slice none 0 0, .int .i64 0, .slice none 0 0]) ?_ 0 _ rfl; (with_reducible repeat (first | refine blk_drewN ?_ _ | refine blk_drew ?_ | refine blk_alloc ?_ _)); exact BK1391.out) Try.underlying33 rfl (by kernel_rfl)) rfl ?_
                  exact ⟨_, _, by first | rfl | (simp [errW_none, errW_some] <;> rfl) | (simp [*, errW_none, errW_some] <;> rfl), by (with_reducible repeat (first | apply Kd.R_alloc | apply Kd.R_drewN | apply Kd.R_drew)); exact Kd.R_mono (Kd.R_far (p := ⟨gb1391, 2, none⟩) (Kd.R_far (p := ⟨gb1391, 1, none⟩) (Kd.R_far (p := ⟨gb1391, 0, none⟩) (Kd.R_types HO_1400000.out BK1391.out (by decide)) (fun _ hk => hk.2) (.slice Ao10 t1392.length co10)) (fun _ hk => hk.2) (.int .i64 t1395)) (fun _ hk => hk.2) (.slice Ao14 t1396.length co14)) (fun _ hk => trivial), by (with_reducible repeat (first | apply Kd.R_alloc | apply Kd.R_drewN | apply Kd.R_drew)); exact Kd.R_mono (Kd.R_far (p := ⟨gb1391, 2, none⟩) (Kd.R_far (p := ⟨gb1391, 1, none⟩) (Kd.R_far (p := ⟨gb1391, 0, none⟩) (Kd.R_types HO_1400002.out BK1391.out (by decide)) (fun _ hk => hk.2) (.slice Ao10 t1392.length co10)) (fun _ hk => hk.2) (.int .i64 t1395)) (fun _ hk => hk.2) (.slice Ao14 t1396.length co14)) (fun _ hk => trivial), oB HB⟩
                · rw [if_neg c37] at H
                  have c37b0 : (t1404 == 0) = false := beq_eq_false_iff_ne.mpr c37
                  have c37b1 : (t1404 != 0) = true := bne_iff_ne.mpr c37
                  by_cases c52 : 0 ≤ ((rd_T96 l0_0 a0_1).f1)
                  · rw [if_pos c52] at H
                    have c52b0 : decide (0 ≤ ((rd_T96 l0_0 a0_1).f1)) = true := decide_eq_true c52
                    clear c52
                    by_cases c53 : ((rd_T96 l0_0 a0_1).f1) < (t1396.length : Int)
                    · rw [if_pos c53] at H
                      have c53b0 : decide (((rd_T96 l0_0 a0_1).f1) < (t1396.length : Int)) = true := decide_eq_true c53
                      clear c53
                      obtain ⟨y1405, hy1405⟩ : ∃ y_ : List Int, y_ = (t1396.set (((rd_T96 l0_0 a0_1).f1) : Int).toNat t1404) := ⟨_, rfl⟩
                      replace H : (some (t1392, wrap64 (a0_1 + 1), y1405, true)) = some (r1, r2, r3, r4) := by first | (rw [hy1405]; with_reducible exact H) | (have H2_ := (Option.bind_some _ _).symm.trans H; rw [hy1405]; with_reducible exact H2_) | (have H2_ := (Option.bind_some _ _).symm.trans H; with_reducible exact H2_) | with_reducible exact H | (rw [hy1405]; exact H) | exact H
                      have Ny1405 := Aside0.mk hy1405
                      clear hy1405
                      simp only [Option.some.injEq, Prod.mk.injEq] at H
                      obtain ⟨rfl, rfl, rfl, rfl⟩ := H
                      have hnb55 := NB1390_1391.out
                      have hnc55 := NB1391_1390.out
                      have hnb56 := NB1390_1399.out
                      have hnc56 := NB1399_1390.out
                      have hcz57_0 : wc.cell? ⟨gb1390, 0, none⟩ = some (.slice A0_0 l0_0.length c0_0) := (blk_cell BK1390.out 0).trans rfl
                      have hcz57_1 : wc.cell? ⟨gb1390, 1, none⟩ = some (.int .i64 a0_1) := (blk_cell BK1390.out 1).trans rfl
                      have hcz57_2 : wc.cell? ⟨gb1390, 2, none⟩ = some (.slice A0_2 l0_2.length c0_2) := (blk_cell BK1390.out 2).trans rfl
                      have hfz57_0 := blk_frozen BK1390.out 0
                      have hfz57_1 := blk_frozen BK1390.out 1
                      have hfz57_2 := blk_frozen BK1390.out 2
                      have p1401 : 0 ≤ (a0_1 : Int) := of_decide_eq_true (by first | (with_reducible assumption) | assumption)
                      have q1401 : a0_1 < (l0_0.length : Int) := of_decide_eq_true (by first | (with_reducible assumption) | assumption)
                      obtain ⟨ad1401, e1401, hx1401_0, hx1401_1, hx1401_2, hx1401_3⟩ := at_T96 HR0_0.out a0_1 p1401 q1401
                      cases e1401
                      replace hx1401_0 := (HB.out.cell (World.block_lt_of_cell? w _ hx1401_0)).trans hx1401_0
                      replace hx1401_1 := (HB.out.cell (World.block_lt_of_cell? w _ hx1401_1)).trans hx1401_1
                      replace hx1401_2 := (HB.out.cell (World.block_lt_of_cell? w _ hx1401_2)).trans hx1401_2
                      replace hx1401_3 := (HB.out.cell (World.block_lt_of_cell? w _ hx1401_3)).trans hx1401_3
                      replace p1401 := eq_true p1401
                      replace q1401 := eq_true q1401
                      try go_wp2_with (first | ((with_reducible refine gate_dst (N := 5) rfl ?_); (try (refine gate_guard (by rfl) ?_; dsimp only)); refine box_event ?hg (N := 5) ?hd (cs := #[.int .i64 0, .int .i64 0, .int .i64 0, .int .i64 0]) (t := 96) ?hr ?_; (case hd => rfl); (case hg => rfl); (case hr => first | (go_simp; done) | (go_simp; rfl)); intro gb1402 hg w58 hbox hb; have n0_ := Aside0.mk (Kd.R_below (Kd.R_elderB (oR HO_1400000) gb1402 (Nat.le_of_eq hg.symm)) hb); have n1_ := Aside0.mk (Kd.R_below (oR HO_1400002) hb); have n2_ := Aside0.mk (blk_below (g := gb1390) (o := .cells #[.slice (some ad1401) l0_0.length c0_0, .int .i64 a0_1, .slice A0_2 l0_2.length c0_2] 33 (0, 0)) (oK BK1390) hb); have n3_ := Aside0.mk (blk_below (g := gb1391) (o := .cells #[.slice none 0 0, .int .i64 0, .slice none 0 0] 33 (0, 0)) (oK BK1391) hb); have n4_ := Aside0.mk (blk_below (g := gb1399) (o := .cells #[.slice Ao10 t1392.length co10, .int .i64 t1395, .slice Ao14 t1396.length co14] 33 (0, 0)) (oK BK1399) hb); have n5_ := Aside0.mk (below_step (oB HB) hb); have n6_ := Aside0.mk (hbox); have n7_ := Aside0.mk ((by rw [hg]; exact (below_size (oB HB)) : w.heap.size ≤ gb1402)); have n8_ := Aside0.mk ((by rw [hg]; exact (below_size (oB HB)) : w.heap.size ≤ gb1402)); have n9_ := Aside0.mk ((by rw [hg]; exact Nat.ne_of_lt (blk_lt (g := gb1390) (o := .cells #[.slice (some ad1401) l0_0.length c0_0, .int .i64 a0_1, .slice A0_2 l0_2.length c0_2] 33 (0, 0)) (oK BK1390)) : gb1390 ≠ gb1402)); have n10_ := Aside0.mk ((by rw [hg]; exact Nat.ne_of_gt (blk_lt (g := gb1390) (o := .cells #[.slice (some ad1401) l0_0.length c0_0, .int .i64 a0_1, .slice A0_2 l0_2.length c0_2] 33 (0, 0)) (oK BK1390)) : gb1402 ≠ gb1390)); have n11_ := Aside0.mk ((by rw [hg]; exact Nat.ne_of_lt (blk_lt (g := gb1391) (o := .cells #[.slice none 0 0, .int .i64 0, .slice none 0 0] 33 (0, 0)) (oK BK1391)) : gb1391 ≠ gb1402)); have n12_ := Aside0.mk ((by rw [hg]; exact Nat.ne_of_gt (blk_lt (g := gb1391) (o := .cells #[.slice none 0 0, .int .i64 0, .slice none 0 0] 33 (0, 0)) (oK BK1391)) : gb1402 ≠ gb1391)); have n13_ := Aside0.mk ((by rw [hg]; exact Nat.ne_of_lt (blk_lt (g := gb1399) (o := .cells #[.slice Ao10 t1392.length co10, .int .i64 t1395, .slice Ao14 t1396.length co14] 33 (0, 0)) (oK BK1399)) : gb1399 ≠ gb1402)); have n14_ := Aside0.mk ((by rw [hg]; exact Nat.ne_of_gt (blk_lt (g := gb1399) (o := .cells #[.slice Ao10 t1392.length co10, .int .i64 t1395, .slice Ao14 t1396.length co14] 33 (0, 0)) (oK BK1399)) : gb1402 ≠ gb1399)); clear HO_1400000; clear HO_1400002; clear BK1390; clear BK1391; clear BK1399; clear HB; have HO_1400000 := n0_; have HO_1400002 := n1_; have BK1390 := n2_; have BK1391 := n3_; have BK1399 := n4_; have HB := n5_; have BK1402 := n6_; have GW1402 := n7_; have GE1402 := n8_; have NB1390_1402 := n9_; have NB1402_1390 := n10_; have NB1391_1402 := n11_; have NB1402_1391 := n12_; have NB1399_1402 := n13_; have NB1402_1399 := n14_; clear n0_ n1_ n2_ n3_ n4_ n5_ n6_ n7_ n8_ n9_ n10_ n11_ n12_ n13_ n14_; clear hb hbox hg; have hnb59 := NB1402_1390.out; have hnc59 := NB1390_1402.out; have hnb60 := NB1402_1391.out; have hnc60 := NB1391_1402.out; have hnb61 := NB1402_1399.out; have hnc61 := NB1399_1402.out; have hcz62_0 : w58.cell? ⟨gb1402, 0, none⟩ = some (.int .i64 0) := (blk_cell BK1402.out 0).trans rfl; have hcz62_1 : w58.cell? ⟨gb1402, 1, none⟩ = some (.int .i64 0) := (blk_cell BK1402.out 1).trans rfl; have hcz62_2 : w58.cell? ⟨gb1402, 2, none⟩ = some (.int .i64 0) := (blk_cell BK1402.out 2).trans rfl; have hcz62_3 : w58.cell? ⟨gb1402, 3, none⟩ = some (.int .i64 0) := (blk_cell BK1402.out 3).trans rfl; have hfz62_0 := blk_frozen BK1402.out 0; have hfz62_1 := blk_frozen BK1402.out 1; have hfz62_2 := blk_frozen BK1402.out 2; have hfz62_3 := blk_frozen BK1402.out 3))
                      have n0_ : Aside0 (Kd.R k96 96 ((((w58.setCell ⟨gb1402, 0, none⟩ (.int .i64 ((rd_T96 l0_0 a0_1).f0))).setCell ⟨gb1402, 1, none⟩ (.int .i64 ((rd_T96 l0_0 a0_1).f1))).setCell ⟨gb1402, 2, none⟩ (.int .i64 ((rd_T96 l0_0 a0_1).f2))).setCell ⟨gb1402, 3, none⟩ (.int .i64 ((rd_T96 l0_0 a0_1).f3))) w.heap.size (fun k_ => k_ ≠ gb1402) (.slice Ao10 t1392.length co10) t1392) := ⟨by (with_reducible repeat (first | apply Kd.R_alloc | apply Kd.R_drewN | apply Kd.R_drew)); exact Kd.R_mono (Kd.R_far (p := ⟨gb1402, 3, none⟩) (Kd.R_far (p := ⟨gb1402, 2, none⟩) (Kd.R_far (p := ⟨gb1402, 1, none⟩) (Kd.R_far (p := ⟨gb1402, 0, none⟩) (Kd.R_mono HO_1400000.out (fun k_ hk => (⟨hk, hk.2⟩ : _ ∧ k_ ≠ gb1402))) (fun _ hk => hk.2) (.int .i64 ((rd_T96 l0_0 a0_1).f0))) (fun _ hk => hk.2) (.int .i64 ((rd_T96 l0_0 a0_1).f1))) (fun _ hk => hk.2) (.int .i64 ((rd_T96 l0_0 a0_1).f2))) (fun _ hk => hk.2) (.int .i64 ((rd_T96 l0_0 a0_1).f3))) (fun _ hk => hk.1.2)⟩
                      have n1_ : Aside0 (Kd.R (Kd.int .i64) 3 ((((w58.setCell ⟨gb1402, 0, none⟩ (.int .i64 ((rd_T96 l0_0 a0_1).f0))).setCell ⟨gb1402, 1, none⟩ (.int .i64 ((rd_T96 l0_0 a0_1).f1))).setCell ⟨gb1402, 2, none⟩ (.int .i64 ((rd_T96 l0_0 a0_1).f2))).setCell ⟨gb1402, 3, none⟩ (.int .i64 ((rd_T96 l0_0 a0_1).f3))) w.heap.size (fun _ => True) (.slice Ao14 t1396.length co14) t1396) := ⟨by (with_reducible repeat (first | apply Kd.R_alloc | apply Kd.R_drewN | apply Kd.R_drew)); exact Kd.R_mono (Kd.R_far (p := ⟨gb1402, 3, none⟩) (Kd.R_far (p := ⟨gb1402, 2, none⟩) (Kd.R_far (p := ⟨gb1402, 1, none⟩) (Kd.R_far (p := ⟨gb1402, 0, none⟩) (Kd.R_types HO_1400002.out BK1402.out (by decide)) (fun _ hk => hk.2) (.int .i64 ((rd_T96 l0_0 a0_1).f0))) (fun _ hk => hk.2) (.int .i64 ((rd_T96 l0_0 a0_1).f1))) (fun _ hk => hk.2) (.int .i64 ((rd_T96 l0_0 a0_1).f2))) (fun _ hk => hk.2) (.int .i64 ((rd_T96 l0_0 a0_1).f3))) (fun _ hk => trivial)⟩
                      have n2_ : Aside0 (((((w58.setCell ⟨gb1402, 0, none⟩ (.int .i64 ((rd_T96 l0_0 a0_1).f0))).setCell ⟨gb1402, 1, none⟩ (.int .i64 ((rd_T96 l0_0 a0_1).f1))).setCell ⟨gb1402, 2, none⟩ (.int .i64 ((rd_T96 l0_0 a0_1).f2))).setCell ⟨gb1402, 3, none⟩ (.int .i64 ((rd_T96 l0_0 a0_1).f3))).heap[gb1390]? = some (.cells #[.slice (some ad1401) l0_0.length c0_0, .int .i64 a0_1, .slice A0_2 l0_2.length c0_2] 33 (0, 0))) := ⟨by (with_reducible repeat (first | refine blk_drewN ?_ _ | refine blk_drew ?_ | refine blk_alloc ?_ _)); refine blk_far ?_ NB1390_1402.out _; (with_reducible repeat (first | refine blk_drewN ?_ _ | refine blk_drew ?_ | refine blk_alloc ?_ _)); refine blk_far ?_ NB1390_1402.out _; (with_reducible repeat (first | refine blk_drewN ?_ _ | refine blk_drew ?_ | refine blk_alloc ?_ _)); refine blk_far ?_ NB1390_1402.out _; (with_reducible repeat (first | refine blk_drewN ?_ _ | refine blk_drew ?_ | refine blk_alloc ?_ _)); refine blk_far ?_ NB1390_1402.out _; (with_reducible repeat (first | refine blk_drewN ?_ _ | refine blk_drew ?_ | refine blk_alloc ?_ _)); exact BK1390.out⟩
                      have n3_ : Aside0 (((((w58.setCell ⟨gb1402, 0, none⟩ (.int .i64 ((rd_T96 l0_0 a0_1).f0))).setCell ⟨gb1402, 1, none⟩ (.int .i64 ((rd_T96 l0_0 a0_1).f1))).setCell ⟨gb1402, 2, none⟩ (.int .i64 ((rd_T96 l0_0 a0_1).f2))).setCell ⟨gb1402, 3, none⟩ (.int .i64 ((rd_T96 l0_0 a0_1).f3))).heap[gb1391]? = some (.cells #[.slice none 0 0, .int .i64 0, .slice none 0 0] 33 (0, 0))) := ⟨by (with_reducible repeat (first | refine blk_drewN ?_ _ | refine blk_drew ?_ | refine blk_alloc ?_ _)); refine blk_far ?_ NB1391_1402.out _; (with_reducible repeat (first | refine blk_drewN ?_ _ | refine blk_drew ?_ | refine blk_alloc ?_ _)); refine blk_far ?_ NB1391_1402.out _; (with_reducible repeat (first | refine blk_drewN ?_ _ | refine blk_drew ?_ | refine blk_alloc ?_ _)); refine blk_far ?_ NB1391_1402.out _; (with_reducible repeat (first | refine blk_drewN ?_ _ | refine blk_drew ?_ | refine blk_alloc ?_ _)); refine blk_far ?_ NB1391_1402.out _; (with_reducible repeat (first | refine blk_drewN ?_ _ | refine blk_drew ?_ | refine blk_alloc ?_ _)); exact BK1391.out⟩
                      have n4_ : Aside0 (((((w58.setCell ⟨gb1402, 0, none⟩ (.int .i64 ((rd_T96 l0_0 a0_1).f0))).setCell ⟨gb1402, 1, none⟩ (.int .i64 ((rd_T96 l0_0 a0_1).f1))).setCell ⟨gb1402, 2, none⟩ (.int .i64 ((rd_T96 l0_0 a0_1).f2))).setCell ⟨gb1402, 3, none⟩ (.int .i64 ((rd_T96 l0_0 a0_1).f3))).heap[gb1399]? = some (.cells #[.slice Ao10 t1392.length co10, .int .i64 t1395, .slice Ao14 t1396.length co14] 33 (0, 0))) := ⟨by (with_reducible repeat (first | refine blk_drewN ?_ _ | refine blk_drew ?_ | refine blk_alloc ?_ _)); refine blk_far ?_ NB1399_1402.out _; (with_reducible repeat (first | refine blk_drewN ?_ _ | refine blk_drew ?_ | refine blk_alloc ?_ _)); refine blk_far ?_ NB1399_1402.out _; (with_reducible repeat (first | refine blk_drewN ?_ _ | refine blk_drew ?_ | refine blk_alloc ?_ _)); refine blk_far ?_ NB1399_1402.out _; (with_reducible repeat (first | refine blk_drewN ?_ _ | refine blk_drew ?_ | refine blk_alloc ?_ _)); refine blk_far ?_ NB1399_1402.out _; (with_reducible repeat (first | refine blk_drewN ?_ _ | refine blk_drew ?_ | refine blk_alloc ?_ _)); exact BK1399.out⟩
                      have n5_ : Aside0 (((((w58.setCell ⟨gb1402, 0, none⟩ (.int .i64 ((rd_T96 l0_0 a0_1).f0))).setCell ⟨gb1402, 1, none⟩ (.int .i64 ((rd_T96 l0_0 a0_1).f1))).setCell ⟨gb1402, 2, none⟩ (.int .i64 ((rd_T96 l0_0 a0_1).f2))).setCell ⟨gb1402, 3, none⟩ (.int .i64 ((rd_T96 l0_0 a0_1).f3))).heap[gb1402]? = some (.cells #[.int .i64 ((rd_T96 l0_0 a0_1).f0), .int .i64 ((rd_T96 l0_0 a0_1).f1), .int .i64 ((rd_T96 l0_0 a0_1).f2), .int .i64 ((rd_T96 l0_0 a0_1).f3)] 96 (0, 0))) := ⟨by (with_reducible repeat (first | refine blk_drewN ?_ _ | refine blk_drew ?_ | refine blk_alloc ?_ _)); refine blk_put (cs := #[.int .i64 ((rd_T96 l0_0 a0_1).f0), .int .i64 ((rd_T96 l0_0 a0_1).f1), .int .i64 ((rd_T96 l0_0 a0_1).f2), .int .i64 0]) ?_ 3 _ rfl; (with_reducible repeat (first | refine blk_drewN ?_ _ | refine blk_drew ?_ | refine blk_alloc ?_ _)); refine blk_put (cs := #[.int .i64 ((rd_T96 l0_0 a0_1).f0), .int .i64 ((rd_T96 l0_0 a0_1).f1), .int .i64 0, .int .i64 0]) ?_ 2 _ rfl; (with_reducible repeat (first | refine blk_drewN ?_ _ | refine blk_drew ?_ | refine blk_alloc ?_ _)); refine blk_put (cs := #[.int .i64 ((rd_T96 l0_0 a0_1).f0), .int .i64 0, .int .i64 0, .int .i64 0]) ?_ 1 _ rfl; (with_reducible repeat (first | refine blk_drewN ?_ _ | refine blk_drew ?_ | refine blk_alloc ?_ _)); refine blk_put (cs := #[.int .i64 0, .int .i64 0, .int .i64 0, .int .i64 0]) ?_ 0 _ rfl; (with_reducible repeat (first | refine blk_drewN ?_ _ | refine blk_drew ?_ | refine blk_alloc ?_ _)); exact BK1402.out⟩
                      have n6_ : Aside0 (Below w.heap.size w ((((w58.setCell ⟨gb1402, 0, none⟩ (.int .i64 ((rd_T96 l0_0 a0_1).f0))).setCell ⟨gb1402, 1, none⟩ (.int .i64 ((rd_T96 l0_0 a0_1).f1))).setCell ⟨gb1402, 2, none⟩ (.int .i64 ((rd_T96 l0_0 a0_1).f2))).setCell ⟨gb1402, 3, none⟩ (.int .i64 ((rd_T96 l0_0 a0_1).f3)))) := ⟨oB HB⟩
                      (try clear HO_1400000)
                      (try clear HO_1400002)
                      (try clear BK1390)
                      (try clear BK1391)
                      (try clear BK1399)
                      (try clear BK1402)
                      (try clear HB)
                      generalize ((((w58.setCell ⟨gb1402, 0, none⟩ (.int .i64 ((rd_T96 l0_0 a0_1).f0))).setCell ⟨gb1402, 1, none⟩ (.int .i64 ((rd_T96 l0_0 a0_1).f1))).setCell ⟨gb1402, 2, none⟩ (.int .i64 ((rd_T96 l0_0 a0_1).f2))).setCell ⟨gb1402, 3, none⟩ (.int .i64 ((rd_T96 l0_0 a0_1).f3))) = w63 at n0_ n1_ n2_ n3_ n4_ n5_ n6_ ⊢
                      have HO_1400000 := n0_
                      have HO_1400002 := n1_
                      have BK1390 := n2_
                      have BK1391 := n3_
                      have BK1399 := n4_
                      have BK1402 := n5_
                      have HB := n6_
                      clear n0_ n1_ n2_ n3_ n4_ n5_ n6_
                      have n0_ := Aside0.mk (Kd.R_drew HO_1400000.out)
                      have n1_ := Aside0.mk (Kd.R_drew HO_1400002.out)
                      have n2_ := Aside0.mk (blk_drew BK1390.out)
                      have n3_ := Aside0.mk (blk_drew BK1391.out)
                      have n4_ := Aside0.mk (blk_drew BK1399.out)
                      have n5_ := Aside0.mk (blk_drew BK1402.out)
                      have n6_ := Aside0.mk (below_drew1 HB.out)
                      clear HO_1400000
                      clear HO_1400002
                      clear BK1390
                      clear BK1391
                      clear BK1399
                      clear BK1402
                      clear HB
                      have HO_1400000 := n0_
                      have HO_1400002 := n1_
                      have BK1390 := n2_
                      have BK1391 := n3_
                      have BK1399 := n4_
                      have BK1402 := n5_
                      have HB := n6_
                      clear n0_ n1_ n2_ n3_ n4_ n5_ n6_
                      have p1403 : 0 ≤ (((rd_T96 l0_0 a0_1).f0) : Int) := of_decide_eq_true (by first | (with_reducible assumption) | assumption)
                      have q1403 : ((rd_T96 l0_0 a0_1).f0) < (l0_2.length : Int) := of_decide_eq_true (by first | (with_reducible assumption) | assumption)
                      obtain ⟨ad1403, e1403, hx1403_0⟩ := Kd.at_int HR0_2.out ((rd_T96 l0_0 a0_1).f0) p1403 q1403
                      have hw1403_0 := hx1403_0
                      cases e1403
                      replace hx1403_0 := (HB.out.cell (World.block_lt_of_cell? w _ hx1403_0)).trans hx1403_0
                      replace p1403 := eq_true p1403
                      replace q1403 := eq_true q1403
                      refine start_ (n := 12) (S := fun w' => w'.cell? ⟨gb1390, 0, none⟩ = some (.slice (some ad1401) l0_0.length c0_0) ∧ w'.cell? ⟨gb1390, 1, none⟩ = some (.int .i64 a0_1) ∧ w'.cell? ⟨gb1390, 2, none⟩ = some (.slice (some ad1403) l0_2.length c0_2) ∧ w'.cell? ⟨gb1402, 0, none⟩ = some (.int .i64 ((rd_T96 l0_0 a0_1).f0)) ∧ w'.cell? ⟨gb1402, 1, none⟩ = some (.int .i64 ((rd_T96 l0_0 a0_1).f1)) ∧ w'.cell? ⟨gb1402, 2, none⟩ = some (.int .i64 ((rd_T96 l0_0 a0_1).f2)) ∧ w'.cell? ⟨gb1402, 3, none⟩ = some (.int .i64 ((rd_T96 l0_0 a0_1).f3)) ∧ w'.cell? (ad1403.add (((rd_T96 l0_0 a0_1).f0)).toNat) = some (.int .i64 (rd l0_2 ((rd_T96 l0_0 a0_1).f0)))) (ds := []) #[false, false, false, false, false, false, false, false, false, false, false, false] (by kernel_rfl) rfl rfl ⟨(blk_cell BK1390.out 0).trans rfl, (blk_cell BK1390.out 1).trans rfl, (blk_cell BK1390.out 2).trans rfl, (blk_cell BK1402.out 0).trans rfl, (blk_cell BK1402.out 1).trans rfl, (blk_cell BK1402.out 2).trans rfl, (blk_cell BK1402.out 3).trans rfl, ((HB.out.cell (World.block_lt_of_cell? w _ hw1403_0)).trans hw1403_0)⟩ (fun hHeld => ?_); refine with_tabW spec_WorkStep.tab5 spec_WorkStep.bits5 (fun HT_ HW_ => ?_)
                      generalize w63.drew = w64 at HO_1400000 HO_1400002 BK1390 BK1391 BK1399 BK1402 HB hx1403_0 hHeld ⊢
                      refine pure_ (i := 0) (N := some 27) (v := ?_) (a' := ?_) #[true, false, false, false, false, false, false, false, false, false, false, false] rfl rfl (any_of HT_.out (by kernel_rfl)) (fun _ _ _ h => h) (Or.inl ⟨by rfl, ?_⟩) ?_ ?_
                      rotate_left
                      · intro w'
                        go_simp
                        with_reducible rfl
                      rotate_left
                      · simp only [Act.put, List.setIfInBounds_toArray, List.set_cons_zero, List.set_cons_succ, i64_w, i32_w]
                        rfl
                      refine pure_ (i := 2) (N := some 29) (v := ?_) (a' := ?_) #[true, false, true, false, false, false, false, false, false, false, false, false] rfl rfl (any_of HT_.out (by kernel_rfl)) (fun _ _ _ h => h) (Or.inl ⟨by rfl, ?_⟩) ?_ ?_
                      rotate_left
                      · intro w'
                        go_simp
                        with_reducible rfl
                      rotate_left
                      · simp only [Act.put, List.setIfInBounds_toArray, List.set_cons_zero, List.set_cons_succ, i64_w, i32_w]
                        rfl
                      refine pure_ (i := 6) (N := some 33) (v := ?_) (a' := ?_) #[true, false, true, false, false, false, true, false, false, false, false, false] rfl rfl (any_of HT_.out (by kernel_rfl)) (fun _ _ _ h => h) (Or.inl ⟨by rfl, ?_⟩) ?_ ?_
                      rotate_left
                      · intro w'
                        go_simp
                        with_reducible rfl
                      rotate_left
                      · simp only [Act.put, List.setIfInBounds_toArray, List.set_cons_zero, List.set_cons_succ, i64_w, i32_w]
                        rfl
                      refine pure_ (i := 8) (N := some 35) (v := ?_) (a' := ?_) #[true, false, true, false, false, false, true, false, true, false, false, false] rfl rfl (any_of HT_.out (by kernel_rfl)) (fun _ _ _ h => h) (Or.inl ⟨by rfl, ?_⟩) ?_ ?_
                      rotate_left
                      · intro w'
                        go_simp
                        with_reducible rfl
                      rotate_left
                      · simp only [Act.put, List.setIfInBounds_toArray, List.set_cons_zero, List.set_cons_succ, i64_w, i32_w]
                        rfl
                      refine take_ (i := 1) (N := some 28) (v := ?_) (a' := ?_) #[true, true, true, false, false, false, true, false, true, false, false, false] rfl rfl (take_ofW HT_.out HW_.out (by kernel_rfl)) (fun _ _ _ h => h) (Or.inl ⟨by rfl, ?_⟩) hHeld ?_ ?_
                      rotate_left
                      · rintro w' ⟨s0, s1, s2, s3, s4, s5, s6, s7⟩
                        go_simp
                        with_reducible rfl
                      rotate_left
                      · simp only [Act.put, List.setIfInBounds_toArray, List.set_cons_zero, List.set_cons_succ, i64_w, i32_w]
                        rfl
                      refine take_ (i := 3) (N := some 30) (v := ?_) (a' := ?_) #[true, true, true, true, false, false, true, false, true, false, false, false] rfl rfl (take_ofW HT_.out HW_.out (by kernel_rfl)) (fun _ _ _ h => h) (Or.inl ⟨by rfl, ?_⟩) hHeld ?_ ?_
                      rotate_left
                      · rintro w' ⟨s0, s1, s2, s3, s4, s5, s6, s7⟩
                        go_simp
                        with_reducible rfl
                      rotate_left
                      · simp only [Act.put, List.setIfInBounds_toArray, List.set_cons_zero, List.set_cons_succ, i64_w, i32_w]
                        rfl
                      refine pure_ (i := 4) (N := some 31) (v := ?_) (a' := ?_) #[true, true, true, true, true, false, true, false, true, false, false, false] rfl rfl (any_of HT_.out (by kernel_rfl)) (fun _ _ _ h => h) (Or.inl ⟨by rfl, ?_⟩) ?_ ?_
                      rotate_left
                      · intro w'
                        go_simp
                        with_reducible rfl
                      rotate_left
                      · simp only [Act.put, List.setIfInBounds_toArray, List.set_cons_zero, List.set_cons_succ, i64_w, i32_w]
                        rfl
                      refine take_ (i := 5) (N := some 32) (v := ?_) (a' := ?_) #[true, true, true, true, true, true, true, false, true, false, false, false] rfl rfl (take_ofW HT_.out HW_.out (by kernel_rfl)) (fun _ _ _ h => h) (Or.inl ⟨by rfl, ?_⟩) hHeld ?_ ?_
                      rotate_left
                      · rintro w' ⟨s0, s1, s2, s3, s4, s5, s6, s7⟩
                        go_simp
                        with_reducible rfl
                      rotate_left
                      · simp only [Act.put, List.setIfInBounds_toArray, List.set_cons_zero, List.set_cons_succ, i64_w, i32_w]
                        rfl
                      refine take_ (i := 7) (N := some 34) (v := ?_) (a' := ?_) #[true, true, true, true, true, true, true, true, true, false, false, false] rfl rfl (take_ofW HT_.out HW_.out (by kernel_rfl)) (fun _ _ _ h => h) (Or.inl ⟨by rfl, ?_⟩) hHeld ?_ ?_
                      rotate_left
                      · rintro w' ⟨s0, s1, s2, s3, s4, s5, s6, s7⟩
                        go_simp
                        with_reducible rfl
                      rotate_left
                      · simp only [Act.put, List.setIfInBounds_toArray, List.set_cons_zero, List.set_cons_succ, i64_w, i32_w]
                        rfl
                      refine take_ (i := 9) (N := some 36) (v := ?_) (a' := ?_) #[true, true, true, true, true, true, true, true, true, true, false, false] rfl rfl (take_ofW HT_.out HW_.out (by kernel_rfl)) (fun _ _ _ h => h) (Or.inl ⟨by rfl, ?_⟩) hHeld ?_ ?_
                      rotate_left
                      · rintro w' ⟨s0, s1, s2, s3, s4, s5, s6, s7⟩
                        go_simp
                        with_reducible rfl
                      rotate_left
                      · simp only [Act.put, List.setIfInBounds_toArray, List.set_cons_zero, List.set_cons_succ, i64_w, i32_w]
                        rfl
                      refine one_ (i := 10) (N := some 37) #[true, true, true, true, true, true, true, true, true, true, true, false] rfl rfl (one_of HT_.out (by kernel_rfl)) (by decide) (fun K hK => ?_)
                      refine goes_ Try.func116 (by kernel_rfl) rfl #[.int .i64 (rd l0_2 ((rd_T96 l0_0 a0_1).f0)), .int .i64 ((rd_T96 l0_0 a0_1).f2), .int .i64 ((rd_T96 l0_0 a0_1).f3)] (by rfl) rfl rfl (by (try simp only [List.map_toArray, List.map_cons, List.map_nil]); first | done | rfl | (simp only [List.length_drop, List.length_take]; rfl)) ?_
                      with_reducible refine (spec_TunedPitch.calls kj2 (rd l0_2 ((rd_T96 l0_0 a0_1).f0)) ((rd_T96 l0_0 a0_1).f2) ((rd_T96 l0_0 a0_1).f3) t1404 _ A36.out).mono ?_
                      rintro e w65 ⟨rfl, hb⟩
                      refine ⟨_, rfl, ?_⟩
                      have n0_ := Aside0.mk (Kd.R_below (oR HO_1400000) hb)
                      have n1_ := Aside0.mk (Kd.R_below (oR HO_1400002) hb)
                      have n2_ := Aside0.mk (blk_below (g := gb1390) (o := .cells #[.slice (some ad1401) l0_0.length c0_0, .int .i64 a0_1, .slice (some ad1403) l0_2.length c0_2] 33 (0, 0)) (oK BK1390) hb)
                      have n3_ := Aside0.mk (blk_below (g := gb1391) (o := .cells #[.slice none 0 0, .int .i64 0, .slice none 0 0] 33 (0, 0)) (oK BK1391) hb)
                      have n4_ := Aside0.mk (blk_below (g := gb1399) (o := .cells #[.slice Ao10 t1392.length co10, .int .i64 t1395, .slice Ao14 t1396.length co14] 33 (0, 0)) (oK BK1399) hb)
                      have n5_ := Aside0.mk (blk_below (g := gb1402) (o := .cells #[.int .i64 ((rd_T96 l0_0 a0_1).f0), .int .i64 ((rd_T96 l0_0 a0_1).f1), .int .i64 ((rd_T96 l0_0 a0_1).f2), .int .i64 ((rd_T96 l0_0 a0_1).f3)] 96 (0, 0)) (oK BK1402) hb)
                      have n6_ := Aside0.mk (below_step (oB HB) hb)
                      clear HO_1400000
                      clear HO_1400002
                      clear BK1390
                      clear BK1391
                      clear BK1399
                      clear BK1402
                      clear HB
                      have HO_1400000 := n0_
                      have HO_1400002 := n1_
                      have BK1390 := n2_
                      have BK1391 := n3_
                      have BK1399 := n4_
                      have BK1402 := n5_
                      have HB := n6_
                      clear n0_ n1_ n2_ n3_ n4_ n5_ n6_
                      (try clear hb)
                      (try clear hb2)
                      (try clear hk)
                      (try clear hi)
                      refine hK.out _ _ ⟨(blk_cell BK1390.out 0).trans rfl, (blk_cell BK1390.out 1).trans rfl, (blk_cell BK1390.out 2).trans rfl, (blk_cell BK1402.out 0).trans rfl, (blk_cell BK1402.out 1).trans rfl, (blk_cell BK1402.out 2).trans rfl, (blk_cell BK1402.out 3).trans rfl, ((HB.out.cell (World.block_lt_of_cell? w _ hw1403_0)).trans hw1403_0)⟩ (fun hHeld => ?_)
                      clear hK K
                      refine norm_ (a' := ?_) ?_ ?_
                      rotate_left
                      · show Act.put _ (some 37) _ = _
                        simp only [Act.put, List.setIfInBounds_toArray, List.set_cons_zero, List.set_cons_succ, i64_w, i32_w]
                        rfl
                      refine pure_ (i := 11) (N := some 6) (v := ?_) (a' := ?_) #[true, true, true, true, true, true, true, true, true, true, true, true] rfl rfl (any_of HT_.out (by kernel_rfl)) (fun _ _ _ h => h) (Or.inl ⟨by rfl, ?_⟩) ?_ ?_
                      rotate_left
                      · intro w'
                        go_simp
                        with_reducible rfl
                      rotate_left
                      · simp only [Act.put, List.setIfInBounds_toArray, List.set_cons_zero, List.set_cons_succ, i64_w, i32_w]
                        rfl
                      refine done_ (done_of HT_.out (by kernel_rfl)) ?_
                      have hnb66 := NB1399_1391.out
                      have hnc66 := NB1391_1399.out
                      have hcz67_0 : w65.cell? ⟨gb1399, 0, none⟩ = some (.slice Ao10 t1392.length co10) := (blk_cell BK1399.out 0).trans rfl
                      have hcz67_1 : w65.cell? ⟨gb1399, 1, none⟩ = some (.int .i64 t1395) := (blk_cell BK1399.out 1).trans rfl
                      have hcz67_2 : w65.cell? ⟨gb1399, 2, none⟩ = some (.slice Ao14 t1396.length co14) := (blk_cell BK1399.out 2).trans rfl
                      have hfz67_0 := blk_frozen BK1399.out 0
                      have hfz67_1 := blk_frozen BK1399.out 1
                      have hfz67_2 := blk_frozen BK1399.out 2
                      have hcz68_0 : w65.cell? ⟨gb1402, 0, none⟩ = some (.int .i64 ((rd_T96 l0_0 a0_1).f0)) := (blk_cell BK1402.out 0).trans rfl
                      have hcz68_1 : w65.cell? ⟨gb1402, 1, none⟩ = some (.int .i64 ((rd_T96 l0_0 a0_1).f1)) := (blk_cell BK1402.out 1).trans rfl
                      have hcz68_2 : w65.cell? ⟨gb1402, 2, none⟩ = some (.int .i64 ((rd_T96 l0_0 a0_1).f2)) := (blk_cell BK1402.out 2).trans rfl
                      have hcz68_3 : w65.cell? ⟨gb1402, 3, none⟩ = some (.int .i64 ((rd_T96 l0_0 a0_1).f3)) := (blk_cell BK1402.out 3).trans rfl
                      have hfz68_0 := blk_frozen BK1402.out 0
                      have hfz68_1 := blk_frozen BK1402.out 1
                      have hfz68_2 := blk_frozen BK1402.out 2
                      have hfz68_3 := blk_frozen BK1402.out 3
                      have p54 : 0 ≤ (((rd_T96 l0_0 a0_1).f1) : Int) := of_decide_eq_true (by first | (with_reducible assumption) | assumption)
                      have q54 : (((rd_T96 l0_0 a0_1).f1) : Int) < ((t1396.length : Int) : Int) := of_decide_eq_true (by first | (with_reducible assumption) | assumption)
                      obtain ⟨go54, co54, eo54, gb54, gl54, cl54, HG54⟩ := Kd.R_form HO_1400002.out (by omega)
                      (first | cases eo54 | (injection eo54 with ea_ en_ ec_; (first | subst ea_ | (injection ea_ with ea_; subst ea_)); subst ec_; clear en_))
                      have GB54 := Aside0.mk gb54
                      have GG54 := Aside0.mk HG54
                      clear gb54 gl54 HG54
                      obtain ⟨hx54_0, hf54_0⟩ := Kd.R_celln 0 HO_1400002.out (((rd_T96 l0_0 a0_1).f1) : Int) p54 q54
                      replace p54 := eq_true p54
                      replace q54 := eq_true q54
                      obtain ⟨hy69_, hz69_⟩ := Kd.R_celln 0 HO_1400002.out (((rd_T96 l0_0 a0_1).f1) : Int) (of_decide_eq_true (by first | (with_reducible assumption) | assumption)) (of_decide_eq_true (by first | (with_reducible assumption) | assumption))
                      have HP69 := Kd.R_putg HO_1400002.out (((rd_T96 l0_0 a0_1).f1) : Int) t1404
                      try go_wp2_with (first | ((with_reducible refine gate_store (t := 3) (p := 46) rfl ?_); refine store_event (t := 3) (p := 46) (v := ?vo_w70) (w1 := (w65.setCell ⟨go54, (((rd_T96 l0_0 a0_1).f1) : Int).toNat, none⟩ (.int .i64 t1404))) ?hg ?ho ?hn ?hr ?_; (case ho => rfl); (case hg => rfl); (case hn => rfl); (case hr => first | (go_simp; done) | (go_simp; rfl)); intro w70 hw; have hg : w65.grownBy w70 (some go54) := (by rw [hw]; exact HP69.2); have hp_ : Kd.R (Kd.int .i64) 3 w70 w.heap.size (fun _ => True) (.slice (some ⟨go54, 0, none⟩) t1396.length co14) y1405 := (by rw [hw, Ny1405.out]; exact HP69.1); clear HP69; have n0_ := Aside0.mk (Kd.R_over' (v := (.slice (some ⟨go54, 0, none⟩) t1396.length co14)) (oR HO_1400000) (Kd.R_typed HO_1400002.out) (by decide) hg); have n1_ := Aside0.mk (hp_); have n2_ := Aside0.mk (blk_grown (g := gb1390) (o := .cells #[.slice (some ad1401) l0_0.length c0_0, .int .i64 a0_1, .slice (some ad1403) l0_2.length c0_2] 33 (0, 0)) (oK BK1390) hg (Kd.R_ne HO_1400002.out BK1390.out (by decide))); have n3_ := Aside0.mk (blk_grown (g := gb1391) (o := .cells #[.slice none 0 0, .int .i64 0, .slice none 0 0] 33 (0, 0)) (oK BK1391) hg (Kd.R_ne HO_1400002.out BK1391.out (by decide))); have n4_ := Aside0.mk (blk_grown (g := gb1399) (o := .cells #[.slice Ao10 t1392.length co10, .int .i64 t1395, .slice (some ⟨go54, 0, none⟩) t1396.length co14] 33 (0, 0)) (oK BK1399) hg (Kd.R_ne HO_1400002.out BK1399.out (by decide))); have n5_ := Aside0.mk (blk_grown (g := gb1402) (o := .cells #[.int .i64 ((rd_T96 l0_0 a0_1).f0), .int .i64 ((rd_T96 l0_0 a0_1).f1), .int .i64 ((rd_T96 l0_0 a0_1).f2), .int .i64 ((rd_T96 l0_0 a0_1).f3)] 96 (0, 0)) (oK BK1402) hg (Kd.R_ne HO_1400002.out BK1402.out (by decide))); have n6_ := Aside0.mk ((by rw [hw]; exact below_set (HB.out) GB54.out : Below w.heap.size w w70)); clear HO_1400000; clear HO_1400002; clear BK1390; clear BK1391; clear BK1399; clear BK1402; clear HB; have HO_1400000 := n0_; have HO_1400002 := n1_; have BK1390 := n2_; have BK1391 := n3_; have BK1399 := n4_; have BK1402 := n5_; have HB := n6_; clear n0_ n1_ n2_ n3_ n4_ n5_ n6_; clear hg hw hp_; have hcz71_0 : w70.cell? ⟨gb1390, 0, none⟩ = some (.slice (some ad1401) l0_0.length c0_0) := (blk_cell BK1390.out 0).trans rfl; have hcz71_1 : w70.cell? ⟨gb1390, 1, none⟩ = some (.int .i64 a0_1) := (blk_cell BK1390.out 1).trans rfl; have hcz71_2 : w70.cell? ⟨gb1390, 2, none⟩ = some (.slice (some ad1403) l0_2.length c0_2) := (blk_cell BK1390.out 2).trans rfl; have hfz71_0 := blk_frozen BK1390.out 0; have hfz71_1 := blk_frozen BK1390.out 1; have hfz71_2 := blk_frozen BK1390.out 2; have hcz72_0 : w70.cell? ⟨gb1399, 0, none⟩ = some (.slice Ao10 t1392.length co10) := (blk_cell BK1399.out 0).trans rfl; have hcz72_1 : w70.cell? ⟨gb1399, 1, none⟩ = some (.int .i64 t1395) := (blk_cell BK1399.out 1).trans rfl; have hcz72_2 : w70.cell? ⟨gb1399, 2, none⟩ = some (.slice (some ⟨go54, 0, none⟩) t1396.length co14) := (blk_cell BK1399.out 2).trans rfl; have hfz72_0 := blk_frozen BK1399.out 0; have hfz72_1 := blk_frozen BK1399.out 1; have hfz72_2 := blk_frozen BK1399.out 2; have hcz73_0 : w70.cell? ⟨gb1391, 0, none⟩ = some (.slice none 0 0) := (blk_cell BK1391.out 0).trans rfl; have hcz73_1 : w70.cell? ⟨gb1391, 1, none⟩ = some (.int .i64 0) := (blk_cell BK1391.out 1).trans rfl; have hcz73_2 : w70.cell? ⟨gb1391, 2, none⟩ = some (.slice none 0 0) := (blk_cell BK1391.out 2).trans rfl; have hfz73_0 := blk_frozen BK1391.out 0; have hfz73_1 := blk_frozen BK1391.out 1; have hfz73_2 := blk_frozen BK1391.out 2))
                      refine bodyPost_ret (results_ct rfl _ _ gb1391 33 #[.slice Ao10 t1392.length co10, .int .i64 (wrap64 (a0_1 + 1)), .slice (some ⟨go54, 0, none⟩) t1396.length co14] (0, 0) _ rfl (by (with_reducible repeat (first | refine blk_drewN ?_ _ | refine blk_drew ?_ | refine blk_alloc ?_ _)); refine blk_put (cs := #[.slice Ao10 t1392.length co10, .int .i64 (wrap64 (a0_1 + 1)), .slice none 0 0]) ?_ 2 _ rfl; (with_reducible repeat (first | refine blk_drewN ?_ _ | refine blk_drew ?_ | refine blk_alloc ?_ _)); refine blk_put (cs := #[.slice Ao10 t1392.length co10, .int .i64 0, .slice none 0 0]) ?_ 1 _ rfl; (with_reducible repeat (first | refine blk_drewN ?_ _ | refine blk_drew ?_ | refine blk_alloc ?_ _)); refine blk_put (cs := #[.slice none 0 0, .int .i64 0, .slice none 0 0]) ?_ 0 _ rfl; (with_reducible repeat (first | refine blk_drewN ?_ _ | refine blk_drew ?_ | refine blk_alloc ?_ _)); refine blk_far ?_ NB1391_1399.out _; (with_reducible repeat (first | refine blk_drewN ?_ _ | refine blk_drew ?_ | refine blk_alloc ?_ _)); exact BK1391.out) Try.underlying33 rfl (by kernel_rfl)) rfl ?_
                      exact ⟨_, _, by first | rfl | (simp [errW_none, errW_some] <;> rfl) | (simp [*, errW_none, errW_some] <;> rfl), by (with_reducible repeat (first | apply Kd.R_alloc | apply Kd.R_drewN | apply Kd.R_drew)); exact Kd.R_mono (Kd.R_far (p := ⟨gb1391, 2, none⟩) (Kd.R_far (p := ⟨gb1391, 1, none⟩) (Kd.R_far (p := ⟨gb1391, 0, none⟩) (Kd.R_far (p := ⟨gb1399, 1, none⟩) (Kd.R_types (Kd.R_types HO_1400000.out BK1399.out (by decide)) BK1391.out (by decide)) (fun _ hk => hk.1.2) (.int .i64 (wrap64 (a0_1 + 1)))) (fun _ hk => hk.2) (.slice Ao10 t1392.length co10)) (fun _ hk => hk.2) (.int .i64 (wrap64 (a0_1 + 1)))) (fun _ hk => hk.2) (.slice (some ⟨go54, 0, none⟩) t1396.length co14)) (fun _ hk => trivial), by (with_reducible repeat (first | apply Kd.R_alloc | apply Kd.R_drewN | apply Kd.R_drew)); exact Kd.R_mono (Kd.R_far (p := ⟨gb1391, 2, none⟩) (Kd.R_far (p := ⟨gb1391, 1, none⟩) (Kd.R_far (p := ⟨gb1391, 0, none⟩) (Kd.R_far (p := ⟨gb1399, 1, none⟩) (Kd.R_types (Kd.R_types HO_1400002.out BK1399.out (by decide)) BK1391.out (by decide)) (fun _ hk => hk.1.2) (.int .i64 (wrap64 (a0_1 + 1)))) (fun _ hk => hk.2) (.slice Ao10 t1392.length co10)) (fun _ hk => hk.2) (.int .i64 (wrap64 (a0_1 + 1)))) (fun _ hk => hk.2) (.slice (some ⟨go54, 0, none⟩) t1396.length co14)) (fun _ hk => trivial), oB HB⟩
                    · rw [if_neg c53] at H
                      exact absurd H (by simp)
                  · rw [if_neg c52] at H
                    exact absurd H (by simp)
              · rw [if_neg c35] at H
                exact absurd H (by simp)
            · rw [if_neg c34] at H
              exact absurd H (by simp)
          · rw [if_neg c33] at H
            exact absurd H (by simp)
        · rw [if_neg c32] at H
          exact absurd H (by simp)
end Go.Proofs.Ytbkkpllejgedcaa.P


namespace Go.Proofs.Ytbkkpllejgedcaa.P
open Go.RowKit Go.Proofs.YtbkkpllejgedcaaW.PrintWords Go.Proofs.YtbkkpllejgedcaaW.PrintLast Go.Proofs.YtbkkpllejgedcaaW.PrintMore Go.Proofs.Ytbkkpllejgedcaa.V
attribute [local go_sem] cell_b frozen_b
attribute [local go_sem] max2_int min2_int max_two min_two max_three min_three max_four min_four
set_option linter.unusedVariables false
set_option linter.unusedSimpArgs false
def spec_ShopTune.f (k : Nat) (l0_0 : List (S96)) (a0_1 : Int) (l0_2 : List Int) (a0_3 : Int) (a0_4 : Int) (l0_5 : List (S74)) : Option ((List (S96)) × Int × List Int × Int × Int × (List (S74)) × Bool) := (spec_l38Copy.f l0_0 a0_1 l0_2 a0_3 a0_4 l0_5).bind fun bt1408 => ((spec_ShopOk.f k l0_0 a0_1 l0_2 a0_3 a0_4 l0_5).bind fun t1421 => (if t1421 = true then ((spec_WrongSteps.f k l0_0 a0_1 l0_2).bind fun t1422 => (if (t1422.length : Int) > 0 then ((spec_MendStep.f k l0_0 a0_1 l0_2).bind fun bt1425 => (some (bt1425.1, bt1425.2.1, bt1425.2.2.1, bt1408.2.2.2.1, bt1408.2.2.2.2.1, bt1408.2.2.2.2.2, bt1425.2.2.2))) else ((spec_WorkStep.f k l0_0 a0_1 l0_2).bind fun bt1433 => (some (bt1433.1, bt1433.2.1, bt1433.2.2.1, bt1408.2.2.2.1, bt1408.2.2.2.2.1, bt1408.2.2.2.2.2, bt1433.2.2.2))))) else (some (bt1408.1, bt1408.2.1, bt1408.2.2.1, bt1408.2.2.2.1, bt1408.2.2.2.2.1, bt1408.2.2.2.2.2, false))))
set_option maxHeartbeats 8000000 in
set_option maxRecDepth 100000 in
set_option synthInstance.maxHeartbeats 400000 in
set_option synthInstance.maxSize 100000 in
theorem spec_ShopTune.calls (k : Nat) (A0_0 : Option Addr) (c0_0 : Nat) (l0_0 : List (S96)) (a0_1 : Int) (A0_2 : Option Addr) (c0_2 : Nat) (l0_2 : List Int) (a0_3 : Int) (a0_4 : Int) (A0_5 : Option Addr) (c0_5 : Nat) (l0_5 : List (S74)) (r1 : List (S96)) (r2 : Int) (r3 : List Int) (r4 : Int) (r5 : Int) (r6 : List (S74)) (r7 : Bool) (w : World) (hr0_0 : Kd.C k96 w A0_0 l0_0.length l0_0) (hc0_0 : l0_0.length ≤ c0_0) (hr0_2 : Kd.C (Kd.int .i64) w A0_2 l0_2.length l0_2) (hc0_2 : l0_2.length ≤ c0_2) (hr0_5 : Kd.C k74 w A0_5 l0_5.length l0_5) (hc0_5 : l0_5.length ≤ c0_5) (h : spec_ShopTune.f k l0_0 a0_1 l0_2 a0_3 a0_4 l0_5 = some (r1, r2, r3, r4, r5, r6, r7)) :
    Calls Try.prog 41 #[.agg #[.slice A0_0 l0_0.length c0_0, .int .i64 a0_1, .slice A0_2 l0_2.length c0_2, .int .i64 a0_3, .int .i64 a0_4, .slice A0_5 l0_5.length c0_5]] w fun e w' => ∃ v0_ v2_ v5_ : Value, e = .returned (.tuple #[.agg #[v0_, .int .i64 r2, v2_, .int .i64 r4, .int .i64 r5, v5_], .bool r7]) ∧ Kd.R k96 96 w' w.heap.size (fun _ => True) v0_ r1 ∧ Kd.R (Kd.int .i64) 3 w' w.heap.size (fun _ => True) v2_ r3 ∧ Kd.R k74 74 w' w.heap.size (fun _ => True) v5_ r6 ∧ Below w.heap.size w w' := by
  have ihr0_0 := RdE.mk hr0_0
  have ihc0_0 := LeI.mk hc0_0
  have ihr0_2 := RdE.mk hr0_2
  have ihc0_2 := LeI.mk hc0_2
  have ihr0_5 := RdE.mk hr0_5
  have ihc0_5 := LeI.mk hc0_5
  clear hr0_0 hc0_0 hr0_2 hc0_2 hr0_5 hc0_5
  unfold spec_ShopTune.f at h
  have hu36 := Try.underlying36
  (repeat' first | ((with_reducible replace h := ite_some h); rcases h with ⟨hc, h⟩ | ⟨hc, h⟩ <;> first | exact (none_some h).elim | exact absurd hc (by decide) | subst hc | (replace hc := Bool.eq_false_iff.mpr hc; subst hc) | (have hd := beq_iff_eq.mpr hc; have he := bne_eq_false_iff_eq.mpr hc; clear hc) | (have hd := beq_eq_false_iff_ne.mpr hc; have he := bne_iff_ne.mpr hc) | (have hd := decide_eq_false hc) | (have hd := decide_eq_true hc) | skip))
  all_goals go_enter Try.func41, Try.ntmps41
  all_goals go_wp2_with (first
    | ((with_reducible refine gate_dst (N := 1) rfl ?_); refine box_event rfl (N := 1) rfl (cs := #[.slice A0_0 l0_0.length c0_0, .int .i64 a0_1, .slice A0_2 l0_2.length c0_2, .int .i64 a0_3, .int .i64 a0_4, .slice A0_5 l0_5.length c0_5]) (t := 36) (by first | (go_simp; done) | (go_simp; rfl)) ?_; intro g hg w1 hk hb; have j1 := Born.mk hg; have j2 := Bel.mk hb; have j3 := Blk.mk hk; clear hg hb hk)
    | ((with_reducible refine gate_dst (N := 2) rfl ?_); refine box_event rfl (N := 2) rfl (cs := #[.slice none 0 0, .int .i64 0, .slice none 0 0, .int .i64 0, .int .i64 0, .slice none 0 0]) (t := 36) (by first | (go_simp; done) | (go_simp; rfl)) ?_; intro g hg w1 hk hb; have j1 := Born.mk hg; have j2 := Bel.mk hb; have j3 := Blk.mk hk; clear hg hb hk)
    | ((with_reducible refine gate_dst (N := 4) rfl ?_); refine box_event rfl (N := 4) rfl (cs := #[.slice none 0 0, .int .i64 0, .slice none 0 0, .int .i64 0, .int .i64 0, .slice none 0 0]) (t := 36) (by first | (go_simp; done) | (go_simp; rfl)) ?_; intro g hg w1 hk hb; have j1 := Born.mk hg; have j2 := Bel.mk hb; have j3 := Blk.mk hk; clear hg hb hk)
    | (go_at_call 83; replace h := Option.bind_eq_some_iff.mp h; obtain ⟨⟨t1, t2, t3, t4, t5, t6⟩, A, h⟩ := h; (try dsimp only at h); refine (spec_l38Copy.calls _ _ _ _ _ _ _ _ _ _ _ _ _ _ _ _ _ _ _ Rd.out LeI.out Rd.out LeI.out Rd.out LeI.out A).mono ?_; rintro e w2 ⟨v0, v1, v2, rfl, ho0, ho1, ho2, hb⟩; obtain ⟨B0, b0, rfl⟩ := Kd.R_slice ho0; have j0 := RowE.mk ho0; have q0 := LeI.mk (rowLe j0); obtain ⟨B1, b1, rfl⟩ := Kd.R_slice ho1; have j1 := RowE.mk ho1; have q1 := LeI.mk (rowLe j1); obtain ⟨B2, b2, rfl⟩ := Kd.R_slice ho2; have j2 := RowE.mk ho2; have q2 := LeI.mk (rowLe j2); have jb := Bel.mk hb; clear A ho0 ho1 ho2 hb; (repeat' first | ((with_reducible replace h := ite_some h); rcases h with ⟨hc, h⟩ | ⟨hc, h⟩ <;> first | exact (none_some h).elim | exact absurd hc (by decide) | subst hc | (replace hc := Bool.eq_false_iff.mpr hc; subst hc) | (have hd := beq_iff_eq.mpr hc; have he := bne_eq_false_iff_eq.mpr hc; clear hc) | (have hd := beq_eq_false_iff_ne.mpr hc; have he := bne_iff_ne.mpr hc) | (have hd := decide_eq_false hc) | (have hd := decide_eq_true hc) | skip)))
    | (go_at_call 16; replace h := Option.bind_eq_some_iff.mp h; obtain ⟨t, A, h⟩ := h; (try dsimp only at h); refine (spec_ShopOk.calls _ _ _ _ _ _ _ _ _ _ _ _ _ _ _ Rd.out LeI.out Rd.out LeI.out Rd.out LeI.out A).mono ?_; rintro e w2 ⟨rfl, hb⟩; have jb := Bel.mk hb; clear A hb; (repeat' first | ((with_reducible replace h := ite_some h); rcases h with ⟨hc, h⟩ | ⟨hc, h⟩ <;> first | exact (none_some h).elim | exact absurd hc (by decide) | subst hc | (replace hc := Bool.eq_false_iff.mpr hc; subst hc) | (have hd := beq_iff_eq.mpr hc; have he := bne_eq_false_iff_eq.mpr hc; clear hc) | (have hd := beq_eq_false_iff_ne.mpr hc; have he := bne_iff_ne.mpr hc) | (have hd := decide_eq_false hc) | (have hd := decide_eq_true hc) | skip)))
    | (go_at_call 79; replace h := Option.bind_eq_some_iff.mp h; obtain ⟨t, A, h⟩ := h; (try dsimp only at h); refine (spec_WrongSteps.calls _ _ _ _ _ _ _ _ _ _ Rd.out LeI.out Rd.out LeI.out A).mono ?_; rintro e w2 ⟨v0, rfl, ho0, hb⟩; obtain ⟨B0, b0, rfl⟩ := Kd.R_slice ho0; have j0 := RowE.mk ho0; have q0 := LeI.mk (rowLe j0); have jb := Bel.mk hb; clear A ho0 hb; (repeat' first | ((with_reducible replace h := ite_some h); rcases h with ⟨hc, h⟩ | ⟨hc, h⟩ <;> first | exact (none_some h).elim | exact absurd hc (by decide) | subst hc | (replace hc := Bool.eq_false_iff.mpr hc; subst hc) | (have hd := beq_iff_eq.mpr hc; have he := bne_eq_false_iff_eq.mpr hc; clear hc) | (have hd := beq_eq_false_iff_ne.mpr hc; have he := bne_iff_ne.mpr hc) | (have hd := decide_eq_false hc) | (have hd := decide_eq_true hc) | skip)); (try have hn : decide (0 < t.length) = true := decide_eq_true (by omega)); (try have hn : decide (0 < t.length) = false := decide_eq_false (by omega)))
    | (go_at_call 87; replace h := Option.bind_eq_some_iff.mp h; obtain ⟨⟨t1, t2, t3, t4⟩, A, h⟩ := h; (try dsimp only at h); refine (spec_MendStep.calls _ _ _ _ _ _ _ _ _ _ _ _ _ Rd.out LeI.out Rd.out LeI.out A).mono ?_; rintro e w2 ⟨v0, v1, rfl, ho0, ho1, hb⟩; obtain ⟨B0, b0, rfl⟩ := Kd.R_slice ho0; have j0 := RowE.mk ho0; have q0 := LeI.mk (rowLe j0); obtain ⟨B1, b1, rfl⟩ := Kd.R_slice ho1; have j1 := RowE.mk ho1; have q1 := LeI.mk (rowLe j1); have jb := Bel.mk hb; clear A ho0 ho1 hb; (repeat' first | ((with_reducible replace h := ite_some h); rcases h with ⟨hc, h⟩ | ⟨hc, h⟩ <;> first | exact (none_some h).elim | exact absurd hc (by decide) | subst hc | (replace hc := Bool.eq_false_iff.mpr hc; subst hc) | (have hd := beq_iff_eq.mpr hc; have he := bne_eq_false_iff_eq.mpr hc; clear hc) | (have hd := beq_eq_false_iff_ne.mpr hc; have he := bne_iff_ne.mpr hc) | (have hd := decide_eq_false hc) | (have hd := decide_eq_true hc) | skip)))
    | (go_at_call 88; replace h := Option.bind_eq_some_iff.mp h; obtain ⟨⟨t1, t2, t3, t4⟩, A, h⟩ := h; (try dsimp only at h); refine (spec_WorkStep.calls _ _ _ _ _ _ _ _ _ _ _ _ _ Rd.out LeI.out Rd.out LeI.out A).mono ?_; rintro e w2 ⟨v0, v1, rfl, ho0, ho1, hb⟩; obtain ⟨B0, b0, rfl⟩ := Kd.R_slice ho0; have j0 := RowE.mk ho0; have q0 := LeI.mk (rowLe j0); obtain ⟨B1, b1, rfl⟩ := Kd.R_slice ho1; have j1 := RowE.mk ho1; have q1 := LeI.mk (rowLe j1); have jb := Bel.mk hb; clear A ho0 ho1 hb; (repeat' first | ((with_reducible replace h := ite_some h); rcases h with ⟨hc, h⟩ | ⟨hc, h⟩ <;> first | exact (none_some h).elim | exact absurd hc (by decide) | subst hc | (replace hc := Bool.eq_false_iff.mpr hc; subst hc) | (have hd := beq_iff_eq.mpr hc; have he := bne_eq_false_iff_eq.mpr hc; clear hc) | (have hd := beq_eq_false_iff_ne.mpr hc; have he := bne_iff_ne.mpr hc) | (have hd := decide_eq_false hc) | (have hd := decide_eq_true hc) | skip))))
  all_goals (repeat' first | ((with_reducible replace h := ite_some h); rcases h with ⟨hc, h⟩ | ⟨hc, h⟩ <;> first | exact (none_some h).elim | exact absurd hc (by decide) | subst hc | (replace hc := Bool.eq_false_iff.mpr hc; subst hc) | (have hd := beq_iff_eq.mpr hc; have he := bne_eq_false_iff_eq.mpr hc; clear hc) | (have hd := beq_eq_false_iff_ne.mpr hc; have he := bne_iff_ne.mpr hc) | (have hd := decide_eq_false hc) | (have hd := decide_eq_true hc) | skip))
  all_goals simp only [Option.some.injEq, Prod.mk.injEq] at h
  all_goals obtain ⟨rfl, rfl, rfl, rfl, rfl, rfl, rfl⟩ := h
  all_goals refine bodyPost_ret (results_ct rfl _ _ _ _ _ (0, 0) _ rfl Blk.out Try.underlying36 rfl (by kernel_rfl)) rfl ?_
  all_goals exact ⟨_, _, _, rfl, (by first | exact rowFin | exact Kd.R_nil _ _ _ _ _), (by first | exact rowFin | exact Kd.R_nil _ _ _ _ _), (by first | exact rowFin | exact Kd.R_nil _ _ _ _ _), From.out⟩
end Go.Proofs.Ytbkkpllejgedcaa.P


namespace Go.Proofs.Ytbkkpllejgedcaa.P
open Go.RowKit Go.Proofs.YtbkkpllejgedcaaW.PrintWords Go.Proofs.YtbkkpllejgedcaaW.PrintLast Go.Proofs.YtbkkpllejgedcaaW.PrintMore Go.Proofs.Ytbkkpllejgedcaa.V
attribute [local go_sem] cell_b frozen_b
attribute [local go_sem] max2_int min2_int max_two min_two max_three min_three max_four min_four
set_option linter.unusedVariables false
set_option linter.unusedSimpArgs false
def impl_LogOk.f (k : Nat) (l0 : List (S74)) : Option (Bool) := some (Q.logOk l0)
attribute [local go_sem] cellR_c
set_option maxHeartbeats 8000000 in
set_option maxRecDepth 100000 in
set_option synthInstance.maxHeartbeats 400000 in
set_option synthInstance.maxSize 100000 in
theorem impl_LogOk.calls (k : Nat) (A0 : Option Addr) (c0 : Nat) (l0 : List (S74)) (r : Bool) (w : World) (hr0 : Kd.C k74 w A0 l0.length l0) (hc0 : l0.length ≤ c0) (h : impl_LogOk.f k l0 = some r) :
    Calls Try.prog 65 #[.slice A0 l0.length c0] w fun e w' => e = .returned (.bool r) ∧ Below w.heap.size w w' := by
  have win : ∀ (a b c : Int) (d : Bool), decide (b ≤ a ∧ a ≤ c) = d → Aside0 (∀ W : World, Calls Try.prog 67 #[.int .i64 a, .int .i64 b, .int .i64 c] W fun e w' => e = .returned (.bool d) ∧ Drawn0 W w') := fun a b c d hd =>
    ⟨fun W => impl_within.calls a b c d W (by rw [← hd]; unfold impl_within.f; by_cases hh : b ≤ a <;> simp [hh])⟩
  have hm : l0.length ≤ 9223372036854775807 := Kd.C_max hr0
  have HQ : Aside0 ((Q.logGo (Q.prevM l0 0) (l0.drop 0) && decide (l0.length ≤ 30)) = r) := ⟨Option.some.inj h⟩
  have HR0 := Aside0.mk hr0
  have WIN := Aside0.mk win
  clear hr0 h win
  have hu := Try.underlying74
  go_enter Try.func65, Try.ntmps65
  go_wp2
  go_loopg [7] (l0.length + 1) (fun kq v7 w' => ∃ (i : Nat), v7 = .int .i64 (i : Int) ∧ Aside0 (i + kq = l0.length + 1) ∧ Aside0 (i ≤ l0.length) ∧ Aside0 ((Q.logGo (Q.prevM l0 i) (l0.drop i) && decide (l0.length ≤ 30)) = r) ∧ Aside0 (Below w.heap.size w w'))
  case atStart => exact ⟨0, rfl, ⟨by omega⟩, ⟨by omega⟩, HQ, ⟨by repeat (first | exact Below.refl _ _ | apply below_alloc | apply pw_below_drewN | apply below_drew1)⟩⟩
  case round =>
    clear HQ
    obtain ⟨i, rfl, HI1, HI2, HQ, HB⟩ := hrel
    have jf : From w wr := ⟨HB.out⟩
    have js : Sz w wr := ⟨HB.out.size⟩
    by_cases hlt : i < l0.length
    rotate_left
    · have hb3 : decide ((i : Int) < (l0.length : Int)) = false := decide_eq_false (by omega)
      have hb4 : decide (i < l0.length) = false := decide_eq_false (by omega)
      obtain rfl : i = l0.length := by have := HI2.out; omega
      have HX : Aside0 (decide (l0.length ≤ 30) = r) := ⟨by rw [← HQ.out, List.drop_eq_nil_of_le (Nat.le_refl _)]; simp [Q.logGo]⟩
      have hx1 : decide ((l0.length : Int) ≤ 30) = r := by rw [← HX.out]; exact decide_eq_decide.mpr (by omega)
      clear HQ HR0 WIN
      go_wp2
      go_ret
      exact ⟨by first | rfl | (simp [hx1]; done), HB.out⟩
    · have hb3 : decide ((i : Int) < (l0.length : Int)) = true := decide_eq_true (by omega)
      have hb4 : decide (i < l0.length) = true := decide_eq_true hlt
      obtain ⟨ad, e, hx0, hx1, hx2, hx3⟩ := at_T74 HR0.out (i : Int) (by omega) (by omega)
      cases e
      obtain ⟨x, hx⟩ : ∃ x, rd_T74 l0 (i : Int) = x := ⟨_, rfl⟩
      rw [hx] at hx0 hx1 hx2 hx3
      simp only [Int.toNat_natCast] at hx0 hx1 hx2 hx3
      have j0 : CelR wr _ _ := ⟨(HB.out.cell (World.block_lt_of_cell? w _ hx0)).trans hx0⟩
      have j1 : CelR wr _ _ := ⟨(HB.out.cell (World.block_lt_of_cell? w _ hx1)).trans hx1⟩
      have j2 : CelR wr _ _ := ⟨(HB.out.cell (World.block_lt_of_cell? w _ hx2)).trans hx2⟩
      have j3 : CelR wr _ _ := ⟨(HB.out.cell (World.block_lt_of_cell? w _ hx3)).trans hx3⟩
      have e0 : l0[i] = x := by rw [← hx]; simp [rd_T74, List.getD_eq_getElem?_getD, hlt]
      have HD := Aside0.mk (Q.logGo_at l0 i hlt)
      rw [e0] at HD
      obtain ⟨b1, hb1⟩ : ∃ b, decide (0 ≤ x.f0.f0 ∧ x.f0.f0 ≤ 3) = b := ⟨_, rfl⟩
      obtain ⟨b2, hb2⟩ : ∃ b, decide (0 ≤ x.f0.f1 ∧ x.f0.f1 ≤ 39) = b := ⟨_, rfl⟩
      obtain ⟨b3, hb3'⟩ : ∃ b, decide (0 ≤ x.f1 ∧ x.f1 ≤ 2) = b := ⟨_, rfl⟩
      obtain ⟨b4, hb4'⟩ : ∃ b, decide (0 ≤ x.f2 ∧ x.f2 ≤ 100000) = b := ⟨_, rfl⟩
      have W1 := WIN.out _ _ _ _ hb1
      have W2 := WIN.out _ _ _ _ hb2
      have W3 := WIN.out _ _ _ _ hb3'
      have W4 := WIN.out _ _ _ _ hb4'
      have HE : Aside0 (Q.entOk x = (b1 && (b2 && (b3 && b4)))) := ⟨by rw [← hb1, ← hb2, ← hb3', ← hb4']; rfl⟩
      have HP : Aside0 (0 < i → Q.prevM l0 i = (rd_T74 l0 ((i - 1 : Nat) : Int)).f2) := ⟨fun h0 => by rw [Q.prevM_pos l0 i h0 hlt]; simp [rd_T74, List.getD_eq_getElem?_getD, show i - 1 < l0.length by omega]⟩
      have HZ : Aside0 (b4 = true → i = 0 → Q.prevM l0 i ≤ x.f2) := ⟨fun h4 h0 => by subst h0; rw [h4, decide_eq_true_eq] at hb4'; exact hb4'.1⟩
      clear hx hx0 hx1 hx2 hx3 e0 WIN hb1 hb2 hb3' hb4'
      cases b1 with
      | false =>
        obtain rfl : false = r := by rw [← HQ.out, HD.out, HE.out]; rfl
        clear HR0 HQ HD HE HP HZ
        go_wp2_with (first         | ((with_reducible refine gate_dst (N := 4) rfl ?_); refine box_event rfl (N := 4) rfl (cs := #[.int .i64 0, .int .i64 0, .int .i64 0, .int .i64 0]) (t := 74) (by first | (go_simp; done) | (go_simp; rfl)) ?_; intro g hg w1 hk hb; have j1 := Born.mk hg; have j2 := Bel.mk hb; have j3 := Blk.mk hk; clear hg hb hk)         | (go_at_call 67; (first | (with_reducible refine (W1.out _).mono ?_) | (with_reducible refine (W2.out _).mono ?_) | (with_reducible refine (W3.out _).mono ?_) | (with_reducible refine (W4.out _).mono ?_)); rintro e w' ⟨rfl, ⟨nd, rfl⟩⟩))
        repeat (go_quiet (first | (go_at_call 67; (first | (with_reducible refine (W1.out _).mono ?_) | (with_reducible refine (W2.out _).mono ?_) | (with_reducible refine (W3.out _).mono ?_) | (with_reducible refine (W4.out _).mono ?_)); rintro e w' ⟨rfl, ⟨nd, rfl⟩⟩; exact ⟨rfl, _, World.drewN_drewN _ _ _⟩)); try go_wp2)
        go_ret
        exact ⟨rfl, From.out⟩
      | true =>
        cases b2 with
        | false =>
          obtain rfl : false = r := by rw [← HQ.out, HD.out, HE.out]; rfl
          clear HR0 HQ HD HE HP HZ
          go_wp2_with (first         | ((with_reducible refine gate_dst (N := 4) rfl ?_); refine box_event rfl (N := 4) rfl (cs := #[.int .i64 0, .int .i64 0, .int .i64 0, .int .i64 0]) (t := 74) (by first | (go_simp; done) | (go_simp; rfl)) ?_; intro g hg w1 hk hb; have j1 := Born.mk hg; have j2 := Bel.mk hb; have j3 := Blk.mk hk; clear hg hb hk)         | (go_at_call 67; (first | (with_reducible refine (W1.out _).mono ?_) | (with_reducible refine (W2.out _).mono ?_) | (with_reducible refine (W3.out _).mono ?_) | (with_reducible refine (W4.out _).mono ?_)); rintro e w' ⟨rfl, ⟨nd, rfl⟩⟩))
          repeat (go_quiet (first | (go_at_call 67; (first | (with_reducible refine (W1.out _).mono ?_) | (with_reducible refine (W2.out _).mono ?_) | (with_reducible refine (W3.out _).mono ?_) | (with_reducible refine (W4.out _).mono ?_)); rintro e w' ⟨rfl, ⟨nd, rfl⟩⟩; exact ⟨rfl, _, World.drewN_drewN _ _ _⟩)); try go_wp2)
          go_ret
          exact ⟨rfl, From.out⟩
        | true =>
          cases b3 with
          | false =>
            obtain rfl : false = r := by rw [← HQ.out, HD.out, HE.out]; rfl
            clear HR0 HQ HD HE HP HZ
            go_wp2_with (first         | ((with_reducible refine gate_dst (N := 4) rfl ?_); refine box_event rfl (N := 4) rfl (cs := #[.int .i64 0, .int .i64 0, .int .i64 0, .int .i64 0]) (t := 74) (by first | (go_simp; done) | (go_simp; rfl)) ?_; intro g hg w1 hk hb; have j1 := Born.mk hg; have j2 := Bel.mk hb; have j3 := Blk.mk hk; clear hg hb hk)         | (go_at_call 67; (first | (with_reducible refine (W1.out _).mono ?_) | (with_reducible refine (W2.out _).mono ?_) | (with_reducible refine (W3.out _).mono ?_) | (with_reducible refine (W4.out _).mono ?_)); rintro e w' ⟨rfl, ⟨nd, rfl⟩⟩))
            repeat (go_quiet (first | (go_at_call 67; (first | (with_reducible refine (W1.out _).mono ?_) | (with_reducible refine (W2.out _).mono ?_) | (with_reducible refine (W3.out _).mono ?_) | (with_reducible refine (W4.out _).mono ?_)); rintro e w' ⟨rfl, ⟨nd, rfl⟩⟩; exact ⟨rfl, _, World.drewN_drewN _ _ _⟩)); try go_wp2)
            go_ret
            exact ⟨rfl, From.out⟩
          | true =>
            cases b4 with
            | false =>
              obtain rfl : false = r := by rw [← HQ.out, HD.out, HE.out]; rfl
              clear HR0 HQ HD HE HP HZ
              go_wp2_with (first         | ((with_reducible refine gate_dst (N := 4) rfl ?_); refine box_event rfl (N := 4) rfl (cs := #[.int .i64 0, .int .i64 0, .int .i64 0, .int .i64 0]) (t := 74) (by first | (go_simp; done) | (go_simp; rfl)) ?_; intro g hg w1 hk hb; have j1 := Born.mk hg; have j2 := Bel.mk hb; have j3 := Blk.mk hk; clear hg hb hk)         | (go_at_call 67; (first | (with_reducible refine (W1.out _).mono ?_) | (with_reducible refine (W2.out _).mono ?_) | (with_reducible refine (W3.out _).mono ?_) | (with_reducible refine (W4.out _).mono ?_)); rintro e w' ⟨rfl, ⟨nd, rfl⟩⟩))
              repeat (go_quiet (first | (go_at_call 67; (first | (with_reducible refine (W1.out _).mono ?_) | (with_reducible refine (W2.out _).mono ?_) | (with_reducible refine (W3.out _).mono ?_) | (with_reducible refine (W4.out _).mono ?_)); rintro e w' ⟨rfl, ⟨nd, rfl⟩⟩; exact ⟨rfl, _, World.drewN_drewN _ _ _⟩)); try go_wp2)
              go_ret
              exact ⟨rfl, From.out⟩
            | true =>
              have hs : (i : Int) + 1 ≤ 9223372036854775807 := by omega
              by_cases hz : i = 0
              · have hz1 : decide ((i : Int) > 0) = false := decide_eq_false (by omega)
                have hz2 : decide ((0 : Int) < (i : Int)) = false := decide_eq_false (by omega)
                have hz3 : decide (0 < i) = false := decide_eq_false (by omega)
                have HN : Aside0 ((Q.logGo (Q.prevM l0 (i + 1)) (l0.drop (i + 1)) && decide (l0.length ≤ 30)) = r) := ⟨by rw [← HQ.out, HD.out, HE.out, show decide (Q.prevM l0 i ≤ x.f2) = true from decide_eq_true (HZ.out rfl hz)]; rfl⟩
                clear HQ HD HE HP HZ hz
                go_wp2_with (first         | ((with_reducible refine gate_dst (N := 4) rfl ?_); refine box_event rfl (N := 4) rfl (cs := #[.int .i64 0, .int .i64 0, .int .i64 0, .int .i64 0]) (t := 74) (by first | (go_simp; done) | (go_simp; rfl)) ?_; intro g hg w1 hk hb; have j1 := Born.mk hg; have j2 := Bel.mk hb; have j3 := Blk.mk hk; clear hg hb hk)         | (go_at_call 67; (first | (with_reducible refine (W1.out _).mono ?_) | (with_reducible refine (W2.out _).mono ?_) | (with_reducible refine (W3.out _).mono ?_) | (with_reducible refine (W4.out _).mono ?_)); rintro e w' ⟨rfl, ⟨nd, rfl⟩⟩))
                repeat (go_quiet (first | (go_at_call 67; (first | (with_reducible refine (W1.out _).mono ?_) | (with_reducible refine (W2.out _).mono ?_) | (with_reducible refine (W3.out _).mono ?_) | (with_reducible refine (W4.out _).mono ?_)); rintro e w' ⟨rfl, ⟨nd, rfl⟩⟩; exact ⟨rfl, _, World.drewN_drewN _ _ _⟩)); try go_wp2)
                go_roundg (l0.length - i)
                case measure => have := HI1.out; omega
                case rel => exact ⟨i + 1, by go_num, ⟨by omega⟩, ⟨by omega⟩, HN, ⟨From.out⟩⟩
              · obtain ⟨j, hj⟩ : ∃ j, j = i - 1 := ⟨_, rfl⟩
                have hz1 : decide ((i : Int) > 0) = true := decide_eq_true (by omega)
                have hz2 : decide ((0 : Int) < (i : Int)) = true := decide_eq_true (by omega)
                have hz3 : decide (0 < i) = true := decide_eq_true (by omega)
                have hw1 : wrap64 ((i : Int) - 1) = (j : Int) := by unfold wrap64; omega
                have hw2 : IntKind.i64.wrap ((i : Int) - 1) = (j : Int) := by rw [i64_w]; exact hw1
                have hj1 : (j : Int) < (l0.length : Int) := by omega
                have hj2 : j < l0.length := by omega
                have hl1 : decide ((j : Int) < (l0.length : Int)) = true := decide_eq_true (by omega)
                have hl2 : decide (j < l0.length) = true := decide_eq_true (by omega)
                obtain ⟨ad2, e2, _, _, _, hy3⟩ := at_T74 HR0.out (j : Int) (by omega) (by omega)
                cases e2
                obtain ⟨y, hy⟩ : ∃ y, rd_T74 l0 (j : Int) = y := ⟨_, rfl⟩
                have HP2 := Aside0.mk (HP.out (by omega))
                rw [← hj, hy] at HP2
                rw [hy] at hy3
                simp only [Int.toNat_natCast] at hy3
                have j4 : CelR wr _ _ := ⟨(HB.out.cell (World.block_lt_of_cell? w _ hy3)).trans hy3⟩
                clear hy hy3 HP hj
                by_cases h5 : y.f2 ≤ x.f2
                · have h51 : decide (y.f2 > x.f2) = false := decide_eq_false (by omega)
                  have h52 : decide (x.f2 < y.f2) = false := decide_eq_false (by omega)
                  have HN : Aside0 ((Q.logGo (Q.prevM l0 (i + 1)) (l0.drop (i + 1)) && decide (l0.length ≤ 30)) = r) := ⟨by rw [← HQ.out, HD.out, HE.out, show decide (Q.prevM l0 i ≤ x.f2) = true from decide_eq_true (by rw [HP2.out]; exact h5)]; rfl⟩
                  clear HQ HD HE HP2 HZ HR0
                  go_wp2_with (first         | ((with_reducible refine gate_dst (N := 4) rfl ?_); refine box_event rfl (N := 4) rfl (cs := #[.int .i64 0, .int .i64 0, .int .i64 0, .int .i64 0]) (t := 74) (by first | (go_simp; done) | (go_simp; rfl)) ?_; intro g hg w1 hk hb; have j1 := Born.mk hg; have j2 := Bel.mk hb; have j3 := Blk.mk hk; clear hg hb hk)         | (go_at_call 67; (first | (with_reducible refine (W1.out _).mono ?_) | (with_reducible refine (W2.out _).mono ?_) | (with_reducible refine (W3.out _).mono ?_) | (with_reducible refine (W4.out _).mono ?_)); rintro e w' ⟨rfl, ⟨nd, rfl⟩⟩))
                  repeat (go_quiet (first | (go_at_call 67; (first | (with_reducible refine (W1.out _).mono ?_) | (with_reducible refine (W2.out _).mono ?_) | (with_reducible refine (W3.out _).mono ?_) | (with_reducible refine (W4.out _).mono ?_)); rintro e w' ⟨rfl, ⟨nd, rfl⟩⟩; exact ⟨rfl, _, World.drewN_drewN _ _ _⟩)); try go_wp2)
                  go_roundg (l0.length - i)
                  case measure => have := HI1.out; omega
                  case rel => exact ⟨i + 1, by go_num, ⟨by omega⟩, ⟨by omega⟩, HN, ⟨From.out⟩⟩
                · have h51 : decide (y.f2 > x.f2) = true := decide_eq_true (by omega)
                  have h52 : decide (x.f2 < y.f2) = true := decide_eq_true (by omega)
                  obtain rfl : false = r := by rw [← HQ.out, HD.out, HE.out, show decide (Q.prevM l0 i ≤ x.f2) = false from decide_eq_false (by rw [HP2.out]; exact h5)]; rfl
                  clear HQ HD HE HP2 HZ HR0
                  go_wp2_with (first         | ((with_reducible refine gate_dst (N := 4) rfl ?_); refine box_event rfl (N := 4) rfl (cs := #[.int .i64 0, .int .i64 0, .int .i64 0, .int .i64 0]) (t := 74) (by first | (go_simp; done) | (go_simp; rfl)) ?_; intro g hg w1 hk hb; have j1 := Born.mk hg; have j2 := Bel.mk hb; have j3 := Blk.mk hk; clear hg hb hk)         | (go_at_call 67; (first | (with_reducible refine (W1.out _).mono ?_) | (with_reducible refine (W2.out _).mono ?_) | (with_reducible refine (W3.out _).mono ?_) | (with_reducible refine (W4.out _).mono ?_)); rintro e w' ⟨rfl, ⟨nd, rfl⟩⟩))
                  repeat (go_quiet (first | (go_at_call 67; (first | (with_reducible refine (W1.out _).mono ?_) | (with_reducible refine (W2.out _).mono ?_) | (with_reducible refine (W3.out _).mono ?_) | (with_reducible refine (W4.out _).mono ?_)); rintro e w' ⟨rfl, ⟨nd, rfl⟩⟩; exact ⟨rfl, _, World.drewN_drewN _ _ _⟩)); try go_wp2)
                  go_ret
                  exact ⟨rfl, From.out⟩
end Go.Proofs.Ytbkkpllejgedcaa.P


namespace Go.Proofs.Ytbkkpllejgedcaa.P
open Go.RowKit Go.Proofs.YtbkkpllejgedcaaW.PrintWords Go.Proofs.YtbkkpllejgedcaaW.PrintLast Go.Proofs.YtbkkpllejgedcaaW.PrintMore
attribute [local go_sem] max2_int min2_int max_two min_two max_three min_three max_four min_four
set_option linter.unusedVariables false
set_option linter.unusedSimpArgs false
def impl_isWarmth.f (a0 : Int) : Option (Bool) := (impl_within.f a0 (-10) 40).bind fun t176 => (some t176)
set_option maxHeartbeats 8000000 in
set_option maxRecDepth 100000 in
theorem impl_isWarmth.calls (a0 : Int) (r : Bool) (w : World) (h : impl_isWarmth.f a0 = some r) :
    Calls Try.prog 66 #[.int .i64 a0] w fun e w' => e = .returned (.bool r) ∧ Drawn0 w w' := by
  have H : ((impl_within.f a0 (-10) 40).bind fun t176 => (some t176)) = some r := h
  clear h
  replace H := Option.bind_eq_some_iff.mp H
  obtain ⟨t176, A20, H⟩ := H
  (try dsimp only at H)
  have A2 := Aside0.mk A20
  clear A20
  obtain rfl := Option.some.inj H
  go_enter Try.func66, Try.ntmps66
  go_wp2_with (first | ((with_reducible refine gate_callee (f := 67) rfl ?_); refine goesL_ (some 4) rfl rfl Try.func67 (by kernel_rfl) rfl #[.int .i64 a0, .int .i64 (-10), .int .i64 40] rfl (by (try simp only [List.map_toArray, List.map_cons, List.map_nil]); first | done | rfl | (simp only [List.length_drop, List.length_take]; rfl)) ?_; (with_reducible refine (impl_within.calls a0 (-10) 40 t176 _ A2.out).mono ?_); rintro e w' ⟨rfl, ⟨nd, rfl⟩⟩; refine ⟨_, rfl, ?_⟩))
  go_ret
  exact ⟨by first | rfl | (simp; done) | (simp [*]; done), by repeat (first | exact Drawn0.refl _ | apply Drawn0.step)⟩
end Go.Proofs.Ytbkkpllejgedcaa.P


namespace Go.Proofs.Ytbkkpllejgedcaa.P
open Go.RowKit Go.Proofs.YtbkkpllejgedcaaW.PrintWords Go.Proofs.YtbkkpllejgedcaaW.PrintLast Go.Proofs.YtbkkpllejgedcaaW.PrintMore Go.Proofs.Ytbkkpllejgedcaa.V
attribute [local go_sem] cell_b frozen_b
attribute [local go_sem] max2_int min2_int max_two min_two max_three min_three max_four min_four
set_option linter.unusedVariables false
set_option linter.unusedSimpArgs false
def impl_ShopOk.f (k : Nat) (l0_0 : List (S96)) (a0_1 : Int) (l0_2 : List Int) (a0_3 : Int) (a0_4 : Int) (l0_5 : List (S74)) : Option (Bool) := some (Q.shopOk l0_0 a0_1 l0_2 a0_3 a0_4 l0_5)
attribute [local go_sem] cellR_c
set_option maxHeartbeats 2000000 in
set_option maxRecDepth 100000 in
set_option synthInstance.maxHeartbeats 400000 in
set_option synthInstance.maxSize 100000 in
theorem impl_ShopOk.calls (k : Nat) (A0_0 : Option Addr) (c0_0 : Nat) (l0_0 : List (S96)) (a0_1 : Int) (A0_2 : Option Addr) (c0_2 : Nat) (l0_2 : List Int) (a0_3 : Int) (a0_4 : Int) (A0_5 : Option Addr) (c0_5 : Nat) (l0_5 : List (S74)) (r : Bool) (w : World) (hr0_0 : Kd.C k96 w A0_0 l0_0.length l0_0) (hc0_0 : l0_0.length ≤ c0_0) (hr0_2 : Kd.C (Kd.int .i64) w A0_2 l0_2.length l0_2) (hc0_2 : l0_2.length ≤ c0_2) (hr0_5 : Kd.C k74 w A0_5 l0_5.length l0_5) (hc0_5 : l0_5.length ≤ c0_5) (h : impl_ShopOk.f k l0_0 a0_1 l0_2 a0_3 a0_4 l0_5 = some r) :
    Calls Try.prog 18 #[.agg #[.slice A0_0 l0_0.length c0_0, .int .i64 a0_1, .slice A0_2 l0_2.length c0_2, .int .i64 a0_3, .int .i64 a0_4, .slice A0_5 l0_5.length c0_5]] w fun e w' => e = .returned (.bool r) ∧ Below w.heap.size w w' := by
  obtain ⟨b1, hb1⟩ : ∃ b, workOk l0_0 a0_1 l0_2 = b := ⟨_, rfl⟩
  obtain ⟨b2, hb2⟩ : ∃ b, Q.logOk l0_5 = b := ⟨_, rfl⟩
  obtain ⟨b3, hb3⟩ : ∃ b, decide (-10 ≤ a0_3 ∧ a0_3 ≤ 40) = b := ⟨_, rfl⟩
  obtain ⟨b4, hb4⟩ : ∃ b, decide (0 ≤ a0_4 ∧ a0_4 ≤ 100000) = b := ⟨_, rfl⟩
  obtain ⟨b5, hb5⟩ : ∃ b, decide (Q.lastOk l0_5 a0_4) = b := ⟨_, rfl⟩
  have HQ : Aside0 ((b1 && (b2 && (b3 && (b4 && b5)))) = r) := ⟨by rw [← hb1, ← hb2, ← hb3, ← hb4, ← hb5]; exact Option.some.inj h⟩
  have A1 : Aside0 (impl_WorkOk.f l0_0 a0_1 l0_2 = some b1) := ⟨by rw [← hb1]; rfl⟩
  have A2 : Aside0 (impl_LogOk.f k l0_5 = some b2) := ⟨by rw [← hb2]; rfl⟩
  have A4 : Aside0 (impl_within.f a0_4 0 100000 = some b4) := ⟨by rw [← hb4]; unfold impl_within.f; by_cases hh : 0 ≤ a0_4 <;> simp [hh]⟩
  have A3 : Aside0 (impl_isWarmth.f a0_3 = some b3) := ⟨by rw [← hb3]; unfold impl_isWarmth.f impl_within.f; by_cases hh : -10 ≤ a0_3 <;> simp [hh]⟩
  have H5 := Aside0.mk hb5
  have HR := Aside0.mk hr0_5
  have HM := Aside0.mk (Kd.C_max hr0_5)
  have i0 := RdE.mk hr0_0
  have i1 := LeI.mk hc0_0
  have i2 := RdE.mk hr0_2
  have i3 := LeI.mk hc0_2
  have i4 := RdE.mk hr0_5
  have i5 := LeI.mk hc0_5
  have hu := Try.underlying36
  clear hr0_0 hc0_0 hr0_2 hc0_2 hr0_5 hc0_5 h hb1 hb2 hb3 hb4 hb5
  cases b1 with
  | false =>
    obtain rfl : false = r := HQ.out
    clear HQ H5 HR HM
    go_enter Try.func18, Try.ntmps18
    go_wp2_with (first | ((with_reducible refine gate_dst (N := 1) rfl ?_); (try (refine gate_guard (by rfl) ?_; dsimp only)); refine box_event rfl (N := 1) rfl (cs := #[.slice A0_0 l0_0.length c0_0, .int .i64 a0_1, .slice A0_2 l0_2.length c0_2, .int .i64 a0_3, .int .i64 a0_4, .slice A0_5 l0_5.length c0_5]) (t := 36) (by first | (go_simp; done) | (go_simp; rfl)) ?_; intro g hg w1 hk hb; have j1 := Born.mk hg; have j2 := Bel.mk hb; have j3 := Blk.mk hk; clear hg hb hk) | (go_at_call 64; refine (impl_WorkOk.calls _ _ _ _ _ _ _ _ _ Rd.out LeI.out Rd.out LeI.out A1.out).mono ?_; rintro e w2 ⟨rfl, hb⟩; have jb := Bel.mk hb; clear hb) | (go_at_call 65; refine (impl_LogOk.calls k _ _ _ _ _ Rd.out LeI.out A2.out).mono ?_; rintro e w2 ⟨rfl, hb⟩; have jb := Bel.mk hb; clear hb) | (go_at_call 66; refine (impl_isWarmth.calls _ _ _ A3.out).mono ?_; rintro e w2 ⟨rfl, n, rfl⟩) | (go_at_call 67; refine (impl_within.calls _ _ _ _ _ A4.out).mono ?_; rintro e w2 ⟨rfl, n, rfl⟩))
    repeat (go_quiet (fail); try go_wp2)
    go_ret
    exact ⟨rfl, From.out⟩
  | true =>
    cases b2 with
    | false =>
      obtain rfl : false = r := HQ.out
      clear HQ H5 HR HM
      go_enter Try.func18, Try.ntmps18
      go_wp2_with (first | ((with_reducible refine gate_dst (N := 1) rfl ?_); (try (refine gate_guard (by rfl) ?_; dsimp only)); refine box_event rfl (N := 1) rfl (cs := #[.slice A0_0 l0_0.length c0_0, .int .i64 a0_1, .slice A0_2 l0_2.length c0_2, .int .i64 a0_3, .int .i64 a0_4, .slice A0_5 l0_5.length c0_5]) (t := 36) (by first | (go_simp; done) | (go_simp; rfl)) ?_; intro g hg w1 hk hb; have j1 := Born.mk hg; have j2 := Bel.mk hb; have j3 := Blk.mk hk; clear hg hb hk) | (go_at_call 64; refine (impl_WorkOk.calls _ _ _ _ _ _ _ _ _ Rd.out LeI.out Rd.out LeI.out A1.out).mono ?_; rintro e w2 ⟨rfl, hb⟩; have jb := Bel.mk hb; clear hb) | (go_at_call 65; refine (impl_LogOk.calls k _ _ _ _ _ Rd.out LeI.out A2.out).mono ?_; rintro e w2 ⟨rfl, hb⟩; have jb := Bel.mk hb; clear hb) | (go_at_call 66; refine (impl_isWarmth.calls _ _ _ A3.out).mono ?_; rintro e w2 ⟨rfl, n, rfl⟩) | (go_at_call 67; refine (impl_within.calls _ _ _ _ _ A4.out).mono ?_; rintro e w2 ⟨rfl, n, rfl⟩))
      repeat (go_quiet (fail); try go_wp2)
      go_ret
      exact ⟨rfl, From.out⟩
    | true =>
      cases b3 with
      | false =>
        obtain rfl : false = r := HQ.out
        clear HQ H5 HR HM
        go_enter Try.func18, Try.ntmps18
        go_wp2_with (first | ((with_reducible refine gate_dst (N := 1) rfl ?_); (try (refine gate_guard (by rfl) ?_; dsimp only)); refine box_event rfl (N := 1) rfl (cs := #[.slice A0_0 l0_0.length c0_0, .int .i64 a0_1, .slice A0_2 l0_2.length c0_2, .int .i64 a0_3, .int .i64 a0_4, .slice A0_5 l0_5.length c0_5]) (t := 36) (by first | (go_simp; done) | (go_simp; rfl)) ?_; intro g hg w1 hk hb; have j1 := Born.mk hg; have j2 := Bel.mk hb; have j3 := Blk.mk hk; clear hg hb hk) | (go_at_call 64; refine (impl_WorkOk.calls _ _ _ _ _ _ _ _ _ Rd.out LeI.out Rd.out LeI.out A1.out).mono ?_; rintro e w2 ⟨rfl, hb⟩; have jb := Bel.mk hb; clear hb) | (go_at_call 65; refine (impl_LogOk.calls k _ _ _ _ _ Rd.out LeI.out A2.out).mono ?_; rintro e w2 ⟨rfl, hb⟩; have jb := Bel.mk hb; clear hb) | (go_at_call 66; refine (impl_isWarmth.calls _ _ _ A3.out).mono ?_; rintro e w2 ⟨rfl, n, rfl⟩) | (go_at_call 67; refine (impl_within.calls _ _ _ _ _ A4.out).mono ?_; rintro e w2 ⟨rfl, n, rfl⟩))
        repeat (go_quiet (fail); try go_wp2)
        go_ret
        exact ⟨rfl, From.out⟩
      | true =>
        cases b4 with
        | false =>
          obtain rfl : false = r := HQ.out
          clear HQ H5 HR HM
          go_enter Try.func18, Try.ntmps18
          go_wp2_with (first | ((with_reducible refine gate_dst (N := 1) rfl ?_); (try (refine gate_guard (by rfl) ?_; dsimp only)); refine box_event rfl (N := 1) rfl (cs := #[.slice A0_0 l0_0.length c0_0, .int .i64 a0_1, .slice A0_2 l0_2.length c0_2, .int .i64 a0_3, .int .i64 a0_4, .slice A0_5 l0_5.length c0_5]) (t := 36) (by first | (go_simp; done) | (go_simp; rfl)) ?_; intro g hg w1 hk hb; have j1 := Born.mk hg; have j2 := Bel.mk hb; have j3 := Blk.mk hk; clear hg hb hk) | (go_at_call 64; refine (impl_WorkOk.calls _ _ _ _ _ _ _ _ _ Rd.out LeI.out Rd.out LeI.out A1.out).mono ?_; rintro e w2 ⟨rfl, hb⟩; have jb := Bel.mk hb; clear hb) | (go_at_call 65; refine (impl_LogOk.calls k _ _ _ _ _ Rd.out LeI.out A2.out).mono ?_; rintro e w2 ⟨rfl, hb⟩; have jb := Bel.mk hb; clear hb) | (go_at_call 66; refine (impl_isWarmth.calls _ _ _ A3.out).mono ?_; rintro e w2 ⟨rfl, n, rfl⟩) | (go_at_call 67; refine (impl_within.calls _ _ _ _ _ A4.out).mono ?_; rintro e w2 ⟨rfl, n, rfl⟩))
          repeat (go_quiet (fail); try go_wp2)
          go_ret
          exact ⟨rfl, From.out⟩
        | true =>
          obtain rfl : b5 = r := HQ.out
          by_cases hz : l0_5.length = 0
          · have z1 : ((l0_5.length : Int) == 0) = true := beq_iff_eq.mpr (by omega)
            have z2 : ((l0_5.length : Int) != 0) = false := bne_eq_false_iff_eq.mpr (by omega)
            have z3 : decide ((l0_5.length : Int) = 0) = true := decide_eq_true (by omega)
            obtain rfl : true = b5 := by rw [← H5.out]; exact (decide_eq_true (.inl hz)).symm
            clear HQ H5 HR HM hz
            go_enter Try.func18, Try.ntmps18
            go_wp2_with (first | ((with_reducible refine gate_dst (N := 1) rfl ?_); (try (refine gate_guard (by rfl) ?_; dsimp only)); refine box_event rfl (N := 1) rfl (cs := #[.slice A0_0 l0_0.length c0_0, .int .i64 a0_1, .slice A0_2 l0_2.length c0_2, .int .i64 a0_3, .int .i64 a0_4, .slice A0_5 l0_5.length c0_5]) (t := 36) (by first | (go_simp; done) | (go_simp; rfl)) ?_; intro g hg w1 hk hb; have j1 := Born.mk hg; have j2 := Bel.mk hb; have j3 := Blk.mk hk; clear hg hb hk) | (go_at_call 64; refine (impl_WorkOk.calls _ _ _ _ _ _ _ _ _ Rd.out LeI.out Rd.out LeI.out A1.out).mono ?_; rintro e w2 ⟨rfl, hb⟩; have jb := Bel.mk hb; clear hb) | (go_at_call 65; refine (impl_LogOk.calls k _ _ _ _ _ Rd.out LeI.out A2.out).mono ?_; rintro e w2 ⟨rfl, hb⟩; have jb := Bel.mk hb; clear hb) | (go_at_call 66; refine (impl_isWarmth.calls _ _ _ A3.out).mono ?_; rintro e w2 ⟨rfl, n, rfl⟩) | (go_at_call 67; refine (impl_within.calls _ _ _ _ _ A4.out).mono ?_; rintro e w2 ⟨rfl, n, rfl⟩))
            repeat (go_quiet (fail); try go_wp2)
            go_ret
            exact ⟨rfl, From.out⟩
          · obtain ⟨j, hj⟩ : ∃ j, j + 1 = l0_5.length := ⟨l0_5.length - 1, by omega⟩
            have z1 : ((l0_5.length : Int) == 0) = false := beq_eq_false_iff_ne.mpr (by omega)
            have z2 : ((l0_5.length : Int) != 0) = true := bne_iff_ne.mpr (by omega)
            have z3 : decide ((l0_5.length : Int) = 0) = false := decide_eq_false (by omega)
            have hM := HM.out
            have hw1 : wrap64 ((l0_5.length : Int) - 1) = (j : Int) := by unfold wrap64; omega
            have hw2 : IntKind.i64.wrap ((l0_5.length : Int) - 1) = (j : Int) := by rw [i64_w]; exact hw1
            have hj1 : (j : Int) < (l0_5.length : Int) := by omega
            have hj2 : j < l0_5.length := by omega
            obtain ⟨ad2, e2, _, _, _, hy3⟩ := at_T74 HR.out (j : Int) (by omega) (by omega)
            subst e2
            obtain ⟨y, hy⟩ : ∃ y, rd_T74 l0_5 (j : Int) = y := ⟨_, rfl⟩
            rw [hy] at hy3
            simp only [Int.toNat_natCast] at hy3
            have j4 : CelR w _ _ := ⟨hy3⟩
            have h6 : decide (y.f2 ≤ a0_4) = b5 := by
              rw [← H5.out, ← hy]
              refine decide_eq_decide.mpr ?_
              unfold Q.lastOk
              rw [show l0_5.length - 1 = j by omega]
              simp [rd_T74, hz]
            have h7 : decide (a0_4 ≥ y.f2) = b5 := h6
            clear HQ H5 HR HM hM hy hy3 hz hj
            go_enter Try.func18, Try.ntmps18
            go_wp2_with (first | ((with_reducible refine gate_dst (N := 1) rfl ?_); (try (refine gate_guard (by rfl) ?_; dsimp only)); refine box_event rfl (N := 1) rfl (cs := #[.slice A0_0 l0_0.length c0_0, .int .i64 a0_1, .slice A0_2 l0_2.length c0_2, .int .i64 a0_3, .int .i64 a0_4, .slice (some ad2) l0_5.length c0_5]) (t := 36) (by first | (go_simp; done) | (go_simp; rfl)) ?_; intro g hg w1 hk hb; have j1 := Born.mk hg; have j2 := Bel.mk hb; have j3 := Blk.mk hk; clear hg hb hk) | (go_at_call 64; refine (impl_WorkOk.calls _ _ _ _ _ _ _ _ _ Rd.out LeI.out Rd.out LeI.out A1.out).mono ?_; rintro e w2 ⟨rfl, hb⟩; have jb := Bel.mk hb; clear hb) | (go_at_call 65; refine (impl_LogOk.calls k _ _ _ _ _ Rd.out LeI.out A2.out).mono ?_; rintro e w2 ⟨rfl, hb⟩; have jb := Bel.mk hb; clear hb) | (go_at_call 66; refine (impl_isWarmth.calls _ _ _ A3.out).mono ?_; rintro e w2 ⟨rfl, n, rfl⟩) | (go_at_call 67; refine (impl_within.calls _ _ _ _ _ A4.out).mono ?_; rintro e w2 ⟨rfl, n, rfl⟩))
            repeat (go_quiet (fail); try go_wp2)
            go_ret
            exact ⟨by first | rfl | (simp [h6]; done), From.out⟩
end Go.Proofs.Ytbkkpllejgedcaa.P


namespace Go.Proofs.Ytbkkpllejgedcaa.P
open Go.RowKit Go.Proofs.YtbkkpllejgedcaaW.PrintWords Go.Proofs.YtbkkpllejgedcaaW.PrintLast Go.Proofs.YtbkkpllejgedcaaW.PrintMore
attribute [local go_sem] max2_int min2_int max_two min_two max_three min_three max_four min_four
set_option linter.unusedVariables false
set_option linter.unusedSimpArgs false
def impl_TunedPitch.j0 : Nat → Int → Int → Int → Bool → Option (Int)
  | 0, _, _, _, _ => none
  | k + 1, x0, x1, x2, x27 => if x27 = true then (some 0) else (if x1 = 1 then ((impl_isFine.f (wrap64 (Int.tdiv (mx (wrap64 ((wrap64 (3 * x0)) - x2)) 0) 2))).bind fun t362 => (if t362 = true then (some (wrap64 (Int.tdiv (mx (wrap64 ((wrap64 (3 * x0)) - x2)) 0) 2))) else (some 0))) else (if x1 = 2 then ((impl_isFine.f (wrap64 (Int.tdiv (mx (wrap64 ((wrap64 (3 * x0)) - x2)) 0) 4))).bind fun t363 => (if t363 = true then (some (wrap64 (Int.tdiv (mx (wrap64 ((wrap64 (3 * x0)) - x2)) 0) 4))) else (some 0))) else (if x1 = 3 then ((impl_isFine.f (wrap64 (2 * x0))).bind fun t364 => (if t364 = true then (some (wrap64 (2 * x0))) else (some 0))) else (if x1 = 4 then ((impl_isFine.f (wrap64 (Int.tdiv x0 2))).bind fun t365 => (if t365 = true then (some (wrap64 (Int.tdiv x0 2))) else (some 0))) else ((impl_isFine.f 0).bind fun t366 => (if t366 = true then (some 0) else (some 0)))))))
def impl_TunedPitch.f (k : Nat) (a0 : Int) (a1 : Int) (a2 : Int) : Option (Int) := (impl_isFine.f a0).bind fun t360 => (if t360 = true then ((impl_within.f a2 0 100000).bind fun t361 => (if t361 = true then (if a2 = 0 then (impl_TunedPitch.j0 k a0 a1 a2 false) else (if a1 = 3 then (impl_TunedPitch.j0 k a0 a1 a2 true) else (impl_TunedPitch.j0 k a0 a1 a2 (a1 == 4)))) else (impl_TunedPitch.j0 k a0 a1 a2 true))) else (impl_TunedPitch.j0 k a0 a1 a2 true))
set_option maxHeartbeats 8000000 in
set_option maxRecDepth 100000 in
theorem impl_TunedPitch.calls (k : Nat) (a0 : Int) (a1 : Int) (a2 : Int) (r : Int) (w : World) (h : impl_TunedPitch.f k a0 a1 a2 = some r) :
    Calls Try.prog 125 #[.int .i64 a0, .int .i64 a1, .int .i64 a2] w fun e w' => e = .returned (.int .i64 r) ∧ Below w.heap.size w w' := by
  have HB := Aside0.mk (Below.refl w.heap.size w)
  have H : ((impl_isFine.f a0).bind fun t360 => (if t360 = true then ((impl_within.f a2 0 100000).bind fun t361 => (if t361 = true then (if a2 = 0 then (impl_TunedPitch.j0 k a0 a1 a2 false) else (if a1 = 3 then (impl_TunedPitch.j0 k a0 a1 a2 true) else (impl_TunedPitch.j0 k a0 a1 a2 (a1 == 4)))) else (impl_TunedPitch.j0 k a0 a1 a2 true))) else (impl_TunedPitch.j0 k a0 a1 a2 true))) = some r := h
  clear h
  have HC4 := Aside0.mk H
  clear H
  go_enter Try.func125, Try.ntmps125
  go_upto_region 1 with (fail)
  go_cut [27] (fun v27 wc => ∃ (kq : Nat) (x27_3 : Bool), v27 = .bool x27_3 ∧ Aside0 (impl_TunedPitch.j0 kq a0 a1 a2 x27_3 = some r) ∧ Aside0 (kq ≤ k) ∧ Aside0 (Below w.heap.size w wc))
  case first =>
    have H := HC4.out
    clear HC4
    replace H := Option.bind_eq_some_iff.mp H
    obtain ⟨t360, A50, H⟩ := H
    (try dsimp only at H)
    have A5 := Aside0.mk A50
    clear A50
    by_cases c6 : t360 = true
    · subst c6
      rw [if_pos rfl] at H
      replace H := Option.bind_eq_some_iff.mp H
      obtain ⟨t361, A70, H⟩ := H
      (try dsimp only at H)
      have A7 := Aside0.mk A70
      clear A70
      by_cases c8 : t361 = true
      · subst c8
        rw [if_pos rfl] at H
        by_cases c9 : a2 = 0
        · rw [if_pos c9] at H
          have c9b0 : (a2 == 0) = true := beq_iff_eq.mpr c9
          have c9b1 : (a2 != 0) = false := bne_eq_false_iff_eq.mpr c9
          clear c9
          (first | rw [c9b0] | (simp only [i64_w, i32_w]; rw [c9b0]) | skip)
          have H' := Aside0.mk H
          clear H
          go_wp2_with (first | ((with_reducible refine gate_callee (f := 106) rfl ?_); refine goesL_ (some 9) rfl rfl Try.func106 (by kernel_rfl) rfl #[.int .i64 a0] rfl (by (try simp only [List.map_toArray, List.map_cons, List.map_nil]); first | done | rfl | (simp only [List.length_drop, List.length_take]; rfl)) ?_; (with_reducible refine (impl_isFine.calls a0 true _ A5.out).mono ?_); rintro e w' ⟨rfl, ⟨nd, rfl⟩⟩; refine ⟨_, rfl, ?_⟩) | (go_at_call 67; (with_reducible refine (impl_within.calls a2 0 100000 true _ A7.out).mono ?_); rintro e w' ⟨rfl, ⟨nd, rfl⟩⟩))
          go_meet
          case rel => exact ⟨_, (false), (by first | rfl | (simp; done) | (simp [*]; done)), H', ⟨by first | omega | exact Nat.le_refl _⟩, ⟨oB HB⟩⟩
        · rw [if_neg c9] at H
          have c9b0 : (a2 == 0) = false := beq_eq_false_iff_ne.mpr c9
          have c9b1 : (a2 != 0) = true := bne_iff_ne.mpr c9
          (first | rw [c9b0] | (simp only [i64_w, i32_w]; rw [c9b0]) | skip)
          by_cases c10 : a1 = 3
          · rw [if_pos c10] at H
            have c10b0 : (a1 == 3) = true := beq_iff_eq.mpr c10
            have c10b1 : (a1 != 3) = false := bne_eq_false_iff_eq.mpr c10
            clear c10
            have H' := Aside0.mk H
            clear H
            go_wp2_with (first | ((with_reducible refine gate_callee (f := 106) rfl ?_); refine goesL_ (some 9) rfl rfl Try.func106 (by kernel_rfl) rfl #[.int .i64 a0] rfl (by (try simp only [List.map_toArray, List.map_cons, List.map_nil]); first | done | rfl | (simp only [List.length_drop, List.length_take]; rfl)) ?_; (with_reducible refine (impl_isFine.calls a0 true _ A5.out).mono ?_); rintro e w' ⟨rfl, ⟨nd, rfl⟩⟩; refine ⟨_, rfl, ?_⟩) | (go_at_call 67; (with_reducible refine (impl_within.calls a2 0 100000 true _ A7.out).mono ?_); rintro e w' ⟨rfl, ⟨nd, rfl⟩⟩))
            go_meet
            case rel => exact ⟨_, (true), (by first | rfl | (simp; done) | (simp [*]; done)), H', ⟨by first | omega | exact Nat.le_refl _⟩, ⟨oB HB⟩⟩
          · rw [if_neg c10] at H
            have c10b0 : (a1 == 3) = false := beq_eq_false_iff_ne.mpr c10
            have c10b1 : (a1 != 3) = true := bne_iff_ne.mpr c10
            have H' := Aside0.mk H
            clear H
            go_wp2_with (first | ((with_reducible refine gate_callee (f := 106) rfl ?_); refine goesL_ (some 9) rfl rfl Try.func106 (by kernel_rfl) rfl #[.int .i64 a0] rfl (by (try simp only [List.map_toArray, List.map_cons, List.map_nil]); first | done | rfl | (simp only [List.length_drop, List.length_take]; rfl)) ?_; (with_reducible refine (impl_isFine.calls a0 true _ A5.out).mono ?_); rintro e w' ⟨rfl, ⟨nd, rfl⟩⟩; refine ⟨_, rfl, ?_⟩) | (go_at_call 67; (with_reducible refine (impl_within.calls a2 0 100000 true _ A7.out).mono ?_); rintro e w' ⟨rfl, ⟨nd, rfl⟩⟩))
            go_meet
            case rel => exact ⟨_, ((a1 == 4)), (by first | rfl | (simp; done) | (simp [*]; done)), H', ⟨by first | omega | exact Nat.le_refl _⟩, ⟨oB HB⟩⟩
      · replace c8 := Bool.eq_false_iff.mpr c8
        subst c8
        rw [if_neg (show ¬ (false = true) by decide)] at H
        have H' := Aside0.mk H
        clear H
        go_wp2_with (first | ((with_reducible refine gate_callee (f := 106) rfl ?_); refine goesL_ (some 9) rfl rfl Try.func106 (by kernel_rfl) rfl #[.int .i64 a0] rfl (by (try simp only [List.map_toArray, List.map_cons, List.map_nil]); first | done | rfl | (simp only [List.length_drop, List.length_take]; rfl)) ?_; (with_reducible refine (impl_isFine.calls a0 true _ A5.out).mono ?_); rintro e w' ⟨rfl, ⟨nd, rfl⟩⟩; refine ⟨_, rfl, ?_⟩) | (go_at_call 67; (with_reducible refine (impl_within.calls a2 0 100000 false _ A7.out).mono ?_); rintro e w' ⟨rfl, ⟨nd, rfl⟩⟩))
        go_meet
        case rel => exact ⟨_, (true), (by first | rfl | (simp; done) | (simp [*]; done)), H', ⟨by first | omega | exact Nat.le_refl _⟩, ⟨oB HB⟩⟩
    · replace c6 := Bool.eq_false_iff.mpr c6
      subst c6
      rw [if_neg (show ¬ (false = true) by decide)] at H
      have H' := Aside0.mk H
      clear H
      go_wp2_with (first | ((with_reducible refine gate_callee (f := 106) rfl ?_); refine goesL_ (some 9) rfl rfl Try.func106 (by kernel_rfl) rfl #[.int .i64 a0] rfl (by (try simp only [List.map_toArray, List.map_cons, List.map_nil]); first | done | rfl | (simp only [List.length_drop, List.length_take]; rfl)) ?_; (with_reducible refine (impl_isFine.calls a0 false _ A5.out).mono ?_); rintro e w' ⟨rfl, ⟨nd, rfl⟩⟩; refine ⟨_, rfl, ?_⟩))
      go_meet
      case rel => exact ⟨_, (true), (by first | rfl | (simp; done) | (simp [*]; done)), H', ⟨by first | omega | exact Nat.le_refl _⟩, ⟨oB HB⟩⟩
  case rest =>
    clear HC4
    try clear c1
    try clear p2
    try clear c6
    try clear c8
    try clear c9
    try clear c9b0
    try clear c9b1
    try clear c10
    try clear c10b0
    try clear c10b1
    obtain ⟨kq, x27_3, rfl, HA, HJ3, HB⟩ := hcut
    cases kq with
    | zero => exact absurd HA.out (by simp [impl_TunedPitch.j0])
    | succ kj3 =>
      have H := HA.out
      clear HA
      simp only [impl_TunedPitch.j0] at H
      by_cases c11 : x27_3 = true
      · subst c11
        rw [if_pos rfl] at H
        obtain rfl := Option.some.inj H
        go_wp2
        go_ret
        exact ⟨by first | rfl | (simp [errW_none, errW_some] <;> rfl) | (simp [*, errW_none, errW_some] <;> rfl), oB HB⟩
      · replace c11 := Bool.eq_false_iff.mpr c11
        subst c11
        rw [if_neg (show ¬ (false = true) by decide)] at H
        by_cases c12 : a1 = 1
        · rw [if_pos c12] at H
          have c12b0 : (a1 == 1) = true := beq_iff_eq.mpr c12
          have c12b1 : (a1 != 1) = false := bne_eq_false_iff_eq.mpr c12
          clear c12
          obtain ⟨ji13, hji13⟩ : ∃ j_ : Int, (mx (wrap64 ((wrap64 (3 * a0)) - a2)) 0) = j_ := ⟨_, rfl⟩
          replace H : ((impl_isFine.f (wrap64 (Int.tdiv (ji13) 2))).bind fun t362 => (if t362 = true then (some (wrap64 (Int.tdiv (ji13) 2))) else (some 0))) = some r := by first | (rw [hji13] at H; exact H) | (simp only [hji13] at H ⊢; exact H)
          have hji13_ : (if (wrap64 ((wrap64 (3 * a0)) - a2)) < 0 then 0 else (wrap64 ((wrap64 (3 * a0)) - a2))) = ji13 := hji13
          replace H := Option.bind_eq_some_iff.mp H
          obtain ⟨t362, A140, H⟩ := H
          (try dsimp only at H)
          have A14 := Aside0.mk A140
          clear A140
          by_cases c15 : t362 = true
          · subst c15
            rw [if_pos rfl] at H
            obtain rfl := Option.some.inj H
            go_wp2_with (first | ((with_reducible refine gate_callee (f := 106) rfl ?_); refine goesL_ (some 54) rfl rfl Try.func106 (by kernel_rfl) rfl #[.int .i64 (wrap64 (Int.tdiv (ji13) 2))] rfl (by (try simp only [List.map_toArray, List.map_cons, List.map_nil]); first | done | (simp only [hji13]; rfl) | rfl | (simp only [List.length_drop, List.length_take]; rfl)) ?_; (with_reducible refine (impl_isFine.calls (wrap64 (Int.tdiv (ji13) 2)) true _ A14.out).mono ?_); rintro e w' ⟨rfl, ⟨nd, rfl⟩⟩; refine ⟨_, rfl, ?_⟩))
            go_ret
            exact ⟨by first | rfl | (simp [errW_none, errW_some] <;> rfl) | (simp only [← hji13]; first | rfl | (simp [errW_none, errW_some] <;> rfl)) | (simp [*, errW_none, errW_some] <;> rfl), oB HB⟩
          · replace c15 := Bool.eq_false_iff.mpr c15
            subst c15
            rw [if_neg (show ¬ (false = true) by decide)] at H
            obtain rfl := Option.some.inj H
            go_wp2_with (first | ((with_reducible refine gate_callee (f := 106) rfl ?_); refine goesL_ (some 54) rfl rfl Try.func106 (by kernel_rfl) rfl #[.int .i64 (wrap64 (Int.tdiv (ji13) 2))] rfl (by (try simp only [List.map_toArray, List.map_cons, List.map_nil]); first | done | (simp only [hji13]; rfl) | rfl | (simp only [List.length_drop, List.length_take]; rfl)) ?_; (with_reducible refine (impl_isFine.calls (wrap64 (Int.tdiv (ji13) 2)) false _ A14.out).mono ?_); rintro e w' ⟨rfl, ⟨nd, rfl⟩⟩; refine ⟨_, rfl, ?_⟩))
            go_ret
            exact ⟨by first | rfl | (simp [errW_none, errW_some] <;> rfl) | (simp only [← hji13]; first | rfl | (simp [errW_none, errW_some] <;> rfl)) | (simp [*, errW_none, errW_some] <;> rfl), oB HB⟩
        · rw [if_neg c12] at H
          have c12b0 : (a1 == 1) = false := beq_eq_false_iff_ne.mpr c12
          have c12b1 : (a1 != 1) = true := bne_iff_ne.mpr c12
          by_cases c16 : a1 = 2
          · rw [if_pos c16] at H
            have c16b0 : (a1 == 2) = true := beq_iff_eq.mpr c16
            have c16b1 : (a1 != 2) = false := bne_eq_false_iff_eq.mpr c16
            clear c16
            obtain ⟨ji17, hji17⟩ : ∃ j_ : Int, (mx (wrap64 ((wrap64 (3 * a0)) - a2)) 0) = j_ := ⟨_, rfl⟩
            replace H : ((impl_isFine.f (wrap64 (Int.tdiv (ji17) 4))).bind fun t363 => (if t363 = true then (some (wrap64 (Int.tdiv (ji17) 4))) else (some 0))) = some r := by first | (rw [hji17] at H; exact H) | (simp only [hji17] at H ⊢; exact H)
            have hji17_ : (if (wrap64 ((wrap64 (3 * a0)) - a2)) < 0 then 0 else (wrap64 ((wrap64 (3 * a0)) - a2))) = ji17 := hji17
            replace H := Option.bind_eq_some_iff.mp H
            obtain ⟨t363, A180, H⟩ := H
            (try dsimp only at H)
            have A18 := Aside0.mk A180
            clear A180
            by_cases c19 : t363 = true
            · subst c19
              rw [if_pos rfl] at H
              obtain rfl := Option.some.inj H
              go_wp2_with (first | ((with_reducible refine gate_callee (f := 106) rfl ?_); refine goesL_ (some 54) rfl rfl Try.func106 (by kernel_rfl) rfl #[.int .i64 (wrap64 (Int.tdiv (ji17) 4))] rfl (by (try simp only [List.map_toArray, List.map_cons, List.map_nil]); first | done | (simp only [hji17]; rfl) | rfl | (simp only [List.length_drop, List.length_take]; rfl)) ?_; (with_reducible refine (impl_isFine.calls (wrap64 (Int.tdiv (ji17) 4)) true _ A18.out).mono ?_); rintro e w' ⟨rfl, ⟨nd, rfl⟩⟩; refine ⟨_, rfl, ?_⟩))
              go_ret
              exact ⟨by first | rfl | (simp [errW_none, errW_some] <;> rfl) | (simp only [← hji17]; first | rfl | (simp [errW_none, errW_some] <;> rfl)) | (simp [*, errW_none, errW_some] <;> rfl), oB HB⟩
            · replace c19 := Bool.eq_false_iff.mpr c19
              subst c19
              rw [if_neg (show ¬ (false = true) by decide)] at H
              obtain rfl := Option.some.inj H
              go_wp2_with (first | ((with_reducible refine gate_callee (f := 106) rfl ?_); refine goesL_ (some 54) rfl rfl Try.func106 (by kernel_rfl) rfl #[.int .i64 (wrap64 (Int.tdiv (ji17) 4))] rfl (by (try simp only [List.map_toArray, List.map_cons, List.map_nil]); first | done | (simp only [hji17]; rfl) | rfl | (simp only [List.length_drop, List.length_take]; rfl)) ?_; (with_reducible refine (impl_isFine.calls (wrap64 (Int.tdiv (ji17) 4)) false _ A18.out).mono ?_); rintro e w' ⟨rfl, ⟨nd, rfl⟩⟩; refine ⟨_, rfl, ?_⟩))
              go_ret
              exact ⟨by first | rfl | (simp [errW_none, errW_some] <;> rfl) | (simp only [← hji17]; first | rfl | (simp [errW_none, errW_some] <;> rfl)) | (simp [*, errW_none, errW_some] <;> rfl), oB HB⟩
          · rw [if_neg c16] at H
            have c16b0 : (a1 == 2) = false := beq_eq_false_iff_ne.mpr c16
            have c16b1 : (a1 != 2) = true := bne_iff_ne.mpr c16
            by_cases c20 : a1 = 3
            · rw [if_pos c20] at H
              have c20b0 : (a1 == 3) = true := beq_iff_eq.mpr c20
              have c20b1 : (a1 != 3) = false := bne_eq_false_iff_eq.mpr c20
              clear c20
              replace H := Option.bind_eq_some_iff.mp H
              obtain ⟨t364, A210, H⟩ := H
              (try dsimp only at H)
              have A21 := Aside0.mk A210
              clear A210
              by_cases c22 : t364 = true
              · subst c22
                rw [if_pos rfl] at H
                obtain rfl := Option.some.inj H
                go_wp2_with (first | ((with_reducible refine gate_callee (f := 106) rfl ?_); refine goesL_ (some 54) rfl rfl Try.func106 (by kernel_rfl) rfl #[.int .i64 (wrap64 (2 * a0))] rfl (by (try simp only [List.map_toArray, List.map_cons, List.map_nil]); first | done | rfl | (simp only [List.length_drop, List.length_take]; rfl)) ?_; (with_reducible refine (impl_isFine.calls (wrap64 (2 * a0)) true _ A21.out).mono ?_); rintro e w' ⟨rfl, ⟨nd, rfl⟩⟩; refine ⟨_, rfl, ?_⟩))
                go_ret
                exact ⟨by first | rfl | (simp [errW_none, errW_some] <;> rfl) | (simp [*, errW_none, errW_some] <;> rfl), oB HB⟩
              · replace c22 := Bool.eq_false_iff.mpr c22
                subst c22
                rw [if_neg (show ¬ (false = true) by decide)] at H
                obtain rfl := Option.some.inj H
                go_wp2_with (first | ((with_reducible refine gate_callee (f := 106) rfl ?_); refine goesL_ (some 54) rfl rfl Try.func106 (by kernel_rfl) rfl #[.int .i64 (wrap64 (2 * a0))] rfl (by (try simp only [List.map_toArray, List.map_cons, List.map_nil]); first | done | rfl | (simp only [List.length_drop, List.length_take]; rfl)) ?_; (with_reducible refine (impl_isFine.calls (wrap64 (2 * a0)) false _ A21.out).mono ?_); rintro e w' ⟨rfl, ⟨nd, rfl⟩⟩; refine ⟨_, rfl, ?_⟩))
                go_ret
                exact ⟨by first | rfl | (simp [errW_none, errW_some] <;> rfl) | (simp [*, errW_none, errW_some] <;> rfl), oB HB⟩
            · rw [if_neg c20] at H
              have c20b0 : (a1 == 3) = false := beq_eq_false_iff_ne.mpr c20
              have c20b1 : (a1 != 3) = true := bne_iff_ne.mpr c20
              by_cases c23 : a1 = 4
              · rw [if_pos c23] at H
                have c23b0 : (a1 == 4) = true := beq_iff_eq.mpr c23
                have c23b1 : (a1 != 4) = false := bne_eq_false_iff_eq.mpr c23
                clear c23
                replace H := Option.bind_eq_some_iff.mp H
                obtain ⟨t365, A240, H⟩ := H
                (try dsimp only at H)
                have A24 := Aside0.mk A240
                clear A240
                by_cases c25 : t365 = true
                · subst c25
                  rw [if_pos rfl] at H
                  obtain rfl := Option.some.inj H
                  go_wp2_with (first | ((with_reducible refine gate_callee (f := 106) rfl ?_); refine goesL_ (some 54) rfl rfl Try.func106 (by kernel_rfl) rfl #[.int .i64 (wrap64 (Int.tdiv a0 2))] rfl (by (try simp only [List.map_toArray, List.map_cons, List.map_nil]); first | done | rfl | (simp only [List.length_drop, List.length_take]; rfl)) ?_; (with_reducible refine (impl_isFine.calls (wrap64 (Int.tdiv a0 2)) true _ A24.out).mono ?_); rintro e w' ⟨rfl, ⟨nd, rfl⟩⟩; refine ⟨_, rfl, ?_⟩))
                  go_ret
                  exact ⟨by first | rfl | (simp [errW_none, errW_some] <;> rfl) | (simp [*, errW_none, errW_some] <;> rfl), oB HB⟩
                · replace c25 := Bool.eq_false_iff.mpr c25
                  subst c25
                  rw [if_neg (show ¬ (false = true) by decide)] at H
                  obtain rfl := Option.some.inj H
                  go_wp2_with (first | ((with_reducible refine gate_callee (f := 106) rfl ?_); refine goesL_ (some 54) rfl rfl Try.func106 (by kernel_rfl) rfl #[.int .i64 (wrap64 (Int.tdiv a0 2))] rfl (by (try simp only [List.map_toArray, List.map_cons, List.map_nil]); first | done | rfl | (simp only [List.length_drop, List.length_take]; rfl)) ?_; (with_reducible refine (impl_isFine.calls (wrap64 (Int.tdiv a0 2)) false _ A24.out).mono ?_); rintro e w' ⟨rfl, ⟨nd, rfl⟩⟩; refine ⟨_, rfl, ?_⟩))
                  go_ret
                  exact ⟨by first | rfl | (simp [errW_none, errW_some] <;> rfl) | (simp [*, errW_none, errW_some] <;> rfl), oB HB⟩
              · rw [if_neg c23] at H
                have c23b0 : (a1 == 4) = false := beq_eq_false_iff_ne.mpr c23
                have c23b1 : (a1 != 4) = true := bne_iff_ne.mpr c23
                replace H := Option.bind_eq_some_iff.mp H
                obtain ⟨t366, A260, H⟩ := H
                (try dsimp only at H)
                have A26 := Aside0.mk A260
                clear A260
                by_cases c27 : t366 = true
                · subst c27
                  rw [if_pos rfl] at H
                  obtain rfl := Option.some.inj H
                  go_wp2_with (first | ((with_reducible refine gate_callee (f := 106) rfl ?_); refine goesL_ (some 54) rfl rfl Try.func106 (by kernel_rfl) rfl #[.int .i64 0] rfl (by (try simp only [List.map_toArray, List.map_cons, List.map_nil]); first | done | rfl | (simp only [List.length_drop, List.length_take]; rfl)) ?_; (with_reducible refine (impl_isFine.calls 0 true _ A26.out).mono ?_); rintro e w' ⟨rfl, ⟨nd, rfl⟩⟩; refine ⟨_, rfl, ?_⟩))
                  go_ret
                  exact ⟨by first | rfl | (simp [errW_none, errW_some] <;> rfl) | (simp [*, errW_none, errW_some] <;> rfl), oB HB⟩
                · replace c27 := Bool.eq_false_iff.mpr c27
                  subst c27
                  rw [if_neg (show ¬ (false = true) by decide)] at H
                  obtain rfl := Option.some.inj H
                  go_wp2_with (first | ((with_reducible refine gate_callee (f := 106) rfl ?_); refine goesL_ (some 54) rfl rfl Try.func106 (by kernel_rfl) rfl #[.int .i64 0] rfl (by (try simp only [List.map_toArray, List.map_cons, List.map_nil]); first | done | rfl | (simp only [List.length_drop, List.length_take]; rfl)) ?_; (with_reducible refine (impl_isFine.calls 0 false _ A26.out).mono ?_); rintro e w' ⟨rfl, ⟨nd, rfl⟩⟩; refine ⟨_, rfl, ?_⟩))
                  go_ret
                  exact ⟨by first | rfl | (simp [errW_none, errW_some] <;> rfl) | (simp [*, errW_none, errW_some] <;> rfl), oB HB⟩
end Go.Proofs.Ytbkkpllejgedcaa.P


namespace Go.Proofs.Ytbkkpllejgedcaa.P
open Go.RowKit Go.Proofs.YtbkkpllejgedcaaW.PrintWords Go.Proofs.YtbkkpllejgedcaaW.PrintLast Go.Proofs.YtbkkpllejgedcaaW.PrintMore
attribute [local go_sem] max2_int min2_int max_two min_two max_three min_three max_four min_four
set_option linter.unusedVariables false
set_option linter.unusedSimpArgs false
def impl_tunedBy.f (k : Nat) (l0_0 : List (S96)) (a0_1 : Int) (l0_2 : List Int) (a1 : Int) : Option (Int) := if 0 ≤ a1 then (if a1 < (l0_0.length : Int) then (if 0 ≤ ((rd_T96 l0_0 a1).f0) then (if ((rd_T96 l0_0 a1).f0) < (l0_2.length : Int) then ((impl_TunedPitch.f k (rd l0_2 ((rd_T96 l0_0 a1).f0)) ((rd_T96 l0_0 a1).f2) ((rd_T96 l0_0 a1).f3)).bind fun t532 => (some t532)) else (none)) else (none)) else (none)) else (none)
def impl_tunedBy.T2 : Bool × List (List Nat × List Nat) := (true, [([], []), ([0], [0]), ([], []), ([2], [2]), ([1, 3], [1, 3]), ([4], [4]), ([], []), ([6], [6]), ([], []), ([8], [8]), ([5, 7, 9], [5, 7, 9]), ([10, 10, 0, 1, 2, 3, 4, 5, 6, 7, 8, 9, 10], [10])])
def impl_tunedBy.B2 : List Nat := [0, 1, 0, 4, 15, 31, 0, 64, 0, 256, 1023, 2047]
theorem impl_tunedBy.tab2 : rtab .any (opsOf Try.f117 2) = impl_tunedBy.T2 := by kernel_rfl
theorem impl_tunedBy.bits2 : waitsOk impl_tunedBy.T2.2 impl_tunedBy.B2 = true := by kernel_rfl
set_option maxHeartbeats 8000000 in
set_option maxRecDepth 100000 in
theorem impl_tunedBy.calls (k : Nat) (A0_0 : Option Addr) (c0_0 : Nat) (l0_0 : List (S96)) (a0_1 : Int) (A0_2 : Option Addr) (c0_2 : Nat) (l0_2 : List Int) (a1 : Int) (r : Int) (w : World) (hr0_0 : Kd.C k96 w A0_0 l0_0.length l0_0) (hc0_0 : l0_0.length ≤ c0_0) (hr0_2 : Kd.C (Kd.int .i64) w A0_2 l0_2.length l0_2) (hc0_2 : l0_2.length ≤ c0_2) (h : impl_tunedBy.f k l0_0 a0_1 l0_2 a1 = some r) :
    Calls Try.prog 117 #[.agg #[.slice A0_0 l0_0.length c0_0, .int .i64 a0_1, .slice A0_2 l0_2.length c0_2], .int .i64 a1] w fun e w' => e = .returned (.int .i64 r) ∧ Below w.heap.size w w' := by
  have hu33 := Try.underlying33
  have hu96 := Try.underlying96
  have HR0_0 := Aside0.mk hr0_0
  have HC0_0 := Aside0.mk hc0_0
  clear hr0_0 hc0_0
  have HR0_2 := Aside0.mk hr0_2
  have HC0_2 := Aside0.mk hc0_2
  clear hr0_2 hc0_2
  have HB := Aside0.mk (Below.refl w.heap.size w)
  have H : (if 0 ≤ a1 then (if a1 < (l0_0.length : Int) then (if 0 ≤ ((rd_T96 l0_0 a1).f0) then (if ((rd_T96 l0_0 a1).f0) < (l0_2.length : Int) then ((impl_TunedPitch.f k (rd l0_2 ((rd_T96 l0_0 a1).f0)) ((rd_T96 l0_0 a1).f2) ((rd_T96 l0_0 a1).f3)).bind fun t532 => (some t532)) else (none)) else (none)) else (none)) else (none)) = some r := h
  clear h
  by_cases c3 : 0 ≤ a1
  · rw [if_pos c3] at H
    have c3b0 : decide (0 ≤ a1) = true := decide_eq_true c3
    clear c3
    by_cases c4 : a1 < (l0_0.length : Int)
    · rw [if_pos c4] at H
      have c4b0 : decide (a1 < (l0_0.length : Int)) = true := decide_eq_true c4
      clear c4
      by_cases c5 : 0 ≤ ((rd_T96 l0_0 a1).f0)
      · rw [if_pos c5] at H
        have c5b0 : decide (0 ≤ ((rd_T96 l0_0 a1).f0)) = true := decide_eq_true c5
        clear c5
        by_cases c6 : ((rd_T96 l0_0 a1).f0) < (l0_2.length : Int)
        · rw [if_pos c6] at H
          have c6b0 : decide (((rd_T96 l0_0 a1).f0) < (l0_2.length : Int)) = true := decide_eq_true c6
          clear c6
          replace H := Option.bind_eq_some_iff.mp H
          obtain ⟨t532, A70, H⟩ := H
          (try dsimp only at H)
          have A7 := Aside0.mk A70
          clear A70
          obtain rfl := Option.some.inj H
          go_enter Try.func117, Try.ntmps117
          try go_wp2_with (first | ((with_reducible refine gate_dst (N := 2) rfl ?_); refine box_event ?hg (N := 2) ?hd (cs := #[.slice A0_0 l0_0.length c0_0, .int .i64 a0_1, .slice A0_2 l0_2.length c0_2]) (t := 33) ?hr ?_; (case hd => rfl); (case hg => rfl); (case hr => first | (go_simp; done) | (go_simp; rfl)); intro gb528 hg w8 hbox hb; have n0_ := Aside0.mk (below_step (oB HB) hb); have n1_ := Aside0.mk (hbox); have n2_ := Aside0.mk ((by rw [hg]; exact (below_size (oB HB)) : w.heap.size ≤ gb528)); have n3_ := Aside0.mk ((by rw [hg]; exact (below_size (oB HB)) : w.heap.size ≤ gb528)); clear HB; have HB := n0_; have BK528 := n1_; have GW528 := n2_; have GE528 := n3_; clear n0_ n1_ n2_ n3_; clear hb hbox hg; have hcz9_0 : w8.cell? ⟨gb528, 0, none⟩ = some (.slice A0_0 l0_0.length c0_0) := (blk_cell BK528.out 0).trans rfl; have hcz9_1 : w8.cell? ⟨gb528, 1, none⟩ = some (.int .i64 a0_1) := (blk_cell BK528.out 1).trans rfl; have hcz9_2 : w8.cell? ⟨gb528, 2, none⟩ = some (.slice A0_2 l0_2.length c0_2) := (blk_cell BK528.out 2).trans rfl; have hfz9_0 := blk_frozen BK528.out 0; have hfz9_1 := blk_frozen BK528.out 1; have hfz9_2 := blk_frozen BK528.out 2; have p529 : 0 ≤ (a1 : Int) := of_decide_eq_true (by first | (with_reducible assumption) | assumption); have q529 : a1 < (l0_0.length : Int) := of_decide_eq_true (by first | (with_reducible assumption) | assumption); obtain ⟨ad529, e529, hx529_0, hx529_1, hx529_2, hx529_3⟩ := at_T96 HR0_0.out a1 p529 q529; cases e529; replace hx529_0 := (HB.out.cell (World.block_lt_of_cell? w _ hx529_0)).trans hx529_0; replace hx529_1 := (HB.out.cell (World.block_lt_of_cell? w _ hx529_1)).trans hx529_1; replace hx529_2 := (HB.out.cell (World.block_lt_of_cell? w _ hx529_2)).trans hx529_2; replace hx529_3 := (HB.out.cell (World.block_lt_of_cell? w _ hx529_3)).trans hx529_3; replace p529 := eq_true p529; replace q529 := eq_true q529) | ((with_reducible refine gate_dst (N := 5) rfl ?_); refine box_event ?hg (N := 5) ?hd (cs := #[.int .i64 0, .int .i64 0, .int .i64 0, .int .i64 0]) (t := 96) ?hr ?_; (case hd => rfl); (case hg => rfl); (case hr => first | (go_simp; done) | (go_simp; rfl)); intro gb530 hg w10 hbox hb; have n0_ := Aside0.mk (blk_below (g := gb528) (o := .cells #[.slice (some ad529) l0_0.length c0_0, .int .i64 a0_1, .slice A0_2 l0_2.length c0_2] 33 (0, 0)) (oK BK528) hb); have n1_ := Aside0.mk (below_step (oB HB) hb); have n2_ := Aside0.mk (hbox); have n3_ := Aside0.mk ((by rw [hg]; exact (below_size (oB HB)) : w.heap.size ≤ gb530)); have n4_ := Aside0.mk ((by rw [hg]; exact (below_size (oB HB)) : w.heap.size ≤ gb530)); have n5_ := Aside0.mk ((by rw [hg]; exact Nat.ne_of_lt (blk_lt (g := gb528) (o := .cells #[.slice (some ad529) l0_0.length c0_0, .int .i64 a0_1, .slice A0_2 l0_2.length c0_2] 33 (0, 0)) (oK BK528)) : gb528 ≠ gb530)); have n6_ := Aside0.mk ((by rw [hg]; exact Nat.ne_of_gt (blk_lt (g := gb528) (o := .cells #[.slice (some ad529) l0_0.length c0_0, .int .i64 a0_1, .slice A0_2 l0_2.length c0_2] 33 (0, 0)) (oK BK528)) : gb530 ≠ gb528)); clear BK528; clear HB; have BK528 := n0_; have HB := n1_; have BK530 := n2_; have GW530 := n3_; have GE530 := n4_; have NB528_530 := n5_; have NB530_528 := n6_; clear n0_ n1_ n2_ n3_ n4_ n5_ n6_; clear hb hbox hg; have hnb11 := NB530_528.out; have hnc11 := NB528_530.out; have hcz12_0 : w10.cell? ⟨gb530, 0, none⟩ = some (.int .i64 0) := (blk_cell BK530.out 0).trans rfl; have hcz12_1 : w10.cell? ⟨gb530, 1, none⟩ = some (.int .i64 0) := (blk_cell BK530.out 1).trans rfl; have hcz12_2 : w10.cell? ⟨gb530, 2, none⟩ = some (.int .i64 0) := (blk_cell BK530.out 2).trans rfl; have hcz12_3 : w10.cell? ⟨gb530, 3, none⟩ = some (.int .i64 0) := (blk_cell BK530.out 3).trans rfl; have hfz12_0 := blk_frozen BK530.out 0; have hfz12_1 := blk_frozen BK530.out 1; have hfz12_2 := blk_frozen BK530.out 2; have hfz12_3 := blk_frozen BK530.out 3))
          have n0_ : Aside0 (((((w10.setCell ⟨gb530, 0, none⟩ (.int .i64 ((rd_T96 l0_0 a1).f0))).setCell ⟨gb530, 1, none⟩ (.int .i64 ((rd_T96 l0_0 a1).f1))).setCell ⟨gb530, 2, none⟩ (.int .i64 ((rd_T96 l0_0 a1).f2))).setCell ⟨gb530, 3, none⟩ (.int .i64 ((rd_T96 l0_0 a1).f3))).heap[gb528]? = some (.cells #[.slice (some ad529) l0_0.length c0_0, .int .i64 a0_1, .slice A0_2 l0_2.length c0_2] 33 (0, 0))) := ⟨by (with_reducible repeat (first | refine blk_drewN ?_ _ | refine blk_drew ?_ | refine blk_alloc ?_ _)); refine blk_far ?_ NB528_530.out _; (with_reducible repeat (first | refine blk_drewN ?_ _ | refine blk_drew ?_ | refine blk_alloc ?_ _)); refine blk_far ?_ NB528_530.out _; (with_reducible repeat (first | refine blk_drewN ?_ _ | refine blk_drew ?_ | refine blk_alloc ?_ _)); refine blk_far ?_ NB528_530.out _; (with_reducible repeat (first | refine blk_drewN ?_ _ | refine blk_drew ?_ | refine blk_alloc ?_ _)); refine blk_far ?_ NB528_530.out _; (with_reducible repeat (first | refine blk_drewN ?_ _ | refine blk_drew ?_ | refine blk_alloc ?_ _)); exact BK528.out⟩
          have n1_ : Aside0 (((((w10.setCell ⟨gb530, 0, none⟩ (.int .i64 ((rd_T96 l0_0 a1).f0))).setCell ⟨gb530, 1, none⟩ (.int .i64 ((rd_T96 l0_0 a1).f1))).setCell ⟨gb530, 2, none⟩ (.int .i64 ((rd_T96 l0_0 a1).f2))).setCell ⟨gb530, 3, none⟩ (.int .i64 ((rd_T96 l0_0 a1).f3))).heap[gb530]? = some (.cells #[.int .i64 ((rd_T96 l0_0 a1).f0), .int .i64 ((rd_T96 l0_0 a1).f1), .int .i64 ((rd_T96 l0_0 a1).f2), .int .i64 ((rd_T96 l0_0 a1).f3)] 96 (0, 0))) := ⟨by (with_reducible repeat (first | refine blk_drewN ?_ _ | refine blk_drew ?_ | refine blk_alloc ?_ _)); refine blk_put (cs := #[.int .i64 ((rd_T96 l0_0 a1).f0), .int .i64 ((rd_T96 l0_0 a1).f1), .int .i64 ((rd_T96 l0_0 a1).f2), .int .i64 0]) ?_ 3 _ rfl; (with_reducible repeat (first | refine blk_drewN ?_ _ | refine blk_drew ?_ | refine blk_alloc ?_ _)); refine blk_put (cs := #[.int .i64 ((rd_T96 l0_0 a1).f0), .int .i64 ((rd_T96 l0_0 a1).f1), .int .i64 0, .int .i64 0]) ?_ 2 _ rfl; (with_reducible repeat (first | refine blk_drewN ?_ _ | refine blk_drew ?_ | refine blk_alloc ?_ _)); refine blk_put (cs := #[.int .i64 ((rd_T96 l0_0 a1).f0), .int .i64 0, .int .i64 0, .int .i64 0]) ?_ 1 _ rfl; (with_reducible repeat (first | refine blk_drewN ?_ _ | refine blk_drew ?_ | refine blk_alloc ?_ _)); refine blk_put (cs := #[.int .i64 0, .int .i64 0, .int .i64 0, .int .i64 0]) ?_ 0 _ rfl; (with_reducible repeat (first | refine blk_drewN ?_ _ | refine blk_drew ?_ | refine blk_alloc ?_ _)); exact BK530.out⟩
          have n2_ : Aside0 (Below w.heap.size w ((((w10.setCell ⟨gb530, 0, none⟩ (.int .i64 ((rd_T96 l0_0 a1).f0))).setCell ⟨gb530, 1, none⟩ (.int .i64 ((rd_T96 l0_0 a1).f1))).setCell ⟨gb530, 2, none⟩ (.int .i64 ((rd_T96 l0_0 a1).f2))).setCell ⟨gb530, 3, none⟩ (.int .i64 ((rd_T96 l0_0 a1).f3)))) := ⟨oB HB⟩
          (try clear BK528)
          (try clear BK530)
          (try clear HB)
          generalize ((((w10.setCell ⟨gb530, 0, none⟩ (.int .i64 ((rd_T96 l0_0 a1).f0))).setCell ⟨gb530, 1, none⟩ (.int .i64 ((rd_T96 l0_0 a1).f1))).setCell ⟨gb530, 2, none⟩ (.int .i64 ((rd_T96 l0_0 a1).f2))).setCell ⟨gb530, 3, none⟩ (.int .i64 ((rd_T96 l0_0 a1).f3))) = w13 at n0_ n1_ n2_ ⊢
          have BK528 := n0_
          have BK530 := n1_
          have HB := n2_
          clear n0_ n1_ n2_
          have n0_ := Aside0.mk (blk_drew BK528.out)
          have n1_ := Aside0.mk (blk_drew BK530.out)
          have n2_ := Aside0.mk (below_drew1 HB.out)
          clear BK528
          clear BK530
          clear HB
          have BK528 := n0_
          have BK530 := n1_
          have HB := n2_
          clear n0_ n1_ n2_
          have p531 : 0 ≤ (((rd_T96 l0_0 a1).f0) : Int) := of_decide_eq_true (by first | (with_reducible assumption) | assumption)
          have q531 : ((rd_T96 l0_0 a1).f0) < (l0_2.length : Int) := of_decide_eq_true (by first | (with_reducible assumption) | assumption)
          obtain ⟨ad531, e531, hx531_0⟩ := Kd.at_int HR0_2.out ((rd_T96 l0_0 a1).f0) p531 q531
          have hw531_0 := hx531_0
          cases e531
          replace hx531_0 := (HB.out.cell (World.block_lt_of_cell? w _ hx531_0)).trans hx531_0
          replace p531 := eq_true p531
          replace q531 := eq_true q531
          refine start_ (n := 12) (S := fun w' => w'.cell? ⟨gb528, 0, none⟩ = some (.slice (some ad529) l0_0.length c0_0) ∧ w'.cell? ⟨gb528, 1, none⟩ = some (.int .i64 a0_1) ∧ w'.cell? ⟨gb528, 2, none⟩ = some (.slice (some ad531) l0_2.length c0_2) ∧ w'.cell? ⟨gb530, 0, none⟩ = some (.int .i64 ((rd_T96 l0_0 a1).f0)) ∧ w'.cell? ⟨gb530, 1, none⟩ = some (.int .i64 ((rd_T96 l0_0 a1).f1)) ∧ w'.cell? ⟨gb530, 2, none⟩ = some (.int .i64 ((rd_T96 l0_0 a1).f2)) ∧ w'.cell? ⟨gb530, 3, none⟩ = some (.int .i64 ((rd_T96 l0_0 a1).f3)) ∧ w'.cell? (ad531.add (((rd_T96 l0_0 a1).f0)).toNat) = some (.int .i64 (rd l0_2 ((rd_T96 l0_0 a1).f0)))) (ds := []) #[false, false, false, false, false, false, false, false, false, false, false, false] (by kernel_rfl) rfl rfl ⟨(blk_cell BK528.out 0).trans rfl, (blk_cell BK528.out 1).trans rfl, (blk_cell BK528.out 2).trans rfl, (blk_cell BK530.out 0).trans rfl, (blk_cell BK530.out 1).trans rfl, (blk_cell BK530.out 2).trans rfl, (blk_cell BK530.out 3).trans rfl, ((HB.out.cell (World.block_lt_of_cell? w _ hw531_0)).trans hw531_0)⟩ (fun hHeld => ?_); refine with_tabW impl_tunedBy.tab2 impl_tunedBy.bits2 (fun HT_ HW_ => ?_)
          generalize w13.drew = w14 at BK528 BK530 HB hx531_0 hHeld ⊢
          refine pure_ (i := 0) (N := some 11) (v := ?_) (a' := ?_) #[true, false, false, false, false, false, false, false, false, false, false, false] rfl rfl (any_of HT_.out (by kernel_rfl)) (fun _ _ _ h => h) (Or.inl ⟨by rfl, ?_⟩) ?_ ?_
          rotate_left
          · intro w'
            go_simp
            with_reducible rfl
          rotate_left
          · simp only [Act.put, List.setIfInBounds_toArray, List.set_cons_zero, List.set_cons_succ, i64_w, i32_w]
            rfl
          refine pure_ (i := 2) (N := some 13) (v := ?_) (a' := ?_) #[true, false, true, false, false, false, false, false, false, false, false, false] rfl rfl (any_of HT_.out (by kernel_rfl)) (fun _ _ _ h => h) (Or.inl ⟨by rfl, ?_⟩) ?_ ?_
          rotate_left
          · intro w'
            go_simp
            with_reducible rfl
          rotate_left
          · simp only [Act.put, List.setIfInBounds_toArray, List.set_cons_zero, List.set_cons_succ, i64_w, i32_w]
            rfl
          refine pure_ (i := 6) (N := some 17) (v := ?_) (a' := ?_) #[true, false, true, false, false, false, true, false, false, false, false, false] rfl rfl (any_of HT_.out (by kernel_rfl)) (fun _ _ _ h => h) (Or.inl ⟨by rfl, ?_⟩) ?_ ?_
          rotate_left
          · intro w'
            go_simp
            with_reducible rfl
          rotate_left
          · simp only [Act.put, List.setIfInBounds_toArray, List.set_cons_zero, List.set_cons_succ, i64_w, i32_w]
            rfl
          refine pure_ (i := 8) (N := some 19) (v := ?_) (a' := ?_) #[true, false, true, false, false, false, true, false, true, false, false, false] rfl rfl (any_of HT_.out (by kernel_rfl)) (fun _ _ _ h => h) (Or.inl ⟨by rfl, ?_⟩) ?_ ?_
          rotate_left
          · intro w'
            go_simp
            with_reducible rfl
          rotate_left
          · simp only [Act.put, List.setIfInBounds_toArray, List.set_cons_zero, List.set_cons_succ, i64_w, i32_w]
            rfl
          refine take_ (i := 1) (N := some 12) (v := ?_) (a' := ?_) #[true, true, true, false, false, false, true, false, true, false, false, false] rfl rfl (take_ofW HT_.out HW_.out (by kernel_rfl)) (fun _ _ _ h => h) (Or.inl ⟨by rfl, ?_⟩) hHeld ?_ ?_
          rotate_left
          · rintro w' ⟨s0, s1, s2, s3, s4, s5, s6, s7⟩
            go_simp
            with_reducible rfl
          rotate_left
          · simp only [Act.put, List.setIfInBounds_toArray, List.set_cons_zero, List.set_cons_succ, i64_w, i32_w]
            rfl
          refine take_ (i := 3) (N := some 14) (v := ?_) (a' := ?_) #[true, true, true, true, false, false, true, false, true, false, false, false] rfl rfl (take_ofW HT_.out HW_.out (by kernel_rfl)) (fun _ _ _ h => h) (Or.inl ⟨by rfl, ?_⟩) hHeld ?_ ?_
          rotate_left
          · rintro w' ⟨s0, s1, s2, s3, s4, s5, s6, s7⟩
            go_simp
            with_reducible rfl
          rotate_left
          · simp only [Act.put, List.setIfInBounds_toArray, List.set_cons_zero, List.set_cons_succ, i64_w, i32_w]
            rfl
          refine pure_ (i := 4) (N := some 15) (v := ?_) (a' := ?_) #[true, true, true, true, true, false, true, false, true, false, false, false] rfl rfl (any_of HT_.out (by kernel_rfl)) (fun _ _ _ h => h) (Or.inl ⟨by rfl, ?_⟩) ?_ ?_
          rotate_left
          · intro w'
            go_simp
            with_reducible rfl
          rotate_left
          · simp only [Act.put, List.setIfInBounds_toArray, List.set_cons_zero, List.set_cons_succ, i64_w, i32_w]
            rfl
          refine take_ (i := 5) (N := some 16) (v := ?_) (a' := ?_) #[true, true, true, true, true, true, true, false, true, false, false, false] rfl rfl (take_ofW HT_.out HW_.out (by kernel_rfl)) (fun _ _ _ h => h) (Or.inl ⟨by rfl, ?_⟩) hHeld ?_ ?_
          rotate_left
          · rintro w' ⟨s0, s1, s2, s3, s4, s5, s6, s7⟩
            go_simp
            with_reducible rfl
          rotate_left
          · simp only [Act.put, List.setIfInBounds_toArray, List.set_cons_zero, List.set_cons_succ, i64_w, i32_w]
            rfl
          refine take_ (i := 7) (N := some 18) (v := ?_) (a' := ?_) #[true, true, true, true, true, true, true, true, true, false, false, false] rfl rfl (take_ofW HT_.out HW_.out (by kernel_rfl)) (fun _ _ _ h => h) (Or.inl ⟨by rfl, ?_⟩) hHeld ?_ ?_
          rotate_left
          · rintro w' ⟨s0, s1, s2, s3, s4, s5, s6, s7⟩
            go_simp
            with_reducible rfl
          rotate_left
          · simp only [Act.put, List.setIfInBounds_toArray, List.set_cons_zero, List.set_cons_succ, i64_w, i32_w]
            rfl
          refine take_ (i := 9) (N := some 20) (v := ?_) (a' := ?_) #[true, true, true, true, true, true, true, true, true, true, false, false] rfl rfl (take_ofW HT_.out HW_.out (by kernel_rfl)) (fun _ _ _ h => h) (Or.inl ⟨by rfl, ?_⟩) hHeld ?_ ?_
          rotate_left
          · rintro w' ⟨s0, s1, s2, s3, s4, s5, s6, s7⟩
            go_simp
            with_reducible rfl
          rotate_left
          · simp only [Act.put, List.setIfInBounds_toArray, List.set_cons_zero, List.set_cons_succ, i64_w, i32_w]
            rfl
          refine one_ (i := 10) (N := some 21) #[true, true, true, true, true, true, true, true, true, true, true, false] rfl rfl (one_of HT_.out (by kernel_rfl)) (by decide) (fun K hK => ?_)
          refine goes_ Try.func125 (by kernel_rfl) rfl #[.int .i64 (rd l0_2 ((rd_T96 l0_0 a1).f0)), .int .i64 ((rd_T96 l0_0 a1).f2), .int .i64 ((rd_T96 l0_0 a1).f3)] (by rfl) rfl rfl (by (try simp only [List.map_toArray, List.map_cons, List.map_nil]); first | done | rfl | (simp only [List.length_drop, List.length_take]; rfl)) ?_
          with_reducible refine (impl_TunedPitch.calls k (rd l0_2 ((rd_T96 l0_0 a1).f0)) ((rd_T96 l0_0 a1).f2) ((rd_T96 l0_0 a1).f3) t532 _ A7.out).mono ?_
          rintro e w15 ⟨rfl, hb⟩
          refine ⟨_, rfl, ?_⟩
          have n0_ := Aside0.mk (blk_below (g := gb528) (o := .cells #[.slice (some ad529) l0_0.length c0_0, .int .i64 a0_1, .slice (some ad531) l0_2.length c0_2] 33 (0, 0)) (oK BK528) hb)
          have n1_ := Aside0.mk (blk_below (g := gb530) (o := .cells #[.int .i64 ((rd_T96 l0_0 a1).f0), .int .i64 ((rd_T96 l0_0 a1).f1), .int .i64 ((rd_T96 l0_0 a1).f2), .int .i64 ((rd_T96 l0_0 a1).f3)] 96 (0, 0)) (oK BK530) hb)
          have n2_ := Aside0.mk (below_step (oB HB) hb)
          clear BK528
          clear BK530
          clear HB
          have BK528 := n0_
          have BK530 := n1_
          have HB := n2_
          clear n0_ n1_ n2_
          (try clear hb)
          (try clear hb2)
          (try clear hk)
          (try clear hi)
          refine hK.out _ _ ⟨(blk_cell BK528.out 0).trans rfl, (blk_cell BK528.out 1).trans rfl, (blk_cell BK528.out 2).trans rfl, (blk_cell BK530.out 0).trans rfl, (blk_cell BK530.out 1).trans rfl, (blk_cell BK530.out 2).trans rfl, (blk_cell BK530.out 3).trans rfl, ((HB.out.cell (World.block_lt_of_cell? w _ hw531_0)).trans hw531_0)⟩ (fun hHeld => ?_)
          clear hK K
          refine norm_ (a' := ?_) ?_ ?_
          rotate_left
          · show Act.put _ (some 21) _ = _
            simp only [Act.put, List.setIfInBounds_toArray, List.set_cons_zero, List.set_cons_succ, i64_w, i32_w]
            rfl
          refine pure_ (i := 11) (N := some 4) (v := ?_) (a' := ?_) #[true, true, true, true, true, true, true, true, true, true, true, true] rfl rfl (any_of HT_.out (by kernel_rfl)) (fun _ _ _ h => h) (Or.inl ⟨by rfl, ?_⟩) ?_ ?_
          rotate_left
          · intro w'
            go_simp
            with_reducible rfl
          rotate_left
          · simp only [Act.put, List.setIfInBounds_toArray, List.set_cons_zero, List.set_cons_succ, i64_w, i32_w]
            rfl
          refine done_ (done_of HT_.out (by kernel_rfl)) ?_
          try go_wp2
          go_ret
          exact ⟨by first | rfl | (simp [errW_none, errW_some] <;> rfl) | (simp [*, errW_none, errW_some] <;> rfl), oB HB⟩
        · rw [if_neg c6] at H
          exact absurd H (by simp)
      · rw [if_neg c5] at H
        exact absurd H (by simp)
    · rw [if_neg c4] at H
      exact absurd H (by simp)
  · rw [if_neg c3] at H
    exact absurd H (by simp)
end Go.Proofs.Ytbkkpllejgedcaa.P


namespace Go.Proofs.Ytbkkpllejgedcaa.P
open Go.RowKit Go.Proofs.YtbkkpllejgedcaaW.PrintWords Go.Proofs.YtbkkpllejgedcaaW.PrintLast Go.Proofs.YtbkkpllejgedcaaW.PrintMore
attribute [local go_sem] max2_int min2_int max_two min_two max_three min_three max_four min_four
set_option linter.unusedVariables false
set_option linter.unusedSimpArgs false
def impl_WrongSteps.l0 : Nat → List Int → List (S96) → Int → Int → List (S96) → Int → List Int → Option (List Int)
  | 0, _, _, _, _, _, _, _ => none
  | k + 1, x3, x14, x15, x16, x534000, x534001, x534002 => if x16 < x15 then (if 0 ≤ x16 then (if x16 < (x14.length : Int) then (if 0 ≤ ((rd_T96 x14 x16).f1) then (if ((rd_T96 x14 x16).f1) < (x534002.length : Int) then ((impl_tunedBy.f k x534000 x534001 x534002 x16).bind fun t545 => (if (rd x534002 ((rd_T96 x14 x16).f1)) = t545 then (impl_WrongSteps.l0 k x3 x14 x15 (wrap64 (x16 + 1)) x534000 x534001 x534002) else (if x3.length < 17592186044416 then (impl_WrongSteps.l0 k (x3 ++ [x16]) x14 x15 (wrap64 (x16 + 1)) x534000 x534001 x534002) else (none)))) else (none)) else (none)) else (none)) else (none)) else (some x3)
def impl_WrongSteps.f (k : Nat) (l0_0 : List (S96)) (a0_1 : Int) (l0_2 : List Int) : Option (List Int) := (impl_WorkOk.f l0_0 a0_1 l0_2).bind fun t534 => (if t534 = true then (if 0 ≤ a0_1 then (if a0_1 ≤ (l0_0.length : Int) then ((some (l0_0.take (a0_1 : Int).toNat : List (S96))).bind fun y538 => (impl_WrongSteps.l0 k (([] : List Int)) y538 (y538.length : Int) 0 l0_0 a0_1 l0_2)) else (none)) else (none)) else (some ([] : List Int)))
def impl_WrongSteps.T7 : Bool × List (List Nat × List Nat) := (true, [([], []), ([0], [0]), ([], []), ([2], [2]), ([1, 3], [1, 3]), ([4], [4]), ([], []), ([], []), ([6, 7], [6, 7]), ([5, 8], [5, 8])])
def impl_WrongSteps.B7 : List Nat := [0, 1, 0, 4, 15, 31, 0, 0, 192, 511]
theorem impl_WrongSteps.tab7 : rtab .any (opsOf Try.f80 7) = impl_WrongSteps.T7 := by kernel_rfl
theorem impl_WrongSteps.bits7 : waitsOk impl_WrongSteps.T7.2 impl_WrongSteps.B7 = true := by kernel_rfl
set_option maxHeartbeats 8000000 in
set_option maxRecDepth 100000 in
theorem impl_WrongSteps.calls (k : Nat) (A0_0 : Option Addr) (c0_0 : Nat) (l0_0 : List (S96)) (a0_1 : Int) (A0_2 : Option Addr) (c0_2 : Nat) (l0_2 : List Int) (r : List Int) (w : World) (hr0_0 : Kd.C k96 w A0_0 l0_0.length l0_0) (hc0_0 : l0_0.length ≤ c0_0) (hr0_2 : Kd.C (Kd.int .i64) w A0_2 l0_2.length l0_2) (hc0_2 : l0_2.length ≤ c0_2) (h : impl_WrongSteps.f k l0_0 a0_1 l0_2 = some r) :
    Calls Try.prog 80 #[.agg #[.slice A0_0 l0_0.length c0_0, .int .i64 a0_1, .slice A0_2 l0_2.length c0_2]] w fun e w' => ∃ v0_ : Value, e = .returned (v0_) ∧ Kd.R (Kd.int .i64) 3 w' w.heap.size (fun _ => True) v0_ r ∧ Below w.heap.size w w' := by
  have hu33 := Try.underlying33
  have hu96 := Try.underlying96
  have HR0_0 := Aside0.mk hr0_0
  have HC0_0 := Aside0.mk hc0_0
  clear hr0_0 hc0_0
  have HR0_2 := Aside0.mk hr0_2
  have HC0_2 := Aside0.mk hc0_2
  clear hr0_2 hc0_2
  have HB := Aside0.mk (Below.refl w.heap.size w)
  have H : ((impl_WorkOk.f l0_0 a0_1 l0_2).bind fun t534 => (if t534 = true then (if 0 ≤ a0_1 then (if a0_1 ≤ (l0_0.length : Int) then ((some (l0_0.take (a0_1 : Int).toNat : List (S96))).bind fun y538 => (impl_WrongSteps.l0 k (([] : List Int)) y538 (y538.length : Int) 0 l0_0 a0_1 l0_2)) else (none)) else (none)) else (some ([] : List Int)))) = some r := h
  clear h
  replace H := Option.bind_eq_some_iff.mp H
  obtain ⟨t534, A20, H⟩ := H
  (try dsimp only at H)
  have A2 := Aside0.mk A20
  clear A20
  by_cases c3 : t534 = true
  · subst c3
    rw [if_pos rfl] at H
    obtain ⟨y535, hy535⟩ : ∃ y_ : List Int, y_ = (([] : List Int)) := ⟨_, rfl⟩
    replace H : (if 0 ≤ a0_1 then (if a0_1 ≤ (l0_0.length : Int) then ((some (l0_0.take (a0_1 : Int).toNat : List (S96))).bind fun y538 => (impl_WrongSteps.l0 k y535 y538 (y538.length : Int) 0 l0_0 a0_1 l0_2)) else (none)) else (none)) = some r := by first | (rw [hy535]; with_reducible exact H) | (have H2_ := (Option.bind_some _ _).symm.trans H; rw [hy535]; with_reducible exact H2_) | (have H2_ := (Option.bind_some _ _).symm.trans H; with_reducible exact H2_) | with_reducible exact H | (rw [hy535]; exact H) | exact H
    have Ny535 := Aside0.mk hy535
    clear hy535
    by_cases c4 : 0 ≤ a0_1
    · rw [if_pos c4] at H
      have c4b0 := eq_true c4
      have c4b1 : decide (0 ≤ a0_1) = true := decide_eq_true c4
      clear c4
      by_cases c5 : a0_1 ≤ (l0_0.length : Int)
      · rw [if_pos c5] at H
        have c5b0 := eq_true c5
        have c5b1 : decide (a0_1 ≤ (l0_0.length : Int)) = true := decide_eq_true c5
        clear c5
        obtain ⟨y538, hy538⟩ : ∃ y_ : List (S96), y_ = (l0_0.take (a0_1 : Int).toNat) := ⟨_, rfl⟩
        replace H : (impl_WrongSteps.l0 k y535 y538 (y538.length : Int) 0 l0_0 a0_1 l0_2) = some r := by first | (rw [hy538]; with_reducible exact H) | (have H2_ := (Option.bind_some _ _).symm.trans H; rw [hy538]; with_reducible exact H2_) | (have H2_ := (Option.bind_some _ _).symm.trans H; with_reducible exact H2_) | with_reducible exact H | (rw [hy538]; exact H) | exact H
        have Ny538 := Aside0.mk hy538
        clear hy538
        have H' := Aside0.mk H
        clear H
        go_enter Try.func80, Try.ntmps80
        go_wp2_with (first | ((with_reducible refine gate_dst (N := 1) rfl ?_); refine box_event ?hg (N := 1) ?hd (cs := #[.slice A0_0 l0_0.length c0_0, .int .i64 a0_1, .slice A0_2 l0_2.length c0_2]) (t := 33) ?hr ?_; (case hd => rfl); (case hg => rfl); (case hr => first | (go_simp; done) | (go_simp; rfl)); intro gb533 hg w6 hbox hb; have n0_ := Aside0.mk (below_step (oB HB) hb); have n1_ := Aside0.mk (hbox); have n2_ := Aside0.mk ((by rw [hg]; exact (below_size (oB HB)) : w.heap.size ≤ gb533)); have n3_ := Aside0.mk ((by rw [hg]; exact (below_size (oB HB)) : w.heap.size ≤ gb533)); clear HB; have HB := n0_; have BK533 := n1_; have GW533 := n2_; have GE533 := n3_; clear n0_ n1_ n2_ n3_; clear hb hbox hg; have hcz7_0 : w6.cell? ⟨gb533, 0, none⟩ = some (.slice A0_0 l0_0.length c0_0) := (blk_cell BK533.out 0).trans rfl; have hcz7_1 : w6.cell? ⟨gb533, 1, none⟩ = some (.int .i64 a0_1) := (blk_cell BK533.out 1).trans rfl; have hcz7_2 : w6.cell? ⟨gb533, 2, none⟩ = some (.slice A0_2 l0_2.length c0_2) := (blk_cell BK533.out 2).trans rfl; have hfz7_0 := blk_frozen BK533.out 0; have hfz7_1 := blk_frozen BK533.out 1; have hfz7_2 := blk_frozen BK533.out 2) | ((with_reducible refine gate_callee (f := 64) rfl ?_); refine goesL_ (some 7) rfl rfl Try.func64 (by kernel_rfl) rfl #[.agg #[.slice A0_0 l0_0.length c0_0, .int .i64 a0_1, .slice A0_2 l0_2.length c0_2]] rfl (by (try simp only [List.map_toArray, List.map_cons, List.map_nil]); first | done | rfl | (simp only [List.length_drop, List.length_take]; rfl)) ?_; (with_reducible refine (impl_WorkOk.calls _ _ l0_0 a0_1 _ _ l0_2 true _ ?side1 ?side2 ?side3 ?side4 A2.out).mono ?_); (case side1 => exact oc_ HR0_0.out); (case side2 => exact HC0_0.out); (case side3 => exact oc_ HR0_2.out); (case side4 => exact HC0_2.out); rintro e w8 ⟨rfl, hb⟩; refine ⟨_, rfl, ?_⟩; have n0_ := Aside0.mk (blk_below (g := gb533) (o := .cells #[.slice A0_0 l0_0.length c0_0, .int .i64 a0_1, .slice A0_2 l0_2.length c0_2] 33 (0, 0)) (oK BK533) hb); have n1_ := Aside0.mk (below_step (oB HB) hb); clear BK533; clear HB; have BK533 := n0_; have HB := n1_; clear n0_ n1_; (try clear hb); (try clear hb2); (try clear hk); (try clear hi)) | ((with_reducible refine gate_dst (N := 9) rfl ?_); refine Kd.R_lit (Kd.int .i64) _ 3 ?hg (N := 9) ?hd (xs := ([] : List Int)) (inner := []) (ok := fun _ => True) (okp := fun _ => True) ?hr ?hp (fun _ hk => hk) trivial (Below.refl _ _) (Nat.le_refl _) (by simp) ?_; (case hd => rfl); (case hg => rfl); (case hr => first | (go_simp; done) | (go_simp; rfl)); (case hp => exact (Reps.none _ _)); intro v536 w9 ho10 hb hg_ hnew_; clear hg_ hnew_; (first | rw [← Ny535.out] at ho10 | (simp only [Int.reduceToNat] at ho10; rw [← Ny535.out] at ho10)); have n0_ := Aside0.mk (Kd.R_lower ho10 (below_size (oB HB))); have n1_ := Aside0.mk (blk_below (g := gb533) (o := .cells #[.slice A0_0 l0_0.length c0_0, .int .i64 a0_1, .slice A0_2 l0_2.length c0_2] 33 (0, 0)) (oK BK533) hb); have n2_ := Aside0.mk (below_step (oB HB) hb); clear BK533; clear HB; have HO537 := n0_; have BK533 := n1_; have HB := n2_; clear n0_ n1_ n2_; clear hb ho10; have hcz11_0 : w9.cell? ⟨gb533, 0, none⟩ = some (.slice A0_0 l0_0.length c0_0) := (blk_cell BK533.out 0).trans rfl; have hcz11_1 : w9.cell? ⟨gb533, 1, none⟩ = some (.int .i64 a0_1) := (blk_cell BK533.out 1).trans rfl; have hcz11_2 : w9.cell? ⟨gb533, 2, none⟩ = some (.slice A0_2 l0_2.length c0_2) := (blk_cell BK533.out 2).trans rfl; have hfz11_0 := blk_frozen BK533.out 0; have hfz11_1 := blk_frozen BK533.out 1; have hfz11_2 := blk_frozen BK533.out 2; have q12 : (a0_1 : Int) ≤ ((l0_0.length : Int) : Int) := of_decide_eq_true (by first | (with_reducible assumption) | assumption); obtain ⟨i012, hi012, _, hsz12, _⟩ := info_parts info96; have hroom12 : l0_0.length ≤ c0_0 := HC0_0.out; have hC12 : Kd.C k96 _ A0_0 l0_0.length l0_0 := HR0_0.out; have hcut12 := cut_to (P := Try.prog) 31 96 .i64 Try.underlying31 hi012 A0_0 l0_0.length c0_0 a0_1 (of_decide_eq_true (by first | (with_reducible assumption) | assumption)) q12 hroom12; have hr12 := Kd.C_take (m := (a0_1 : Int).toNat) hC12 (by omega); have hy12 : y538.length = (a0_1 : Int).toNat := (by rw [Ny538.out, List.length_take]; omega); rw [← Ny538.out] at hr12; rw [← hy12] at hcut12; have HR541 := Aside0.mk hr12; have HC541 := Aside0.mk (show y538.length ≤ c0_0 from by omega); clear hr12 hC12 hroom12 hi012 hsz12; have KY12 := Aside0.mk hy12; clear hy12; replace q12 := eq_true q12))
        go_loopg [3, 16] k (fun kq v3 v16 w' => ∃ (x3_1 : List Int) (x16_1 : Int), v16 = .int .i64 x16_1 ∧ Aside0 (impl_WrongSteps.l0 kq x3_1 y538 (y538.length : Int) x16_1 l0_0 a0_1 l0_2 = some r) ∧ Aside0 (kq ≤ k) ∧ Aside0 (Kd.R (Kd.int .i64) 3 w' w.heap.size (fun _ => True) v3 x3_1) ∧ Aside0 (w'.heap[gb533]? = some (.cells #[(.slice A0_0 l0_0.length c0_0), .int .i64 a0_1, (.slice A0_2 l0_2.length c0_2)] 33 (0, 0))) ∧ Aside0 (Below w.heap.size w w'))
        case atStart => exact ⟨(y535), (0), (by first | rfl | (simp; done) | (simp [*]; done)), H', ⟨Nat.le_refl _⟩, ⟨oR HO537⟩, ⟨oK BK533⟩, ⟨oB HB⟩⟩
        case round =>
          clear H'
          try clear q1
          try clear p2
          try clear c3
          try clear c4
          try clear c4b0
          try clear c4b1
          try clear c5
          try clear c5b0
          try clear c5b1
          try clear c6
          try clear c8
          try clear q12
          try clear hcz11_0
          try clear hcz11_1
          try clear hcz11_2
          try clear hcz7_0
          try clear hcz7_1
          try clear hcz7_2
          try clear hfz11_0
          try clear hfz11_1
          try clear hfz11_2
          try clear hfz7_0
          try clear hfz7_1
          try clear hfz7_2
          try clear q12
          obtain ⟨x3_1, x16_1, rfl, HA, HK1, HO_3, BK533, HB⟩ := hrel
          cases gk with
          | zero => exact absurd HA.out (by simp [impl_WrongSteps.l0])
          | succ k1 =>
            have H := HA.out
            clear HA
            simp only [impl_WrongSteps.l0] at H
            by_cases c13 : x16_1 < (y538.length : Int)
            · rw [if_pos c13] at H
              have c13b0 : decide (x16_1 < (y538.length : Int)) = true := decide_eq_true c13
              clear c13
              by_cases c14 : 0 ≤ x16_1
              · rw [if_pos c14] at H
                have c14b0 : decide (0 ≤ x16_1) = true := decide_eq_true c14
                clear c14
                by_cases c15 : x16_1 < (y538.length : Int)
                · rw [if_pos c15] at H
                  have c15b0 : decide (x16_1 < (y538.length : Int)) = true := decide_eq_true c15
                  clear c15
                  by_cases c16 : 0 ≤ ((rd_T96 y538 x16_1).f1)
                  · rw [if_pos c16] at H
                    have c16b0 : decide (0 ≤ ((rd_T96 y538 x16_1).f1)) = true := decide_eq_true c16
                    clear c16
                    by_cases c17 : ((rd_T96 y538 x16_1).f1) < (l0_2.length : Int)
                    · rw [if_pos c17] at H
                      have c17b0 : decide (((rd_T96 y538 x16_1).f1) < (l0_2.length : Int)) = true := decide_eq_true c17
                      clear c17
                      replace H := Option.bind_eq_some_iff.mp H
                      obtain ⟨t545, A180, H⟩ := H
                      (try dsimp only at H)
                      have A18 := Aside0.mk A180
                      clear A180
                      by_cases c19 : (rd l0_2 ((rd_T96 y538 x16_1).f1)) = t545
                      · rw [if_pos c19] at H
                        have c19b0 : ((rd l0_2 ((rd_T96 y538 x16_1).f1)) == t545) = true := beq_iff_eq.mpr c19
                        have c19b1 : ((rd l0_2 ((rd_T96 y538 x16_1).f1)) != t545) = false := bne_eq_false_iff_eq.mpr c19
                        clear c19
                        have H' := Aside0.mk H
                        clear H
                        have p542 : 0 ≤ (x16_1 : Int) := of_decide_eq_true (by first | (with_reducible assumption) | assumption)
                        have q542 : x16_1 < (y538.length : Int) := of_decide_eq_true (by first | (with_reducible assumption) | assumption)
                        obtain ⟨ad542, e542, hx542_0, hx542_1, hx542_2, hx542_3⟩ := at_T96 HR541.out x16_1 p542 q542
                        cases e542
                        replace hx542_0 := (HB.out.cell (World.block_lt_of_cell? w _ hx542_0)).trans hx542_0
                        replace hx542_1 := (HB.out.cell (World.block_lt_of_cell? w _ hx542_1)).trans hx542_1
                        replace hx542_2 := (HB.out.cell (World.block_lt_of_cell? w _ hx542_2)).trans hx542_2
                        replace hx542_3 := (HB.out.cell (World.block_lt_of_cell? w _ hx542_3)).trans hx542_3
                        replace p542 := eq_true p542
                        replace q542 := eq_true q542
                        try go_wp2_with (first | ((with_reducible refine gate_dst (N := 5) rfl ?_); refine box_event ?hg (N := 5) ?hd (cs := #[.int .i64 0, .int .i64 0, .int .i64 0, .int .i64 0]) (t := 96) ?hr ?_; (case hd => rfl); (case hg => rfl); (case hr => first | (go_simp; done) | (go_simp; rfl)); intro gb543 hg w20 hbox hb; have n0_ := Aside0.mk (Kd.R_below (oR HO_3) hb); have n1_ := Aside0.mk (blk_below (g := gb533) (o := .cells #[.slice (some ad542) l0_0.length c0_0, .int .i64 a0_1, .slice A0_2 l0_2.length c0_2] 33 (0, 0)) (oK BK533) hb); have n2_ := Aside0.mk (below_step (oB HB) hb); have n3_ := Aside0.mk (hbox); have n4_ := Aside0.mk ((by rw [hg]; exact (below_size (oB HB)) : w.heap.size ≤ gb543)); have n5_ := Aside0.mk ((by rw [hg]; exact (below_size (oB HB)) : w.heap.size ≤ gb543)); have n6_ := Aside0.mk ((by rw [hg]; exact Nat.ne_of_lt (blk_lt (g := gb533) (o := .cells #[.slice (some ad542) l0_0.length c0_0, .int .i64 a0_1, .slice A0_2 l0_2.length c0_2] 33 (0, 0)) (oK BK533)) : gb533 ≠ gb543)); have n7_ := Aside0.mk ((by rw [hg]; exact Nat.ne_of_gt (blk_lt (g := gb533) (o := .cells #[.slice (some ad542) l0_0.length c0_0, .int .i64 a0_1, .slice A0_2 l0_2.length c0_2] 33 (0, 0)) (oK BK533)) : gb543 ≠ gb533)); clear HO_3; clear BK533; clear HB; have HO_3 := n0_; have BK533 := n1_; have HB := n2_; have BK543 := n3_; have GW543 := n4_; have GE543 := n5_; have NB533_543 := n6_; have NB543_533 := n7_; clear n0_ n1_ n2_ n3_ n4_ n5_ n6_ n7_; clear hb hbox hg; have hnb21 := NB543_533.out; have hnc21 := NB533_543.out; have hcz22_0 : w20.cell? ⟨gb543, 0, none⟩ = some (.int .i64 0) := (blk_cell BK543.out 0).trans rfl; have hcz22_1 : w20.cell? ⟨gb543, 1, none⟩ = some (.int .i64 0) := (blk_cell BK543.out 1).trans rfl; have hcz22_2 : w20.cell? ⟨gb543, 2, none⟩ = some (.int .i64 0) := (blk_cell BK543.out 2).trans rfl; have hcz22_3 : w20.cell? ⟨gb543, 3, none⟩ = some (.int .i64 0) := (blk_cell BK543.out 3).trans rfl; have hfz22_0 := blk_frozen BK543.out 0; have hfz22_1 := blk_frozen BK543.out 1; have hfz22_2 := blk_frozen BK543.out 2; have hfz22_3 := blk_frozen BK543.out 3))
                        have n0_ : Aside0 (Kd.R (Kd.int .i64) 3 ((((w20.setCell ⟨gb543, 0, none⟩ (.int .i64 ((rd_T96 y538 x16_1).f0))).setCell ⟨gb543, 1, none⟩ (.int .i64 ((rd_T96 y538 x16_1).f1))).setCell ⟨gb543, 2, none⟩ (.int .i64 ((rd_T96 y538 x16_1).f2))).setCell ⟨gb543, 3, none⟩ (.int .i64 ((rd_T96 y538 x16_1).f3))) w.heap.size (fun _ => True) u3 x3_1) := ⟨by (with_reducible repeat (first | apply Kd.R_alloc | apply Kd.R_drewN | apply Kd.R_drew)); exact Kd.R_mono (Kd.R_far (p := ⟨gb543, 3, none⟩) (Kd.R_far (p := ⟨gb543, 2, none⟩) (Kd.R_far (p := ⟨gb543, 1, none⟩) (Kd.R_far (p := ⟨gb543, 0, none⟩) (Kd.R_types HO_3.out BK543.out (by decide)) (fun _ hk => hk.2) (.int .i64 ((rd_T96 y538 x16_1).f0))) (fun _ hk => hk.2) (.int .i64 ((rd_T96 y538 x16_1).f1))) (fun _ hk => hk.2) (.int .i64 ((rd_T96 y538 x16_1).f2))) (fun _ hk => hk.2) (.int .i64 ((rd_T96 y538 x16_1).f3))) (fun _ hk => trivial)⟩
                        have n1_ : Aside0 (((((w20.setCell ⟨gb543, 0, none⟩ (.int .i64 ((rd_T96 y538 x16_1).f0))).setCell ⟨gb543, 1, none⟩ (.int .i64 ((rd_T96 y538 x16_1).f1))).setCell ⟨gb543, 2, none⟩ (.int .i64 ((rd_T96 y538 x16_1).f2))).setCell ⟨gb543, 3, none⟩ (.int .i64 ((rd_T96 y538 x16_1).f3))).heap[gb533]? = some (.cells #[.slice (some ad542) l0_0.length c0_0, .int .i64 a0_1, .slice A0_2 l0_2.length c0_2] 33 (0, 0))) := ⟨by (with_reducible repeat (first | refine blk_drewN ?_ _ | refine blk_drew ?_ | refine blk_alloc ?_ _)); refine blk_far ?_ NB533_543.out _; (with_reducible repeat (first | refine blk_drewN ?_ _ | refine blk_drew ?_ | refine blk_alloc ?_ _)); refine blk_far ?_ NB533_543.out _; (with_reducible repeat (first | refine blk_drewN ?_ _ | refine blk_drew ?_ | refine blk_alloc ?_ _)); refine blk_far ?_ NB533_543.out _; (with_reducible repeat (first | refine blk_drewN ?_ _ | refine blk_drew ?_ | refine blk_alloc ?_ _)); refine blk_far ?_ NB533_543.out _; (with_reducible repeat (first | refine blk_drewN ?_ _ | refine blk_drew ?_ | refine blk_alloc ?_ _)); exact BK533.out⟩
                        have n2_ : Aside0 (((((w20.setCell ⟨gb543, 0, none⟩ (.int .i64 ((rd_T96 y538 x16_1).f0))).setCell ⟨gb543, 1, none⟩ (.int .i64 ((rd_T96 y538 x16_1).f1))).setCell ⟨gb543, 2, none⟩ (.int .i64 ((rd_T96 y538 x16_1).f2))).setCell ⟨gb543, 3, none⟩ (.int .i64 ((rd_T96 y538 x16_1).f3))).heap[gb543]? = some (.cells #[.int .i64 ((rd_T96 y538 x16_1).f0), .int .i64 ((rd_T96 y538 x16_1).f1), .int .i64 ((rd_T96 y538 x16_1).f2), .int .i64 ((rd_T96 y538 x16_1).f3)] 96 (0, 0))) := ⟨by (with_reducible repeat (first | refine blk_drewN ?_ _ | refine blk_drew ?_ | refine blk_alloc ?_ _)); refine blk_put (cs := #[.int .i64 ((rd_T96 y538 x16_1).f0), .int .i64 ((rd_T96 y538 x16_1).f1), .int .i64 ((rd_T96 y538 x16_1).f2), .int .i64 0]) ?_ 3 _ rfl; (with_reducible repeat (first | refine blk_drewN ?_ _ | refine blk_drew ?_ | refine blk_alloc ?_ _)); refine blk_put (cs := #[.int .i64 ((rd_T96 y538 x16_1).f0), .int .i64 ((rd_T96 y538 x16_1).f1), .int .i64 0, .int .i64 0]) ?_ 2 _ rfl; (with_reducible repeat (first | refine blk_drewN ?_ _ | refine blk_drew ?_ | refine blk_alloc ?_ _)); refine blk_put (cs := #[.int .i64 ((rd_T96 y538 x16_1).f0), .int .i64 0, .int .i64 0, .int .i64 0]) ?_ 1 _ rfl; (with_reducible repeat (first | refine blk_drewN ?_ _ | refine blk_drew ?_ | refine blk_alloc ?_ _)); refine blk_put (cs := #[.int .i64 0, .int .i64 0, .int .i64 0, .int .i64 0]) ?_ 0 _ rfl; (with_reducible repeat (first | refine blk_drewN ?_ _ | refine blk_drew ?_ | refine blk_alloc ?_ _)); exact BK543.out⟩
                        have n3_ : Aside0 (Below w.heap.size w ((((w20.setCell ⟨gb543, 0, none⟩ (.int .i64 ((rd_T96 y538 x16_1).f0))).setCell ⟨gb543, 1, none⟩ (.int .i64 ((rd_T96 y538 x16_1).f1))).setCell ⟨gb543, 2, none⟩ (.int .i64 ((rd_T96 y538 x16_1).f2))).setCell ⟨gb543, 3, none⟩ (.int .i64 ((rd_T96 y538 x16_1).f3)))) := ⟨oB HB⟩
                        (try clear HO_3)
                        (try clear BK533)
                        (try clear BK543)
                        (try clear HB)
                        generalize ((((w20.setCell ⟨gb543, 0, none⟩ (.int .i64 ((rd_T96 y538 x16_1).f0))).setCell ⟨gb543, 1, none⟩ (.int .i64 ((rd_T96 y538 x16_1).f1))).setCell ⟨gb543, 2, none⟩ (.int .i64 ((rd_T96 y538 x16_1).f2))).setCell ⟨gb543, 3, none⟩ (.int .i64 ((rd_T96 y538 x16_1).f3))) = w23 at n0_ n1_ n2_ n3_ ⊢
                        have HO_3 := n0_
                        have BK533 := n1_
                        have BK543 := n2_
                        have HB := n3_
                        clear n0_ n1_ n2_ n3_
                        have n0_ := Aside0.mk (Kd.R_drew HO_3.out)
                        have n1_ := Aside0.mk (blk_drew BK533.out)
                        have n2_ := Aside0.mk (blk_drew BK543.out)
                        have n3_ := Aside0.mk (below_drew1 HB.out)
                        clear HO_3
                        clear BK533
                        clear BK543
                        clear HB
                        have HO_3 := n0_
                        have BK533 := n1_
                        have BK543 := n2_
                        have HB := n3_
                        clear n0_ n1_ n2_ n3_
                        have p544 : 0 ≤ (((rd_T96 y538 x16_1).f1) : Int) := of_decide_eq_true (by first | (with_reducible assumption) | assumption)
                        have q544 : ((rd_T96 y538 x16_1).f1) < (l0_2.length : Int) := of_decide_eq_true (by first | (with_reducible assumption) | assumption)
                        obtain ⟨ad544, e544, hx544_0⟩ := Kd.at_int HR0_2.out ((rd_T96 y538 x16_1).f1) p544 q544
                        have hw544_0 := hx544_0
                        cases e544
                        replace hx544_0 := (HB.out.cell (World.block_lt_of_cell? w _ hx544_0)).trans hx544_0
                        replace p544 := eq_true p544
                        replace q544 := eq_true q544
                        refine start_ (n := 10) (S := fun w' => w'.cell? ⟨gb533, 0, none⟩ = some (.slice (some ad542) l0_0.length c0_0) ∧ w'.cell? ⟨gb533, 1, none⟩ = some (.int .i64 a0_1) ∧ w'.cell? ⟨gb533, 2, none⟩ = some (.slice (some ad544) l0_2.length c0_2) ∧ w'.cell? ⟨gb543, 0, none⟩ = some (.int .i64 ((rd_T96 y538 x16_1).f0)) ∧ w'.cell? ⟨gb543, 1, none⟩ = some (.int .i64 ((rd_T96 y538 x16_1).f1)) ∧ w'.cell? ⟨gb543, 2, none⟩ = some (.int .i64 ((rd_T96 y538 x16_1).f2)) ∧ w'.cell? ⟨gb543, 3, none⟩ = some (.int .i64 ((rd_T96 y538 x16_1).f3)) ∧ w'.cell? (ad544.add (((rd_T96 y538 x16_1).f1)).toNat) = some (.int .i64 (rd l0_2 ((rd_T96 y538 x16_1).f1)))) (ds := []) #[false, false, false, false, false, false, false, false, false, false] (by kernel_rfl) rfl rfl ⟨(blk_cell BK533.out 0).trans rfl, (blk_cell BK533.out 1).trans rfl, (blk_cell BK533.out 2).trans rfl, (blk_cell BK543.out 0).trans rfl, (blk_cell BK543.out 1).trans rfl, (blk_cell BK543.out 2).trans rfl, (blk_cell BK543.out 3).trans rfl, ((HB.out.cell (World.block_lt_of_cell? w _ hw544_0)).trans hw544_0)⟩ (fun hHeld => ?_); refine with_tabW impl_WrongSteps.tab7 impl_WrongSteps.bits7 (fun HT_ HW_ => ?_)
                        generalize w23.drew = w24 at HO_3 BK533 BK543 HB hx544_0 hHeld ⊢
                        refine pure_ (i := 0) (N := some 21) (v := ?_) (a' := ?_) #[true, false, false, false, false, false, false, false, false, false] rfl rfl (any_of HT_.out (by kernel_rfl)) (fun _ _ _ h => h) (Or.inl ⟨by rfl, ?_⟩) ?_ ?_
                        rotate_left
                        · intro w'
                          go_simp
                          with_reducible rfl
                        rotate_left
                        · simp only [Act.put, List.setIfInBounds_toArray, List.set_cons_zero, List.set_cons_succ, i64_w, i32_w]
                          rfl
                        refine pure_ (i := 2) (N := some 23) (v := ?_) (a' := ?_) #[true, false, true, false, false, false, false, false, false, false] rfl rfl (any_of HT_.out (by kernel_rfl)) (fun _ _ _ h => h) (Or.inl ⟨by rfl, ?_⟩) ?_ ?_
                        rotate_left
                        · intro w'
                          go_simp
                          with_reducible rfl
                        rotate_left
                        · simp only [Act.put, List.setIfInBounds_toArray, List.set_cons_zero, List.set_cons_succ, i64_w, i32_w]
                          rfl
                        refine pure_ (i := 7) (N := some 28) (v := ?_) (a' := ?_) #[true, false, true, false, false, false, false, true, false, false] rfl rfl (any_of HT_.out (by kernel_rfl)) (fun _ _ _ h => h) (Or.inl ⟨by rfl, ?_⟩) ?_ ?_
                        rotate_left
                        · intro w'
                          go_simp
                          with_reducible rfl
                        rotate_left
                        · simp only [Act.put, List.setIfInBounds_toArray, List.set_cons_zero, List.set_cons_succ, i64_w, i32_w]
                          rfl
                        refine take_ (i := 1) (N := some 22) (v := ?_) (a' := ?_) #[true, true, true, false, false, false, false, true, false, false] rfl rfl (take_ofW HT_.out HW_.out (by kernel_rfl)) (fun _ _ _ h => h) (Or.inl ⟨by rfl, ?_⟩) hHeld ?_ ?_
                        rotate_left
                        · rintro w' ⟨s0, s1, s2, s3, s4, s5, s6, s7⟩
                          go_simp
                          with_reducible rfl
                        rotate_left
                        · simp only [Act.put, List.setIfInBounds_toArray, List.set_cons_zero, List.set_cons_succ, i64_w, i32_w]
                          rfl
                        refine take_ (i := 3) (N := some 24) (v := ?_) (a' := ?_) #[true, true, true, true, false, false, false, true, false, false] rfl rfl (take_ofW HT_.out HW_.out (by kernel_rfl)) (fun _ _ _ h => h) (Or.inl ⟨by rfl, ?_⟩) hHeld ?_ ?_
                        rotate_left
                        · rintro w' ⟨s0, s1, s2, s3, s4, s5, s6, s7⟩
                          go_simp
                          with_reducible rfl
                        rotate_left
                        · simp only [Act.put, List.setIfInBounds_toArray, List.set_cons_zero, List.set_cons_succ, i64_w, i32_w]
                          rfl
                        refine pure_ (i := 4) (N := some 25) (v := ?_) (a' := ?_) #[true, true, true, true, true, false, false, true, false, false] rfl rfl (any_of HT_.out (by kernel_rfl)) (fun _ _ _ h => h) (Or.inl ⟨by rfl, ?_⟩) ?_ ?_
                        rotate_left
                        · intro w'
                          go_simp
                          with_reducible rfl
                        rotate_left
                        · simp only [Act.put, List.setIfInBounds_toArray, List.set_cons_zero, List.set_cons_succ, i64_w, i32_w]
                          rfl
                        refine take_ (i := 5) (N := some 26) (v := ?_) (a' := ?_) #[true, true, true, true, true, true, false, true, false, false] rfl rfl (take_ofW HT_.out HW_.out (by kernel_rfl)) (fun _ _ _ h => h) (Or.inl ⟨by rfl, ?_⟩) hHeld ?_ ?_
                        rotate_left
                        · rintro w' ⟨s0, s1, s2, s3, s4, s5, s6, s7⟩
                          go_simp
                          with_reducible rfl
                        rotate_left
                        · simp only [Act.put, List.setIfInBounds_toArray, List.set_cons_zero, List.set_cons_succ, i64_w, i32_w]
                          rfl
                        refine take_ (i := 6) (N := some 27) (v := ?_) (a' := ?_) #[true, true, true, true, true, true, true, true, false, false] rfl rfl (take_ofW HT_.out HW_.out (by kernel_rfl)) (fun _ _ _ h => h) (Or.inl ⟨by rfl, ?_⟩) hHeld ?_ ?_
                        rotate_left
                        · rintro w' ⟨s0, s1, s2, s3, s4, s5, s6, s7⟩
                          go_simp
                          with_reducible rfl
                        rotate_left
                        · simp only [Act.put, List.setIfInBounds_toArray, List.set_cons_zero, List.set_cons_succ, i64_w, i32_w]
                          rfl
                        refine one_ (i := 8) (N := some 29) #[true, true, true, true, true, true, true, true, true, false] rfl rfl (one_of HT_.out (by kernel_rfl)) (by decide) (fun K hK => ?_)
                        refine goes_ Try.func117 (by kernel_rfl) rfl #[.agg #[.slice (some ad542) l0_0.length c0_0, .int .i64 a0_1, .slice (some ad544) l0_2.length c0_2], .int .i64 x16_1] (by rfl) rfl rfl (by (try simp only [List.map_toArray, List.map_cons, List.map_nil]); first | done | rfl | (simp only [List.length_drop, List.length_take]; rfl)) ?_
                        with_reducible refine (impl_tunedBy.calls k1 _ _ l0_0 a0_1 _ _ l0_2 x16_1 t545 _ ?side1 ?side2 ?side3 ?side4 A18.out).mono ?_
                        (case side1 => exact oc_ HR0_0.out)
                        (case side2 => exact HC0_0.out)
                        (case side3 => exact oc_ HR0_2.out)
                        (case side4 => exact HC0_2.out)
                        rintro e w25 ⟨rfl, hb⟩
                        refine ⟨_, rfl, ?_⟩
                        have n0_ := Aside0.mk (Kd.R_below (oR HO_3) hb)
                        have n1_ := Aside0.mk (blk_below (g := gb533) (o := .cells #[.slice (some ad542) l0_0.length c0_0, .int .i64 a0_1, .slice (some ad544) l0_2.length c0_2] 33 (0, 0)) (oK BK533) hb)
                        have n2_ := Aside0.mk (blk_below (g := gb543) (o := .cells #[.int .i64 ((rd_T96 y538 x16_1).f0), .int .i64 ((rd_T96 y538 x16_1).f1), .int .i64 ((rd_T96 y538 x16_1).f2), .int .i64 ((rd_T96 y538 x16_1).f3)] 96 (0, 0)) (oK BK543) hb)
                        have n3_ := Aside0.mk (below_step (oB HB) hb)
                        clear HO_3
                        clear BK533
                        clear BK543
                        clear HB
                        have HO_3 := n0_
                        have BK533 := n1_
                        have BK543 := n2_
                        have HB := n3_
                        clear n0_ n1_ n2_ n3_
                        (try clear hb)
                        (try clear hb2)
                        (try clear hk)
                        (try clear hi)
                        refine hK.out _ _ ⟨(blk_cell BK533.out 0).trans rfl, (blk_cell BK533.out 1).trans rfl, (blk_cell BK533.out 2).trans rfl, (blk_cell BK543.out 0).trans rfl, (blk_cell BK543.out 1).trans rfl, (blk_cell BK543.out 2).trans rfl, (blk_cell BK543.out 3).trans rfl, ((HB.out.cell (World.block_lt_of_cell? w _ hw544_0)).trans hw544_0)⟩ (fun hHeld => ?_)
                        clear hK K
                        refine norm_ (a' := ?_) ?_ ?_
                        rotate_left
                        · show Act.put _ (some 29) _ = _
                          simp only [Act.put, List.setIfInBounds_toArray, List.set_cons_zero, List.set_cons_succ, i64_w, i32_w]
                          rfl
                        refine pure_ (i := 9) (N := some 30) (v := ?_) (a' := ?_) #[true, true, true, true, true, true, true, true, true, true] rfl rfl (any_of HT_.out (by kernel_rfl)) (fun _ _ _ h => h) (Or.inl ⟨by rfl, ?_⟩) ?_ ?_
                        rotate_left
                        · intro w'
                          go_simp
                          with_reducible rfl
                        rotate_left
                        · simp only [Act.put, List.setIfInBounds_toArray, List.set_cons_zero, List.set_cons_succ, i64_w, i32_w]
                          rfl
                        refine done_ (done_of HT_.out (by kernel_rfl)) ?_
                        try go_wp2
                        go_roundg k1
                        case measure => have := HK1.out; omega
                        case rel => exact ⟨(x3_1), (wrap64 (x16_1 + 1)), (by first | rfl | (simp; done) | (simp [*]; done)), H', ⟨by have := HK1.out; omega⟩, ⟨oR HO_3⟩, ⟨oK BK533⟩, ⟨oB HB⟩⟩
                      · rw [if_neg c19] at H
                        have c19b0 : ((rd l0_2 ((rd_T96 y538 x16_1).f1)) == t545) = false := beq_eq_false_iff_ne.mpr c19
                        have c19b1 : ((rd l0_2 ((rd_T96 y538 x16_1).f1)) != t545) = true := bne_iff_ne.mpr c19
                        by_cases c26 : x3_1.length < 17592186044416
                        · rw [if_pos c26] at H
                          have LMc26 := Aside0.mk c26
                          clear c26
                          obtain ⟨y546, hy546⟩ : ∃ y_ : List Int, y_ = (x3_1 ++ [x16_1]) := ⟨_, rfl⟩
                          replace H : (impl_WrongSteps.l0 k1 y546 y538 (y538.length : Int) (wrap64 (x16_1 + 1)) l0_0 a0_1 l0_2) = some r := by first | (rw [hy546]; with_reducible exact H) | (have H2_ := (Option.bind_some _ _).symm.trans H; rw [hy546]; with_reducible exact H2_) | (have H2_ := (Option.bind_some _ _).symm.trans H; with_reducible exact H2_) | with_reducible exact H | (rw [hy546]; exact H) | exact H
                          have Ny546 := Aside0.mk hy546
                          clear hy546
                          have H' := Aside0.mk H
                          clear H
                          have p542 : 0 ≤ (x16_1 : Int) := of_decide_eq_true (by first | (with_reducible assumption) | assumption)
                          have q542 : x16_1 < (y538.length : Int) := of_decide_eq_true (by first | (with_reducible assumption) | assumption)
                          obtain ⟨ad542, e542, hx542_0, hx542_1, hx542_2, hx542_3⟩ := at_T96 HR541.out x16_1 p542 q542
                          cases e542
                          replace hx542_0 := (HB.out.cell (World.block_lt_of_cell? w _ hx542_0)).trans hx542_0
                          replace hx542_1 := (HB.out.cell (World.block_lt_of_cell? w _ hx542_1)).trans hx542_1
                          replace hx542_2 := (HB.out.cell (World.block_lt_of_cell? w _ hx542_2)).trans hx542_2
                          replace hx542_3 := (HB.out.cell (World.block_lt_of_cell? w _ hx542_3)).trans hx542_3
                          replace p542 := eq_true p542
                          replace q542 := eq_true q542
                          try go_wp2_with (first | ((with_reducible refine gate_dst (N := 5) rfl ?_); refine box_event ?hg (N := 5) ?hd (cs := #[.int .i64 0, .int .i64 0, .int .i64 0, .int .i64 0]) (t := 96) ?hr ?_; (case hd => rfl); (case hg => rfl); (case hr => first | (go_simp; done) | (go_simp; rfl)); intro gb543 hg w27 hbox hb; have n0_ := Aside0.mk (Kd.R_below (oR HO_3) hb); have n1_ := Aside0.mk (blk_below (g := gb533) (o := .cells #[.slice (some ad542) l0_0.length c0_0, .int .i64 a0_1, .slice A0_2 l0_2.length c0_2] 33 (0, 0)) (oK BK533) hb); have n2_ := Aside0.mk (below_step (oB HB) hb); have n3_ := Aside0.mk (hbox); have n4_ := Aside0.mk ((by rw [hg]; exact (below_size (oB HB)) : w.heap.size ≤ gb543)); have n5_ := Aside0.mk ((by rw [hg]; exact (below_size (oB HB)) : w.heap.size ≤ gb543)); have n6_ := Aside0.mk ((by rw [hg]; exact Nat.ne_of_lt (blk_lt (g := gb533) (o := .cells #[.slice (some ad542) l0_0.length c0_0, .int .i64 a0_1, .slice A0_2 l0_2.length c0_2] 33 (0, 0)) (oK BK533)) : gb533 ≠ gb543)); have n7_ := Aside0.mk ((by rw [hg]; exact Nat.ne_of_gt (blk_lt (g := gb533) (o := .cells #[.slice (some ad542) l0_0.length c0_0, .int .i64 a0_1, .slice A0_2 l0_2.length c0_2] 33 (0, 0)) (oK BK533)) : gb543 ≠ gb533)); clear HO_3; clear BK533; clear HB; have HO_3 := n0_; have BK533 := n1_; have HB := n2_; have BK543 := n3_; have GW543 := n4_; have GE543 := n5_; have NB533_543 := n6_; have NB543_533 := n7_; clear n0_ n1_ n2_ n3_ n4_ n5_ n6_ n7_; clear hb hbox hg; have hnb28 := NB543_533.out; have hnc28 := NB533_543.out; have hcz29_0 : w27.cell? ⟨gb543, 0, none⟩ = some (.int .i64 0) := (blk_cell BK543.out 0).trans rfl; have hcz29_1 : w27.cell? ⟨gb543, 1, none⟩ = some (.int .i64 0) := (blk_cell BK543.out 1).trans rfl; have hcz29_2 : w27.cell? ⟨gb543, 2, none⟩ = some (.int .i64 0) := (blk_cell BK543.out 2).trans rfl; have hcz29_3 : w27.cell? ⟨gb543, 3, none⟩ = some (.int .i64 0) := (blk_cell BK543.out 3).trans rfl; have hfz29_0 := blk_frozen BK543.out 0; have hfz29_1 := blk_frozen BK543.out 1; have hfz29_2 := blk_frozen BK543.out 2; have hfz29_3 := blk_frozen BK543.out 3))
                          have n0_ : Aside0 (Kd.R (Kd.int .i64) 3 ((((w27.setCell ⟨gb543, 0, none⟩ (.int .i64 ((rd_T96 y538 x16_1).f0))).setCell ⟨gb543, 1, none⟩ (.int .i64 ((rd_T96 y538 x16_1).f1))).setCell ⟨gb543, 2, none⟩ (.int .i64 ((rd_T96 y538 x16_1).f2))).setCell ⟨gb543, 3, none⟩ (.int .i64 ((rd_T96 y538 x16_1).f3))) w.heap.size (fun _ => True) u3 x3_1) := ⟨by (with_reducible repeat (first | apply Kd.R_alloc | apply Kd.R_drewN | apply Kd.R_drew)); exact Kd.R_mono (Kd.R_far (p := ⟨gb543, 3, none⟩) (Kd.R_far (p := ⟨gb543, 2, none⟩) (Kd.R_far (p := ⟨gb543, 1, none⟩) (Kd.R_far (p := ⟨gb543, 0, none⟩) (Kd.R_types HO_3.out BK543.out (by decide)) (fun _ hk => hk.2) (.int .i64 ((rd_T96 y538 x16_1).f0))) (fun _ hk => hk.2) (.int .i64 ((rd_T96 y538 x16_1).f1))) (fun _ hk => hk.2) (.int .i64 ((rd_T96 y538 x16_1).f2))) (fun _ hk => hk.2) (.int .i64 ((rd_T96 y538 x16_1).f3))) (fun _ hk => trivial)⟩
                          have n1_ : Aside0 (((((w27.setCell ⟨gb543, 0, none⟩ (.int .i64 ((rd_T96 y538 x16_1).f0))).setCell ⟨gb543, 1, none⟩ (.int .i64 ((rd_T96 y538 x16_1).f1))).setCell ⟨gb543, 2, none⟩ (.int .i64 ((rd_T96 y538 x16_1).f2))).setCell ⟨gb543, 3, none⟩ (.int .i64 ((rd_T96 y538 x16_1).f3))).heap[gb533]? = some (.cells #[.slice (some ad542) l0_0.length c0_0, .int .i64 a0_1, .slice A0_2 l0_2.length c0_2] 33 (0, 0))) := ⟨by (with_reducible repeat (first | refine blk_drewN ?_ _ | refine blk_drew ?_ | refine blk_alloc ?_ _)); refine blk_far ?_ NB533_543.out _; (with_reducible repeat (first | refine blk_drewN ?_ _ | refine blk_drew ?_ | refine blk_alloc ?_ _)); refine blk_far ?_ NB533_543.out _; (with_reducible repeat (first | refine blk_drewN ?_ _ | refine blk_drew ?_ | refine blk_alloc ?_ _)); refine blk_far ?_ NB533_543.out _; (with_reducible repeat (first | refine blk_drewN ?_ _ | refine blk_drew ?_ | refine blk_alloc ?_ _)); refine blk_far ?_ NB533_543.out _; (with_reducible repeat (first | refine blk_drewN ?_ _ | refine blk_drew ?_ | refine blk_alloc ?_ _)); exact BK533.out⟩
                          have n2_ : Aside0 (((((w27.setCell ⟨gb543, 0, none⟩ (.int .i64 ((rd_T96 y538 x16_1).f0))).setCell ⟨gb543, 1, none⟩ (.int .i64 ((rd_T96 y538 x16_1).f1))).setCell ⟨gb543, 2, none⟩ (.int .i64 ((rd_T96 y538 x16_1).f2))).setCell ⟨gb543, 3, none⟩ (.int .i64 ((rd_T96 y538 x16_1).f3))).heap[gb543]? = some (.cells #[.int .i64 ((rd_T96 y538 x16_1).f0), .int .i64 ((rd_T96 y538 x16_1).f1), .int .i64 ((rd_T96 y538 x16_1).f2), .int .i64 ((rd_T96 y538 x16_1).f3)] 96 (0, 0))) := ⟨by (with_reducible repeat (first | refine blk_drewN ?_ _ | refine blk_drew ?_ | refine blk_alloc ?_ _)); refine blk_put (cs := #[.int .i64 ((rd_T96 y538 x16_1).f0), .int .i64 ((rd_T96 y538 x16_1).f1), .int .i64 ((rd_T96 y538 x16_1).f2), .int .i64 0]) ?_ 3 _ rfl; (with_reducible repeat (first | refine blk_drewN ?_ _ | refine blk_drew ?_ | refine blk_alloc ?_ _)); refine blk_put (cs := #[.int .i64 ((rd_T96 y538 x16_1).f0), .int .i64 ((rd_T96 y538 x16_1).f1), .int .i64 0, .int .i64 0]) ?_ 2 _ rfl; (with_reducible repeat (first | refine blk_drewN ?_ _ | refine blk_drew ?_ | refine blk_alloc ?_ _)); refine blk_put (cs := #[.int .i64 ((rd_T96 y538 x16_1).f0), .int .i64 0, .int .i64 0, .int .i64 0]) ?_ 1 _ rfl; (with_reducible repeat (first | refine blk_drewN ?_ _ | refine blk_drew ?_ | refine blk_alloc ?_ _)); refine blk_put (cs := #[.int .i64 0, .int .i64 0, .int .i64 0, .int .i64 0]) ?_ 0 _ rfl; (with_reducible repeat (first | refine blk_drewN ?_ _ | refine blk_drew ?_ | refine blk_alloc ?_ _)); exact BK543.out⟩
                          have n3_ : Aside0 (Below w.heap.size w ((((w27.setCell ⟨gb543, 0, none⟩ (.int .i64 ((rd_T96 y538 x16_1).f0))).setCell ⟨gb543, 1, none⟩ (.int .i64 ((rd_T96 y538 x16_1).f1))).setCell ⟨gb543, 2, none⟩ (.int .i64 ((rd_T96 y538 x16_1).f2))).setCell ⟨gb543, 3, none⟩ (.int .i64 ((rd_T96 y538 x16_1).f3)))) := ⟨oB HB⟩
                          (try clear HO_3)
                          (try clear BK533)
                          (try clear BK543)
                          (try clear HB)
                          generalize ((((w27.setCell ⟨gb543, 0, none⟩ (.int .i64 ((rd_T96 y538 x16_1).f0))).setCell ⟨gb543, 1, none⟩ (.int .i64 ((rd_T96 y538 x16_1).f1))).setCell ⟨gb543, 2, none⟩ (.int .i64 ((rd_T96 y538 x16_1).f2))).setCell ⟨gb543, 3, none⟩ (.int .i64 ((rd_T96 y538 x16_1).f3))) = w30 at n0_ n1_ n2_ n3_ ⊢
                          have HO_3 := n0_
                          have BK533 := n1_
                          have BK543 := n2_
                          have HB := n3_
                          clear n0_ n1_ n2_ n3_
                          have n0_ := Aside0.mk (Kd.R_drew HO_3.out)
                          have n1_ := Aside0.mk (blk_drew BK533.out)
                          have n2_ := Aside0.mk (blk_drew BK543.out)
                          have n3_ := Aside0.mk (below_drew1 HB.out)
                          clear HO_3
                          clear BK533
                          clear BK543
                          clear HB
                          have HO_3 := n0_
                          have BK533 := n1_
                          have BK543 := n2_
                          have HB := n3_
                          clear n0_ n1_ n2_ n3_
                          have p544 : 0 ≤ (((rd_T96 y538 x16_1).f1) : Int) := of_decide_eq_true (by first | (with_reducible assumption) | assumption)
                          have q544 : ((rd_T96 y538 x16_1).f1) < (l0_2.length : Int) := of_decide_eq_true (by first | (with_reducible assumption) | assumption)
                          obtain ⟨ad544, e544, hx544_0⟩ := Kd.at_int HR0_2.out ((rd_T96 y538 x16_1).f1) p544 q544
                          have hw544_0 := hx544_0
                          cases e544
                          replace hx544_0 := (HB.out.cell (World.block_lt_of_cell? w _ hx544_0)).trans hx544_0
                          replace p544 := eq_true p544
                          replace q544 := eq_true q544
                          refine start_ (n := 10) (S := fun w' => w'.cell? ⟨gb533, 0, none⟩ = some (.slice (some ad542) l0_0.length c0_0) ∧ w'.cell? ⟨gb533, 1, none⟩ = some (.int .i64 a0_1) ∧ w'.cell? ⟨gb533, 2, none⟩ = some (.slice (some ad544) l0_2.length c0_2) ∧ w'.cell? ⟨gb543, 0, none⟩ = some (.int .i64 ((rd_T96 y538 x16_1).f0)) ∧ w'.cell? ⟨gb543, 1, none⟩ = some (.int .i64 ((rd_T96 y538 x16_1).f1)) ∧ w'.cell? ⟨gb543, 2, none⟩ = some (.int .i64 ((rd_T96 y538 x16_1).f2)) ∧ w'.cell? ⟨gb543, 3, none⟩ = some (.int .i64 ((rd_T96 y538 x16_1).f3)) ∧ w'.cell? (ad544.add (((rd_T96 y538 x16_1).f1)).toNat) = some (.int .i64 (rd l0_2 ((rd_T96 y538 x16_1).f1)))) (ds := []) #[false, false, false, false, false, false, false, false, false, false] (by kernel_rfl) rfl rfl ⟨(blk_cell BK533.out 0).trans rfl, (blk_cell BK533.out 1).trans rfl, (blk_cell BK533.out 2).trans rfl, (blk_cell BK543.out 0).trans rfl, (blk_cell BK543.out 1).trans rfl, (blk_cell BK543.out 2).trans rfl, (blk_cell BK543.out 3).trans rfl, ((HB.out.cell (World.block_lt_of_cell? w _ hw544_0)).trans hw544_0)⟩ (fun hHeld => ?_); refine with_tabW impl_WrongSteps.tab7 impl_WrongSteps.bits7 (fun HT_ HW_ => ?_)
                          generalize w30.drew = w31 at HO_3 BK533 BK543 HB hx544_0 hHeld ⊢
                          refine pure_ (i := 0) (N := some 21) (v := ?_) (a' := ?_) #[true, false, false, false, false, false, false, false, false, false] rfl rfl (any_of HT_.out (by kernel_rfl)) (fun _ _ _ h => h) (Or.inl ⟨by rfl, ?_⟩) ?_ ?_
                          rotate_left
                          · intro w'
                            go_simp
                            with_reducible rfl
                          rotate_left
                          · simp only [Act.put, List.setIfInBounds_toArray, List.set_cons_zero, List.set_cons_succ, i64_w, i32_w]
                            rfl
                          refine pure_ (i := 2) (N := some 23) (v := ?_) (a' := ?_) #[true, false, true, false, false, false, false, false, false, false] rfl rfl (any_of HT_.out (by kernel_rfl)) (fun _ _ _ h => h) (Or.inl ⟨by rfl, ?_⟩) ?_ ?_
                          rotate_left
                          · intro w'
                            go_simp
                            with_reducible rfl
                          rotate_left
                          · simp only [Act.put, List.setIfInBounds_toArray, List.set_cons_zero, List.set_cons_succ, i64_w, i32_w]
                            rfl
                          refine pure_ (i := 7) (N := some 28) (v := ?_) (a' := ?_) #[true, false, true, false, false, false, false, true, false, false] rfl rfl (any_of HT_.out (by kernel_rfl)) (fun _ _ _ h => h) (Or.inl ⟨by rfl, ?_⟩) ?_ ?_
                          rotate_left
                          · intro w'
                            go_simp
                            with_reducible rfl
                          rotate_left
                          · simp only [Act.put, List.setIfInBounds_toArray, List.set_cons_zero, List.set_cons_succ, i64_w, i32_w]
                            rfl
                          refine take_ (i := 1) (N := some 22) (v := ?_) (a' := ?_) #[true, true, true, false, false, false, false, true, false, false] rfl rfl (take_ofW HT_.out HW_.out (by kernel_rfl)) (fun _ _ _ h => h) (Or.inl ⟨by rfl, ?_⟩) hHeld ?_ ?_
                          rotate_left
                          · rintro w' ⟨s0, s1, s2, s3, s4, s5, s6, s7⟩
                            go_simp
                            with_reducible rfl
                          rotate_left
                          · simp only [Act.put, List.setIfInBounds_toArray, List.set_cons_zero, List.set_cons_succ, i64_w, i32_w]
                            rfl
                          refine take_ (i := 3) (N := some 24) (v := ?_) (a' := ?_) #[true, true, true, true, false, false, false, true, false, false] rfl rfl (take_ofW HT_.out HW_.out (by kernel_rfl)) (fun _ _ _ h => h) (Or.inl ⟨by rfl, ?_⟩) hHeld ?_ ?_
                          rotate_left
                          · rintro w' ⟨s0, s1, s2, s3, s4, s5, s6, s7⟩
                            go_simp
                            with_reducible rfl
                          rotate_left
                          · simp only [Act.put, List.setIfInBounds_toArray, List.set_cons_zero, List.set_cons_succ, i64_w, i32_w]
                            rfl
                          refine pure_ (i := 4) (N := some 25) (v := ?_) (a' := ?_) #[true, true, true, true, true, false, false, true, false, false] rfl rfl (any_of HT_.out (by kernel_rfl)) (fun _ _ _ h => h) (Or.inl ⟨by rfl, ?_⟩) ?_ ?_
                          rotate_left
                          · intro w'
                            go_simp
                            with_reducible rfl
                          rotate_left
                          · simp only [Act.put, List.setIfInBounds_toArray, List.set_cons_zero, List.set_cons_succ, i64_w, i32_w]
                            rfl
                          refine take_ (i := 5) (N := some 26) (v := ?_) (a' := ?_) #[true, true, true, true, true, true, false, true, false, false] rfl rfl (take_ofW HT_.out HW_.out (by kernel_rfl)) (fun _ _ _ h => h) (Or.inl ⟨by rfl, ?_⟩) hHeld ?_ ?_
                          rotate_left
                          · rintro w' ⟨s0, s1, s2, s3, s4, s5, s6, s7⟩
                            go_simp
                            with_reducible rfl
                          rotate_left
                          · simp only [Act.put, List.setIfInBounds_toArray, List.set_cons_zero, List.set_cons_succ, i64_w, i32_w]
                            rfl
                          refine take_ (i := 6) (N := some 27) (v := ?_) (a' := ?_) #[true, true, true, true, true, true, true, true, false, false] rfl rfl (take_ofW HT_.out HW_.out (by kernel_rfl)) (fun _ _ _ h => h) (Or.inl ⟨by rfl, ?_⟩) hHeld ?_ ?_
                          rotate_left
                          · rintro w' ⟨s0, s1, s2, s3, s4, s5, s6, s7⟩
                            go_simp
                            with_reducible rfl
                          rotate_left
                          · simp only [Act.put, List.setIfInBounds_toArray, List.set_cons_zero, List.set_cons_succ, i64_w, i32_w]
                            rfl
                          refine one_ (i := 8) (N := some 29) #[true, true, true, true, true, true, true, true, true, false] rfl rfl (one_of HT_.out (by kernel_rfl)) (by decide) (fun K hK => ?_)
                          refine goes_ Try.func117 (by kernel_rfl) rfl #[.agg #[.slice (some ad542) l0_0.length c0_0, .int .i64 a0_1, .slice (some ad544) l0_2.length c0_2], .int .i64 x16_1] (by rfl) rfl rfl (by (try simp only [List.map_toArray, List.map_cons, List.map_nil]); first | done | rfl | (simp only [List.length_drop, List.length_take]; rfl)) ?_
                          with_reducible refine (impl_tunedBy.calls k1 _ _ l0_0 a0_1 _ _ l0_2 x16_1 t545 _ ?side1 ?side2 ?side3 ?side4 A18.out).mono ?_
                          (case side1 => exact oc_ HR0_0.out)
                          (case side2 => exact HC0_0.out)
                          (case side3 => exact oc_ HR0_2.out)
                          (case side4 => exact HC0_2.out)
                          rintro e w32 ⟨rfl, hb⟩
                          refine ⟨_, rfl, ?_⟩
                          have n0_ := Aside0.mk (Kd.R_below (oR HO_3) hb)
                          have n1_ := Aside0.mk (blk_below (g := gb533) (o := .cells #[.slice (some ad542) l0_0.length c0_0, .int .i64 a0_1, .slice (some ad544) l0_2.length c0_2] 33 (0, 0)) (oK BK533) hb)
                          have n2_ := Aside0.mk (blk_below (g := gb543) (o := .cells #[.int .i64 ((rd_T96 y538 x16_1).f0), .int .i64 ((rd_T96 y538 x16_1).f1), .int .i64 ((rd_T96 y538 x16_1).f2), .int .i64 ((rd_T96 y538 x16_1).f3)] 96 (0, 0)) (oK BK543) hb)
                          have n3_ := Aside0.mk (below_step (oB HB) hb)
                          clear HO_3
                          clear BK533
                          clear BK543
                          clear HB
                          have HO_3 := n0_
                          have BK533 := n1_
                          have BK543 := n2_
                          have HB := n3_
                          clear n0_ n1_ n2_ n3_
                          (try clear hb)
                          (try clear hb2)
                          (try clear hk)
                          (try clear hi)
                          refine hK.out _ _ ⟨(blk_cell BK533.out 0).trans rfl, (blk_cell BK533.out 1).trans rfl, (blk_cell BK533.out 2).trans rfl, (blk_cell BK543.out 0).trans rfl, (blk_cell BK543.out 1).trans rfl, (blk_cell BK543.out 2).trans rfl, (blk_cell BK543.out 3).trans rfl, ((HB.out.cell (World.block_lt_of_cell? w _ hw544_0)).trans hw544_0)⟩ (fun hHeld => ?_)
                          clear hK K
                          refine norm_ (a' := ?_) ?_ ?_
                          rotate_left
                          · show Act.put _ (some 29) _ = _
                            simp only [Act.put, List.setIfInBounds_toArray, List.set_cons_zero, List.set_cons_succ, i64_w, i32_w]
                            rfl
                          refine pure_ (i := 9) (N := some 30) (v := ?_) (a' := ?_) #[true, true, true, true, true, true, true, true, true, true] rfl rfl (any_of HT_.out (by kernel_rfl)) (fun _ _ _ h => h) (Or.inl ⟨by rfl, ?_⟩) ?_ ?_
                          rotate_left
                          · intro w'
                            go_simp
                            with_reducible rfl
                          rotate_left
                          · simp only [Act.put, List.setIfInBounds_toArray, List.set_cons_zero, List.set_cons_succ, i64_w, i32_w]
                            rfl
                          refine done_ (done_of HT_.out (by kernel_rfl)) ?_
                          try go_wp2_with (first | ((with_reducible refine gate_builtin (b := .append) (xs := #[.tmp 31, .tmp 33]) rfl ?_); at_builtin; refine Kd.R_append (Kd.int .i64) (w0 := w) w.heap.size rfl (.tmp 31) (.tmp 33) 23 3 (.int .i64 0) 8 rfl Try.underlying23 info3 rfl (by decide) (by omega) u3 x3_1 x16_1 [.int .i64 x16_1] (fun _ => True) (fun _ => False) rfl rfl ?aP (fun _ hk => hk.elim) ?aF ?aO ?aB ?aS ?aL ?_; (case aP => exact rfl); (case aB => exact (oB HB)); (case aF => exact (fun _ _ => trivial)); (case aO => exact (oR HO_3)); (case aS => exact (below_size (oB HB))); (case aL => have := LMc26.out; omega); intro v547 w33 ho hb hg hat; rw [← Ny546.out] at ho; have n0_ := Aside0.mk (blk_grown (g := gb533) (o := .cells #[.slice (some ad542) l0_0.length c0_0, .int .i64 a0_1, .slice (some ad544) l0_2.length c0_2] 33 (0, 0)) (oK BK533) hg (Kd.R_ne HO_3.out BK533.out (by decide))); have n1_ := Aside0.mk (blk_grown (g := gb543) (o := .cells #[.int .i64 ((rd_T96 y538 x16_1).f0), .int .i64 ((rd_T96 y538 x16_1).f1), .int .i64 ((rd_T96 y538 x16_1).f2), .int .i64 ((rd_T96 y538 x16_1).f3)] 96 (0, 0)) (oK BK543) hg (Kd.R_ne HO_3.out BK543.out (by decide))); have n2_ := Aside0.mk (hb); have n3_ := Aside0.mk (ho); clear BK533; clear BK543; clear HB; clear HO_3; have BK533 := n0_; have BK543 := n1_; have HB := n2_; have HO548 := n3_; clear n0_ n1_ n2_ n3_; clear ho hb hg hat))
                          go_roundg k1
                          case measure => have := HK1.out; omega
                          case rel => exact ⟨(y546), (wrap64 (x16_1 + 1)), (by first | rfl | (simp; done) | (simp [*]; done)), H', ⟨by have := HK1.out; omega⟩, ⟨oR HO548⟩, ⟨oK BK533⟩, ⟨oB HB⟩⟩
                        · rw [if_neg c26] at H
                          exact absurd H (by simp)
                    · rw [if_neg c17] at H
                      exact absurd H (by simp)
                  · rw [if_neg c16] at H
                    exact absurd H (by simp)
                · rw [if_neg c15] at H
                  exact absurd H (by simp)
              · rw [if_neg c14] at H
                exact absurd H (by simp)
            · rw [if_neg c13] at H
              have c13b0 : decide (x16_1 < (y538.length : Int)) = false := decide_eq_false c13
              clear c13
              obtain rfl := Option.some.inj H
              go_wp2
              go_ret
              exact ⟨_, by first | rfl | (simp [errW_none, errW_some] <;> rfl) | (simp [*, errW_none, errW_some] <;> rfl), oR HO_3, oB HB⟩
      · rw [if_neg c5] at H
        exact absurd H (by simp)
    · rw [if_neg c4] at H
      exact absurd H (by simp)
  · replace c3 := Bool.eq_false_iff.mpr c3
    subst c3
    rw [if_neg (show ¬ (false = true) by decide)] at H
    obtain rfl := Option.some.inj H
    go_enter Try.func80, Try.ntmps80
    go_wp2_with (first | ((with_reducible refine gate_dst (N := 1) rfl ?_); refine box_event ?hg (N := 1) ?hd (cs := #[.slice A0_0 l0_0.length c0_0, .int .i64 a0_1, .slice A0_2 l0_2.length c0_2]) (t := 33) ?hr ?_; (case hd => rfl); (case hg => rfl); (case hr => first | (go_simp; done) | (go_simp; rfl)); intro gb533 hg w34 hbox hb; have n0_ := Aside0.mk (below_step (oB HB) hb); have n1_ := Aside0.mk (hbox); have n2_ := Aside0.mk ((by rw [hg]; exact (below_size (oB HB)) : w.heap.size ≤ gb533)); have n3_ := Aside0.mk ((by rw [hg]; exact (below_size (oB HB)) : w.heap.size ≤ gb533)); clear HB; have HB := n0_; have BK533 := n1_; have GW533 := n2_; have GE533 := n3_; clear n0_ n1_ n2_ n3_; clear hb hbox hg; have hcz35_0 : w34.cell? ⟨gb533, 0, none⟩ = some (.slice A0_0 l0_0.length c0_0) := (blk_cell BK533.out 0).trans rfl; have hcz35_1 : w34.cell? ⟨gb533, 1, none⟩ = some (.int .i64 a0_1) := (blk_cell BK533.out 1).trans rfl; have hcz35_2 : w34.cell? ⟨gb533, 2, none⟩ = some (.slice A0_2 l0_2.length c0_2) := (blk_cell BK533.out 2).trans rfl; have hfz35_0 := blk_frozen BK533.out 0; have hfz35_1 := blk_frozen BK533.out 1; have hfz35_2 := blk_frozen BK533.out 2) | ((with_reducible refine gate_callee (f := 64) rfl ?_); refine goesL_ (some 7) rfl rfl Try.func64 (by kernel_rfl) rfl #[.agg #[.slice A0_0 l0_0.length c0_0, .int .i64 a0_1, .slice A0_2 l0_2.length c0_2]] rfl (by (try simp only [List.map_toArray, List.map_cons, List.map_nil]); first | done | rfl | (simp only [List.length_drop, List.length_take]; rfl)) ?_; (with_reducible refine (impl_WorkOk.calls _ _ l0_0 a0_1 _ _ l0_2 false _ ?side1 ?side2 ?side3 ?side4 A2.out).mono ?_); (case side1 => exact oc_ HR0_0.out); (case side2 => exact HC0_0.out); (case side3 => exact oc_ HR0_2.out); (case side4 => exact HC0_2.out); rintro e w36 ⟨rfl, hb⟩; refine ⟨_, rfl, ?_⟩; have n0_ := Aside0.mk (blk_below (g := gb533) (o := .cells #[.slice A0_0 l0_0.length c0_0, .int .i64 a0_1, .slice A0_2 l0_2.length c0_2] 33 (0, 0)) (oK BK533) hb); have n1_ := Aside0.mk (below_step (oB HB) hb); clear BK533; clear HB; have BK533 := n0_; have HB := n1_; clear n0_ n1_; (try clear hb); (try clear hb2); (try clear hk); (try clear hi)))
    go_ret
    exact ⟨_, by first | rfl | (simp [errW_none, errW_some] <;> rfl) | (simp [*, errW_none, errW_some] <;> rfl), by first | exact Kd.R_nil _ _ _ _ _ | exact Kd.N_nil _ _ _ _ _ | exact Kd.V_nil _ _ _ _ _ | exact Kd.Q_nil _ _ _ _ _ | exact Kd.S_nil _ _ _ _ _, oB HB⟩
end Go.Proofs.Ytbkkpllejgedcaa.P


namespace Go.Proofs.Ytbkkpllejgedcaa.P
open Go.RowKit Go.Proofs.YtbkkpllejgedcaaW.PrintWords Go.Proofs.YtbkkpllejgedcaaW.PrintLast Go.Proofs.YtbkkpllejgedcaaW.PrintMore
attribute [local go_sem] max2_int min2_int max_two min_two max_three min_three max_four min_four
set_option linter.unusedVariables false
set_option linter.unusedSimpArgs false
def impl_copyLog.f (l0 : List (S74)) : Option ((List (S74))) := (some (([] : List (S74)) : List (S74))).bind fun y797 => (if y797.length + l0.length < 4398046511104 then (some (y797 ++ l0)) else (none))
set_option maxHeartbeats 8000000 in
set_option maxRecDepth 100000 in
theorem impl_copyLog.calls (A0 : Option Addr) (c0 : Nat) (l0 : List (S74)) (r : List (S74)) (w : World) (hr0 : Kd.C k74 w A0 l0.length l0) (hc0 : l0.length ≤ c0) (h : impl_copyLog.f l0 = some r) :
    Calls Try.prog 94 #[.slice A0 l0.length c0] w fun e w' => ∃ v0_ : Value, e = .returned (v0_) ∧ Kd.R k74 74 w' w.heap.size (fun _ => True) v0_ r ∧ Below w.heap.size w w' := by
  have HR0 := Aside0.mk hr0
  have HC0 := Aside0.mk hc0
  clear hr0 hc0
  have HB := Aside0.mk (Below.refl w.heap.size w)
  have H : ((some (([] : List (S74)) : List (S74))).bind fun y797 => (if y797.length + l0.length < 4398046511104 then (some (y797 ++ l0)) else (none))) = some r := h
  clear h
  obtain ⟨y797, hy797⟩ : ∃ y_ : List (S74), y_ = (([] : List (S74))) := ⟨_, rfl⟩
  replace H : (if y797.length + l0.length < 4398046511104 then (some (y797 ++ l0)) else (none)) = some r := by first | (rw [hy797]; with_reducible exact H) | (have H2_ := (Option.bind_some _ _).symm.trans H; rw [hy797]; with_reducible exact H2_) | (have H2_ := (Option.bind_some _ _).symm.trans H; with_reducible exact H2_) | with_reducible exact H | (rw [hy797]; exact H) | exact H
  have Ny797 := Aside0.mk hy797
  clear hy797
  by_cases c2 : y797.length + l0.length < 4398046511104
  · rw [if_pos c2] at H
    have LMc2 := Aside0.mk c2
    clear c2
    obtain ⟨y800, hy800⟩ : ∃ y_ : List (S74), y_ = (y797 ++ l0) := ⟨_, rfl⟩
    replace H : (some y800) = some r := by first | (rw [hy800]; with_reducible exact H) | (have H2_ := (Option.bind_some _ _).symm.trans H; rw [hy800]; with_reducible exact H2_) | (have H2_ := (Option.bind_some _ _).symm.trans H; with_reducible exact H2_) | with_reducible exact H | (rw [hy800]; exact H) | exact H
    have Ny800 := Aside0.mk hy800
    clear hy800
    obtain rfl := Option.some.inj H
    go_enter Try.func94, Try.ntmps94
    go_wp2_with (first | ((with_reducible refine gate_dst (N := 3) rfl ?_); refine Kd.R_lit k74 _ 74 ?hg (N := 3) ?hd (xs := ([] : List (S74))) (inner := []) (ok := fun _ => True) (okp := fun _ => True) ?hr ?hp (fun _ hk => hk) trivial (Below.refl _ _) (Nat.le_refl _) (by simp) ?_; (case hd => rfl); (case hg => rfl); (case hr => first | (go_simp; done) | (go_simp; rfl)); (case hp => exact (Reps.none _ _)); intro v798 w3 ho4 hb hg_ hnew_; clear hg_ hnew_; (first | rw [← Ny797.out] at ho4 | (simp only [Int.reduceToNat] at ho4; rw [← Ny797.out] at ho4)); have n0_ := Aside0.mk (Kd.R_lower ho4 (below_size (oB HB))); have n1_ := Aside0.mk (below_step (oB HB) hb); clear HB; have HO799 := n0_; have HB := n1_; clear n0_ n1_; clear hb ho4) | ((with_reducible refine gate_builtin (b := .append) (xs := #[.tmp 3, .tmp 4]) rfl ?_); at_builtin; refine Kd.R_append_rows k74 (w0 := w) w.heap.size rfl (.tmp 3) (.tmp 4) 34 74 (.agg #[(.int .i64 0), (.int .i64 0), (.int .i64 0), (.int .i64 0)]) 32 rfl Try.underlying34 info74 rfl (by decide) (by omega) v798 y797 l0 _ _ _ (fun _ => True) (fun _ => False) rfl rfl ?aO ?aR (fun _ _ h => h) (fun _ h => h.elim) ?aF ?aB ?aS ?aL ?_; (case aR => exact oc_ HR0.out); (case aB => exact (oB HB)); (case aF => exact (fun _ _ => trivial)); (case aO => exact (oR HO799)); (case aS => exact (below_size (oB HB))); (case aL => have := LMc2.out; omega); intro v801 w5 ho hb hg hat; rw [← Ny800.out] at ho; have n0_ := Aside0.mk (hb); have n1_ := Aside0.mk (ho); clear HB; clear HO799; have HB := n0_; have HO802 := n1_; clear n0_ n1_; clear ho hb hg hat))
    go_ret
    exact ⟨_, by first | rfl | (simp [errW_none, errW_some] <;> rfl) | (simp [*, errW_none, errW_some] <;> rfl), oR HO802, oB HB⟩
  · rw [if_neg c2] at H
    exact absurd H (by simp)
end Go.Proofs.Ytbkkpllejgedcaa.P


namespace Go.Proofs.Ytbkkpllejgedcaa.P
open Go.RowKit Go.Proofs.YtbkkpllejgedcaaW.PrintWords Go.Proofs.YtbkkpllejgedcaaW.PrintLast Go.Proofs.YtbkkpllejgedcaaW.PrintMore
attribute [local go_sem] max2_int min2_int max_two min_two max_three min_three max_four min_four
set_option linter.unusedVariables false
set_option linter.unusedSimpArgs false
def impl_copyPlan.f (l0 : List (S96)) : Option ((List (S96))) := (some (([] : List (S96)) : List (S96))).bind fun y379 => (if y379.length + l0.length < 4398046511104 then (some (y379 ++ l0)) else (none))
set_option maxHeartbeats 8000000 in
set_option maxRecDepth 100000 in
theorem impl_copyPlan.calls (A0 : Option Addr) (c0 : Nat) (l0 : List (S96)) (r : List (S96)) (w : World) (hr0 : Kd.C k96 w A0 l0.length l0) (hc0 : l0.length ≤ c0) (h : impl_copyPlan.f l0 = some r) :
    Calls Try.prog 112 #[.slice A0 l0.length c0] w fun e w' => ∃ v0_ : Value, e = .returned (v0_) ∧ Kd.R k96 96 w' w.heap.size (fun _ => True) v0_ r ∧ Below w.heap.size w w' := by
  have HR0 := Aside0.mk hr0
  have HC0 := Aside0.mk hc0
  clear hr0 hc0
  have HB := Aside0.mk (Below.refl w.heap.size w)
  have H : ((some (([] : List (S96)) : List (S96))).bind fun y379 => (if y379.length + l0.length < 4398046511104 then (some (y379 ++ l0)) else (none))) = some r := h
  clear h
  obtain ⟨y379, hy379⟩ : ∃ y_ : List (S96), y_ = (([] : List (S96))) := ⟨_, rfl⟩
  replace H : (if y379.length + l0.length < 4398046511104 then (some (y379 ++ l0)) else (none)) = some r := by first | (rw [hy379]; with_reducible exact H) | (have H2_ := (Option.bind_some _ _).symm.trans H; rw [hy379]; with_reducible exact H2_) | (have H2_ := (Option.bind_some _ _).symm.trans H; with_reducible exact H2_) | with_reducible exact H | (rw [hy379]; exact H) | exact H
  have Ny379 := Aside0.mk hy379
  clear hy379
  by_cases c2 : y379.length + l0.length < 4398046511104
  · rw [if_pos c2] at H
    have LMc2 := Aside0.mk c2
    clear c2
    obtain ⟨y382, hy382⟩ : ∃ y_ : List (S96), y_ = (y379 ++ l0) := ⟨_, rfl⟩
    replace H : (some y382) = some r := by first | (rw [hy382]; with_reducible exact H) | (have H2_ := (Option.bind_some _ _).symm.trans H; rw [hy382]; with_reducible exact H2_) | (have H2_ := (Option.bind_some _ _).symm.trans H; with_reducible exact H2_) | with_reducible exact H | (rw [hy382]; exact H) | exact H
    have Ny382 := Aside0.mk hy382
    clear hy382
    obtain rfl := Option.some.inj H
    go_enter Try.func112, Try.ntmps112
    go_wp2_with (first | ((with_reducible refine gate_dst (N := 3) rfl ?_); refine Kd.R_lit k96 _ 96 ?hg (N := 3) ?hd (xs := ([] : List (S96))) (inner := []) (ok := fun _ => True) (okp := fun _ => True) ?hr ?hp (fun _ hk => hk) trivial (Below.refl _ _) (Nat.le_refl _) (by simp) ?_; (case hd => rfl); (case hg => rfl); (case hr => first | (go_simp; done) | (go_simp; rfl)); (case hp => exact (Reps.none _ _)); intro v380 w3 ho4 hb hg_ hnew_; clear hg_ hnew_; (first | rw [← Ny379.out] at ho4 | (simp only [Int.reduceToNat] at ho4; rw [← Ny379.out] at ho4)); have n0_ := Aside0.mk (Kd.R_lower ho4 (below_size (oB HB))); have n1_ := Aside0.mk (below_step (oB HB) hb); clear HB; have HO381 := n0_; have HB := n1_; clear n0_ n1_; clear hb ho4) | ((with_reducible refine gate_builtin (b := .append) (xs := #[.tmp 3, .tmp 4]) rfl ?_); at_builtin; refine Kd.R_append_rows k96 (w0 := w) w.heap.size rfl (.tmp 3) (.tmp 4) 31 96 (.agg #[(.int .i64 0), (.int .i64 0), (.int .i64 0), (.int .i64 0)]) 32 rfl Try.underlying31 info96 rfl (by decide) (by omega) v380 y379 l0 _ _ _ (fun _ => True) (fun _ => False) rfl rfl ?aO ?aR (fun _ _ h => h) (fun _ h => h.elim) ?aF ?aB ?aS ?aL ?_; (case aR => exact oc_ HR0.out); (case aB => exact (oB HB)); (case aF => exact (fun _ _ => trivial)); (case aO => exact (oR HO381)); (case aS => exact (below_size (oB HB))); (case aL => have := LMc2.out; omega); intro v383 w5 ho hb hg hat; rw [← Ny382.out] at ho; have n0_ := Aside0.mk (hb); have n1_ := Aside0.mk (ho); clear HB; clear HO381; have HB := n0_; have HO384 := n1_; clear n0_ n1_; clear ho hb hg hat))
    go_ret
    exact ⟨_, by first | rfl | (simp [errW_none, errW_some] <;> rfl) | (simp [*, errW_none, errW_some] <;> rfl), oR HO384, oB HB⟩
  · rw [if_neg c2] at H
    exact absurd H (by simp)
end Go.Proofs.Ytbkkpllejgedcaa.P


namespace Go.Proofs.Ytbkkpllejgedcaa.P
open Go.RowKit Go.Proofs.YtbkkpllejgedcaaW.PrintWords Go.Proofs.YtbkkpllejgedcaaW.PrintLast Go.Proofs.YtbkkpllejgedcaaW.PrintMore
attribute [local go_sem] max2_int min2_int max_two min_two max_three min_three max_four min_four
set_option linter.unusedVariables false
set_option linter.unusedSimpArgs false
def impl_copyWork.f (l0_0 : List (S96)) (a0_1 : Int) (l0_2 : List Int) : Option ((List (S96)) × Int × List Int) := (impl_copyPlan.f l0_0).bind fun t805 => ((some (([] : List Int) : List Int)).bind fun y808 => (if y808.length + l0_2.length < 17592186044416 then (some (t805, a0_1, (y808 ++ l0_2))) else (none)))
def impl_copyWork.T1 : Bool × List (List Nat × List Nat) := (true, [([], []), ([0], [0]), ([1], [1]), ([], []), ([3], [3]), ([], []), ([], []), ([6], [6]), ([5, 7, 2], [5, 7]), ([2, 4, 8], [2, 4, 8]), ([9, 8, 0, 1, 2, 3, 4, 5, 6, 7, 8, 9], [9])])
def impl_copyWork.B1 : List Nat := [0, 1, 3, 0, 8, 0, 0, 64, 231, 511, 1023]
theorem impl_copyWork.tab1 : rtab .any (opsOf Try.f119 1) = impl_copyWork.T1 := by kernel_rfl
theorem impl_copyWork.bits1 : waitsOk impl_copyWork.T1.2 impl_copyWork.B1 = true := by kernel_rfl
set_option maxHeartbeats 8000000 in
set_option maxRecDepth 100000 in
theorem impl_copyWork.calls (A0_0 : Option Addr) (c0_0 : Nat) (l0_0 : List (S96)) (a0_1 : Int) (A0_2 : Option Addr) (c0_2 : Nat) (l0_2 : List Int) (r1 : List (S96)) (r2 : Int) (r3 : List Int) (w : World) (hr0_0 : Kd.C k96 w A0_0 l0_0.length l0_0) (hc0_0 : l0_0.length ≤ c0_0) (hr0_2 : Kd.C (Kd.int .i64) w A0_2 l0_2.length l0_2) (hc0_2 : l0_2.length ≤ c0_2) (h : impl_copyWork.f l0_0 a0_1 l0_2 = some (r1, r2, r3)) :
    Calls Try.prog 119 #[.agg #[.slice A0_0 l0_0.length c0_0, .int .i64 a0_1, .slice A0_2 l0_2.length c0_2]] w fun e w' => ∃ v0_ v2_ : Value, e = .returned (.agg #[v0_, .int .i64 r2, v2_]) ∧ Kd.R k96 96 w' w.heap.size (fun _ => True) v0_ r1 ∧ Kd.R (Kd.int .i64) 3 w' w.heap.size (fun _ => True) v2_ r3 ∧ Below w.heap.size w w' := by
  have hu33 := Try.underlying33
  have HR0_0 := Aside0.mk hr0_0
  have HC0_0 := Aside0.mk hc0_0
  clear hr0_0 hc0_0
  have HR0_2 := Aside0.mk hr0_2
  have HC0_2 := Aside0.mk hc0_2
  clear hr0_2 hc0_2
  have HB := Aside0.mk (Below.refl w.heap.size w)
  have H : ((impl_copyPlan.f l0_0).bind fun t805 => ((some (([] : List Int) : List Int)).bind fun y808 => (if y808.length + l0_2.length < 17592186044416 then (some (t805, a0_1, (y808 ++ l0_2))) else (none)))) = some (r1, r2, r3) := h
  clear h
  replace H := Option.bind_eq_some_iff.mp H
  obtain ⟨t805, A20, H⟩ := H
  (try dsimp only at H)
  have A2 := Aside0.mk A20
  clear A20
  obtain ⟨y808, hy808⟩ : ∃ y_ : List Int, y_ = (([] : List Int)) := ⟨_, rfl⟩
  replace H : (if y808.length + l0_2.length < 17592186044416 then (some (t805, a0_1, (y808 ++ l0_2))) else (none)) = some (r1, r2, r3) := by first | (rw [hy808]; with_reducible exact H) | (have H2_ := (Option.bind_some _ _).symm.trans H; rw [hy808]; with_reducible exact H2_) | (have H2_ := (Option.bind_some _ _).symm.trans H; with_reducible exact H2_) | with_reducible exact H | (rw [hy808]; exact H) | exact H
  have Ny808 := Aside0.mk hy808
  clear hy808
  by_cases c3 : y808.length + l0_2.length < 17592186044416
  · rw [if_pos c3] at H
    have LMc3 := Aside0.mk c3
    clear c3
    obtain ⟨y811, hy811⟩ : ∃ y_ : List Int, y_ = (y808 ++ l0_2) := ⟨_, rfl⟩
    replace H : (some (t805, a0_1, y811)) = some (r1, r2, r3) := by first | (rw [hy811]; with_reducible exact H) | (have H2_ := (Option.bind_some _ _).symm.trans H; rw [hy811]; with_reducible exact H2_) | (have H2_ := (Option.bind_some _ _).symm.trans H; with_reducible exact H2_) | with_reducible exact H | (rw [hy811]; exact H) | exact H
    have Ny811 := Aside0.mk hy811
    clear hy811
    simp only [Option.some.injEq, Prod.mk.injEq] at H
    obtain ⟨rfl, rfl, rfl⟩ := H
    go_enter Try.func119, Try.ntmps119
    try go_wp2_with (first | ((with_reducible refine gate_dst (N := 1) rfl ?_); refine box_event ?hg (N := 1) ?hd (cs := #[.slice A0_0 l0_0.length c0_0, .int .i64 a0_1, .slice A0_2 l0_2.length c0_2]) (t := 33) ?hr ?_; (case hd => rfl); (case hg => rfl); (case hr => first | (go_simp; done) | (go_simp; rfl)); intro gb803 hg w4 hbox hb; have n0_ := Aside0.mk (below_step (oB HB) hb); have n1_ := Aside0.mk (hbox); have n2_ := Aside0.mk ((by rw [hg]; exact (below_size (oB HB)) : w.heap.size ≤ gb803)); have n3_ := Aside0.mk ((by rw [hg]; exact (below_size (oB HB)) : w.heap.size ≤ gb803)); clear HB; have HB := n0_; have BK803 := n1_; have GW803 := n2_; have GE803 := n3_; clear n0_ n1_ n2_ n3_; clear hb hbox hg) | ((with_reducible refine gate_dst (N := 2) rfl ?_); refine box_event ?hg (N := 2) ?hd (cs := #[.slice none 0 0, .int .i64 0, .slice none 0 0]) (t := 33) ?hr ?_; (case hd => rfl); (case hg => rfl); (case hr => first | (go_simp; done) | (go_simp; rfl)); intro gb804 hg w5 hbox hb; have n0_ := Aside0.mk (blk_below (g := gb803) (o := .cells #[.slice A0_0 l0_0.length c0_0, .int .i64 a0_1, .slice A0_2 l0_2.length c0_2] 33 (0, 0)) (oK BK803) hb); have n1_ := Aside0.mk (below_step (oB HB) hb); have n2_ := Aside0.mk (hbox); have n3_ := Aside0.mk ((by rw [hg]; exact (below_size (oB HB)) : w.heap.size ≤ gb804)); have n4_ := Aside0.mk ((by rw [hg]; exact (below_size (oB HB)) : w.heap.size ≤ gb804)); have n5_ := Aside0.mk ((by rw [hg]; exact Nat.ne_of_lt (blk_lt (g := gb803) (o := .cells #[.slice A0_0 l0_0.length c0_0, .int .i64 a0_1, .slice A0_2 l0_2.length c0_2] 33 (0, 0)) (oK BK803)) : gb803 ≠ gb804)); have n6_ := Aside0.mk ((by rw [hg]; exact Nat.ne_of_gt (blk_lt (g := gb803) (o := .cells #[.slice A0_0 l0_0.length c0_0, .int .i64 a0_1, .slice A0_2 l0_2.length c0_2] 33 (0, 0)) (oK BK803)) : gb804 ≠ gb803)); clear BK803; clear HB; have BK803 := n0_; have HB := n1_; have BK804 := n2_; have GW804 := n3_; have GE804 := n4_; have NB803_804 := n5_; have NB804_803 := n6_; clear n0_ n1_ n2_ n3_ n4_ n5_ n6_; clear hb hbox hg))
    have n0_ := Aside0.mk (blk_drew BK803.out)
    have n1_ := Aside0.mk (blk_drew BK804.out)
    have n2_ := Aside0.mk (below_drew1 HB.out)
    clear BK803
    clear BK804
    clear HB
    have BK803 := n0_
    have BK804 := n1_
    have HB := n2_
    clear n0_ n1_ n2_
    refine start_ (n := 11) (S := fun w' => w'.cell? ⟨gb803, 0, none⟩ = some (.slice A0_0 l0_0.length c0_0) ∧ w'.cell? ⟨gb803, 1, none⟩ = some (.int .i64 a0_1) ∧ w'.cell? ⟨gb803, 2, none⟩ = some (.slice A0_2 l0_2.length c0_2)) (ds := []) #[false, false, false, false, false, false, false, false, false, false, false] (by kernel_rfl) rfl rfl ⟨(blk_cell BK803.out 0).trans rfl, (blk_cell BK803.out 1).trans rfl, (blk_cell BK803.out 2).trans rfl⟩ (fun hHeld => ?_); refine with_tabW impl_copyWork.tab1 impl_copyWork.bits1 (fun HT_ HW_ => ?_)
    generalize w5.drew = w6 at BK803 BK804 HB hHeld ⊢
    refine pure_ (i := 0) (N := some 3) (v := ?_) (a' := ?_) #[true, false, false, false, false, false, false, false, false, false, false] rfl rfl (any_of HT_.out (by kernel_rfl)) (fun _ _ _ h => h) (Or.inl ⟨by rfl, ?_⟩) ?_ ?_
    rotate_left
    · intro w'
      go_simp
      with_reducible rfl
    rotate_left
    · simp only [Act.put, List.setIfInBounds_toArray, List.set_cons_zero, List.set_cons_succ, i64_w, i32_w]
      rfl
    refine pure_ (i := 3) (N := some 6) (v := ?_) (a' := ?_) #[true, false, false, true, false, false, false, false, false, false, false] rfl rfl (any_of HT_.out (by kernel_rfl)) (fun _ _ _ h => h) (Or.inl ⟨by rfl, ?_⟩) ?_ ?_
    rotate_left
    · intro w'
      go_simp
      with_reducible rfl
    rotate_left
    · simp only [Act.put, List.setIfInBounds_toArray, List.set_cons_zero, List.set_cons_succ, i64_w, i32_w]
      rfl
    refine pure_ (i := 6) (N := some 9) (v := ?_) (a' := ?_) #[true, false, false, true, false, false, true, false, false, false, false] rfl rfl (any_of HT_.out (by kernel_rfl)) (fun _ _ _ h => h) (Or.inl ⟨by rfl, ?_⟩) ?_ ?_
    rotate_left
    · intro w'
      go_simp
      with_reducible rfl
    rotate_left
    · simp only [Act.put, List.setIfInBounds_toArray, List.set_cons_zero, List.set_cons_succ, i64_w, i32_w]
      rfl
    refine take_ (i := 1) (N := some 4) (v := ?_) (a' := ?_) #[true, true, false, true, false, false, true, false, false, false, false] rfl rfl (take_ofW HT_.out HW_.out (by kernel_rfl)) (fun _ _ _ h => h) (Or.inl ⟨by rfl, ?_⟩) hHeld ?_ ?_
    rotate_left
    · rintro w' ⟨s0, s1, s2⟩
      go_simp
      with_reducible rfl
    rotate_left
    · simp only [Act.put, List.setIfInBounds_toArray, List.set_cons_zero, List.set_cons_succ, i64_w, i32_w]
      rfl
    refine take_ (i := 4) (N := some 7) (v := ?_) (a' := ?_) #[true, true, false, true, true, false, true, false, false, false, false] rfl rfl (take_ofW HT_.out HW_.out (by kernel_rfl)) (fun _ _ _ h => h) (Or.inl ⟨by rfl, ?_⟩) hHeld ?_ ?_
    rotate_left
    · rintro w' ⟨s0, s1, s2⟩
      go_simp
      with_reducible rfl
    rotate_left
    · simp only [Act.put, List.setIfInBounds_toArray, List.set_cons_zero, List.set_cons_succ, i64_w, i32_w]
      rfl
    refine take_ (i := 7) (N := some 10) (v := ?_) (a' := ?_) #[true, true, false, true, true, false, true, true, false, false, false] rfl rfl (take_ofW HT_.out HW_.out (by kernel_rfl)) (fun _ _ _ h => h) (Or.inl ⟨by rfl, ?_⟩) hHeld ?_ ?_
    rotate_left
    · rintro w' ⟨s0, s1, s2⟩
      go_simp
      with_reducible rfl
    rotate_left
    · simp only [Act.put, List.setIfInBounds_toArray, List.set_cons_zero, List.set_cons_succ, i64_w, i32_w]
      rfl
    refine join_ (σ := Value × Value) 3 #[true, true, true, true, true, true, true, true, false, false, false] (fun s_ => [(5, s_.1), (8, s_.2)]) (fun s_ w' => (w'.cell? ⟨gb803, 0, none⟩ = some (.slice A0_0 l0_0.length c0_0) ∧ w'.cell? ⟨gb803, 1, none⟩ = some (.int .i64 a0_1) ∧ w'.cell? ⟨gb803, 2, none⟩ = some (.slice A0_2 l0_2.length c0_2)) ∧ (Kd.R k96 96 w' w.heap.size (fun _ => True) s_.1 t805) ∧ (Kd.R (Kd.int .i64) 3 w' w.heap.size (fun _ => True) s_.2 y808) ∧ (w'.heap[gb803]? = some (.cells #[.slice A0_0 l0_0.length c0_0, .int .i64 a0_1, .slice A0_2 l0_2.length c0_2] 33 (0, 0))) ∧ (w'.heap[gb804]? = some (.cells #[.slice none 0 0, .int .i64 0, .slice none 0 0] 33 (0, 0))) ∧ (Below w.heap.size w w')) ?_ ?_
    rotate_left
    · intro hCont
      refine two_ (i := 2) (j := 5) (Ni := some 5) (Nj := some 8) #[true, true, true, true, true, false, true, true, false, false, false] #[true, true, false, true, true, true, true, true, false, false, false] rfl rfl rfl rfl (two_of HT_.out (by kernel_rfl)) (by decide) (by decide) (fun K hK => ?_) (fun K hK => ?_)
      · skip
        refine goes_ Try.func112 (by kernel_rfl) rfl #[.slice A0_0 l0_0.length c0_0] (by rfl) rfl rfl (by (try simp only [List.map_toArray, List.map_cons, List.map_nil]); first | done | rfl | (simp only [List.length_drop, List.length_take]; rfl)) ?_
        with_reducible refine (impl_copyPlan.calls _ _ l0_0 t805 _ ?side1 ?side2 A2.out).mono ?_
        (case side1 => exact oc_ HR0_0.out)
        (case side2 => exact HC0_0.out)
        rintro e w7 ⟨v806, rfl, ho0, hb⟩
        refine ⟨_, rfl, ?_⟩
        have n0_ := Aside0.mk (Kd.R_lower ho0 (below_size (oB HB)))
        have n1_ := Aside0.mk (blk_below (g := gb803) (o := .cells #[.slice A0_0 l0_0.length c0_0, .int .i64 a0_1, .slice A0_2 l0_2.length c0_2] 33 (0, 0)) (oK BK803) hb)
        have n2_ := Aside0.mk (blk_below (g := gb804) (o := .cells #[.slice none 0 0, .int .i64 0, .slice none 0 0] 33 (0, 0)) (oK BK804) hb)
        have n3_ := Aside0.mk (below_step (oB HB) hb)
        clear BK803
        clear BK804
        clear HB
        have HO807 := n0_
        have BK803 := n1_
        have BK804 := n2_
        have HB := n3_
        clear n0_ n1_ n2_ n3_
        (try clear hb)
        (try clear hb2)
        (try clear hk)
        (try clear hi)
        (try clear ho0)
        refine hK.out _ _ ⟨(blk_cell BK803.out 0).trans rfl, (blk_cell BK803.out 1).trans rfl, (blk_cell BK803.out 2).trans rfl⟩ (fun hHeld => ?_)
        clear hK K
        refine norm_ (a' := ?_) ?_ ?_
        rotate_left
        · show Act.put _ (some 5) _ = _
          simp only [Act.put, List.setIfInBounds_toArray, List.set_cons_zero, List.set_cons_succ, i64_w, i32_w]
          rfl
        refine one_ (i := 5) (N := some 8) #[true, true, true, true, true, true, true, true, false, false, false] rfl rfl (one_of HT_.out (by kernel_rfl)) (by decide) (fun K hK => ?_)
        refine Kd.R_lit_step (Kd.int .i64) _ 3 ?hg (N := 8) ?hd (xs := ([] : List Int)) (inner := []) (ok := fun _ => True) (okp := fun _ => True) ?hr ?hp (fun _ hk => hk) trivial (Below.refl _ _) (Nat.le_refl _) (by simp) ?_; (case hd => rfl); (case hg => rfl); (case hr => first | (go_simp; done) | (go_simp; rfl)); (case hp => exact (Reps.none _ _))
        intro v809 w8 ho9 hb hg_ hnew_
        clear hg_ hnew_
        (first | rw [← Ny808.out] at ho9 | (simp only [Int.reduceToNat] at ho9; rw [← Ny808.out] at ho9))
        have n0_ := Aside0.mk (Kd.R_below (oR HO807) hb)
        have n1_ := Aside0.mk (Kd.R_lower ho9 (below_size (oB HB)))
        have n2_ := Aside0.mk (blk_below (g := gb803) (o := .cells #[.slice A0_0 l0_0.length c0_0, .int .i64 a0_1, .slice A0_2 l0_2.length c0_2] 33 (0, 0)) (oK BK803) hb)
        have n3_ := Aside0.mk (blk_below (g := gb804) (o := .cells #[.slice none 0 0, .int .i64 0, .slice none 0 0] 33 (0, 0)) (oK BK804) hb)
        have n4_ := Aside0.mk (below_step (oB HB) hb)
        clear HO807
        clear BK803
        clear BK804
        clear HB
        have HO807 := n0_
        have HO810 := n1_
        have BK803 := n2_
        have BK804 := n3_
        have HB := n4_
        clear n0_ n1_ n2_ n3_ n4_
        clear hb ho9
        refine hK.out _ _ ⟨(blk_cell BK803.out 0).trans rfl, (blk_cell BK803.out 1).trans rfl, (blk_cell BK803.out 2).trans rfl⟩ (fun hHeld => ?_)
        clear hK K
        refine norm_ (a' := ?_) ?_ ?_
        rotate_left
        · show Act.put _ (some 8) _ = _
          simp only [Act.put, List.setIfInBounds_toArray, List.set_cons_zero, List.set_cons_succ, i64_w, i32_w]
          rfl
        exact norm_ (by simp only [putAll, Act.put, List.setIfInBounds_toArray, List.set_cons_zero, List.set_cons_succ]) (hCont (v806, v809) _ ⟨hHeld, (oR HO807), (oR HO810), (oK BK803), (oK BK804), (oB HB)⟩)
      · skip
        refine Kd.R_lit_step (Kd.int .i64) _ 3 ?hg (N := 8) ?hd (xs := ([] : List Int)) (inner := []) (ok := fun _ => True) (okp := fun _ => True) ?hr ?hp (fun _ hk => hk) trivial (Below.refl _ _) (Nat.le_refl _) (by simp) ?_; (case hd => rfl); (case hg => rfl); (case hr => first | (go_simp; done) | (go_simp; rfl)); (case hp => exact (Reps.none _ _))
        intro v809 w7 ho8 hb hg_ hnew_
        clear hg_ hnew_
        (first | rw [← Ny808.out] at ho8 | (simp only [Int.reduceToNat] at ho8; rw [← Ny808.out] at ho8))
        have n0_ := Aside0.mk (Kd.R_lower ho8 (below_size (oB HB)))
        have n1_ := Aside0.mk (blk_below (g := gb803) (o := .cells #[.slice A0_0 l0_0.length c0_0, .int .i64 a0_1, .slice A0_2 l0_2.length c0_2] 33 (0, 0)) (oK BK803) hb)
        have n2_ := Aside0.mk (blk_below (g := gb804) (o := .cells #[.slice none 0 0, .int .i64 0, .slice none 0 0] 33 (0, 0)) (oK BK804) hb)
        have n3_ := Aside0.mk (below_step (oB HB) hb)
        clear BK803
        clear BK804
        clear HB
        have HO810 := n0_
        have BK803 := n1_
        have BK804 := n2_
        have HB := n3_
        clear n0_ n1_ n2_ n3_
        clear hb ho8
        refine hK.out _ _ ⟨(blk_cell BK803.out 0).trans rfl, (blk_cell BK803.out 1).trans rfl, (blk_cell BK803.out 2).trans rfl⟩ (fun hHeld => ?_)
        clear hK K
        refine norm_ (a' := ?_) ?_ ?_
        rotate_left
        · show Act.put _ (some 8) _ = _
          simp only [Act.put, List.setIfInBounds_toArray, List.set_cons_zero, List.set_cons_succ, i64_w, i32_w]
          rfl
        refine one_ (i := 2) (N := some 5) #[true, true, true, true, true, true, true, true, false, false, false] rfl rfl (one_of HT_.out (by kernel_rfl)) (by decide) (fun K hK => ?_)
        refine goes_ Try.func112 (by kernel_rfl) rfl #[.slice A0_0 l0_0.length c0_0] (by rfl) rfl rfl (by (try simp only [List.map_toArray, List.map_cons, List.map_nil]); first | done | rfl | (simp only [List.length_drop, List.length_take]; rfl)) ?_
        with_reducible refine (impl_copyPlan.calls _ _ l0_0 t805 _ ?side1 ?side2 A2.out).mono ?_
        (case side1 => exact oc_ HR0_0.out)
        (case side2 => exact HC0_0.out)
        rintro e w9 ⟨v806, rfl, ho0, hb⟩
        refine ⟨_, rfl, ?_⟩
        have n0_ := Aside0.mk (Kd.R_below (oR HO810) hb)
        have n1_ := Aside0.mk (Kd.R_lower ho0 (below_size (oB HB)))
        have n2_ := Aside0.mk (blk_below (g := gb803) (o := .cells #[.slice A0_0 l0_0.length c0_0, .int .i64 a0_1, .slice A0_2 l0_2.length c0_2] 33 (0, 0)) (oK BK803) hb)
        have n3_ := Aside0.mk (blk_below (g := gb804) (o := .cells #[.slice none 0 0, .int .i64 0, .slice none 0 0] 33 (0, 0)) (oK BK804) hb)
        have n4_ := Aside0.mk (below_step (oB HB) hb)
        clear HO810
        clear BK803
        clear BK804
        clear HB
        have HO810 := n0_
        have HO807 := n1_
        have BK803 := n2_
        have BK804 := n3_
        have HB := n4_
        clear n0_ n1_ n2_ n3_ n4_
        (try clear hb)
        (try clear hb2)
        (try clear hk)
        (try clear hi)
        (try clear ho0)
        refine hK.out _ _ ⟨(blk_cell BK803.out 0).trans rfl, (blk_cell BK803.out 1).trans rfl, (blk_cell BK803.out 2).trans rfl⟩ (fun hHeld => ?_)
        clear hK K
        refine norm_ (a' := ?_) ?_ ?_
        rotate_left
        · show Act.put _ (some 5) _ = _
          simp only [Act.put, List.setIfInBounds_toArray, List.set_cons_zero, List.set_cons_succ, i64_w, i32_w]
          rfl
        exact norm_ (by simp only [putAll, Act.put, List.setIfInBounds_toArray, List.set_cons_zero, List.set_cons_succ]) (hCont (v806, v809) _ ⟨hHeld, (oR HO807), (oR HO810), (oK BK803), (oK BK804), (oB HB)⟩)
    rintro ⟨v806, v809⟩ w10 ⟨hS_, h0_, h1_, h2_, h3_, h4_⟩
    have n0_ : Aside0 (Kd.R k96 96 w10 w.heap.size (fun _ => True) v806 t805) := ⟨h0_⟩
    have n1_ : Aside0 (Kd.R (Kd.int .i64) 3 w10 w.heap.size (fun _ => True) v809 y808) := ⟨h1_⟩
    have n2_ : Aside0 (w10.heap[gb803]? = some (.cells #[.slice A0_0 l0_0.length c0_0, .int .i64 a0_1, .slice A0_2 l0_2.length c0_2] 33 (0, 0))) := ⟨h2_⟩
    have n3_ : Aside0 (w10.heap[gb804]? = some (.cells #[.slice none 0 0, .int .i64 0, .slice none 0 0] 33 (0, 0))) := ⟨h3_⟩
    have n4_ : Aside0 (Below w.heap.size w w10) := ⟨h4_⟩
    clear BK803
    clear BK804
    clear HB
    clear h0_ h1_ h2_ h3_ h4_
    have HO807 := n0_
    have HO810 := n1_
    have BK803 := n2_
    have BK804 := n3_
    have HB := n4_
    clear n0_ n1_ n2_ n3_ n4_
    have hHeld : w10.cell? ⟨gb803, 0, none⟩ = some (.slice A0_0 l0_0.length c0_0) ∧ w10.cell? ⟨gb803, 1, none⟩ = some (.int .i64 a0_1) ∧ w10.cell? ⟨gb803, 2, none⟩ = some (.slice A0_2 l0_2.length c0_2) := hS_
    refine norm_ (a' := ?_) ?_ ?_
    rotate_left
    · simp only [putAll, Act.put, List.setIfInBounds_toArray, List.set_cons_zero, List.set_cons_succ]
      rfl
    refine one_ (i := 8) (N := some 11) #[true, true, true, true, true, true, true, true, true, false, false] rfl rfl (one_of HT_.out (by kernel_rfl)) (by decide) (fun K hK => ?_)
    refine Kd.R_append_rows_step (Kd.int .i64) (w0 := w) w.heap.size (by rfl) (.tmp 8) (.tmp 10) 23 3 (.int .i64 0) 8 rfl Try.underlying23 info3 rfl (by decide) (by omega) v809 y808 l0_2 _ _ _ (fun _ => True) (fun _ => False) rfl rfl ?aO ?aR (fun _ _ h => h) (fun _ h => h.elim) ?aF ?aB ?aS ?aL ?_
    (case aR => exact oc_ HR0_2.out)
    (case aB => exact (oB HB))
    (case aF => exact (fun _ _ => trivial))
    (case aO => exact (oR HO810))
    (case aS => exact (below_size (oB HB)))
    (case aL => have := LMc3.out; omega)
    intro v812 w11 ho hb hg hat
    rw [← Ny811.out] at ho
    have n0_ := Aside0.mk (blk_grown (g := gb803) (o := .cells #[.slice A0_0 l0_0.length c0_0, .int .i64 a0_1, .slice A0_2 l0_2.length c0_2] 33 (0, 0)) (oK BK803) hg (Kd.R_ne HO810.out BK803.out (by decide)))
    have n1_ := Aside0.mk (blk_grown (g := gb804) (o := .cells #[.slice none 0 0, .int .i64 0, .slice none 0 0] 33 (0, 0)) (oK BK804) hg (Kd.R_ne HO810.out BK804.out (by decide)))
    have n2_ := Aside0.mk (Kd.R_over' (oR HO807) (Kd.R_typed (oR HO810)) (by decide) hg)
    have n3_ := Aside0.mk (hb)
    have n4_ := Aside0.mk (ho)
    clear BK803
    clear BK804
    clear HO807
    clear HB
    clear HO810
    have BK803 := n0_
    have BK804 := n1_
    have HO807 := n2_
    have HB := n3_
    have HO813 := n4_
    clear n0_ n1_ n2_ n3_ n4_
    clear ho hb hg hat
    obtain ⟨Ao12, co12, eo12⟩ := Kd.R_slice HO813.out
    (first | subst eo12 | (injection eo12 with f1_ f2_ f3_; have f4_ := f1_.symm; have f5_ := f3_.symm; clear f1_ f2_ f3_; subst f4_; subst f5_))
    obtain ⟨Ao13, co13, eo13⟩ := Kd.R_slice HO807.out
    (first | subst eo13 | (injection eo13 with f1_ f2_ f3_; have f4_ := f1_.symm; have f5_ := f3_.symm; clear f1_ f2_ f3_; subst f4_; subst f5_))
    refine hK.out _ _ ⟨(blk_cell BK803.out 0).trans rfl, (blk_cell BK803.out 1).trans rfl, (blk_cell BK803.out 2).trans rfl⟩ (fun hHeld => ?_)
    clear hK K
    refine norm_ (a' := ?_) ?_ ?_
    rotate_left
    · show Act.put _ (some 11) _ = _
      simp only [Act.put, List.setIfInBounds_toArray, List.set_cons_zero, List.set_cons_succ, i64_w, i32_w]
      rfl
    refine pure_ (i := 9) (N := some 12) (v := ?_) (a' := ?_) #[true, true, true, true, true, true, true, true, true, true, false] rfl rfl (any_of HT_.out (by kernel_rfl)) (fun _ _ _ h => h) (Or.inl ⟨by rfl, ?_⟩) ?_ ?_
    rotate_left
    · intro w'
      go_simp
      with_reducible rfl
    rotate_left
    · simp only [Act.put, List.setIfInBounds_toArray, List.set_cons_zero, List.set_cons_succ, i64_w, i32_w]
      rfl
    refine one_ (i := 10) (N := none) #[true, true, true, true, true, true, true, true, true, true, true] rfl rfl (one_of HT_.out (by kernel_rfl)) (by decide) (fun K hK => ?_)
    have hs14 : w11.cell? ⟨gb804, 0, none⟩ = some (.slice none 0 0) := (blk_cell BK804.out 0).trans rfl
    have hfs14 := blk_frozen BK804.out 0
    have hns14_0 := NB803_804.out
    have hms14_0 := NB804_803.out
    have hs15 : w11.cell? ⟨gb804, 1, none⟩ = some (.int .i64 0) := (blk_cell BK804.out 1).trans rfl
    have hfs15 := blk_frozen BK804.out 1
    have hns15_0 := NB803_804.out
    have hms15_0 := NB804_803.out
    have hs16 : w11.cell? ⟨gb804, 2, none⟩ = some (.slice none 0 0) := (blk_cell BK804.out 2).trans rfl
    have hfs16 := blk_frozen BK804.out 2
    have hns16_0 := NB803_804.out
    have hms16_0 := NB804_803.out
    refine skip_ (w1 := ?_) (by rfl) rfl ?_ ?_
    rotate_left
    · go_simp
      rfl
    refine hK.out _ _ ⟨((cell_far (p := ⟨gb804, _, none⟩) NB803_804.out _).trans (((cell_far (p := ⟨gb804, _, none⟩) NB803_804.out _).trans (((cell_far (p := ⟨gb804, _, none⟩) NB803_804.out _).trans (hHeld.1)))))), ((cell_far (p := ⟨gb804, _, none⟩) NB803_804.out _).trans (((cell_far (p := ⟨gb804, _, none⟩) NB803_804.out _).trans (((cell_far (p := ⟨gb804, _, none⟩) NB803_804.out _).trans (hHeld.2.1)))))), ((cell_far (p := ⟨gb804, _, none⟩) NB803_804.out _).trans (((cell_far (p := ⟨gb804, _, none⟩) NB803_804.out _).trans (((cell_far (p := ⟨gb804, _, none⟩) NB803_804.out _).trans (hHeld.2.2))))))⟩ (fun hHeld => ?_)
    clear hK K
    refine done_ (done_of HT_.out (by kernel_rfl)) ?_
    try go_wp2
    refine bodyPost_ret (results_cell_row rfl _ _ gb804 33 #[.slice Ao13 t805.length co13, .int .i64 a0_1, .slice Ao12 y811.length co12] (0, 0) _ rfl (by (with_reducible repeat (first | refine blk_drewN ?_ _ | refine blk_drew ?_ | refine blk_alloc ?_ _)); refine blk_put (cs := #[.slice Ao13 t805.length co13, .int .i64 a0_1, .slice none 0 0]) ?_ 2 _ rfl; (with_reducible repeat (first | refine blk_drewN ?_ _ | refine blk_drew ?_ | refine blk_alloc ?_ _)); refine blk_put (cs := #[.slice Ao13 t805.length co13, .int .i64 0, .slice none 0 0]) ?_ 1 _ rfl; (with_reducible repeat (first | refine blk_drewN ?_ _ | refine blk_drew ?_ | refine blk_alloc ?_ _)); refine blk_put (cs := #[.slice none 0 0, .int .i64 0, .slice none 0 0]) ?_ 0 _ rfl; (with_reducible repeat (first | refine blk_drewN ?_ _ | refine blk_drew ?_ | refine blk_alloc ?_ _)); exact BK804.out) Try.underlying33 rfl (by kernel_rfl)) rfl ?_
    exact ⟨_, _, by first | rfl | (simp [errW_none, errW_some] <;> rfl) | (simp [*, errW_none, errW_some] <;> rfl), by (with_reducible repeat (first | apply Kd.R_alloc | apply Kd.R_drewN | apply Kd.R_drew)); exact Kd.R_mono (Kd.R_far (p := ⟨gb804, 2, none⟩) (Kd.R_far (p := ⟨gb804, 1, none⟩) (Kd.R_far (p := ⟨gb804, 0, none⟩) (Kd.R_types HO807.out BK804.out (by decide)) (fun _ hk => hk.2) (.slice Ao13 t805.length co13)) (fun _ hk => hk.2) (.int .i64 a0_1)) (fun _ hk => hk.2) (.slice Ao12 y811.length co12)) (fun _ hk => trivial), by (with_reducible repeat (first | apply Kd.R_alloc | apply Kd.R_drewN | apply Kd.R_drew)); exact Kd.R_mono (Kd.R_far (p := ⟨gb804, 2, none⟩) (Kd.R_far (p := ⟨gb804, 1, none⟩) (Kd.R_far (p := ⟨gb804, 0, none⟩) (Kd.R_types HO813.out BK804.out (by decide)) (fun _ hk => hk.2) (.slice Ao13 t805.length co13)) (fun _ hk => hk.2) (.int .i64 a0_1)) (fun _ hk => hk.2) (.slice Ao12 y811.length co12)) (fun _ hk => trivial), oB HB⟩
  · rw [if_neg c3] at H
    exact absurd H (by simp)
end Go.Proofs.Ytbkkpllejgedcaa.P


namespace Go.Proofs.Ytbkkpllejgedcaa.P
open Go.RowKit Go.Proofs.YtbkkpllejgedcaaW.PrintWords Go.Proofs.YtbkkpllejgedcaaW.PrintLast Go.Proofs.YtbkkpllejgedcaaW.PrintMore Go.Proofs.Ytbkkpllejgedcaa.V
attribute [local go_sem] cell_b frozen_b
attribute [local go_sem] max2_int min2_int max_two min_two max_three min_three max_four min_four
set_option linter.unusedVariables false
set_option linter.unusedSimpArgs false
def impl_copyShop.f (l0_0 : List (S96)) (a0_1 : Int) (l0_2 : List Int) (a0_3 : Int) (a0_4 : Int) (l0_5 : List (S74)) : Option ((List (S96)) × Int × List Int × Int × Int × (List (S74))) := (impl_copyWork.f l0_0 a0_1 l0_2).bind fun bt816 => ((impl_copyLog.f l0_5).bind fun t823 => (some (bt816.1, bt816.2.1, bt816.2.2, a0_3, a0_4, t823)))
set_option maxHeartbeats 8000000 in
set_option maxRecDepth 100000 in
set_option synthInstance.maxHeartbeats 400000 in
set_option synthInstance.maxSize 100000 in
theorem impl_copyShop.calls (A0_0 : Option Addr) (c0_0 : Nat) (l0_0 : List (S96)) (a0_1 : Int) (A0_2 : Option Addr) (c0_2 : Nat) (l0_2 : List Int) (a0_3 : Int) (a0_4 : Int) (A0_5 : Option Addr) (c0_5 : Nat) (l0_5 : List (S74)) (r1 : List (S96)) (r2 : Int) (r3 : List Int) (r4 : Int) (r5 : Int) (r6 : List (S74)) (w : World) (hr0_0 : Kd.C k96 w A0_0 l0_0.length l0_0) (hc0_0 : l0_0.length ≤ c0_0) (hr0_2 : Kd.C (Kd.int .i64) w A0_2 l0_2.length l0_2) (hc0_2 : l0_2.length ≤ c0_2) (hr0_5 : Kd.C k74 w A0_5 l0_5.length l0_5) (hc0_5 : l0_5.length ≤ c0_5) (h : impl_copyShop.f l0_0 a0_1 l0_2 a0_3 a0_4 l0_5 = some (r1, r2, r3, r4, r5, r6)) :
    Calls Try.prog 84 #[.agg #[.slice A0_0 l0_0.length c0_0, .int .i64 a0_1, .slice A0_2 l0_2.length c0_2, .int .i64 a0_3, .int .i64 a0_4, .slice A0_5 l0_5.length c0_5]] w fun e w' => ∃ v0_ v2_ v5_ : Value, e = .returned (.agg #[v0_, .int .i64 r2, v2_, .int .i64 r4, .int .i64 r5, v5_]) ∧ Kd.R k96 96 w' w.heap.size (fun _ => True) v0_ r1 ∧ Kd.R (Kd.int .i64) 3 w' w.heap.size (fun _ => True) v2_ r3 ∧ Kd.R k74 74 w' w.heap.size (fun _ => True) v5_ r6 ∧ Below w.heap.size w w' := by
  have ihr0_0 := RdE.mk hr0_0
  have ihc0_0 := LeI.mk hc0_0
  have ihr0_2 := RdE.mk hr0_2
  have ihc0_2 := LeI.mk hc0_2
  have ihr0_5 := RdE.mk hr0_5
  have ihc0_5 := LeI.mk hc0_5
  clear hr0_0 hc0_0 hr0_2 hc0_2 hr0_5 hc0_5
  unfold impl_copyShop.f at h
  have hu36 := Try.underlying36
  (repeat' first | ((with_reducible replace h := ite_some h); rcases h with ⟨hc, h⟩ | ⟨hc, h⟩ <;> first | exact (none_some h).elim | exact absurd hc (by decide) | subst hc | (replace hc := Bool.eq_false_iff.mpr hc; subst hc) | (have hd := beq_iff_eq.mpr hc; have he := bne_eq_false_iff_eq.mpr hc; clear hc) | (have hd := beq_eq_false_iff_ne.mpr hc; have he := bne_iff_ne.mpr hc) | (have hd := decide_eq_false hc) | (have hd := decide_eq_true hc) | skip))
  all_goals go_enter Try.func84, Try.ntmps84
  all_goals go_wp2_with (first
    | ((with_reducible refine gate_dst (N := 1) rfl ?_); refine box_event rfl (N := 1) rfl (cs := #[.slice A0_0 l0_0.length c0_0, .int .i64 a0_1, .slice A0_2 l0_2.length c0_2, .int .i64 a0_3, .int .i64 a0_4, .slice A0_5 l0_5.length c0_5]) (t := 36) (by first | (go_simp; done) | (go_simp; rfl)) ?_; intro g hg w1 hk hb; have j1 := Born.mk hg; have j2 := Bel.mk hb; have j3 := Blk.mk hk; clear hg hb hk)
    | ((with_reducible refine gate_dst (N := 2) rfl ?_); refine box_event rfl (N := 2) rfl (cs := #[.slice none 0 0, .int .i64 0, .slice none 0 0, .int .i64 0, .int .i64 0, .slice none 0 0]) (t := 36) (by first | (go_simp; done) | (go_simp; rfl)) ?_; intro g hg w1 hk hb; have j1 := Born.mk hg; have j2 := Bel.mk hb; have j3 := Blk.mk hk; clear hg hb hk)
    | (go_at_call 119; replace h := Option.bind_eq_some_iff.mp h; obtain ⟨⟨t1, t2, t3⟩, A, h⟩ := h; (try dsimp only at h); refine (impl_copyWork.calls _ _ _ _ _ _ _ _ _ _ _ Rd.out LeI.out Rd.out LeI.out A).mono ?_; rintro e w2 ⟨v0, v1, rfl, ho0, ho1, hb⟩; obtain ⟨B0, b0, rfl⟩ := Kd.R_slice ho0; have j0 := RowE.mk ho0; have q0 := LeI.mk (rowLe j0); obtain ⟨B1, b1, rfl⟩ := Kd.R_slice ho1; have j1 := RowE.mk ho1; have q1 := LeI.mk (rowLe j1); have jb := Bel.mk hb; clear A ho0 ho1 hb; (repeat' first | ((with_reducible replace h := ite_some h); rcases h with ⟨hc, h⟩ | ⟨hc, h⟩ <;> first | exact (none_some h).elim | exact absurd hc (by decide) | subst hc | (replace hc := Bool.eq_false_iff.mpr hc; subst hc) | (have hd := beq_iff_eq.mpr hc; have he := bne_eq_false_iff_eq.mpr hc; clear hc) | (have hd := beq_eq_false_iff_ne.mpr hc; have he := bne_iff_ne.mpr hc) | (have hd := decide_eq_false hc) | (have hd := decide_eq_true hc) | skip)))
    | (go_at_call 94; replace h := Option.bind_eq_some_iff.mp h; obtain ⟨t, A, h⟩ := h; (try dsimp only at h); refine (impl_copyLog.calls _ _ _ _ _ Rd.out LeI.out A).mono ?_; rintro e w2 ⟨v0, rfl, ho0, hb⟩; obtain ⟨B0, b0, rfl⟩ := Kd.R_slice ho0; have j0 := RowE.mk ho0; have q0 := LeI.mk (rowLe j0); have jb := Bel.mk hb; clear A ho0 hb; (repeat' first | ((with_reducible replace h := ite_some h); rcases h with ⟨hc, h⟩ | ⟨hc, h⟩ <;> first | exact (none_some h).elim | exact absurd hc (by decide) | subst hc | (replace hc := Bool.eq_false_iff.mpr hc; subst hc) | (have hd := beq_iff_eq.mpr hc; have he := bne_eq_false_iff_eq.mpr hc; clear hc) | (have hd := beq_eq_false_iff_ne.mpr hc; have he := bne_iff_ne.mpr hc) | (have hd := decide_eq_false hc) | (have hd := decide_eq_true hc) | skip)); (try have hn : decide (0 < t.length) = true := decide_eq_true (by omega)); (try have hn : decide (0 < t.length) = false := decide_eq_false (by omega)))
    | ((with_reducible refine region_at ?_); intro w3 jw; refine region_st 2 (by rfl) ?_; intro g hg w4 jv; subst hg; go_region_held3 (fun w' => SinB g w4 w') (first | exact ⟨FromB.out⟩ | skip) (first | (go_at_call 119; replace h := Option.bind_eq_some_iff.mp h; obtain ⟨⟨t1, t2, t3⟩, A, h⟩ := h; (try dsimp only at h); refine (impl_copyWork.calls _ _ _ _ _ _ _ _ _ _ _ Rd.out LeI.out Rd.out LeI.out A).mono ?_; rintro e w2 ⟨v0, v1, rfl, ho0, ho1, hb⟩; obtain ⟨B0, b0, rfl⟩ := Kd.R_slice ho0; have j0 := RowE.mk ho0; have q0 := LeI.mk (rowLe j0); obtain ⟨B1, b1, rfl⟩ := Kd.R_slice ho1; have j1 := RowE.mk ho1; have q1 := LeI.mk (rowLe j1); have jb := Bel.mk hb; clear A ho0 ho1 hb; (repeat' first | ((with_reducible replace h := ite_some h); rcases h with ⟨hc, h⟩ | ⟨hc, h⟩ <;> first | exact (none_some h).elim | exact absurd hc (by decide) | subst hc | (replace hc := Bool.eq_false_iff.mpr hc; subst hc) | (have hd := beq_iff_eq.mpr hc; have he := bne_eq_false_iff_eq.mpr hc; clear hc) | (have hd := beq_eq_false_iff_ne.mpr hc; have he := bne_iff_ne.mpr hc) | (have hd := decide_eq_false hc) | (have hd := decide_eq_true hc) | skip))) | (go_at_call 94; replace h := Option.bind_eq_some_iff.mp h; obtain ⟨t, A, h⟩ := h; (try dsimp only at h); refine (impl_copyLog.calls _ _ _ _ _ Rd.out LeI.out A).mono ?_; rintro e w2 ⟨v0, rfl, ho0, hb⟩; obtain ⟨B0, b0, rfl⟩ := Kd.R_slice ho0; have j0 := RowE.mk ho0; have q0 := LeI.mk (rowLe j0); have jb := Bel.mk hb; clear A ho0 hb; (repeat' first | ((with_reducible replace h := ite_some h); rcases h with ⟨hc, h⟩ | ⟨hc, h⟩ <;> first | exact (none_some h).elim | exact absurd hc (by decide) | subst hc | (replace hc := Bool.eq_false_iff.mpr hc; subst hc) | (have hd := beq_iff_eq.mpr hc; have he := bne_eq_false_iff_eq.mpr hc; clear hc) | (have hd := beq_eq_false_iff_ne.mpr hc; have he := bne_iff_ne.mpr hc) | (have hd := decide_eq_false hc) | (have hd := decide_eq_true hc) | skip)); (try have hn : decide (0 < t.length) = true := decide_eq_true (by omega)); (try have hn : decide (0 < t.length) = false := decide_eq_false (by omega)))))
    | ((with_reducible refine region_at ?_); intro w3 jw; go_region_held3 (fun w' => Sin w3 w') (first | exact ⟨From.out⟩ | skip) (first | (go_at_call 119; replace h := Option.bind_eq_some_iff.mp h; obtain ⟨⟨t1, t2, t3⟩, A, h⟩ := h; (try dsimp only at h); refine (impl_copyWork.calls _ _ _ _ _ _ _ _ _ _ _ Rd.out LeI.out Rd.out LeI.out A).mono ?_; rintro e w2 ⟨v0, v1, rfl, ho0, ho1, hb⟩; obtain ⟨B0, b0, rfl⟩ := Kd.R_slice ho0; have j0 := RowE.mk ho0; have q0 := LeI.mk (rowLe j0); obtain ⟨B1, b1, rfl⟩ := Kd.R_slice ho1; have j1 := RowE.mk ho1; have q1 := LeI.mk (rowLe j1); have jb := Bel.mk hb; clear A ho0 ho1 hb; (repeat' first | ((with_reducible replace h := ite_some h); rcases h with ⟨hc, h⟩ | ⟨hc, h⟩ <;> first | exact (none_some h).elim | exact absurd hc (by decide) | subst hc | (replace hc := Bool.eq_false_iff.mpr hc; subst hc) | (have hd := beq_iff_eq.mpr hc; have he := bne_eq_false_iff_eq.mpr hc; clear hc) | (have hd := beq_eq_false_iff_ne.mpr hc; have he := bne_iff_ne.mpr hc) | (have hd := decide_eq_false hc) | (have hd := decide_eq_true hc) | skip))) | (go_at_call 94; replace h := Option.bind_eq_some_iff.mp h; obtain ⟨t, A, h⟩ := h; (try dsimp only at h); refine (impl_copyLog.calls _ _ _ _ _ Rd.out LeI.out A).mono ?_; rintro e w2 ⟨v0, rfl, ho0, hb⟩; obtain ⟨B0, b0, rfl⟩ := Kd.R_slice ho0; have j0 := RowE.mk ho0; have q0 := LeI.mk (rowLe j0); have jb := Bel.mk hb; clear A ho0 hb; (repeat' first | ((with_reducible replace h := ite_some h); rcases h with ⟨hc, h⟩ | ⟨hc, h⟩ <;> first | exact (none_some h).elim | exact absurd hc (by decide) | subst hc | (replace hc := Bool.eq_false_iff.mpr hc; subst hc) | (have hd := beq_iff_eq.mpr hc; have he := bne_eq_false_iff_eq.mpr hc; clear hc) | (have hd := beq_eq_false_iff_ne.mpr hc; have he := bne_iff_ne.mpr hc) | (have hd := decide_eq_false hc) | (have hd := decide_eq_true hc) | skip)); (try have hn : decide (0 < t.length) = true := decide_eq_true (by omega)); (try have hn : decide (0 < t.length) = false := decide_eq_false (by omega))))))
  all_goals (repeat' first | ((with_reducible replace h := ite_some h); rcases h with ⟨hc, h⟩ | ⟨hc, h⟩ <;> first | exact (none_some h).elim | exact absurd hc (by decide) | subst hc | (replace hc := Bool.eq_false_iff.mpr hc; subst hc) | (have hd := beq_iff_eq.mpr hc; have he := bne_eq_false_iff_eq.mpr hc; clear hc) | (have hd := beq_eq_false_iff_ne.mpr hc; have he := bne_iff_ne.mpr hc) | (have hd := decide_eq_false hc) | (have hd := decide_eq_true hc) | skip))
  all_goals simp only [Option.some.injEq, Prod.mk.injEq] at h
  all_goals obtain ⟨rfl, rfl, rfl, rfl, rfl, rfl⟩ := h
  all_goals refine bodyPost_ret (results_cell_row rfl _ _ _ _ _ (0, 0) _ rfl Blk.out Try.underlying36 rfl (by kernel_rfl)) rfl ?_
  all_goals exact ⟨_, _, _, rfl, (by first | exact rowFin | exact Kd.R_nil _ _ _ _ _), (by first | exact rowFin | exact Kd.R_nil _ _ _ _ _), (by first | exact rowFin | exact Kd.R_nil _ _ _ _ _), From.out⟩
end Go.Proofs.Ytbkkpllejgedcaa.P

