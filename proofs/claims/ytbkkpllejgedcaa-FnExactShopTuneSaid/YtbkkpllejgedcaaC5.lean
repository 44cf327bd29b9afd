/- What functions of the program come to (f), that their calls come to just this (calls), and the plain laws over lists and numbers, and the law FnExactShopTune: for every argument it answers true. No condition but those of the given row. -/
import Derived.Test.YtbkkpllejgedcaaRows
import Derived.Test.YtbkkpllejgedcaaC4
import Derived.Deep.Slices
import Derived.ChangeArms
import Derived.ChangeSame
import Derived.KernelRfl
import Derived.WalkKit
import Derived.ProofKit
import Derived.OpenShut
import Derived.ShutString
import Derived.ChangeOld
import Derived.Below
import Derived.SizedLaws
namespace Go.Proofs.Ytbkkpllejgedcaa.P
open Go.RowKit Go.Proofs.YtbkkpllejgedcaaW.PrintWords Go.Proofs.YtbkkpllejgedcaaW.PrintLast Go.Proofs.YtbkkpllejgedcaaW.PrintMore
attribute [local go_sem] max2_int min2_int max_two min_two max_three min_three max_four min_four
set_option linter.unusedVariables false
set_option linter.unusedSimpArgs false
def impl_WorkStep.j0 : Nat → Bool → List (S96) → Int → List Int → List (S96) → Int → List Int → Option ((List (S96)) × Int × List Int × Bool)
  | 0, _, _, _, _, _, _, _ => none
  | k + 1, x18, x1442000, x1442001, x1442002, x1451000, x1451001, x1451002 => if x18 = true then (some (x1451000, x1451001, x1451002, false)) else ((impl_tunedBy.f k x1442000 x1442001 x1442002 x1442001).bind fun t1452 => (if t1452 = 0 then (some (x1451000, x1451001, x1451002, false)) else (if 0 ≤ x1442001 then (if x1442001 < (x1442000.length : Int) then (if 0 ≤ ((rd_T96 x1442000 x1442001).f1) then (if ((rd_T96 x1442000 x1442001).f1) < (x1451002.length : Int) then (some (x1451000, wrap64 (x1451001 + 1), (x1451002.set (((rd_T96 x1442000 x1442001).f1) : Int).toNat t1452), true)) else (none)) else (none)) else (none)) else (none))))
def impl_WorkStep.f (k : Nat) (l0_0 : List (S96)) (a0_1 : Int) (l0_2 : List Int) : Option ((List (S96)) × Int × List Int × Bool) := (impl_copyWork.f l0_0 a0_1 l0_2).bind fun bt1443 => ((impl_WorkOk.f l0_0 a0_1 l0_2).bind fun t1451 => (if t1451 = true then (impl_WorkStep.j0 k (a0_1 == (l0_0.length : Int)) l0_0 a0_1 l0_2 bt1443.1 bt1443.2.1 bt1443.2.2) else (impl_WorkStep.j0 k true l0_0 a0_1 l0_2 bt1443.1 bt1443.2.1 bt1443.2.2)))
def impl_WorkStep.T7 : Bool × List (List Nat × List Nat) := (true, [([], []), ([0], [0]), ([], []), ([2], [2]), ([], []), ([4], [4]), ([3, 5], [3, 5]), ([6], [6]), ([7], [7]), ([], []), ([1, 8, 0, 1, 2, 3, 4, 5, 6, 7, 8, 9], [1, 8]), ([10, 9, 0, 1, 2, 3, 4, 5, 6, 7, 8, 9], [9, 10])])
def impl_WorkStep.B7 : List Nat := [0, 1, 0, 4, 0, 16, 60, 124, 252, 0, 1023, 2047]
theorem impl_WorkStep.tab7 : rtab .any (opsOf Try.f89 7) = impl_WorkStep.T7 := by kernel_rfl
theorem impl_WorkStep.bits7 : waitsOk impl_WorkStep.T7.2 impl_WorkStep.B7 = true := by kernel_rfl
set_option maxHeartbeats 8000000 in
set_option maxRecDepth 100000 in
theorem impl_WorkStep.calls (k : Nat) (A0_0 : Option Addr) (c0_0 : Nat) (l0_0 : List (S96)) (a0_1 : Int) (A0_2 : Option Addr) (c0_2 : Nat) (l0_2 : List Int) (r1 : List (S96)) (r2 : Int) (r3 : List Int) (r4 : Bool) (w : World) (hr0_0 : Kd.C k96 w A0_0 l0_0.length l0_0) (hc0_0 : l0_0.length ≤ c0_0) (hr0_2 : Kd.C (Kd.int .i64) w A0_2 l0_2.length l0_2) (hc0_2 : l0_2.length ≤ c0_2) (h : impl_WorkStep.f k l0_0 a0_1 l0_2 = some (r1, r2, r3, r4)) :
    Calls Try.prog 89 #[.agg #[.slice A0_0 l0_0.length c0_0, .int .i64 a0_1, .slice A0_2 l0_2.length c0_2]] w fun e w' => ∃ v0_ v2_ : Value, e = .returned (.tuple #[.agg #[v0_, .int .i64 r2, v2_], .bool r4]) ∧ Kd.R k96 96 w' w.heap.size (fun _ => True) v0_ r1 ∧ Kd.R (Kd.int .i64) 3 w' w.heap.size (fun _ => True) v2_ r3 ∧ Below w.heap.size w w' := by
  have hu33 := Try.underlying33
  have HR0_0 := Aside0.mk hr0_0
  have HC0_0 := Aside0.mk hc0_0
  clear hr0_0 hc0_0
  have HR0_2 := Aside0.mk hr0_2
  have HC0_2 := Aside0.mk hc0_2
  clear hr0_2 hc0_2
  have HB := Aside0.mk (Below.refl w.heap.size w)
  have H : ((impl_copyWork.f l0_0 a0_1 l0_2).bind fun bt1443 => ((impl_WorkOk.f l0_0 a0_1 l0_2).bind fun t1451 => (if t1451 = true then (impl_WorkStep.j0 k (a0_1 == (l0_0.length : Int)) l0_0 a0_1 l0_2 bt1443.1 bt1443.2.1 bt1443.2.2) else (impl_WorkStep.j0 k true l0_0 a0_1 l0_2 bt1443.1 bt1443.2.1 bt1443.2.2)))) = some (r1, r2, r3, r4) := h
  clear h
  replace H := Option.bind_eq_some_iff.mp H
  obtain ⟨⟨t1443, t1446, t1447⟩, A20, H⟩ := H
  (try dsimp only at H)
  have A2 := Aside0.mk A20
  clear A20
  have HC3 := Aside0.mk H
  clear H
  go_enter Try.func89, Try.ntmps89
  go_upto_region 2 with (first | ((with_reducible refine gate_dst (N := 1) rfl ?_); (try (refine gate_guard (by rfl) ?_; dsimp only)); refine box_event ?hg (N := 1) ?hd (cs := #[.slice A0_0 l0_0.length c0_0, .int .i64 a0_1, .slice A0_2 l0_2.length c0_2]) (t := 33) ?hr ?_; (case hd => rfl); (case hg => rfl); (case hr => first | (go_simp; done) | (go_simp; rfl)); intro gb1441 hg w4 hbox hb; have n0_ := Aside0.mk (below_step (oB HB) hb); have n1_ := Aside0.mk (hbox); have n2_ := Aside0.mk ((by rw [hg]; exact (below_size (oB HB)) : w.heap.size ≤ gb1441)); have n3_ := Aside0.mk ((by rw [hg]; exact (below_size (oB HB)) : w.heap.size ≤ gb1441)); clear HB; have HB := n0_; have BK1441 := n1_; have GW1441 := n2_; have GE1441 := n3_; clear n0_ n1_ n2_ n3_; clear hb hbox hg) | ((with_reducible refine gate_dst (N := 2) rfl ?_); (try (refine gate_guard (by rfl) ?_; dsimp only)); refine box_event ?hg (N := 2) ?hd (cs := #[.slice none 0 0, .int .i64 0, .slice none 0 0]) (t := 33) ?hr ?_; (case hd => rfl); (case hg => rfl); (case hr => first | (go_simp; done) | (go_simp; rfl)); intro gb1442 hg w5 hbox hb; have n0_ := Aside0.mk (blk_below (g := gb1441) (o := .cells #[.slice A0_0 l0_0.length c0_0, .int .i64 a0_1, .slice A0_2 l0_2.length c0_2] 33 (0, 0)) (oK BK1441) hb); have n1_ := Aside0.mk (below_step (oB HB) hb); have n2_ := Aside0.mk (hbox); have n3_ := Aside0.mk ((by rw [hg]; exact (below_size (oB HB)) : w.heap.size ≤ gb1442)); have n4_ := Aside0.mk ((by rw [hg]; exact (below_size (oB HB)) : w.heap.size ≤ gb1442)); have n5_ := Aside0.mk ((by rw [hg]; exact Nat.ne_of_lt (blk_lt (g := gb1441) (o := .cells #[.slice A0_0 l0_0.length c0_0, .int .i64 a0_1, .slice A0_2 l0_2.length c0_2] 33 (0, 0)) (oK BK1441)) : gb1441 ≠ gb1442)); have n6_ := Aside0.mk ((by rw [hg]; exact Nat.ne_of_gt (blk_lt (g := gb1441) (o := .cells #[.slice A0_0 l0_0.length c0_0, .int .i64 a0_1, .slice A0_2 l0_2.length c0_2] 33 (0, 0)) (oK BK1441)) : gb1442 ≠ gb1441)); clear BK1441; clear HB; have BK1441 := n0_; have HB := n1_; have BK1442 := n2_; have GW1442 := n3_; have GE1442 := n4_; have NB1441_1442 := n5_; have NB1442_1441 := n6_; clear n0_ n1_ n2_ n3_ n4_ n5_ n6_; clear hb hbox hg; have hnb6 := NB1441_1442.out; have hnc6 := NB1442_1441.out; have hcz7_0 : w5.cell? ⟨gb1441, 0, none⟩ = some (.slice A0_0 l0_0.length c0_0) := (blk_cell BK1441.out 0).trans rfl; have hcz7_1 : w5.cell? ⟨gb1441, 1, none⟩ = some (.int .i64 a0_1) := (blk_cell BK1441.out 1).trans rfl; have hcz7_2 : w5.cell? ⟨gb1441, 2, none⟩ = some (.slice A0_2 l0_2.length c0_2) := (blk_cell BK1441.out 2).trans rfl; have hfz7_0 := blk_frozen BK1441.out 0; have hfz7_1 := blk_frozen BK1441.out 1; have hfz7_2 := blk_frozen BK1441.out 2) | ((with_reducible refine gate_callee (f := 119) rfl ?_); refine goesL_ (some 7) rfl rfl Try.func119 (by kernel_rfl) rfl #[.agg #[.slice A0_0 l0_0.length c0_0, .int .i64 a0_1, .slice A0_2 l0_2.length c0_2]] rfl (by (try simp only [List.map_toArray, List.map_cons, List.map_nil]); first | done | rfl | (simp only [List.length_drop, List.length_take]; rfl)) ?_; (with_reducible refine (impl_copyWork.calls _ _ l0_0 a0_1 _ _ l0_2 t1443 t1446 t1447 _ ?side1 ?side2 ?side3 ?side4 A2.out).mono ?_); (case side1 => exact oc_ HR0_0.out); (case side2 => exact HC0_0.out); (case side3 => exact oc_ HR0_2.out); (case side4 => exact HC0_2.out); rintro e w8 ⟨v1444, v1448, rfl, ho0, ho1, hb⟩; refine ⟨_, rfl, ?_⟩; have n0_ := Aside0.mk (Kd.R_lower ho0 (below_size (oB HB))); have n1_ := Aside0.mk (Kd.R_lower ho1 (below_size (oB HB))); have n2_ := Aside0.mk (blk_below (g := gb1441) (o := .cells #[.slice A0_0 l0_0.length c0_0, .int .i64 a0_1, .slice A0_2 l0_2.length c0_2] 33 (0, 0)) (oK BK1441) hb); have n3_ := Aside0.mk (blk_below (g := gb1442) (o := .cells #[.slice none 0 0, .int .i64 0, .slice none 0 0] 33 (0, 0)) (oK BK1442) hb); have n4_ := Aside0.mk (below_step (oB HB) hb); clear BK1441; clear BK1442; clear HB; have HO1445 := n0_; have HO1449 := n1_; have BK1441 := n2_; have BK1442 := n3_; have HB := n4_; clear n0_ n1_ n2_ n3_ n4_; (try clear hb); (try clear hb2); (try clear hk); (try clear hi); (try clear ho0); (try clear ho1)) | ((with_reducible refine gate_dst (N := 4) rfl ?_); (try (refine gate_guard (by rfl) ?_; dsimp only)); refine box_event ?hg (N := 4) ?hd (cs := #[.slice none 0 0, .int .i64 0, .slice none 0 0]) (t := 33) ?hr ?_; (case hd => rfl); (case hg => rfl); (case hr => first | (go_simp; done) | (go_simp; rfl)); intro gb1450 hg w9 hbox hb; have n0_ := Aside0.mk (Kd.R_below (oR HO1445) hb); have n1_ := Aside0.mk (Kd.R_below (oR HO1449) hb); have n2_ := Aside0.mk (blk_below (g := gb1441) (o := .cells #[.slice A0_0 l0_0.length c0_0, .int .i64 a0_1, .slice A0_2 l0_2.length c0_2] 33 (0, 0)) (oK BK1441) hb); have n3_ := Aside0.mk (blk_below (g := gb1442) (o := .cells #[.slice none 0 0, .int .i64 0, .slice none 0 0] 33 (0, 0)) (oK BK1442) hb); have n4_ := Aside0.mk (below_step (oB HB) hb); have n5_ := Aside0.mk (hbox); have n6_ := Aside0.mk ((by rw [hg]; exact (below_size (oB HB)) : w.heap.size ≤ gb1450)); have n7_ := Aside0.mk ((by rw [hg]; exact (below_size (oB HB)) : w.heap.size ≤ gb1450)); have n8_ := Aside0.mk ((by rw [hg]; exact Nat.ne_of_lt (blk_lt (g := gb1441) (o := .cells #[.slice A0_0 l0_0.length c0_0, .int .i64 a0_1, .slice A0_2 l0_2.length c0_2] 33 (0, 0)) (oK BK1441)) : gb1441 ≠ gb1450)); have n9_ := Aside0.mk ((by rw [hg]; exact Nat.ne_of_gt (blk_lt (g := gb1441) (o := .cells #[.slice A0_0 l0_0.length c0_0, .int .i64 a0_1, .slice A0_2 l0_2.length c0_2] 33 (0, 0)) (oK BK1441)) : gb1450 ≠ gb1441)); have n10_ := Aside0.mk ((by rw [hg]; exact Nat.ne_of_lt (blk_lt (g := gb1442) (o := .cells #[.slice none 0 0, .int .i64 0, .slice none 0 0] 33 (0, 0)) (oK BK1442)) : gb1442 ≠ gb1450)); have n11_ := Aside0.mk ((by rw [hg]; exact Nat.ne_of_gt (blk_lt (g := gb1442) (o := .cells #[.slice none 0 0, .int .i64 0, .slice none 0 0] 33 (0, 0)) (oK BK1442)) : gb1450 ≠ gb1442)); clear HO1445; clear HO1449; clear BK1441; clear BK1442; clear HB; have HO1445 := n0_; have HO1449 := n1_; have BK1441 := n2_; have BK1442 := n3_; have HB := n4_; have BK1450 := n5_; have GW1450 := n6_; have GE1450 := n7_; have NB1441_1450 := n8_; have NB1450_1441 := n9_; have NB1442_1450 := n10_; have NB1450_1442 := n11_; clear n0_ n1_ n2_ n3_ n4_ n5_ n6_ n7_ n8_ n9_ n10_ n11_; clear hb hbox hg; obtain ⟨Ao10, co10, eo10⟩ := Kd.R_slice HO1445.out; subst eo10; have hnb11 := NB1450_1441.out; have hnc11 := NB1441_1450.out; have hnb12 := NB1450_1442.out; have hnc12 := NB1442_1450.out; have hcz13_0 : w9.cell? ⟨gb1450, 0, none⟩ = some (.slice none 0 0) := (blk_cell BK1450.out 0).trans rfl; have hcz13_1 : w9.cell? ⟨gb1450, 1, none⟩ = some (.int .i64 0) := (blk_cell BK1450.out 1).trans rfl; have hcz13_2 : w9.cell? ⟨gb1450, 2, none⟩ = some (.slice none 0 0) := (blk_cell BK1450.out 2).trans rfl; have hfz13_0 := blk_frozen BK1450.out 0; have hfz13_1 := blk_frozen BK1450.out 1; have hfz13_2 := blk_frozen BK1450.out 2; obtain ⟨Ao14, co14, eo14⟩ := Kd.R_slice HO1449.out; subst eo14))
  (try simp only [Act.put, List.setIfInBounds_toArray, List.set_cons_zero, List.set_cons_succ])
  go_cut [18] (fun v18 wc => ∃ (kq : Nat) (x18_2 : Bool), v18 = .bool x18_2 ∧ Aside0 (impl_WorkStep.j0 kq x18_2 l0_0 a0_1 l0_2 t1443 t1446 t1447 = some (r1, r2, r3, r4)) ∧ Aside0 (kq ≤ k) ∧ Aside0 (Kd.R k96 96 wc w.heap.size (fun _ => True) (.slice Ao10 t1443.length co10) t1443) ∧ Aside0 (Kd.R (Kd.int .i64) 3 wc w.heap.size (fun _ => True) (.slice Ao14 t1447.length co14) t1447) ∧ Aside0 (wc.heap[gb1441]? = some (.cells #[(.slice A0_0 l0_0.length c0_0), .int .i64 a0_1, (.slice A0_2 l0_2.length c0_2)] 33 (0, 0))) ∧ Aside0 (wc.heap[gb1442]? = some (.cells #[(.slice none 0 0), .int .i64 0, (.slice none 0 0)] 33 (0, 0))) ∧ Aside0 (wc.heap[gb1450]? = some (.cells #[(.slice Ao10 t1443.length co10), .int .i64 t1446, (.slice Ao14 t1447.length co14)] 33 (0, 0))) ∧ Aside0 (Below w.heap.size w wc))
  case first =>
    have H := HC3.out
    clear HC3
    replace H := Option.bind_eq_some_iff.mp H
    obtain ⟨t1451, A150, H⟩ := H
    (try dsimp only at H)
    have A15 := Aside0.mk A150
    clear A150
    by_cases c16 : t1451 = true
    · subst c16
      rw [if_pos rfl] at H
      have H' := Aside0.mk H
      clear H
      have hnb17 := NB1441_1442.out
      have hnc17 := NB1442_1441.out
      have hnb18 := NB1441_1450.out
      have hnc18 := NB1450_1441.out
      have hcz19_0 : w9.cell? ⟨gb1441, 0, none⟩ = some (.slice A0_0 l0_0.length c0_0) := (blk_cell BK1441.out 0).trans rfl
      have hcz19_1 : w9.cell? ⟨gb1441, 1, none⟩ = some (.int .i64 a0_1) := (blk_cell BK1441.out 1).trans rfl
      have hcz19_2 : w9.cell? ⟨gb1441, 2, none⟩ = some (.slice A0_2 l0_2.length c0_2) := (blk_cell BK1441.out 2).trans rfl
      have hfz19_0 := blk_frozen BK1441.out 0
      have hfz19_1 := blk_frozen BK1441.out 1
      have hfz19_2 := blk_frozen BK1441.out 2
      go_wp2_with (first | ((with_reducible refine gate_callee (f := 64) rfl ?_); refine goesL_ (some 9) rfl rfl Try.func64 (by kernel_rfl) rfl #[.agg #[.slice A0_0 l0_0.length c0_0, .int .i64 a0_1, .slice A0_2 l0_2.length c0_2]] rfl (by (try simp only [List.map_toArray, List.map_cons, List.map_nil]); first | done | rfl | (simp only [List.length_drop, List.length_take]; rfl)) ?_; (with_reducible refine (impl_WorkOk.calls _ _ l0_0 a0_1 _ _ l0_2 true _ ?side1 ?side2 ?side3 ?side4 A15.out).mono ?_); (case side1 => exact Kd.C_below HR0_0.out (oB HB)); (case side2 => exact HC0_0.out); (case side3 => exact Kd.C_below HR0_2.out (oB HB)); (case side4 => exact HC0_2.out); rintro e w20 ⟨rfl, hb⟩; refine ⟨_, rfl, ?_⟩; have n0_ := Aside0.mk (Kd.R_below (by (with_reducible repeat (first | apply Kd.R_alloc | apply Kd.R_drewN | apply Kd.R_drew)); exact (Kd.R_mono (Kd.R_far (p := ⟨gb1450, 2, none⟩) (Kd.R_far (p := ⟨gb1450, 1, none⟩) (Kd.R_far (p := ⟨gb1450, 0, none⟩) (Kd.R_types HO1445.out BK1450.out (by decide)) (fun _ hk => hk.2) (.slice Ao10 t1443.length co10)) (fun _ hk => hk.2) (.int .i64 t1446)) (fun _ hk => hk.2) (.slice Ao14 t1447.length co14)) (fun _ h_ => h_.1))) hb); have n1_ := Aside0.mk (Kd.R_below (by (with_reducible repeat (first | apply Kd.R_alloc | apply Kd.R_drewN | apply Kd.R_drew)); exact (Kd.R_mono (Kd.R_far (p := ⟨gb1450, 2, none⟩) (Kd.R_far (p := ⟨gb1450, 1, none⟩) (Kd.R_far (p := ⟨gb1450, 0, none⟩) (Kd.R_types HO1449.out BK1450.out (by decide)) (fun _ hk => hk.2) (.slice Ao10 t1443.length co10)) (fun _ hk => hk.2) (.int .i64 t1446)) (fun _ hk => hk.2) (.slice Ao14 t1447.length co14)) (fun _ h_ => h_.1))) hb); have n2_ := Aside0.mk (blk_below (g := gb1441) (o := .cells #[.slice A0_0 l0_0.length c0_0, .int .i64 a0_1, .slice A0_2 l0_2.length c0_2] 33 (0, 0)) (by (with_reducible repeat (first | refine blk_drewN ?_ _ | refine blk_drew ?_ | refine blk_alloc ?_ _)); refine blk_far ?_ NB1441_1450.out _; (with_reducible repeat (first | refine blk_drewN ?_ _ | refine blk_drew ?_ | refine blk_alloc ?_ _)); refine blk_far ?_ NB1441_1450.out _; (with_reducible repeat (first | refine blk_drewN ?_ _ | refine blk_drew ?_ | refine blk_alloc ?_ _)); refine blk_far ?_ NB1441_1450.out _; (with_reducible repeat (first | refine blk_drewN ?_ _ | refine blk_drew ?_ | refine blk_alloc ?_ _)); exact BK1441.out) hb); have n3_ := Aside0.mk (blk_below (g := gb1442) (o := .cells #[.slice none 0 0, .int .i64 0, .slice none 0 0] 33 (0, 0)) (by (with_reducible repeat (first | refine blk_drewN ?_ _ | refine blk_drew ?_ | refine blk_alloc ?_ _)); refine blk_far ?_ NB1442_1450.out _; (with_reducible repeat (first | refine blk_drewN ?_ _ | refine blk_drew ?_ | refine blk_alloc ?_ _)); refine blk_far ?_ NB1442_1450.out _; (with_reducible repeat (first | refine blk_drewN ?_ _ | refine blk_drew ?_ | refine blk_alloc ?_ _)); refine blk_far ?_ NB1442_1450.out _; (with_reducible repeat (first | refine blk_drewN ?_ _ | refine blk_drew ?_ | refine blk_alloc ?_ _)); exact BK1442.out) hb); have n4_ := Aside0.mk (blk_below (g := gb1450) (o := .cells #[.slice Ao10 t1443.length co10, .int .i64 t1446, .slice Ao14 t1447.length co14] 33 (0, 0)) (by (with_reducible repeat (first | refine blk_drewN ?_ _ | refine blk_drew ?_ | refine blk_alloc ?_ _)); refine blk_put (cs := #[.slice Ao10 t1443.length co10, .int .i64 t1446, .slice none 0 0]) ?_ 2 _ rfl; (with_reducible repeat (first | refine blk_drewN ?_ _ | refine blk_drew ?_ | refine blk_alloc ?_ _)); refine blk_put (cs := #[.slice Ao10 t1443.length co10, .int .i64 0, .slice none 0 0]) ?_ 1 _ rfl; (with_reducible repeat (first | refine blk_drewN ?_ _ | refine blk_drew ?_ | refine blk_alloc ?_ _)); refine blk_put (cs := #[.slice none 0 0, .int .i64 0, .slice none 0 0]) ?_ 0 _ rfl; (with_reducible repeat (first | refine blk_drewN ?_ _ | refine blk_drew ?_ | refine blk_alloc ?_ _)); exact BK1450.out) hb); have n5_ := Aside0.mk (below_step (oB HB) hb); clear HO1445; clear HO1449; clear BK1441; clear BK1442; clear BK1450; clear HB; have HO1445 := n0_; have HO1449 := n1_; have BK1441 := n2_; have BK1442 := n3_; have BK1450 := n4_; have HB := n5_; clear n0_ n1_ n2_ n3_ n4_ n5_; (try clear hb); (try clear hb2); (try clear hk); (try clear hi); have hcz21_0 : w20.cell? ⟨gb1441, 0, none⟩ = some (.slice A0_0 l0_0.length c0_0) := (blk_cell BK1441.out 0).trans rfl; have hcz21_1 : w20.cell? ⟨gb1441, 1, none⟩ = some (.int .i64 a0_1) := (blk_cell BK1441.out 1).trans rfl; have hcz21_2 : w20.cell? ⟨gb1441, 2, none⟩ = some (.slice A0_2 l0_2.length c0_2) := (blk_cell BK1441.out 2).trans rfl; have hfz21_0 := blk_frozen BK1441.out 0; have hfz21_1 := blk_frozen BK1441.out 1; have hfz21_2 := blk_frozen BK1441.out 2))
      go_meet
      case rel => exact ⟨_, ((a0_1 == (l0_0.length : Int))), (by first | rfl | (simp; done) | (simp [*]; done)), H', ⟨by first | omega | exact Nat.le_refl _⟩, ⟨oR HO1445⟩, ⟨oR HO1449⟩, ⟨oK BK1441⟩, ⟨oK BK1442⟩, ⟨oK BK1450⟩, ⟨oB HB⟩⟩
    · replace c16 := Bool.eq_false_iff.mpr c16
      subst c16
      rw [if_neg (show ¬ (false = true) by decide)] at H
      have H' := Aside0.mk H
      clear H
      have hnb22 := NB1441_1442.out
      have hnc22 := NB1442_1441.out
      have hnb23 := NB1441_1450.out
      have hnc23 := NB1450_1441.out
      have hcz24_0 : w9.cell? ⟨gb1441, 0, none⟩ = some (.slice A0_0 l0_0.length c0_0) := (blk_cell BK1441.out 0).trans rfl
      have hcz24_1 : w9.cell? ⟨gb1441, 1, none⟩ = some (.int .i64 a0_1) := (blk_cell BK1441.out 1).trans rfl
      have hcz24_2 : w9.cell? ⟨gb1441, 2, none⟩ = some (.slice A0_2 l0_2.length c0_2) := (blk_cell BK1441.out 2).trans rfl
      have hfz24_0 := blk_frozen BK1441.out 0
      have hfz24_1 := blk_frozen BK1441.out 1
      have hfz24_2 := blk_frozen BK1441.out 2
      go_wp2_with (first | ((with_reducible refine gate_callee (f := 64) rfl ?_); refine goesL_ (some 9) rfl rfl Try.func64 (by kernel_rfl) rfl #[.agg #[.slice A0_0 l0_0.length c0_0, .int .i64 a0_1, .slice A0_2 l0_2.length c0_2]] rfl (by (try simp only [List.map_toArray, List.map_cons, List.map_nil]); first | done | rfl | (simp only [List.length_drop, List.length_take]; rfl)) ?_; (with_reducible refine (impl_WorkOk.calls _ _ l0_0 a0_1 _ _ l0_2 false _ ?side1 ?side2 ?side3 ?side4 A15.out).mono ?_); (case side1 => exact Kd.C_below HR0_0.out (oB HB)); (case side2 => exact HC0_0.out); (case side3 => exact Kd.C_below HR0_2.out (oB HB)); (case side4 => exact HC0_2.out); rintro e w25 ⟨rfl, hb⟩; refine ⟨_, rfl, ?_⟩; have n0_ := Aside0.mk (Kd.R_below (by (with_reducible repeat (first | apply Kd.R_alloc | apply Kd.R_drewN | apply Kd.R_drew)); exact (Kd.R_mono (Kd.R_far (p := ⟨gb1450, 2, none⟩) (Kd.R_far (p := ⟨gb1450, 1, none⟩) (Kd.R_far (p := ⟨gb1450, 0, none⟩) (Kd.R_types HO1445.out BK1450.out (by decide)) (fun _ hk => hk.2) (.slice Ao10 t1443.length co10)) (fun _ hk => hk.2) (.int .i64 t1446)) (fun _ hk => hk.2) (.slice Ao14 t1447.length co14)) (fun _ h_ => h_.1))) hb); have n1_ := Aside0.mk (Kd.R_below (by (with_reducible repeat (first | apply Kd.R_alloc | apply Kd.R_drewN | apply Kd.R_drew)); exact (Kd.R_mono (Kd.R_far (p := ⟨gb1450, 2, none⟩) (Kd.R_far (p := ⟨gb1450, 1, none⟩) (Kd.R_far (p := ⟨gb1450, 0, none⟩) (Kd.R_types HO1449.out BK1450.out (by decide)) (fun _ hk => hk.2) (.slice Ao10 t1443.length co10)) (fun _ hk => hk.2) (.int .i64 t1446)) (fun _ hk => hk.2) (.slice Ao14 t1447.length co14)) (fun _ h_ => h_.1))) hb); have n2_ := Aside0.mk (blk_below (g := gb1441) (o := .cells #[.slice A0_0 l0_0.length c0_0, .int .i64 a0_1, .slice A0_2 l0_2.length c0_2] 33 (0, 0)) (by (with_reducible repeat (first | refine blk_drewN ?_ _ | refine blk_drew ?_ | refine blk_alloc ?_ _)); refine blk_far ?_ NB1441_1450.out _; (with_reducible repeat (first | refine blk_drewN ?_ _ | refine blk_drew ?_ | refine blk_alloc ?_ _)); refine blk_far ?_ NB1441_1450.out _; (with_reducible repeat (first | refine blk_drewN ?_ _ | refine blk_drew ?_ | refine blk_alloc ?_ _)); refine blk_far ?_ NB1441_1450.out _; (with_reducible repeat (first | refine blk_drewN ?_ _ | refine blk_drew ?_ | refine blk_alloc ?_ _)); exact BK1441.out) hb); have n3_ := Aside0.mk (blk_below (g := gb1442) (o := .cells #[.slice none 0 0, .int .i64 0, .slice none 0 0] 33 (0, 0)) (by (with_reducible repeat (first | refine blk_drewN ?_ _ | refine blk_drew ?_ | refine blk_alloc ?_ _)); refine blk_far ?_ NB1442_1450.out _; (with_reducible repeat (first | refine blk_drewN ?_ _ | refine blk_drew ?_ | refine blk_alloc ?_ _)); refine blk_far ?_ NB1442_1450.out _; (with_reducible repeat (first | refine blk_drewN ?_ _ | refine blk_drew ?_ | refine blk_alloc ?_ _)); refine blk_far ?_ NB1442_1450.out _; (with_reducible repeat (first | refine blk_drewN ?_ _ | refine blk_drew ?_ | refine blk_alloc ?_ _)); exact BK1442.out) hb); have n4_ := Aside0.mk (blk_below (g := gb1450) (o := .cells #[.slice Ao10 t1443.length co10, .int .i64 t1446, .slice Ao14 t1447.length co14] 33 (0, 0)) (by (with_reducible repeat (first | refine blk_drewN ?_ _ | refine blk_drew ?_ | refine blk_alloc ?_ _)); refine blk_put (cs := #[.slice Ao10 t1443.length co10, .int .i64 t1446, .slice none 0 0]) ?_ 2 _ rfl; (with_reducible repeat (first | refine blk_drewN ?_ _ | refine blk_drew ?_ | refine blk_alloc ?_ _)); refine blk_put (cs := #[.slice Ao10 t1443.length co10, .int .i64 0, .slice none 0 0]) ?_ 1 _ rfl; (with_reducible repeat (first | refine blk_drewN ?_ _ | refine blk_drew ?_ | refine blk_alloc ?_ _)); refine blk_put (cs := #[.slice none 0 0, .int .i64 0, .slice none 0 0]) ?_ 0 _ rfl; (with_reducible repeat (first | refine blk_drewN ?_ _ | refine blk_drew ?_ | refine blk_alloc ?_ _)); exact BK1450.out) hb); have n5_ := Aside0.mk (below_step (oB HB) hb); clear HO1445; clear HO1449; clear BK1441; clear BK1442; clear BK1450; clear HB; have HO1445 := n0_; have HO1449 := n1_; have BK1441 := n2_; have BK1442 := n3_; have BK1450 := n4_; have HB := n5_; clear n0_ n1_ n2_ n3_ n4_ n5_; (try clear hb); (try clear hb2); (try clear hk); (try clear hi)))
      go_meet
      case rel => exact ⟨_, (true), (by first | rfl | (simp; done) | (simp [*]; done)), H', ⟨by first | omega | exact Nat.le_refl _⟩, ⟨oR HO1445⟩, ⟨oR HO1449⟩, ⟨oK BK1441⟩, ⟨oK BK1442⟩, ⟨oK BK1450⟩, ⟨oB HB⟩⟩
  case rest =>
    clear HC3
    try clear c1
    try clear c2
    try clear p2
    try clear c6
    try clear c8
    try clear c11
    try clear c12
    try clear c16
    try clear c17
    try clear c18
    try clear c22
    try clear c23
    try clear hcz13_0
    try clear hcz13_1
    try clear hcz13_2
    try clear hcz19_0
    try clear hcz19_1
    try clear hcz19_2
    try clear hcz21_0
    try clear hcz21_1
    try clear hcz21_2
    try clear hcz24_0
    try clear hcz24_1
    try clear hcz24_2
    try clear hcz7_0
    try clear hcz7_1
    try clear hcz7_2
    try clear hfz13_0
    try clear hfz13_1
    try clear hfz13_2
    try clear hfz19_0
    try clear hfz19_1
    try clear hfz19_2
    try clear hfz21_0
    try clear hfz21_1
    try clear hfz21_2
    try clear hfz24_0
    try clear hfz24_1
    try clear hfz24_2
    try clear hfz7_0
    try clear hfz7_1
    try clear hfz7_2
    obtain ⟨kq, x18_2, rfl, HA, HJ2, HO_1451000, HO_1451002, BK1441, BK1442, BK1450, HB⟩ := hcut
    cases kq with
    | zero => exact absurd HA.out (by simp [impl_WorkStep.j0])
    | succ kj2 =>
      have H := HA.out
      clear HA
      simp only [impl_WorkStep.j0] at H
      by_cases c26 : x18_2 = true
      · subst c26
        rw [if_pos rfl] at H
        simp only [Option.some.injEq, Prod.mk.injEq] at H
        obtain ⟨rfl, rfl, rfl, rfl⟩ := H
        have hnb27 := NB1450_1441.out
        have hnc27 := NB1441_1450.out
        have hnb28 := NB1450_1442.out
        have hnc28 := NB1442_1450.out
        have hcz29_0 : wc.cell? ⟨gb1450, 0, none⟩ = some (.slice Ao10 t1443.length co10) := (blk_cell BK1450.out 0).trans rfl
        have hcz29_1 : wc.cell? ⟨gb1450, 1, none⟩ = some (.int .i64 t1446) := (blk_cell BK1450.out 1).trans rfl
        have hcz29_2 : wc.cell? ⟨gb1450, 2, none⟩ = some (.slice Ao14 t1447.length co14) := (blk_cell BK1450.out 2).trans rfl
        have hfz29_0 := blk_frozen BK1450.out 0
        have hfz29_1 := blk_frozen BK1450.out 1
        have hfz29_2 := blk_frozen BK1450.out 2
        have hnb30 := NB1442_1441.out
        have hnc30 := NB1441_1442.out
        have hcz31_0 : wc.cell? ⟨gb1442, 0, none⟩ = some (.slice none 0 0) := (blk_cell BK1442.out 0).trans rfl
        have hcz31_1 : wc.cell? ⟨gb1442, 1, none⟩ = some (.int .i64 0) := (blk_cell BK1442.out 1).trans rfl
        have hcz31_2 : wc.cell? ⟨gb1442, 2, none⟩ = some (.slice none 0 0) := (blk_cell BK1442.out 2).trans rfl
        have hfz31_0 := blk_frozen BK1442.out 0
        have hfz31_1 := blk_frozen BK1442.out 1
        have hfz31_2 := blk_frozen BK1442.out 2
        go_wp2
        refine bodyPost_ret (results_ct rfl _ _ gb1442 33 #[.slice Ao10 t1443.length co10, .int .i64 t1446, .slice Ao14 t1447.length co14] (0, 0) _ rfl (by (with_reducible repeat (first | refine blk_drewN ?_ _ | refine blk_drew ?_ | refine blk_alloc ?_ _)); refine blk_put (cs := #[.slice Ao10 t1443.length co10, .int .i64 t1446, .slice none 0 0]) ?_ 2 _ rfl; (with_reducible repeat (first | refine blk_drewN ?_ _ | refine blk_drew ?_ | refine blk_alloc ?_ _)); refine blk_put (cs := #[.slice Ao10 t1443.length co10, .int .i64 0, .slice none 0 0]) ?_ 1 _ rfl; (with_reducible repeat (first | refine blk_drewN ?_ _ | refine blk_drew ?_ | refine blk_alloc ?_ _)); refine blk_put (cs := #[.slice none 0 0, .int .i64 0, .slice none 0 0]) ?_ 0 _ rfl; (with_reducible repeat (first | refine blk_drewN ?_ _ | refine blk_drew ?_ | refine blk_alloc ?_ _)); exact BK1442.out) Try.underlying33 rfl (by kernel_rfl)) rfl ?_
        exact ⟨_, _, by first | rfl | (simp [errW_none, errW_some] <;> rfl) | (simp [*, errW_none, errW_some] <;> rfl), by (with_reducible repeat (first | apply Kd.R_alloc | apply Kd.R_drewN | apply Kd.R_drew)); exact Kd.R_mono (Kd.R_far (p := ⟨gb1442, 2, none⟩) (Kd.R_far (p := ⟨gb1442, 1, none⟩) (Kd.R_far (p := ⟨gb1442, 0, none⟩) (Kd.R_types HO_1451000.out BK1442.out (by decide)) (fun _ hk => hk.2) (.slice Ao10 t1443.length co10)) (fun _ hk => hk.2) (.int .i64 t1446)) (fun _ hk => hk.2) (.slice Ao14 t1447.length co14)) (fun _ hk => trivial), by (with_reducible repeat (first | apply Kd.R_alloc | apply Kd.R_drewN | apply Kd.R_drew)); exact Kd.R_mono (Kd.R_far (p := ⟨gb1442, 2, none⟩) (Kd.R_far (p := ⟨gb1442, 1, none⟩) (Kd.R_far (p := ⟨gb1442, 0, none⟩) (Kd.R_types HO_1451002.out BK1442.out (by decide)) (fun _ hk => hk.2) (.slice Ao10 t1443.length co10)) (fun _ hk => hk.2) (.int .i64 t1446)) (fun _ hk => hk.2) (.slice Ao14 t1447.length co14)) (fun _ hk => trivial), oB HB⟩
      · replace c26 := Bool.eq_false_iff.mpr c26
        subst c26
        rw [if_neg (show ¬ (false = true) by decide)] at H
        replace H := Option.bind_eq_some_iff.mp H
        obtain ⟨t1452, A320, H⟩ := H
        (try dsimp only at H)
        have A32 := Aside0.mk A320
        clear A320
        by_cases c33 : t1452 = 0
        · rw [if_pos c33] at H
          have c33b0 : (t1452 == 0) = true := beq_iff_eq.mpr c33
          have c33b1 : (t1452 != 0) = false := bne_eq_false_iff_eq.mpr c33
          clear c33
          simp only [Option.some.injEq, Prod.mk.injEq] at H
          obtain ⟨rfl, rfl, rfl, rfl⟩ := H
          have hnb34 := NB1441_1442.out
          have hnc34 := NB1442_1441.out
          have hnb35 := NB1441_1450.out
          have hnc35 := NB1450_1441.out
          have hcz36_0 : wc.cell? ⟨gb1441, 0, none⟩ = some (.slice A0_0 l0_0.length c0_0) := (blk_cell BK1441.out 0).trans rfl
          have hcz36_1 : wc.cell? ⟨gb1441, 1, none⟩ = some (.int .i64 a0_1) := (blk_cell BK1441.out 1).trans rfl
          have hcz36_2 : wc.cell? ⟨gb1441, 2, none⟩ = some (.slice A0_2 l0_2.length c0_2) := (blk_cell BK1441.out 2).trans rfl
          have hfz36_0 := blk_frozen BK1441.out 0
          have hfz36_1 := blk_frozen BK1441.out 1
          have hfz36_2 := blk_frozen BK1441.out 2
          go_wp2_with (first | ((with_reducible refine gate_callee (f := 117) rfl ?_); refine goesL_ (some 23) rfl rfl Try.func117 (by kernel_rfl) rfl #[.agg #[.slice A0_0 l0_0.length c0_0, .int .i64 a0_1, .slice A0_2 l0_2.length c0_2], .int .i64 a0_1] rfl (by (try simp only [List.map_toArray, List.map_cons, List.map_nil]); first | done | rfl | (simp only [List.length_drop, List.length_take]; rfl)) ?_; (with_reducible refine (impl_tunedBy.calls kj2 _ _ l0_0 a0_1 _ _ l0_2 a0_1 t1452 _ ?side1 ?side2 ?side3 ?side4 A32.out).mono ?_); (case side1 => exact oc_ HR0_0.out); (case side2 => exact HC0_0.out); (case side3 => exact oc_ HR0_2.out); (case side4 => exact HC0_2.out); rintro e w37 ⟨rfl, hb⟩; refine ⟨_, rfl, ?_⟩; have n0_ := Aside0.mk (Kd.R_below (oR HO_1451000) hb); have n1_ := Aside0.mk (Kd.R_below (oR HO_1451002) hb); have n2_ := Aside0.mk (blk_below (g := gb1441) (o := .cells #[.slice A0_0 l0_0.length c0_0, .int .i64 a0_1, .slice A0_2 l0_2.length c0_2] 33 (0, 0)) (oK BK1441) hb); have n3_ := Aside0.mk (blk_below (g := gb1442) (o := .cells #[.slice none 0 0, .int .i64 0, .slice none 0 0] 33 (0, 0)) (oK BK1442) hb); have n4_ := Aside0.mk (blk_below (g := gb1450) (o := .cells #[.slice Ao10 t1443.length co10, .int .i64 t1446, .slice Ao14 t1447.length co14] 33 (0, 0)) (oK BK1450) hb); have n5_ := Aside0.mk (below_step (oB HB) hb); clear HO_1451000; clear HO_1451002; clear BK1441; clear BK1442; clear BK1450; clear HB; have HO_1451000 := n0_; have HO_1451002 := n1_; have BK1441 := n2_; have BK1442 := n3_; have BK1450 := n4_; have HB := n5_; clear n0_ n1_ n2_ n3_ n4_ n5_; (try clear hb); (try clear hb2); (try clear hk); (try clear hi); have hnb38 := NB1450_1442.out; have hnc38 := NB1442_1450.out; have hcz39_0 : w37.cell? ⟨gb1450, 0, none⟩ = some (.slice Ao10 t1443.length co10) := (blk_cell BK1450.out 0).trans rfl; have hcz39_1 : w37.cell? ⟨gb1450, 1, none⟩ = some (.int .i64 t1446) := (blk_cell BK1450.out 1).trans rfl; have hcz39_2 : w37.cell? ⟨gb1450, 2, none⟩ = some (.slice Ao14 t1447.length co14) := (blk_cell BK1450.out 2).trans rfl; have hfz39_0 := blk_frozen BK1450.out 0; have hfz39_1 := blk_frozen BK1450.out 1; have hfz39_2 := blk_frozen BK1450.out 2; have hcz40_0 : w37.cell? ⟨gb1442, 0, none⟩ = some (.slice none 0 0) := (blk_cell BK1442.out 0).trans rfl; have hcz40_1 : w37.cell? ⟨gb1442, 1, none⟩ = some (.int .i64 0) := (blk_cell BK1442.out 1).trans rfl; have hcz40_2 : w37.cell? ⟨gb1442, 2, none⟩ = some (.slice none 0 0) := (blk_cell BK1442.out 2).trans rfl; have hfz40_0 := blk_frozen BK1442.out 0; have hfz40_1 := blk_frozen BK1442.out 1; have hfz40_2 := blk_frozen BK1442.out 2))
          refine bodyPost_ret (results_ct rfl _ _ gb1442 33 #[.slice Ao10 t1443.length co10, .int .i64 t1446, .slice Ao14 t1447.length co14] (0, 0) _ rfl (by (with_reducible repeat (first | refine blk_drewN ?_ _ | refine blk_drew ?_ | refine blk_alloc ?_ _)); refine blk_put (cs := #[.slice Ao10 t1443.length co10, .int .i64 t1446, .slice none 0 0]) ?_ 2 _ rfl; (with_reducible repeat (first | refine blk_drewN ?_ _ | refine blk_drew ?_ | refine blk_alloc ?_ _)); refine blk_put (cs := #[.slice Ao10 t1443.length co10, .int .i64 0, .slice none 0 0]) ?_ 1 _ rfl; (with_reducible repeat (first | refine blk_drewN ?_ _ | refine blk_drew ?_ | refine blk_alloc ?_ _)); refine blk_put (cs := #[.slice none 0 0, .int .i64 0, .slice none 0 0]) ?_ 0 _ rfl; (with_reducible repeat (first | refine blk_drewN ?_ _ | refine blk_drew ?_ | refine blk_alloc ?_ _)); exact BK1442.out) Try.underlying33 rfl (by kernel_rfl)) rfl ?_
          exact ⟨_, _, by first | rfl | (simp [errW_none, errW_some] <;> rfl) | (simp [*, errW_none, errW_some] <;> rfl), by (with_reducible repeat (first | apply Kd.R_alloc | apply Kd.R_drewN | apply Kd.R_drew)); exact Kd.R_mono (Kd.R_far (p := ⟨gb1442, 2, none⟩) (Kd.R_far (p := ⟨gb1442, 1, none⟩) (Kd.R_far (p := ⟨gb1442, 0, none⟩) (Kd.R_types HO_1451000.out BK1442.out (by decide)) (fun _ hk => hk.2) (.slice Ao10 t1443.length co10)) (fun _ hk => hk.2) (.int .i64 t1446)) (fun _ hk => hk.2) (.slice Ao14 t1447.length co14)) (fun _ hk => trivial), by (with_reducible repeat (first | apply Kd.R_alloc | apply Kd.R_drewN | apply Kd.R_drew)); exact Kd.R_mono (Kd.R_far (p := ⟨gb1442, 2, none⟩) (Kd.R_far (p := ⟨gb1442, 1, none⟩) (Kd.R_far (p := ⟨gb1442, 0, none⟩) (Kd.R_types HO_1451002.out BK1442.out (by decide)) (fun _ hk => hk.2) (.slice Ao10 t1443.length co10)) (fun _ hk => hk.2) (.int .i64 t1446)) (fun _ hk => hk.2) (.slice Ao14 t1447.length co14)) (fun _ hk => trivial), oB HB⟩
        · rw [if_neg c33] at H
          have c33b0 : (t1452 == 0) = false := beq_eq_false_iff_ne.mpr c33
          have c33b1 : (t1452 != 0) = true := bne_iff_ne.mpr c33
          by_cases c41 : 0 ≤ a0_1
          · rw [if_pos c41] at H
            have c41b0 : decide (0 ≤ a0_1) = true := decide_eq_true c41
            clear c41
            by_cases c42 : a0_1 < (l0_0.length : Int)
            · rw [if_pos c42] at H
              have c42b0 : decide (a0_1 < (l0_0.length : Int)) = true := decide_eq_true c42
              clear c42
              by_cases c43 : 0 ≤ ((rd_T96 l0_0 a0_1).f1)
              · rw [if_pos c43] at H
                have c43b0 : decide (0 ≤ ((rd_T96 l0_0 a0_1).f1)) = true := decide_eq_true c43
                clear c43
                by_cases c44 : ((rd_T96 l0_0 a0_1).f1) < (t1447.length : Int)
                · rw [if_pos c44] at H
                  have c44b0 : decide (((rd_T96 l0_0 a0_1).f1) < (t1447.length : Int)) = true := decide_eq_true c44
                  clear c44
                  obtain ⟨y1454, hy1454⟩ : ∃ y_ : List Int, y_ = (t1447.set (((rd_T96 l0_0 a0_1).f1) : Int).toNat t1452) := ⟨_, rfl⟩
                  replace H : (some (t1443, wrap64 (t1446 + 1), y1454, true)) = some (r1, r2, r3, r4) := by first | (rw [hy1454]; with_reducible exact H) | (have H2_ := (Option.bind_some _ _).symm.trans H; rw [hy1454]; with_reducible exact H2_) | (have H2_ := (Option.bind_some _ _).symm.trans H; with_reducible exact H2_) | with_reducible exact H | (rw [hy1454]; exact H) | exact H
                  have Ny1454 := Aside0.mk hy1454
                  clear hy1454
                  simp only [Option.some.injEq, Prod.mk.injEq] at H
                  obtain ⟨rfl, rfl, rfl, rfl⟩ := H
                  have hnb46 := NB1441_1442.out
                  have hnc46 := NB1442_1441.out
                  have hnb47 := NB1441_1450.out
                  have hnc47 := NB1450_1441.out
                  have hcz48_0 : wc.cell? ⟨gb1441, 0, none⟩ = some (.slice A0_0 l0_0.length c0_0) := (blk_cell BK1441.out 0).trans rfl
                  have hcz48_1 : wc.cell? ⟨gb1441, 1, none⟩ = some (.int .i64 a0_1) := (blk_cell BK1441.out 1).trans rfl
                  have hcz48_2 : wc.cell? ⟨gb1441, 2, none⟩ = some (.slice A0_2 l0_2.length c0_2) := (blk_cell BK1441.out 2).trans rfl
                  have hfz48_0 := blk_frozen BK1441.out 0
                  have hfz48_1 := blk_frozen BK1441.out 1
                  have hfz48_2 := blk_frozen BK1441.out 2
                  try go_wp2_with (first | ((with_reducible refine gate_callee (f := 117) rfl ?_); refine goesL_ (some 23) rfl rfl Try.func117 (by kernel_rfl) rfl #[.agg #[.slice A0_0 l0_0.length c0_0, .int .i64 a0_1, .slice A0_2 l0_2.length c0_2], .int .i64 a0_1] rfl (by (try simp only [List.map_toArray, List.map_cons, List.map_nil]); first | done | rfl | (simp only [List.length_drop, List.length_take]; rfl)) ?_; (with_reducible refine (impl_tunedBy.calls kj2 _ _ l0_0 a0_1 _ _ l0_2 a0_1 t1452 _ ?side1 ?side2 ?side3 ?side4 A32.out).mono ?_); (case side1 => exact oc_ HR0_0.out); (case side2 => exact HC0_0.out); (case side3 => exact oc_ HR0_2.out); (case side4 => exact HC0_2.out); rintro e w49 ⟨rfl, hb⟩; refine ⟨_, rfl, ?_⟩; have n0_ := Aside0.mk (Kd.R_below (oR HO_1451000) hb); have n1_ := Aside0.mk (Kd.R_below (oR HO_1451002) hb); have n2_ := Aside0.mk (blk_below (g := gb1441) (o := .cells #[.slice A0_0 l0_0.length c0_0, .int .i64 a0_1, .slice A0_2 l0_2.length c0_2] 33 (0, 0)) (oK BK1441) hb); have n3_ := Aside0.mk (blk_below (g := gb1442) (o := .cells #[.slice none 0 0, .int .i64 0, .slice none 0 0] 33 (0, 0)) (oK BK1442) hb); have n4_ := Aside0.mk (blk_below (g := gb1450) (o := .cells #[.slice Ao10 t1443.length co10, .int .i64 t1446, .slice Ao14 t1447.length co14] 33 (0, 0)) (oK BK1450) hb); have n5_ := Aside0.mk (below_step (oB HB) hb); clear HO_1451000; clear HO_1451002; clear BK1441; clear BK1442; clear BK1450; clear HB; have HO_1451000 := n0_; have HO_1451002 := n1_; have BK1441 := n2_; have BK1442 := n3_; have BK1450 := n4_; have HB := n5_; clear n0_ n1_ n2_ n3_ n4_ n5_; (try clear hb); (try clear hb2); (try clear hk); (try clear hi)))
                  have n0_ := Aside0.mk (Kd.R_drew HO_1451000.out)
                  have n1_ := Aside0.mk (Kd.R_drew HO_1451002.out)
                  have n2_ := Aside0.mk (blk_drew BK1441.out)
                  have n3_ := Aside0.mk (blk_drew BK1442.out)
                  have n4_ := Aside0.mk (blk_drew BK1450.out)
                  have n5_ := Aside0.mk (below_drew1 HB.out)
                  clear HO_1451000
                  clear HO_1451002
                  clear BK1441
                  clear BK1442
                  clear BK1450
                  clear HB
                  have HO_1451000 := n0_
                  have HO_1451002 := n1_
                  have BK1441 := n2_
                  have BK1442 := n3_
                  have BK1450 := n4_
                  have HB := n5_
                  clear n0_ n1_ n2_ n3_ n4_ n5_
                  have p1453 : 0 ≤ (a0_1 : Int) := of_decide_eq_true (by first | (with_reducible assumption) | assumption)
                  have q1453 : a0_1 < (l0_0.length : Int) := of_decide_eq_true (by first | (with_reducible assumption) | assumption)
                  obtain ⟨ad1453, e1453, hx1453_0, hx1453_1, hx1453_2, hx1453_3⟩ := at_T96 HR0_0.out a0_1 p1453 q1453
                  have hw1453_3 := hx1453_3
                  have hw1453_2 := hx1453_2
                  have hw1453_1 := hx1453_1
                  have hw1453_0 := hx1453_0
                  cases e1453
                  replace hx1453_0 := (HB.out.cell (World.block_lt_of_cell? w _ hx1453_0)).trans hx1453_0
                  replace hx1453_1 := (HB.out.cell (World.block_lt_of_cell? w _ hx1453_1)).trans hx1453_1
                  replace hx1453_2 := (HB.out.cell (World.block_lt_of_cell? w _ hx1453_2)).trans hx1453_2
                  replace hx1453_3 := (HB.out.cell (World.block_lt_of_cell? w _ hx1453_3)).trans hx1453_3
                  replace p1453 := eq_true p1453
                  replace q1453 := eq_true q1453
                  have p45 : 0 ≤ (((rd_T96 l0_0 a0_1).f1) : Int) := of_decide_eq_true (by first | (with_reducible assumption) | assumption)
                  have q45 : (((rd_T96 l0_0 a0_1).f1) : Int) < ((t1447.length : Int) : Int) := of_decide_eq_true (by first | (with_reducible assumption) | assumption)
                  obtain ⟨go45, co45, eo45, gb45, gl45, cl45, HG45⟩ := Kd.R_form HO_1451002.out (by omega)
                  (first | cases eo45 | (injection eo45 with ea_ en_ ec_; (first | subst ea_ | (injection ea_ with ea_; subst ea_)); subst ec_; clear en_))
                  have GB45 := Aside0.mk gb45
                  have GG45 := Aside0.mk HG45
                  clear gb45 gl45 HG45
                  obtain ⟨hx45_0, hf45_0⟩ := Kd.R_celln 0 HO_1451002.out (((rd_T96 l0_0 a0_1).f1) : Int) p45 q45
                  replace p45 := eq_true p45
                  replace q45 := eq_true q45
                  have HP51 := Kd.R_putn HO_1451002.out (((rd_T96 l0_0 a0_1).f1) : Int) t1452
                  rw [← Ny1454.out] at HP51
                  have HQ51 := Aside0.mk HP51
                  clear HP51
                  refine start_ (n := 12) (S := fun w' => w'.cell? ⟨gb1450, 0, none⟩ = some (.slice Ao10 t1443.length co10) ∧ w'.cell? ⟨gb1450, 1, none⟩ = some (.int .i64 t1446) ∧ w'.cell? ⟨gb1450, 2, none⟩ = some (.slice (some ⟨go45, 0, none⟩) t1447.length co14) ∧ w'.cell? ⟨gb1441, 0, none⟩ = some (.slice (some ad1453) l0_0.length c0_0) ∧ w'.cell? ⟨gb1441, 1, none⟩ = some (.int .i64 a0_1) ∧ w'.cell? ⟨gb1441, 2, none⟩ = some (.slice A0_2 l0_2.length c0_2) ∧ w'.cell? (ad1453.add ((a0_1).toNat * 4)) = some (.int .i64 ((rd_T96 l0_0 a0_1).f0)) ∧ w'.cell? ⟨(ad1453.add ((a0_1).toNat * 4)).block, (ad1453.add ((a0_1).toNat * 4)).off + 1, none⟩ = some (.int .i64 ((rd_T96 l0_0 a0_1).f1)) ∧ w'.cell? ⟨(ad1453.add ((a0_1).toNat * 4)).block, (ad1453.add ((a0_1).toNat * 4)).off + 2, none⟩ = some (.int .i64 ((rd_T96 l0_0 a0_1).f2)) ∧ w'.cell? ⟨(ad1453.add ((a0_1).toNat * 4)).block, (ad1453.add ((a0_1).toNat * 4)).off + 3, none⟩ = some (.int .i64 ((rd_T96 l0_0 a0_1).f3))) (ds := [11]) #[false, false, false, false, false, false, false, false, false, false, false, false] (by kernel_rfl) rfl rfl ⟨(blk_cell BK1450.out 0).trans rfl, (blk_cell BK1450.out 1).trans rfl, (blk_cell BK1450.out 2).trans rfl, (blk_cell BK1441.out 0).trans rfl, (blk_cell BK1441.out 1).trans rfl, (blk_cell BK1441.out 2).trans rfl, ((HB.out.cell (World.block_lt_of_cell? w _ hw1453_0)).trans hw1453_0), ((HB.out.cell (World.block_lt_of_cell? w _ hw1453_1)).trans hw1453_1), ((HB.out.cell (World.block_lt_of_cell? w _ hw1453_2)).trans hw1453_2), ((HB.out.cell (World.block_lt_of_cell? w _ hw1453_3)).trans hw1453_3)⟩ (fun hHeld => ?_); refine with_tabW impl_WorkStep.tab7 impl_WorkStep.bits7 (fun HT_ HW_ => ?_)
                  generalize w49.drew = w50 at HO_1451000 HO_1451002 BK1441 BK1442 BK1450 HB GG45 HQ51 hf45_0 hx1453_0 hx1453_1 hx1453_2 hx1453_3 hx45_0 hHeld ⊢
                  refine pure_ (i := 0) (N := some 27) (v := ?_) (a' := ?_) #[true, false, false, false, false, false, false, false, false, false, false, false] rfl rfl (any_of HT_.out (by kernel_rfl)) (fun _ _ _ h => h) (Or.inl ⟨by rfl, ?_⟩) ?_ ?_
                  rotate_left
                  · intro w'
                    go_simp
                    with_reducible rfl
                  rotate_left
                  · simp only [Act.put, List.setIfInBounds_toArray, List.set_cons_zero, List.set_cons_succ, i64_w, i32_w]
                    rfl
                  refine pure_ (i := 2) (N := some 29) (v := ?_) (a' := ?_) #[true, false, true, false, false, false, false, false, false, false, false, false] rfl rfl (any_of HT_.out (by kernel_rfl)) (fun _ _ _ h => h) (Or.inl ⟨by rfl, ?_⟩) ?_ ?_
                  rotate_left
                  · intro w'
                    go_simp
                    with_reducible rfl
                  rotate_left
                  · simp only [Act.put, List.setIfInBounds_toArray, List.set_cons_zero, List.set_cons_succ, i64_w, i32_w]
                    rfl
                  refine pure_ (i := 4) (N := some 31) (v := ?_) (a' := ?_) #[true, false, true, false, true, false, false, false, false, false, false, false] rfl rfl (any_of HT_.out (by kernel_rfl)) (fun _ _ _ h => h) (Or.inl ⟨by rfl, ?_⟩) ?_ ?_
                  rotate_left
                  · intro w'
                    go_simp
                    with_reducible rfl
                  rotate_left
                  · simp only [Act.put, List.setIfInBounds_toArray, List.set_cons_zero, List.set_cons_succ, i64_w, i32_w]
                    rfl
                  refine pure_ (i := 9) (N := some 36) (v := ?_) (a' := ?_) #[true, false, true, false, true, false, false, false, false, true, false, false] rfl rfl (any_of HT_.out (by kernel_rfl)) (fun _ _ _ h => h) (Or.inl ⟨by rfl, ?_⟩) ?_ ?_
                  rotate_left
                  · intro w'
                    go_simp
                    with_reducible rfl
                  rotate_left
                  · simp only [Act.put, List.setIfInBounds_toArray, List.set_cons_zero, List.set_cons_succ, i64_w, i32_w]
                    rfl
                  refine take_ (i := 1) (N := some 28) (v := ?_) (a' := ?_) #[true, true, true, false, true, false, false, false, false, true, false, false] rfl rfl (take_ofW HT_.out HW_.out (by kernel_rfl)) (fun _ _ _ h => h) (Or.inl ⟨by rfl, ?_⟩) hHeld ?_ ?_
                  rotate_left
                  · rintro w' ⟨s0, s1, s2, s3, s4, s5, s6, s7, s8, s9⟩
                    go_simp
                    with_reducible rfl
                  rotate_left
                  · simp only [Act.put, List.setIfInBounds_toArray, List.set_cons_zero, List.set_cons_succ, i64_w, i32_w]
                    rfl
                  refine take_ (i := 3) (N := some 30) (v := ?_) (a' := ?_) #[true, true, true, true, true, false, false, false, false, true, false, false] rfl rfl (take_ofW HT_.out HW_.out (by kernel_rfl)) (fun _ _ _ h => h) (Or.inl ⟨by rfl, ?_⟩) hHeld ?_ ?_
                  rotate_left
                  · rintro w' ⟨s0, s1, s2, s3, s4, s5, s6, s7, s8, s9⟩
                    go_simp
                    with_reducible rfl
                  rotate_left
                  · simp only [Act.put, List.setIfInBounds_toArray, List.set_cons_zero, List.set_cons_succ, i64_w, i32_w]
                    rfl
                  refine take_ (i := 5) (N := some 32) (v := ?_) (a' := ?_) #[true, true, true, true, true, true, false, false, false, true, false, false] rfl rfl (take_ofW HT_.out HW_.out (by kernel_rfl)) (fun _ _ _ h => h) (Or.inl ⟨by rfl, ?_⟩) hHeld ?_ ?_
                  rotate_left
                  · rintro w' ⟨s0, s1, s2, s3, s4, s5, s6, s7, s8, s9⟩
                    go_simp
                    with_reducible rfl
                  rotate_left
                  · simp only [Act.put, List.setIfInBounds_toArray, List.set_cons_zero, List.set_cons_succ, i64_w, i32_w]
                    rfl
                  refine pure_ (i := 6) (N := some 33) (v := ?_) (a' := ?_) #[true, true, true, true, true, true, true, false, false, true, false, false] rfl rfl (any_of HT_.out (by kernel_rfl)) (fun _ _ _ h => h) (Or.inl ⟨by rfl, ?_⟩) ?_ ?_
                  rotate_left
                  · intro w'
                    go_simp
                    with_reducible rfl
                  rotate_left
                  · simp only [Act.put, List.setIfInBounds_toArray, List.set_cons_zero, List.set_cons_succ, i64_w, i32_w]
                    rfl
                  refine pure_ (i := 7) (N := some 34) (v := ?_) (a' := ?_) #[true, true, true, true, true, true, true, true, false, true, false, false] rfl rfl (any_of HT_.out (by kernel_rfl)) (fun _ _ _ h => h) (Or.inl ⟨by rfl, ?_⟩) ?_ ?_
                  rotate_left
                  · intro w'
                    go_simp
                    with_reducible rfl
                  rotate_left
                  · simp only [Act.put, List.setIfInBounds_toArray, List.set_cons_zero, List.set_cons_succ, i64_w, i32_w]
                    rfl
                  refine take_ (i := 8) (N := some 35) (v := ?_) (a' := ?_) #[true, true, true, true, true, true, true, true, true, true, false, false] rfl rfl (take_ofW HT_.out HW_.out (by kernel_rfl)) (fun _ _ _ h => h) (Or.inl ⟨by rfl, ?_⟩) hHeld ?_ ?_
                  rotate_left
                  · rintro w' ⟨s0, s1, s2, s3, s4, s5, s6, s7, s8, s9⟩
                    go_simp
                    with_reducible rfl
                  rotate_left
                  · simp only [Act.put, List.setIfInBounds_toArray, List.set_cons_zero, List.set_cons_succ, i64_w, i32_w]
                    rfl
                  refine pure_ (i := 10) (N := some 37) (v := ?_) (a' := ?_) #[true, true, true, true, true, true, true, true, true, true, true, false] rfl rfl (any_of HT_.out (by kernel_rfl)) (fun _ _ _ h => h) (Or.inl ⟨by rfl, ?_⟩) ?_ ?_
                  rotate_left
                  · intro w'
                    go_simp
                    with_reducible rfl
                  rotate_left
                  · simp only [Act.put, List.setIfInBounds_toArray, List.set_cons_zero, List.set_cons_succ, i64_w, i32_w]
                    rfl
                  refine last_ (i := 11) (N := none) #[true, true, true, true, true, true, true, true, true, true, true, true] rfl rfl (one_of HT_.out (by kernel_rfl)) (by decide) (fun K hK => ?_)
                  refine skip_ (w1 := ?_) (by rfl) rfl ?_ ?_
                  rotate_left
                  · go_simp
                    rfl
                  refine hK.out _ _ ?_
                  clear hK K
                  refine done_ (done_of HT_.out (by kernel_rfl)) ?_
                  have n0_ : Aside0 (Kd.R k96 96 (w50.setCell ⟨go45, (((rd_T96 l0_0 a0_1).f1) : Int).toNat, none⟩ (.int .i64 t1452)) w.heap.size (fun _ => True) (.slice Ao10 t1443.length co10) t1443) := ⟨by (with_reducible repeat (first | apply Kd.R_alloc | apply Kd.R_drewN | apply Kd.R_drew)); exact Kd.R_mono (Kd.R_far (p := ⟨go45, (((rd_T96 l0_0 a0_1).f1) : Int).toNat, none⟩) (Kd.R_types HO_1451000.out GG45.out (by decide)) (fun _ hk => hk.2) (.int .i64 t1452)) (fun _ hk => trivial)⟩
                  have n1_ : Aside0 (Kd.R (Kd.int .i64) 3 (w50.setCell ⟨go45, (((rd_T96 l0_0 a0_1).f1) : Int).toNat, none⟩ (.int .i64 t1452)) w.heap.size (fun _ => True) (.slice (some ⟨go45, 0, none⟩) t1447.length co14) y1454) := ⟨by (with_reducible repeat (first | apply Kd.R_alloc | apply Kd.R_drewN | apply Kd.R_drew)); exact HQ51.out⟩
                  have n2_ : Aside0 ((w50.setCell ⟨go45, (((rd_T96 l0_0 a0_1).f1) : Int).toNat, none⟩ (.int .i64 t1452)).heap[gb1441]? = some (.cells #[.slice (some ad1453) l0_0.length c0_0, .int .i64 a0_1, .slice A0_2 l0_2.length c0_2] 33 (0, 0))) := ⟨by (with_reducible repeat (first | refine blk_drewN ?_ _ | refine blk_drew ?_ | refine blk_alloc ?_ _)); refine blk_far ?_ (by have h_ := Kd.R_ne HO_1451002.out BK1441.out (by decide); intro e_; exact h_ (by rw [e_]; rfl)) _; (with_reducible repeat (first | refine blk_drewN ?_ _ | refine blk_drew ?_ | refine blk_alloc ?_ _)); exact BK1441.out⟩
                  have n3_ : Aside0 ((w50.setCell ⟨go45, (((rd_T96 l0_0 a0_1).f1) : Int).toNat, none⟩ (.int .i64 t1452)).heap[gb1442]? = some (.cells #[.slice none 0 0, .int .i64 0, .slice none 0 0] 33 (0, 0))) := ⟨by (with_reducible repeat (first | refine blk_drewN ?_ _ | refine blk_drew ?_ | refine blk_alloc ?_ _)); refine blk_far ?_ (by have h_ := Kd.R_ne HO_1451002.out BK1442.out (by decide); intro e_; exact h_ (by rw [e_]; rfl)) _; (with_reducible repeat (first | refine blk_drewN ?_ _ | refine blk_drew ?_ | refine blk_alloc ?_ _)); exact BK1442.out⟩
                  have n4_ : Aside0 ((w50.setCell ⟨go45, (((rd_T96 l0_0 a0_1).f1) : Int).toNat, none⟩ (.int .i64 t1452)).heap[gb1450]? = some (.cells #[.slice Ao10 t1443.length co10, .int .i64 t1446, .slice (some ⟨go45, 0, none⟩) t1447.length co14] 33 (0, 0))) := ⟨by (with_reducible repeat (first | refine blk_drewN ?_ _ | refine blk_drew ?_ | refine blk_alloc ?_ _)); refine blk_far ?_ (by have h_ := Kd.R_ne HO_1451002.out BK1450.out (by decide); intro e_; exact h_ (by rw [e_]; rfl)) _; (with_reducible repeat (first | refine blk_drewN ?_ _ | refine blk_drew ?_ | refine blk_alloc ?_ _)); exact BK1450.out⟩
                  have n5_ : Aside0 (Below w.heap.size w (w50.setCell ⟨go45, (((rd_T96 l0_0 a0_1).f1) : Int).toNat, none⟩ (.int .i64 t1452))) := ⟨oB HB⟩
                  (try clear HO_1451000)
                  (try clear HO_1451002)
                  (try clear BK1441)
                  (try clear BK1442)
                  (try clear BK1450)
                  (try clear HB)
                  generalize (w50.setCell ⟨go45, (((rd_T96 l0_0 a0_1).f1) : Int).toNat, none⟩ (.int .i64 t1452)) = w52 at n0_ n1_ n2_ n3_ n4_ n5_ ⊢
                  have HO_1451000 := n0_
                  have HO_1451002 := n1_
                  have BK1441 := n2_
                  have BK1442 := n3_
                  have BK1450 := n4_
                  have HB := n5_
                  clear n0_ n1_ n2_ n3_ n4_ n5_
                  have hnb53 := NB1450_1442.out
                  have hnc53 := NB1442_1450.out
                  have hcz54_0 : w52.cell? ⟨gb1450, 0, none⟩ = some (.slice Ao10 t1443.length co10) := (blk_cell BK1450.out 0).trans rfl
                  have hcz54_1 : w52.cell? ⟨gb1450, 1, none⟩ = some (.int .i64 t1446) := (blk_cell BK1450.out 1).trans rfl
                  have hcz54_2 : w52.cell? ⟨gb1450, 2, none⟩ = some (.slice (some ⟨go45, 0, none⟩) t1447.length co14) := (blk_cell BK1450.out 2).trans rfl
                  have hfz54_0 := blk_frozen BK1450.out 0
                  have hfz54_1 := blk_frozen BK1450.out 1
                  have hfz54_2 := blk_frozen BK1450.out 2
                  have hcz55_0 : w52.cell? ⟨gb1442, 0, none⟩ = some (.slice none 0 0) := (blk_cell BK1442.out 0).trans rfl
                  have hcz55_1 : w52.cell? ⟨gb1442, 1, none⟩ = some (.int .i64 0) := (blk_cell BK1442.out 1).trans rfl
                  have hcz55_2 : w52.cell? ⟨gb1442, 2, none⟩ = some (.slice none 0 0) := (blk_cell BK1442.out 2).trans rfl
                  have hfz55_0 := blk_frozen BK1442.out 0
                  have hfz55_1 := blk_frozen BK1442.out 1
                  have hfz55_2 := blk_frozen BK1442.out 2
                  try go_wp2
                  refine bodyPost_ret (results_ct rfl _ _ gb1442 33 #[.slice Ao10 t1443.length co10, .int .i64 (wrap64 (t1446 + 1)), .slice (some ⟨go45, 0, none⟩) t1447.length co14] (0, 0) _ rfl (by (with_reducible repeat (first | refine blk_drewN ?_ _ | refine blk_drew ?_ | refine blk_alloc ?_ _)); refine blk_put (cs := #[.slice Ao10 t1443.length co10, .int .i64 (wrap64 (t1446 + 1)), .slice none 0 0]) ?_ 2 _ rfl; (with_reducible repeat (first | refine blk_drewN ?_ _ | refine blk_drew ?_ | refine blk_alloc ?_ _)); refine blk_put (cs := #[.slice Ao10 t1443.length co10, .int .i64 0, .slice none 0 0]) ?_ 1 _ rfl; (with_reducible repeat (first | refine blk_drewN ?_ _ | refine blk_drew ?_ | refine blk_alloc ?_ _)); refine blk_put (cs := #[.slice none 0 0, .int .i64 0, .slice none 0 0]) ?_ 0 _ rfl; (with_reducible repeat (first | refine blk_drewN ?_ _ | refine blk_drew ?_ | refine blk_alloc ?_ _)); refine blk_far ?_ NB1442_1450.out _; (with_reducible repeat (first | refine blk_drewN ?_ _ | refine blk_drew ?_ | refine blk_alloc ?_ _)); exact BK1442.out) Try.underlying33 rfl (by kernel_rfl)) rfl ?_
                  exact ⟨_, _, by first | rfl | (simp [errW_none, errW_some] <;> rfl) | (simp [*, errW_none, errW_some] <;> rfl), by (with_reducible repeat (first | apply Kd.R_alloc | apply Kd.R_drewN | apply Kd.R_drew)); exact Kd.R_mono (Kd.R_far (p := ⟨gb1442, 2, none⟩) (Kd.R_far (p := ⟨gb1442, 1, none⟩) (Kd.R_far (p := ⟨gb1442, 0, none⟩) (Kd.R_far (p := ⟨gb1450, 1, none⟩) (Kd.R_types (Kd.R_types HO_1451000.out BK1450.out (by decide)) BK1442.out (by decide)) (fun _ hk => hk.1.2) (.int .i64 (wrap64 (t1446 + 1)))) (fun _ hk => hk.2) (.slice Ao10 t1443.length co10)) (fun _ hk => hk.2) (.int .i64 (wrap64 (t1446 + 1)))) (fun _ hk => hk.2) (.slice (some ⟨go45, 0, none⟩) t1447.length co14)) (fun _ hk => trivial), by (with_reducible repeat (first | apply Kd.R_alloc | apply Kd.R_drewN | apply Kd.R_drew)); exact Kd.R_mono (Kd.R_far (p := ⟨gb1442, 2, none⟩) (Kd.R_far (p := ⟨gb1442, 1, none⟩) (Kd.R_far (p := ⟨gb1442, 0, none⟩) (Kd.R_far (p := ⟨gb1450, 1, none⟩) (Kd.R_types (Kd.R_types HO_1451002.out BK1450.out (by decide)) BK1442.out (by decide)) (fun _ hk => hk.1.2) (.int .i64 (wrap64 (t1446 + 1)))) (fun _ hk => hk.2) (.slice Ao10 t1443.length co10)) (fun _ hk => hk.2) (.int .i64 (wrap64 (t1446 + 1)))) (fun _ hk => hk.2) (.slice (some ⟨go45, 0, none⟩) t1447.length co14)) (fun _ hk => trivial), oB HB⟩
                · rw [if_neg c44] at H
                  exact absurd H (by simp)
              · rw [if_neg c43] at H
                exact absurd H (by simp)
            · rw [if_neg c42] at H
              exact absurd H (by simp)
          · rw [if_neg c41] at H
            exact absurd H (by simp)
end Go.Proofs.Ytbkkpllejgedcaa.P


namespace Go.Proofs.Ytbkkpllejgedcaa.P
open Go.RowKit Go.Proofs.YtbkkpllejgedcaaW.PrintWords Go.Proofs.YtbkkpllejgedcaaW.PrintLast Go.Proofs.YtbkkpllejgedcaaW.PrintMore
attribute [local go_sem] max2_int min2_int max_two min_two max_three min_three max_four min_four
set_option linter.unusedVariables false
set_option linter.unusedSimpArgs false
def impl_MendStep.f (k : Nat) (l0_0 : List (S96)) (a0_1 : Int) (l0_2 : List Int) : Option ((List (S96)) × Int × List Int × Bool) := (impl_copyWork.f l0_0 a0_1 l0_2).bind fun bt1457 => ((impl_WrongSteps.f k l0_0 a0_1 l0_2).bind fun t1465 => (if (t1465.length : Int) = 0 then (some (bt1457.1, bt1457.2.1, bt1457.2.2, false)) else (if 0 < (t1465.length : Int) then ((impl_tunedBy.f k l0_0 a0_1 l0_2 (rd t1465 0)).bind fun t1469 => (if t1469 = 0 then (some (bt1457.1, bt1457.2.1, bt1457.2.2, false)) else (if 0 ≤ (rd t1465 0) then (if (rd t1465 0) < (l0_0.length : Int) then (if 0 ≤ ((rd_T96 l0_0 (rd t1465 0)).f1) then (if ((rd_T96 l0_0 (rd t1465 0)).f1) < (bt1457.2.2.length : Int) then (some (bt1457.1, bt1457.2.1, (bt1457.2.2.set (((rd_T96 l0_0 (rd t1465 0)).f1) : Int).toNat t1469), true)) else (none)) else (none)) else (none)) else (none)))) else (none))))
def impl_MendStep.T8 : Bool × List (List Nat × List Nat) := (true, [([], []), ([0], [0]), ([], []), ([2], [2]), ([], []), ([4], [4]), ([5], [5]), ([3, 6], [3, 6]), ([7], [7]), ([8], [8]), ([], []), ([1, 9, 0, 1, 2, 3, 4, 5, 6, 7, 8, 9, 10], [1, 9]), ([11, 10, 0, 1, 2, 3, 4, 5, 6, 7, 8, 9, 10], [10, 11])])
def impl_MendStep.B8 : List Nat := [0, 1, 0, 4, 0, 16, 48, 124, 252, 508, 0, 2047, 4095]
theorem impl_MendStep.tab8 : rtab .any (opsOf Try.f90 8) = impl_MendStep.T8 := by kernel_rfl
theorem impl_MendStep.bits8 : waitsOk impl_MendStep.T8.2 impl_MendStep.B8 = true := by kernel_rfl
set_option maxHeartbeats 8000000 in
set_option maxRecDepth 100000 in
theorem impl_MendStep.calls (k : Nat) (A0_0 : Option Addr) (c0_0 : Nat) (l0_0 : List (S96)) (a0_1 : Int) (A0_2 : Option Addr) (c0_2 : Nat) (l0_2 : List Int) (r1 : List (S96)) (r2 : Int) (r3 : List Int) (r4 : Bool) (w : World) (hr0_0 : Kd.C k96 w A0_0 l0_0.length l0_0) (hc0_0 : l0_0.length ≤ c0_0) (hr0_2 : Kd.C (Kd.int .i64) w A0_2 l0_2.length l0_2) (hc0_2 : l0_2.length ≤ c0_2) (h : impl_MendStep.f k l0_0 a0_1 l0_2 = some (r1, r2, r3, r4)) :
    Calls Try.prog 90 #[.agg #[.slice A0_0 l0_0.length c0_0, .int .i64 a0_1, .slice A0_2 l0_2.length c0_2]] w fun e w' => ∃ v0_ v2_ : Value, e = .returned (.tuple #[.agg #[v0_, .int .i64 r2, v2_], .bool r4]) ∧ Kd.R k96 96 w' w.heap.size (fun _ => True) v0_ r1 ∧ Kd.R (Kd.int .i64) 3 w' w.heap.size (fun _ => True) v2_ r3 ∧ Below w.heap.size w w' := by
  have hu33 := Try.underlying33
  have HR0_0 := Aside0.mk hr0_0
  have HC0_0 := Aside0.mk hc0_0
  clear hr0_0 hc0_0
  have HR0_2 := Aside0.mk hr0_2
  have HC0_2 := Aside0.mk hc0_2
  clear hr0_2 hc0_2
  have HB := Aside0.mk (Below.refl w.heap.size w)
  have H : ((impl_copyWork.f l0_0 a0_1 l0_2).bind fun bt1457 => ((impl_WrongSteps.f k l0_0 a0_1 l0_2).bind fun t1465 => (if (t1465.length : Int) = 0 then (some (bt1457.1, bt1457.2.1, bt1457.2.2, false)) else (if 0 < (t1465.length : Int) then ((impl_tunedBy.f k l0_0 a0_1 l0_2 (rd t1465 0)).bind fun t1469 => (if t1469 = 0 then (some (bt1457.1, bt1457.2.1, bt1457.2.2, false)) else (if 0 ≤ (rd t1465 0) then (if (rd t1465 0) < (l0_0.length : Int) then (if 0 ≤ ((rd_T96 l0_0 (rd t1465 0)).f1) then (if ((rd_T96 l0_0 (rd t1465 0)).f1) < (bt1457.2.2.length : Int) then (some (bt1457.1, bt1457.2.1, (bt1457.2.2.set (((rd_T96 l0_0 (rd t1465 0)).f1) : Int).toNat t1469), true)) else (none)) else (none)) else (none)) else (none)))) else (none))))) = some (r1, r2, r3, r4) := h
  clear h
  replace H := Option.bind_eq_some_iff.mp H
  obtain ⟨⟨t1457, t1460, t1461⟩, A20, H⟩ := H
  (try dsimp only at H)
  have A2 := Aside0.mk A20
  clear A20
  replace H := Option.bind_eq_some_iff.mp H
  obtain ⟨t1465, A30, H⟩ := H
  (try dsimp only at H)
  have A3 := Aside0.mk A30
  clear A30
  by_cases c4 : (t1465.length : Int) = 0
  · rw [if_pos c4] at H
    have c4b0 : ((t1465.length : Int) == 0) = true := beq_iff_eq.mpr c4
    have c4b1 : ((t1465.length : Int) != 0) = false := bne_eq_false_iff_eq.mpr c4
    clear c4
    simp only [Option.some.injEq, Prod.mk.injEq] at H
    obtain ⟨rfl, rfl, rfl, rfl⟩ := H
    go_enter Try.func90, Try.ntmps90
    go_wp2_with (first | ((with_reducible refine gate_dst (N := 1) rfl ?_); refine box_event ?hg (N := 1) ?hd (cs := #[.slice A0_0 l0_0.length c0_0, .int .i64 a0_1, .slice A0_2 l0_2.length c0_2]) (t := 33) ?hr ?_; (case hd => rfl); (case hg => rfl); (case hr => first | (go_simp; done) | (go_simp; rfl)); intro gb1455 hg w5 hbox hb; have n0_ := Aside0.mk (below_step (oB HB) hb); have n1_ := Aside0.mk (hbox); have n2_ := Aside0.mk ((by rw [hg]; exact (below_size (oB HB)) : w.heap.size ≤ gb1455)); have n3_ := Aside0.mk ((by rw [hg]; exact (below_size (oB HB)) : w.heap.size ≤ gb1455)); clear HB; have HB := n0_; have BK1455 := n1_; have GW1455 := n2_; have GE1455 := n3_; clear n0_ n1_ n2_ n3_; clear hb hbox hg) | ((with_reducible refine gate_dst (N := 2) rfl ?_); refine box_event ?hg (N := 2) ?hd (cs := #[.slice none 0 0, .int .i64 0, .slice none 0 0]) (t := 33) ?hr ?_; (case hd => rfl); (case hg => rfl); (case hr => first | (go_simp; done) | (go_simp; rfl)); intro gb1456 hg w6 hbox hb; have n0_ := Aside0.mk (blk_below (g := gb1455) (o := .cells #[.slice A0_0 l0_0.length c0_0, .int .i64 a0_1, .slice A0_2 l0_2.length c0_2] 33 (0, 0)) (oK BK1455) hb); have n1_ := Aside0.mk (below_step (oB HB) hb); have n2_ := Aside0.mk (hbox); have n3_ := Aside0.mk ((by rw [hg]; exact (below_size (oB HB)) : w.heap.size ≤ gb1456)); have n4_ := Aside0.mk ((by rw [hg]; exact (below_size (oB HB)) : w.heap.size ≤ gb1456)); have n5_ := Aside0.mk ((by rw [hg]; exact Nat.ne_of_lt (blk_lt (g := gb1455) (o := .cells #[.slice A0_0 l0_0.length c0_0, .int .i64 a0_1, .slice A0_2 l0_2.length c0_2] 33 (0, 0)) (oK BK1455)) : gb1455 ≠ gb1456)); have n6_ := Aside0.mk ((by rw [hg]; exact Nat.ne_of_gt (blk_lt (g := gb1455) (o := .cells #[.slice A0_0 l0_0.length c0_0, .int .i64 a0_1, .slice A0_2 l0_2.length c0_2] 33 (0, 0)) (oK BK1455)) : gb1456 ≠ gb1455)); clear BK1455; clear HB; have BK1455 := n0_; have HB := n1_; have BK1456 := n2_; have GW1456 := n3_; have GE1456 := n4_; have NB1455_1456 := n5_; have NB1456_1455 := n6_; clear n0_ n1_ n2_ n3_ n4_ n5_ n6_; clear hb hbox hg; have hnb7 := NB1455_1456.out; have hnc7 := NB1456_1455.out; have hcz8_0 : w6.cell? ⟨gb1455, 0, none⟩ = some (.slice A0_0 l0_0.length c0_0) := (blk_cell BK1455.out 0).trans rfl; have hcz8_1 : w6.cell? ⟨gb1455, 1, none⟩ = some (.int .i64 a0_1) := (blk_cell BK1455.out 1).trans rfl; have hcz8_2 : w6.cell? ⟨gb1455, 2, none⟩ = some (.slice A0_2 l0_2.length c0_2) := (blk_cell BK1455.out 2).trans rfl; have hfz8_0 := blk_frozen BK1455.out 0; have hfz8_1 := blk_frozen BK1455.out 1; have hfz8_2 := blk_frozen BK1455.out 2) | ((with_reducible refine gate_callee (f := 119) rfl ?_); refine goesL_ (some 8) rfl rfl Try.func119 (by kernel_rfl) rfl #[.agg #[.slice A0_0 l0_0.length c0_0, .int .i64 a0_1, .slice A0_2 l0_2.length c0_2]] rfl (by (try simp only [List.map_toArray, List.map_cons, List.map_nil]); first | done | rfl | (simp only [List.length_drop, List.length_take]; rfl)) ?_; (with_reducible refine (impl_copyWork.calls _ _ l0_0 a0_1 _ _ l0_2 t1457 t1460 t1461 _ ?side1 ?side2 ?side3 ?side4 A2.out).mono ?_); (case side1 => exact oc_ HR0_0.out); (case side2 => exact HC0_0.out); (case side3 => exact oc_ HR0_2.out); (case side4 => exact HC0_2.out); rintro e w9 ⟨v1458, v1462, rfl, ho0, ho1, hb⟩; refine ⟨_, rfl, ?_⟩; have n0_ := Aside0.mk (Kd.R_lower ho0 (below_size (oB HB))); have n1_ := Aside0.mk (Kd.R_lower ho1 (below_size (oB HB))); have n2_ := Aside0.mk (blk_below (g := gb1455) (o := .cells #[.slice A0_0 l0_0.length c0_0, .int .i64 a0_1, .slice A0_2 l0_2.length c0_2] 33 (0, 0)) (oK BK1455) hb); have n3_ := Aside0.mk (blk_below (g := gb1456) (o := .cells #[.slice none 0 0, .int .i64 0, .slice none 0 0] 33 (0, 0)) (oK BK1456) hb); have n4_ := Aside0.mk (below_step (oB HB) hb); clear BK1455; clear BK1456; clear HB; have HO1459 := n0_; have HO1463 := n1_; have BK1455 := n2_; have BK1456 := n3_; have HB := n4_; clear n0_ n1_ n2_ n3_ n4_; (try clear hb); (try clear hb2); (try clear hk); (try clear hi); (try clear ho0); (try clear ho1)) | ((with_reducible refine gate_dst (N := 4) rfl ?_); refine box_event ?hg (N := 4) ?hd (cs := #[.slice none 0 0, .int .i64 0, .slice none 0 0]) (t := 33) ?hr ?_; (case hd => rfl); (case hg => rfl); (case hr => first | (go_simp; done) | (go_simp; rfl)); intro gb1464 hg w10 hbox hb; have n0_ := Aside0.mk (Kd.R_below (oR HO1459) hb); have n1_ := Aside0.mk (Kd.R_below (oR HO1463) hb); have n2_ := Aside0.mk (blk_below (g := gb1455) (o := .cells #[.slice A0_0 l0_0.length c0_0, .int .i64 a0_1, .slice A0_2 l0_2.length c0_2] 33 (0, 0)) (oK BK1455) hb); have n3_ := Aside0.mk (blk_below (g := gb1456) (o := .cells #[.slice none 0 0, .int .i64 0, .slice none 0 0] 33 (0, 0)) (oK BK1456) hb); have n4_ := Aside0.mk (below_step (oB HB) hb); have n5_ := Aside0.mk (hbox); have n6_ := Aside0.mk ((by rw [hg]; exact (below_size (oB HB)) : w.heap.size ≤ gb1464)); have n7_ := Aside0.mk ((by rw [hg]; exact (below_size (oB HB)) : w.heap.size ≤ gb1464)); have n8_ := Aside0.mk ((by rw [hg]; exact Nat.ne_of_lt (blk_lt (g := gb1455) (o := .cells #[.slice A0_0 l0_0.length c0_0, .int .i64 a0_1, .slice A0_2 l0_2.length c0_2] 33 (0, 0)) (oK BK1455)) : gb1455 ≠ gb1464)); have n9_ := Aside0.mk ((by rw [hg]; exact Nat.ne_of_gt (blk_lt (g := gb1455) (o := .cells #[.slice A0_0 l0_0.length c0_0, .int .i64 a0_1, .slice A0_2 l0_2.length c0_2] 33 (0, 0)) (oK BK1455)) : gb1464 ≠ gb1455)); have n10_ := Aside0.mk ((by rw [hg]; exact Nat.ne_of_lt (blk_lt (g := gb1456) (o := .cells #[.slice none 0 0, .int .i64 0, .slice none 0 0] 33 (0, 0)) (oK BK1456)) : gb1456 ≠ gb1464)); have n11_ := Aside0.mk ((by rw [hg]; exact Nat.ne_of_gt (blk_lt (g := gb1456) (o := .cells #[.slice none 0 0, .int .i64 0, .slice none 0 0] 33 (0, 0)) (oK BK1456)) : gb1464 ≠ gb1456)); clear HO1459; clear HO1463; clear BK1455; clear BK1456; clear HB; have HO1459 := n0_; have HO1463 := n1_; have BK1455 := n2_; have BK1456 := n3_; have HB := n4_; have BK1464 := n5_; have GW1464 := n6_; have GE1464 := n7_; have NB1455_1464 := n8_; have NB1464_1455 := n9_; have NB1456_1464 := n10_; have NB1464_1456 := n11_; clear n0_ n1_ n2_ n3_ n4_ n5_ n6_ n7_ n8_ n9_ n10_ n11_; clear hb hbox hg; obtain ⟨Ao11, co11, eo11⟩ := Kd.R_slice HO1459.out; subst eo11; have hnb12 := NB1464_1455.out; have hnc12 := NB1455_1464.out; have hnb13 := NB1464_1456.out; have hnc13 := NB1456_1464.out; have hcz14_0 : w10.cell? ⟨gb1464, 0, none⟩ = some (.slice none 0 0) := (blk_cell BK1464.out 0).trans rfl; have hcz14_1 : w10.cell? ⟨gb1464, 1, none⟩ = some (.int .i64 0) := (blk_cell BK1464.out 1).trans rfl; have hcz14_2 : w10.cell? ⟨gb1464, 2, none⟩ = some (.slice none 0 0) := (blk_cell BK1464.out 2).trans rfl; have hfz14_0 := blk_frozen BK1464.out 0; have hfz14_1 := blk_frozen BK1464.out 1; have hfz14_2 := blk_frozen BK1464.out 2; obtain ⟨Ao15, co15, eo15⟩ := Kd.R_slice HO1463.out; subst eo15; have hcz16_0 : w10.cell? ⟨gb1455, 0, none⟩ = some (.slice A0_0 l0_0.length c0_0) := (blk_cell BK1455.out 0).trans rfl; have hcz16_1 : w10.cell? ⟨gb1455, 1, none⟩ = some (.int .i64 a0_1) := (blk_cell BK1455.out 1).trans rfl; have hcz16_2 : w10.cell? ⟨gb1455, 2, none⟩ = some (.slice A0_2 l0_2.length c0_2) := (blk_cell BK1455.out 2).trans rfl; have hfz16_0 := blk_frozen BK1455.out 0; have hfz16_1 := blk_frozen BK1455.out 1; have hfz16_2 := blk_frozen BK1455.out 2) | ((with_reducible refine gate_callee (f := 80) rfl ?_); refine goesL_ (some 10) rfl rfl Try.func80 (by kernel_rfl) rfl #[.agg #[.slice A0_0 l0_0.length c0_0, .int .i64 a0_1, .slice A0_2 l0_2.length c0_2]] rfl (by (try simp only [List.map_toArray, List.map_cons, List.map_nil]); first | done | rfl | (simp only [List.length_drop, List.length_take]; rfl)) ?_; (with_reducible refine (impl_WrongSteps.calls k _ _ l0_0 a0_1 _ _ l0_2 t1465 _ ?side1 ?side2 ?side3 ?side4 A3.out).mono ?_); (case side1 => exact Kd.C_below HR0_0.out (oB HB)); (case side2 => exact HC0_0.out); (case side3 => exact Kd.C_below HR0_2.out (oB HB)); (case side4 => exact HC0_2.out); rintro e w17 ⟨v1466, rfl, ho0, hb⟩; refine ⟨_, rfl, ?_⟩; have n0_ := Aside0.mk (Kd.R_below (by (with_reducible repeat (first | apply Kd.R_alloc | apply Kd.R_drewN | apply Kd.R_drew)); exact (Kd.R_mono (Kd.R_far (p := ⟨gb1464, 2, none⟩) (Kd.R_far (p := ⟨gb1464, 1, none⟩) (Kd.R_far (p := ⟨gb1464, 0, none⟩) (Kd.R_types HO1459.out BK1464.out (by decide)) (fun _ hk => hk.2) (.slice Ao11 t1457.length co11)) (fun _ hk => hk.2) (.int .i64 t1460)) (fun _ hk => hk.2) (.slice Ao15 t1461.length co15)) (fun _ h_ => h_.1))) hb); have n1_ := Aside0.mk (Kd.R_elder' (by (with_reducible repeat (first | apply Kd.R_alloc | apply Kd.R_drewN | apply Kd.R_drew)); exact (Kd.R_mono (Kd.R_far (p := ⟨gb1464, 2, none⟩) (Kd.R_far (p := ⟨gb1464, 1, none⟩) (Kd.R_far (p := ⟨gb1464, 0, none⟩) (Kd.R_types HO1463.out BK1464.out (by decide)) (fun _ hk => hk.2) (.slice Ao11 t1457.length co11)) (fun _ hk => hk.2) (.int .i64 t1460)) (fun _ hk => hk.2) (.slice Ao15 t1461.length co15)) (fun _ h_ => h_.1))) (Kd.R_base ho0) hb); have n2_ := Aside0.mk (Kd.R_lower (Kd.R_new' ho0 (Kd.R_lt (by (with_reducible repeat (first | apply Kd.R_alloc | apply Kd.R_drewN | apply Kd.R_drew)); exact (Kd.R_mono (Kd.R_far (p := ⟨gb1464, 2, none⟩) (Kd.R_far (p := ⟨gb1464, 1, none⟩) (Kd.R_far (p := ⟨gb1464, 0, none⟩) (Kd.R_types HO1463.out BK1464.out (by decide)) (fun _ hk => hk.2) (.slice Ao11 t1457.length co11)) (fun _ hk => hk.2) (.int .i64 t1460)) (fun _ hk => hk.2) (.slice Ao15 t1461.length co15)) (fun _ h_ => h_.1))))) (below_size (oB HB))); have n3_ := Aside0.mk (blk_below (g := gb1455) (o := .cells #[.slice A0_0 l0_0.length c0_0, .int .i64 a0_1, .slice A0_2 l0_2.length c0_2] 33 (0, 0)) (by (with_reducible repeat (first | refine blk_drewN ?_ _ | refine blk_drew ?_ | refine blk_alloc ?_ _)); refine blk_far ?_ NB1455_1464.out _; (with_reducible repeat (first | refine blk_drewN ?_ _ | refine blk_drew ?_ | refine blk_alloc ?_ _)); refine blk_far ?_ NB1455_1464.out _; (with_reducible repeat (first | refine blk_drewN ?_ _ | refine blk_drew ?_ | refine blk_alloc ?_ _)); refine blk_far ?_ NB1455_1464.out _; (with_reducible repeat (first | refine blk_drewN ?_ _ | refine blk_drew ?_ | refine blk_alloc ?_ _)); exact BK1455.out) hb); have n4_ := Aside0.mk (blk_below (g := gb1456) (o := .cells #[.slice none 0 0, .int .i64 0, .slice none 0 0] 33 (0, 0)) (by (with_reducible repeat (first | refine blk_drewN ?_ _ | refine blk_drew ?_ | refine blk_alloc ?_ _)); refine blk_far ?_ NB1456_1464.out _; (with_reducible repeat (first | refine blk_drewN ?_ _ | refine blk_drew ?_ | refine blk_alloc ?_ _)); refine blk_far ?_ NB1456_1464.out _; (with_reducible repeat (first | refine blk_drewN ?_ _ | refine blk_drew ?_ | refine blk_alloc ?_ _)); refine blk_far ?_ NB1456_1464.out _; (with_reducible repeat (first | refine blk_drewN ?_ _ | refine blk_drew ?_ | refine blk_alloc ?_ _)); exact BK1456.out) hb); have n5_ := Aside0.mk (blk_below (g := gb1464) (o := .cells #[.slice Ao11 t1457.length co11, .int .i64 t1460, .slice Ao15 t1461.length co15] 33 (0, 0)) (by (with_reducible repeat (first | refine blk_drewN ?_ _ | refine blk_drew ?_ | refine blk_alloc ?_ _)); refine blk_put (cs := #[.slice Ao11 t1457.length co11, .int .i64 t1460, .slice none 0 0]) ?_ 2 _ rfl; (with_reducible repeat (first | refine blk_drewN ?_ _ | refine blk_drew ?_ | refine blk_alloc ?_ _)); refine blk_put (cs := #[.slice Ao11 t1457.length co11, .int .i64 0, .slice none 0 0]) ?_ 1 _ rfl; (with_reducible repeat (first | refine blk_drewN ?_ _ | refine blk_drew ?_ | refine blk_alloc ?_ _)); refine blk_put (cs := #[.slice none 0 0, .int .i64 0, .slice none 0 0]) ?_ 0 _ rfl; (with_reducible repeat (first | refine blk_drewN ?_ _ | refine blk_drew ?_ | refine blk_alloc ?_ _)); exact BK1464.out) hb); have n6_ := Aside0.mk (below_step (oB HB) hb); clear HO1459; clear HO1463; clear BK1455; clear BK1456; clear BK1464; clear HB; have HO1459 := n0_; have HO1463 := n1_; have HO1467 := n2_; have BK1455 := n3_; have BK1456 := n4_; have BK1464 := n5_; have HB := n6_; clear n0_ n1_ n2_ n3_ n4_ n5_ n6_; (try clear hb); (try clear hb2); (try clear hk); (try clear hi); (try clear ho0); obtain ⟨Ao18, co18, eo18⟩ := Kd.R_slice HO1467.out; subst eo18; have hcz19_0 : w17.cell? ⟨gb1464, 0, none⟩ = some (.slice Ao11 t1457.length co11) := (blk_cell BK1464.out 0).trans rfl; have hcz19_1 : w17.cell? ⟨gb1464, 1, none⟩ = some (.int .i64 t1460) := (blk_cell BK1464.out 1).trans rfl; have hcz19_2 : w17.cell? ⟨gb1464, 2, none⟩ = some (.slice Ao15 t1461.length co15) := (blk_cell BK1464.out 2).trans rfl; have hfz19_0 := blk_frozen BK1464.out 0; have hfz19_1 := blk_frozen BK1464.out 1; have hfz19_2 := blk_frozen BK1464.out 2; have hcz20_0 : w17.cell? ⟨gb1456, 0, none⟩ = some (.slice none 0 0) := (blk_cell BK1456.out 0).trans rfl; have hcz20_1 : w17.cell? ⟨gb1456, 1, none⟩ = some (.int .i64 0) := (blk_cell BK1456.out 1).trans rfl; have hcz20_2 : w17.cell? ⟨gb1456, 2, none⟩ = some (.slice none 0 0) := (blk_cell BK1456.out 2).trans rfl; have hfz20_0 := blk_frozen BK1456.out 0; have hfz20_1 := blk_frozen BK1456.out 1; have hfz20_2 := blk_frozen BK1456.out 2))
    refine bodyPost_ret (results_ct rfl _ _ gb1456 33 #[.slice Ao11 t1457.length co11, .int .i64 t1460, .slice Ao15 t1461.length co15] (0, 0) _ rfl (by (with_reducible repeat (first | refine blk_drewN ?_ _ | refine blk_drew ?_ | refine blk_alloc ?_ _)); refine blk_put (cs := #[.slice Ao11 t1457.length co11, .int .i64 t1460, .slice none 0 0]) ?_ 2 _ rfl; (with_reducible repeat (first | refine blk_drewN ?_ _ | refine blk_drew ?_ | refine blk_alloc ?_ _)); refine blk_put (cs := #[.slice Ao11 t1457.length co11, .int .i64 0, .slice none 0 0]) ?_ 1 _ rfl; (with_reducible repeat (first | refine blk_drewN ?_ _ | refine blk_drew ?_ | refine blk_alloc ?_ _)); refine blk_put (cs := #[.slice none 0 0, .int .i64 0, .slice none 0 0]) ?_ 0 _ rfl; (with_reducible repeat (first | refine blk_drewN ?_ _ | refine blk_drew ?_ | refine blk_alloc ?_ _)); exact BK1456.out) Try.underlying33 rfl (by kernel_rfl)) rfl ?_
    exact ⟨_, _, by first | rfl | (simp [errW_none, errW_some] <;> rfl) | (simp [*, errW_none, errW_some] <;> rfl), by (with_reducible repeat (first | apply Kd.R_alloc | apply Kd.R_drewN | apply Kd.R_drew)); exact Kd.R_mono (Kd.R_far (p := ⟨gb1456, 2, none⟩) (Kd.R_far (p := ⟨gb1456, 1, none⟩) (Kd.R_far (p := ⟨gb1456, 0, none⟩) (Kd.R_types HO1459.out BK1456.out (by decide)) (fun _ hk => hk.2) (.slice Ao11 t1457.length co11)) (fun _ hk => hk.2) (.int .i64 t1460)) (fun _ hk => hk.2) (.slice Ao15 t1461.length co15)) (fun _ hk => trivial), by (with_reducible repeat (first | apply Kd.R_alloc | apply Kd.R_drewN | apply Kd.R_drew)); exact Kd.R_mono (Kd.R_far (p := ⟨gb1456, 2, none⟩) (Kd.R_far (p := ⟨gb1456, 1, none⟩) (Kd.R_far (p := ⟨gb1456, 0, none⟩) (Kd.R_types HO1463.out BK1456.out (by decide)) (fun _ hk => hk.2) (.slice Ao11 t1457.length co11)) (fun _ hk => hk.2) (.int .i64 t1460)) (fun _ hk => hk.2) (.slice Ao15 t1461.length co15)) (fun _ hk => trivial), oB HB⟩
  · rw [if_neg c4] at H
    have c4b0 : ((t1465.length : Int) == 0) = false := beq_eq_false_iff_ne.mpr c4
    have c4b1 : ((t1465.length : Int) != 0) = true := bne_iff_ne.mpr c4
    have c4b2 : ¬ (t1465 = []) := fun h_ => c4 (by rw [h_]; rfl)
    by_cases c21 : 0 < (t1465.length : Int)
    · rw [if_pos c21] at H
      have c21b0 : decide (0 < (t1465.length : Int)) = true := decide_eq_true c21
      have c21b1 : decide (0 < t1465.length) = true := decide_eq_true (by omega)
      clear c21
      replace H := Option.bind_eq_some_iff.mp H
      obtain ⟨t1469, A220, H⟩ := H
      (try dsimp only at H)
      have A22 := Aside0.mk A220
      clear A220
      by_cases c23 : t1469 = 0
      · rw [if_pos c23] at H
        have c23b0 : (t1469 == 0) = true := beq_iff_eq.mpr c23
        have c23b1 : (t1469 != 0) = false := bne_eq_false_iff_eq.mpr c23
        clear c23
        simp only [Option.some.injEq, Prod.mk.injEq] at H
        obtain ⟨rfl, rfl, rfl, rfl⟩ := H
        go_enter Try.func90, Try.ntmps90
        try go_wp2_with (first | ((with_reducible refine gate_dst (N := 1) rfl ?_); refine box_event ?hg (N := 1) ?hd (cs := #[.slice A0_0 l0_0.length c0_0, .int .i64 a0_1, .slice A0_2 l0_2.length c0_2]) (t := 33) ?hr ?_; (case hd => rfl); (case hg => rfl); (case hr => first | (go_simp; done) | (go_simp; rfl)); intro gb1455 hg w24 hbox hb; have n0_ := Aside0.mk (below_step (oB HB) hb); have n1_ := Aside0.mk (hbox); have n2_ := Aside0.mk ((by rw [hg]; exact (below_size (oB HB)) : w.heap.size ≤ gb1455)); have n3_ := Aside0.mk ((by rw [hg]; exact (below_size (oB HB)) : w.heap.size ≤ gb1455)); clear HB; have HB := n0_; have BK1455 := n1_; have GW1455 := n2_; have GE1455 := n3_; clear n0_ n1_ n2_ n3_; clear hb hbox hg) | ((with_reducible refine gate_dst (N := 2) rfl ?_); refine box_event ?hg (N := 2) ?hd (cs := #[.slice none 0 0, .int .i64 0, .slice none 0 0]) (t := 33) ?hr ?_; (case hd => rfl); (case hg => rfl); (case hr => first | (go_simp; done) | (go_simp; rfl)); intro gb1456 hg w25 hbox hb; have n0_ := Aside0.mk (blk_below (g := gb1455) (o := .cells #[.slice A0_0 l0_0.length c0_0, .int .i64 a0_1, .slice A0_2 l0_2.length c0_2] 33 (0, 0)) (oK BK1455) hb); have n1_ := Aside0.mk (below_step (oB HB) hb); have n2_ := Aside0.mk (hbox); have n3_ := Aside0.mk ((by rw [hg]; exact (below_size (oB HB)) : w.heap.size ≤ gb1456)); have n4_ := Aside0.mk ((by rw [hg]; exact (below_size (oB HB)) : w.heap.size ≤ gb1456)); have n5_ := Aside0.mk ((by rw [hg]; exact Nat.ne_of_lt (blk_lt (g := gb1455) (o := .cells #[.slice A0_0 l0_0.length c0_0, .int .i64 a0_1, .slice A0_2 l0_2.length c0_2] 33 (0, 0)) (oK BK1455)) : gb1455 ≠ gb1456)); have n6_ := Aside0.mk ((by rw [hg]; exact Nat.ne_of_gt (blk_lt (g := gb1455) (o := .cells #[.slice A0_0 l0_0.length c0_0, .int .i64 a0_1, .slice A0_2 l0_2.length c0_2] 33 (0, 0)) (oK BK1455)) : gb1456 ≠ gb1455)); clear BK1455; clear HB; have BK1455 := n0_; have HB := n1_; have BK1456 := n2_; have GW1456 := n3_; have GE1456 := n4_; have NB1455_1456 := n5_; have NB1456_1455 := n6_; clear n0_ n1_ n2_ n3_ n4_ n5_ n6_; clear hb hbox hg; have hnb26 := NB1455_1456.out; have hnc26 := NB1456_1455.out; have hcz27_0 : w25.cell? ⟨gb1455, 0, none⟩ = some (.slice A0_0 l0_0.length c0_0) := (blk_cell BK1455.out 0).trans rfl; have hcz27_1 : w25.cell? ⟨gb1455, 1, none⟩ = some (.int .i64 a0_1) := (blk_cell BK1455.out 1).trans rfl; have hcz27_2 : w25.cell? ⟨gb1455, 2, none⟩ = some (.slice A0_2 l0_2.length c0_2) := (blk_cell BK1455.out 2).trans rfl; have hfz27_0 := blk_frozen BK1455.out 0; have hfz27_1 := blk_frozen BK1455.out 1; have hfz27_2 := blk_frozen BK1455.out 2) | ((with_reducible refine gate_callee (f := 119) rfl ?_); refine goesL_ (some 8) rfl rfl Try.func119 (by kernel_rfl) rfl #[.agg #[.slice A0_0 l0_0.length c0_0, .int .i64 a0_1, .slice A0_2 l0_2.length c0_2]] rfl (by (try simp only [List.map_toArray, List.map_cons, List.map_nil]); first | done | rfl | (simp only [List.length_drop, List.length_take]; rfl)) ?_; (with_reducible refine (impl_copyWork.calls _ _ l0_0 a0_1 _ _ l0_2 t1457 t1460 t1461 _ ?side1 ?side2 ?side3 ?side4 A2.out).mono ?_); (case side1 => exact oc_ HR0_0.out); (case side2 => exact HC0_0.out); (case side3 => exact oc_ HR0_2.out); (case side4 => exact HC0_2.out); rintro e w28 ⟨v1458, v1462, rfl, ho0, ho1, hb⟩; refine ⟨_, rfl, ?_⟩; have n0_ := Aside0.mk (Kd.R_lower ho0 (below_size (oB HB))); have n1_ := Aside0.mk (Kd.R_lower ho1 (below_size (oB HB))); have n2_ := Aside0.mk (blk_below (g := gb1455) (o := .cells #[.slice A0_0 l0_0.length c0_0, .int .i64 a0_1, .slice A0_2 l0_2.length c0_2] 33 (0, 0)) (oK BK1455) hb); have n3_ := Aside0.mk (blk_below (g := gb1456) (o := .cells #[.slice none 0 0, .int .i64 0, .slice none 0 0] 33 (0, 0)) (oK BK1456) hb); have n4_ := Aside0.mk (below_step (oB HB) hb); clear BK1455; clear BK1456; clear HB; have HO1459 := n0_; have HO1463 := n1_; have BK1455 := n2_; have BK1456 := n3_; have HB := n4_; clear n0_ n1_ n2_ n3_ n4_; (try clear hb); (try clear hb2); (try clear hk); (try clear hi); (try clear ho0); (try clear ho1)) | ((with_reducible refine gate_dst (N := 4) rfl ?_); refine box_event ?hg (N := 4) ?hd (cs := #[.slice none 0 0, .int .i64 0, .slice none 0 0]) (t := 33) ?hr ?_; (case hd => rfl); (case hg => rfl); (case hr => first | (go_simp; done) | (go_simp; rfl)); intro gb1464 hg w29 hbox hb; have n0_ := Aside0.mk (Kd.R_below (oR HO1459) hb); have n1_ := Aside0.mk (Kd.R_below (oR HO1463) hb); have n2_ := Aside0.mk (blk_below (g := gb1455) (o := .cells #[.slice A0_0 l0_0.length c0_0, .int .i64 a0_1, .slice A0_2 l0_2.length c0_2] 33 (0, 0)) (oK BK1455) hb); have n3_ := Aside0.mk (blk_below (g := gb1456) (o := .cells #[.slice none 0 0, .int .i64 0, .slice none 0 0] 33 (0, 0)) (oK BK1456) hb); have n4_ := Aside0.mk (below_step (oB HB) hb); have n5_ := Aside0.mk (hbox); have n6_ := Aside0.mk ((by rw [hg]; exact (below_size (oB HB)) : w.heap.size ≤ gb1464)); have n7_ := Aside0.mk ((by rw [hg]; exact (below_size (oB HB)) : w.heap.size ≤ gb1464)); have n8_ := Aside0.mk ((by rw [hg]; exact Nat.ne_of_lt (blk_lt (g := gb1455) (o := .cells #[.slice A0_0 l0_0.length c0_0, .int .i64 a0_1, .slice A0_2 l0_2.length c0_2] 33 (0, 0)) (oK BK1455)) : gb1455 ≠ gb1464)); have n9_ := Aside0.mk ((by rw [hg]; exact Nat.ne_of_gt (blk_lt (g := gb1455) (o := .cells #[.slice A0_0 l0_0.length c0_0, .int .i64 a0_1, .slice A0_2 l0_2.length c0_2] 33 (0, 0)) (oK BK1455)) : gb1464 ≠ gb1455)); have n10_ := Aside0.mk ((by rw [hg]; exact Nat.ne_of_lt (blk_lt (g := gb1456) (o := .cells #[.slice none 0 0, .int .i64 0, .slice none 0 0] 33 (0, 0)) (oK BK1456)) : gb1456 ≠ gb1464)); have n11_ := Aside0.mk ((by rw [hg]; exact Nat.ne_of_gt (blk_lt (g := gb1456) (o := .cells #[.slice none 0 0, .int .i64 0, .slice none 0 0] 33 (0, 0)) (oK BK1456)) : gb1464 ≠ gb1456)); clear HO1459; clear HO1463; clear BK1455; clear BK1456; clear HB; have HO1459 := n0_; have HO1463 := n1_; have BK1455 := n2_; have BK1456 := n3_; have HB := n4_; have BK1464 := n5_; have GW1464 := n6_; have GE1464 := n7_; have NB1455_1464 := n8_; have NB1464_1455 := n9_; have NB1456_1464 := n10_; have NB1464_1456 := n11_; clear n0_ n1_ n2_ n3_ n4_ n5_ n6_ n7_ n8_ n9_ n10_ n11_; clear hb hbox hg; obtain ⟨Ao30, co30, eo30⟩ := Kd.R_slice HO1459.out; subst eo30; have hnb31 := NB1464_1455.out; have hnc31 := NB1455_1464.out; have hnb32 := NB1464_1456.out; have hnc32 := NB1456_1464.out; have hcz33_0 : w29.cell? ⟨gb1464, 0, none⟩ = some (.slice none 0 0) := (blk_cell BK1464.out 0).trans rfl; have hcz33_1 : w29.cell? ⟨gb1464, 1, none⟩ = some (.int .i64 0) := (blk_cell BK1464.out 1).trans rfl; have hcz33_2 : w29.cell? ⟨gb1464, 2, none⟩ = some (.slice none 0 0) := (blk_cell BK1464.out 2).trans rfl; have hfz33_0 := blk_frozen BK1464.out 0; have hfz33_1 := blk_frozen BK1464.out 1; have hfz33_2 := blk_frozen BK1464.out 2; obtain ⟨Ao34, co34, eo34⟩ := Kd.R_slice HO1463.out; subst eo34; have hcz35_0 : w29.cell? ⟨gb1455, 0, none⟩ = some (.slice A0_0 l0_0.length c0_0) := (blk_cell BK1455.out 0).trans rfl; have hcz35_1 : w29.cell? ⟨gb1455, 1, none⟩ = some (.int .i64 a0_1) := (blk_cell BK1455.out 1).trans rfl; have hcz35_2 : w29.cell? ⟨gb1455, 2, none⟩ = some (.slice A0_2 l0_2.length c0_2) := (blk_cell BK1455.out 2).trans rfl; have hfz35_0 := blk_frozen BK1455.out 0; have hfz35_1 := blk_frozen BK1455.out 1; have hfz35_2 := blk_frozen BK1455.out 2) | ((with_reducible refine gate_callee (f := 80) rfl ?_); refine goesL_ (some 10) rfl rfl Try.func80 (by kernel_rfl) rfl #[.agg #[.slice A0_0 l0_0.length c0_0, .int .i64 a0_1, .slice A0_2 l0_2.length c0_2]] rfl (by (try simp only [List.map_toArray, List.map_cons, List.map_nil]); first | done | rfl | (simp only [List.length_drop, List.length_take]; rfl)) ?_; (with_reducible refine (impl_WrongSteps.calls k _ _ l0_0 a0_1 _ _ l0_2 t1465 _ ?side1 ?side2 ?side3 ?side4 A3.out).mono ?_); (case side1 => exact Kd.C_below HR0_0.out (oB HB)); (case side2 => exact HC0_0.out); (case side3 => exact Kd.C_below HR0_2.out (oB HB)); (case side4 => exact HC0_2.out); rintro e w36 ⟨v1466, rfl, ho0, hb⟩; refine ⟨_, rfl, ?_⟩; have n0_ := Aside0.mk (Kd.R_below (by (with_reducible repeat (first | apply Kd.R_alloc | apply Kd.R_drewN | apply Kd.R_drew)); exact (Kd.R_mono (Kd.R_far (p := ⟨gb1464, 2, none⟩) (Kd.R_far (p := ⟨gb1464, 1, none⟩) (Kd.R_far (p := ⟨gb1464, 0, none⟩) (Kd.R_types HO1459.out BK1464.out (by decide)) (fun _ hk => hk.2) (.slice Ao30 t1457.length co30)) (fun _ hk => hk.2) (.int .i64 t1460)) (fun _ hk => hk.2) (.slice Ao34 t1461.length co34)) (fun _ h_ => h_.1))) hb); have n1_ := Aside0.mk (Kd.R_elder' (by (with_reducible repeat (first | apply Kd.R_alloc | apply Kd.R_drewN | apply Kd.R_drew)); exact (Kd.R_mono (Kd.R_far (p := ⟨gb1464, 2, none⟩) (Kd.R_far (p := ⟨gb1464, 1, none⟩) (Kd.R_far (p := ⟨gb1464, 0, none⟩) (Kd.R_types HO1463.out BK1464.out (by decide)) (fun _ hk => hk.2) (.slice Ao30 t1457.length co30)) (fun _ hk => hk.2) (.int .i64 t1460)) (fun _ hk => hk.2) (.slice Ao34 t1461.length co34)) (fun _ h_ => h_.1))) (Kd.R_base ho0) hb); have n2_ := Aside0.mk (Kd.R_lower (Kd.R_new' ho0 (Kd.R_lt (by (with_reducible repeat (first | apply Kd.R_alloc | apply Kd.R_drewN | apply Kd.R_drew)); exact (Kd.R_mono (Kd.R_far (p := ⟨gb1464, 2, none⟩) (Kd.R_far (p := ⟨gb1464, 1, none⟩) (Kd.R_far (p := ⟨gb1464, 0, none⟩) (Kd.R_types HO1463.out BK1464.out (by decide)) (fun _ hk => hk.2) (.slice Ao30 t1457.length co30)) (fun _ hk => hk.2) (.int .i64 t1460)) (fun _ hk => hk.2) (.slice Ao34 t1461.length co34)) (fun _ h_ => h_.1))))) (below_size (oB HB))); have n3_ := Aside0.mk (blk_below (g := gb1455) (o := .cells #[.slice A0_0 l0_0.length c0_0, .int .i64 a0_1, .slice A0_2 l0_2.length c0_2] 33 (0, 0)) (by (with_reducible repeat (first | refine blk_drewN ?_ _ | refine blk_drew ?_ | refine blk_alloc ?_ _)); refine blk_far ?_ NB1455_1464.out _; (with_reducible repeat (first | refine blk_drewN ?_ _ | refine blk_drew ?_ | refine blk_alloc ?_ _)); refine blk_far ?_ NB1455_1464.out _; (with_reducible repeat (first | refine blk_drewN ?_ _ | refine blk_drew ?_ | refine blk_alloc ?_ _)); refine blk_far ?_ NB1455_1464.out _; (with_reducible repeat (first | refine blk_drewN ?_ _ | refine blk_drew ?_ | refine blk_alloc ?_ _)); exact BK1455.out) hb); have n4_ := Aside0.mk (blk_below (g := gb1456) (o := .cells #[.slice none 0 0, .int .i64 0, .slice none 0 0] 33 (0, 0)) (by (with_reducible repeat (first | refine blk_drewN ?_ _ | refine blk_drew ?_ | refine blk_alloc ?_ _)); refine blk_far ?_ NB1456_1464.out _; (with_reducible repeat (first | refine blk_drewN ?_ _ | refine blk_drew ?_ | refine blk_alloc ?_ _)); refine blk_far ?_ NB1456_1464.out _; (with_reducible repeat (first | refine blk_drewN ?_ _ | refine blk_drew ?_ | refine blk_alloc ?_ _)); refine blk_far ?_ NB1456_1464.out _; (with_reducible repeat (first | refine blk_drewN ?_ _ | refine blk_drew ?_ | refine blk_alloc ?_ _)); exact BK1456.out) hb); have n5_ := Aside0.mk (blk_below (g := gb1464) (o := .cells #[.slice Ao30 t1457.length co30, .int .i64 t1460, .slice Ao34 t1461.length co34] 33 (0, 0)) (by (with_reducible repeat (first | refine blk_drewN ?_ _ | refine blk_drew ?_ | refine blk_alloc ?_ _)); refine blk_put (cs := #[.slice Ao30 t1457.length co30, .int .i64 t1460, .slice none 0 0]) ?_ 2 _ rfl; (with_reducible repeat (first | refine blk_drewN ?_ _ | refine blk_drew ?_ | refine blk_alloc ?_ _)); refine blk_put (cs := #[.slice Ao30 t1457.length co30, .int .i64 0, .slice none 0 0]) ?_ 1 _ rfl; (with_reducible repeat (first | refine blk_drewN ?_ _ | refine blk_drew ?_ | refine blk_alloc ?_ _)); refine blk_put (cs := #[.slice none 0 0, .int .i64 0, .slice none 0 0]) ?_ 0 _ rfl; (with_reducible repeat (first | refine blk_drewN ?_ _ | refine blk_drew ?_ | refine blk_alloc ?_ _)); exact BK1464.out) hb); have n6_ := Aside0.mk (below_step (oB HB) hb); clear HO1459; clear HO1463; clear BK1455; clear BK1456; clear BK1464; clear HB; have HO1459 := n0_; have HO1463 := n1_; have HO1467 := n2_; have BK1455 := n3_; have BK1456 := n4_; have BK1464 := n5_; have HB := n6_; clear n0_ n1_ n2_ n3_ n4_ n5_ n6_; (try clear hb); (try clear hb2); (try clear hk); (try clear hi); (try clear ho0); obtain ⟨Ao37, co37, eo37⟩ := Kd.R_slice HO1467.out; subst eo37))
        have n0_ := Aside0.mk (Kd.R_drew HO1459.out)
        have n1_ := Aside0.mk (Kd.R_drew HO1463.out)
        have n2_ := Aside0.mk (Kd.R_drew HO1467.out)
        have n3_ := Aside0.mk (blk_drew BK1455.out)
        have n4_ := Aside0.mk (blk_drew BK1456.out)
        have n5_ := Aside0.mk (blk_drew BK1464.out)
        have n6_ := Aside0.mk (below_drew1 HB.out)
        clear HO1459
        clear HO1463
        clear HO1467
        clear BK1455
        clear BK1456
        clear BK1464
        clear HB
        have HO1459 := n0_
        have HO1463 := n1_
        have HO1467 := n2_
        have BK1455 := n3_
        have BK1456 := n4_
        have BK1464 := n5_
        have HB := n6_
        clear n0_ n1_ n2_ n3_ n4_ n5_ n6_
        have p1468 : 0 ≤ (0 : Int) := (by omega)
        have q1468 : 0 < (t1465.length : Int) := of_decide_eq_true (by first | (with_reducible assumption) | assumption)
        obtain ⟨ad1468, e1468, hx1468_0⟩ := Kd.at_int (Kd.R_reads' HO1467.out).2.2 0 p1468 q1468
        cases e1468
        have qi1468 : (0 < t1465.length) = True := eq_true (by omega)
        (try rw [show ((0 : Int)).toNat = 0 from rfl] at hx1468_0)
        (try rw [Addr.add_zero'] at hx1468_0)
        replace p1468 := eq_true p1468
        replace q1468 := eq_true q1468
        refine start_ (n := 6) (S := fun w' => w'.cell? ⟨gb1455, 0, none⟩ = some (.slice A0_0 l0_0.length c0_0) ∧ w'.cell? ⟨gb1455, 1, none⟩ = some (.int .i64 a0_1) ∧ w'.cell? ⟨gb1455, 2, none⟩ = some (.slice A0_2 l0_2.length c0_2) ∧ w'.cell? ad1468 = some (.int .i64 (rd t1465 0))) (ds := []) #[false, false, false, false, false, false] (by kernel_rfl) rfl rfl ⟨(blk_cell BK1455.out 0).trans rfl, (blk_cell BK1455.out 1).trans rfl, (blk_cell BK1455.out 2).trans rfl, hx1468_0⟩ (fun hHeld => ?_)
        generalize w36.drew = w38 at HO1459 HO1463 HO1467 BK1455 BK1456 BK1464 HB hx1468_0 hHeld ⊢
        refine pure_ (i := 1) (N := some 16) (v := ?_) (a' := ?_) #[false, true, false, false, false, false] rfl rfl (by kernel_rfl) (fun _ _ _ h => h) (Or.inl ⟨by rfl, ?_⟩) ?_ ?_
        rotate_left
        · intro w'
          go_simp
          with_reducible rfl
        rotate_left
        · simp only [Act.put, List.setIfInBounds_toArray, List.set_cons_zero, List.set_cons_succ, i64_w, i32_w]
          rfl
        refine pure_ (i := 2) (N := some 17) (v := ?_) (a' := ?_) #[false, true, true, false, false, false] rfl rfl (by kernel_rfl) (fun _ _ _ h => h) (Or.inl ⟨by rfl, ?_⟩) ?_ ?_
        rotate_left
        · intro w'
          go_simp
          with_reducible rfl
        rotate_left
        · simp only [Act.put, List.setIfInBounds_toArray, List.set_cons_zero, List.set_cons_succ, i64_w, i32_w]
          rfl
        refine take_ (i := 0) (N := some 15) (v := ?_) (a' := ?_) #[true, true, true, false, false, false] rfl rfl (by kernel_rfl) (fun _ _ _ h => h) (Or.inl ⟨by rfl, ?_⟩) hHeld ?_ ?_
        rotate_left
        · rintro w' ⟨s0, s1, s2, s3⟩
          go_simp
          with_reducible rfl
        rotate_left
        · simp only [Act.put, List.setIfInBounds_toArray, List.set_cons_zero, List.set_cons_succ, i64_w, i32_w]
          rfl
        refine take_ (i := 3) (N := some 18) (v := ?_) (a' := ?_) #[true, true, true, true, false, false] rfl rfl (by kernel_rfl) (fun _ _ _ h => h) (Or.inl ⟨by rfl, ?_⟩) hHeld ?_ ?_
        rotate_left
        · rintro w' ⟨s0, s1, s2, s3⟩
          go_simp
          with_reducible rfl
        rotate_left
        · simp only [Act.put, List.setIfInBounds_toArray, List.set_cons_zero, List.set_cons_succ, i64_w, i32_w]
          rfl
        refine one_ (i := 4) (N := some 19) #[true, true, true, true, true, false] rfl rfl (by kernel_rfl) (by decide) (fun K hK => ?_)
        refine goes_ Try.func117 (by kernel_rfl) rfl #[.agg #[.slice A0_0 l0_0.length c0_0, .int .i64 a0_1, .slice A0_2 l0_2.length c0_2], .int .i64 (rd t1465 0)] (by rfl) rfl rfl (by (try simp only [List.map_toArray, List.map_cons, List.map_nil]); first | done | rfl | (simp only [List.length_drop, List.length_take]; rfl)) ?_
        with_reducible refine (impl_tunedBy.calls k _ _ l0_0 a0_1 _ _ l0_2 (rd t1465 0) t1469 _ ?side1 ?side2 ?side3 ?side4 A22.out).mono ?_
        (case side1 => exact oc_ HR0_0.out)
        (case side2 => exact HC0_0.out)
        (case side3 => exact oc_ HR0_2.out)
        (case side4 => exact HC0_2.out)
        rintro e w39 ⟨rfl, hb⟩
        have HS3_ := (hb.cell (World.block_lt_of_cell? _ _ (hHeld.2.2.2))).trans (hHeld.2.2.2)
        refine ⟨_, rfl, ?_⟩
        have n0_ := Aside0.mk (Kd.R_below (oR HO1459) hb)
        have n1_ := Aside0.mk (Kd.R_below (oR HO1463) hb)
        have n2_ := Aside0.mk (Kd.R_below (oR HO1467) hb)
        have n3_ := Aside0.mk (blk_below (g := gb1455) (o := .cells #[.slice A0_0 l0_0.length c0_0, .int .i64 a0_1, .slice A0_2 l0_2.length c0_2] 33 (0, 0)) (oK BK1455) hb)
        have n4_ := Aside0.mk (blk_below (g := gb1456) (o := .cells #[.slice none 0 0, .int .i64 0, .slice none 0 0] 33 (0, 0)) (oK BK1456) hb)
        have n5_ := Aside0.mk (blk_below (g := gb1464) (o := .cells #[.slice Ao30 t1457.length co30, .int .i64 t1460, .slice Ao34 t1461.length co34] 33 (0, 0)) (oK BK1464) hb)
        have n6_ := Aside0.mk (below_step (oB HB) hb)
        clear HO1459
        clear HO1463
        clear HO1467
        clear BK1455
        clear BK1456
        clear BK1464
        clear HB
        have HO1459 := n0_
        have HO1463 := n1_
        have HO1467 := n2_
        have BK1455 := n3_
        have BK1456 := n4_
        have BK1464 := n5_
        have HB := n6_
        clear n0_ n1_ n2_ n3_ n4_ n5_ n6_
        (try clear hb)
        (try clear hb2)
        (try clear hk)
        (try clear hi)
        refine hK.out _ _ ⟨(blk_cell BK1455.out 0).trans rfl, (blk_cell BK1455.out 1).trans rfl, (blk_cell BK1455.out 2).trans rfl, HS3_⟩ (fun hHeld => ?_)
        clear hK K
        refine norm_ (a' := ?_) ?_ ?_
        rotate_left
        · show Act.put _ (some 19) _ = _
          simp only [Act.put, List.setIfInBounds_toArray, List.set_cons_zero, List.set_cons_succ, i64_w, i32_w]
          rfl
        refine pure_ (i := 5) (N := some 6) (v := ?_) (a' := ?_) #[true, true, true, true, true, true] rfl rfl (by kernel_rfl) (fun _ _ _ h => h) (Or.inl ⟨by rfl, ?_⟩) ?_ ?_
        rotate_left
        · intro w'
          go_simp
          with_reducible rfl
        rotate_left
        · simp only [Act.put, List.setIfInBounds_toArray, List.set_cons_zero, List.set_cons_succ, i64_w, i32_w]
          rfl
        refine done_ (by kernel_rfl) ?_
        have hcz40_0 : w39.cell? ⟨gb1464, 0, none⟩ = some (.slice Ao30 t1457.length co30) := (blk_cell BK1464.out 0).trans rfl
        have hcz40_1 : w39.cell? ⟨gb1464, 1, none⟩ = some (.int .i64 t1460) := (blk_cell BK1464.out 1).trans rfl
        have hcz40_2 : w39.cell? ⟨gb1464, 2, none⟩ = some (.slice Ao34 t1461.length co34) := (blk_cell BK1464.out 2).trans rfl
        have hfz40_0 := blk_frozen BK1464.out 0
        have hfz40_1 := blk_frozen BK1464.out 1
        have hfz40_2 := blk_frozen BK1464.out 2
        have hcz41_0 : w39.cell? ⟨gb1456, 0, none⟩ = some (.slice none 0 0) := (blk_cell BK1456.out 0).trans rfl
        have hcz41_1 : w39.cell? ⟨gb1456, 1, none⟩ = some (.int .i64 0) := (blk_cell BK1456.out 1).trans rfl
        have hcz41_2 : w39.cell? ⟨gb1456, 2, none⟩ = some (.slice none 0 0) := (blk_cell BK1456.out 2).trans rfl
        have hfz41_0 := blk_frozen BK1456.out 0
        have hfz41_1 := blk_frozen BK1456.out 1
        have hfz41_2 := blk_frozen BK1456.out 2
        try go_wp2
        refine bodyPost_ret (results_ct rfl _ _ gb1456 33 #[.slice Ao30 t1457.length co30, .int .i64 t1460, .slice Ao34 t1461.length co34] (0, 0) _ rfl (by (with_reducible repeat (first | refine blk_drewN ?_ _ | refine blk_drew ?_ | refine blk_alloc ?_ _)); refine blk_put (cs := #[.slice Ao30 t1457.length co30, .int .i64 t1460, .slice none 0 0]) ?_ 2 _ rfl; (with_reducible repeat (first | refine blk_drewN ?_ _ | refine blk_drew ?_ | refine blk_alloc ?_ _)); refine blk_put (cs := #[.slice Ao30 t1457.length co30, .int .i64 0, .slice none 0 0]) ?_ 1 _ rfl; (with_reducible repeat (first | refine blk_drewN ?_ _ | refine blk_drew ?_ | refine blk_alloc ?_ _)); refine blk_put (cs := #[.slice none 0 0, .int .i64 0, .slice none 0 0]) ?_ 0 _ rfl; (with_reducible repeat (first | refine blk_drewN ?_ _ | refine blk_drew ?_ | refine blk_alloc ?_ _)); exact BK1456.out) Try.underlying33 rfl (by kernel_rfl)) rfl ?_
        exact ⟨_, _, by first | rfl | (simp [errW_none, errW_some] <;> rfl) | (simp [*, errW_none, errW_some] <;> rfl), by (with_reducible repeat (first | apply Kd.R_alloc | apply Kd.R_drewN | apply Kd.R_drew)); exact Kd.R_mono (Kd.R_far (p := ⟨gb1456, 2, none⟩) (Kd.R_far (p := ⟨gb1456, 1, none⟩) (Kd.R_far (p := ⟨gb1456, 0, none⟩) (Kd.R_types HO1459.out BK1456.out (by decide)) (fun _ hk => hk.2) (.slice Ao30 t1457.length co30)) (fun _ hk => hk.2) (.int .i64 t1460)) (fun _ hk => hk.2) (.slice Ao34 t1461.length co34)) (fun _ hk => trivial), by (with_reducible repeat (first | apply Kd.R_alloc | apply Kd.R_drewN | apply Kd.R_drew)); exact Kd.R_mono (Kd.R_far (p := ⟨gb1456, 2, none⟩) (Kd.R_far (p := ⟨gb1456, 1, none⟩) (Kd.R_far (p := ⟨gb1456, 0, none⟩) (Kd.R_types HO1463.out BK1456.out (by decide)) (fun _ hk => hk.2) (.slice Ao30 t1457.length co30)) (fun _ hk => hk.2) (.int .i64 t1460)) (fun _ hk => hk.2) (.slice Ao34 t1461.length co34)) (fun _ hk => trivial), oB HB⟩
      · rw [if_neg c23] at H
        have c23b0 : (t1469 == 0) = false := beq_eq_false_iff_ne.mpr c23
        have c23b1 : (t1469 != 0) = true := bne_iff_ne.mpr c23
        by_cases c42 : 0 ≤ (rd t1465 0)
        · rw [if_pos c42] at H
          have c42b0 : decide (0 ≤ (rd t1465 0)) = true := decide_eq_true c42
          clear c42
          by_cases c43 : (rd t1465 0) < (l0_0.length : Int)
          · rw [if_pos c43] at H
            have c43b0 : decide ((rd t1465 0) < (l0_0.length : Int)) = true := decide_eq_true c43
            clear c43
            by_cases c44 : 0 ≤ ((rd_T96 l0_0 (rd t1465 0)).f1)
            · rw [if_pos c44] at H
              have c44b0 : decide (0 ≤ ((rd_T96 l0_0 (rd t1465 0)).f1)) = true := decide_eq_true c44
              clear c44
              by_cases c45 : ((rd_T96 l0_0 (rd t1465 0)).f1) < (t1461.length : Int)
              · rw [if_pos c45] at H
                have c45b0 : decide (((rd_T96 l0_0 (rd t1465 0)).f1) < (t1461.length : Int)) = true := decide_eq_true c45
                clear c45
                obtain ⟨y1472, hy1472⟩ : ∃ y_ : List Int, y_ = (t1461.set (((rd_T96 l0_0 (rd t1465 0)).f1) : Int).toNat t1469) := ⟨_, rfl⟩
                replace H : (some (t1457, t1460, y1472, true)) = some (r1, r2, r3, r4) := by first | (rw [hy1472]; with_reducible exact H) | (have H2_ := (Option.bind_some _ _).symm.trans H; rw [hy1472]; with_reducible exact H2_) | (have H2_ := (Option.bind_some _ _).symm.trans H; with_reducible exact H2_) | with_reducible exact H | (rw [hy1472]; exact H) | exact H
                have Ny1472 := Aside0.mk hy1472
                clear hy1472
                simp only [Option.some.injEq, Prod.mk.injEq] at H
                obtain ⟨rfl, rfl, rfl, rfl⟩ := H
                go_enter Try.func90, Try.ntmps90
                try go_wp2_with (first | ((with_reducible refine gate_dst (N := 1) rfl ?_); refine box_event ?hg (N := 1) ?hd (cs := #[.slice A0_0 l0_0.length c0_0, .int .i64 a0_1, .slice A0_2 l0_2.length c0_2]) (t := 33) ?hr ?_; (case hd => rfl); (case hg => rfl); (case hr => first | (go_simp; done) | (go_simp; rfl)); intro gb1455 hg w47 hbox hb; have n0_ := Aside0.mk (below_step (oB HB) hb); have n1_ := Aside0.mk (hbox); have n2_ := Aside0.mk ((by rw [hg]; exact (below_size (oB HB)) : w.heap.size ≤ gb1455)); have n3_ := Aside0.mk ((by rw [hg]; exact (below_size (oB HB)) : w.heap.size ≤ gb1455)); clear HB; have HB := n0_; have BK1455 := n1_; have GW1455 := n2_; have GE1455 := n3_; clear n0_ n1_ n2_ n3_; clear hb hbox hg) | ((with_reducible refine gate_dst (N := 2) rfl ?_); refine box_event ?hg (N := 2) ?hd (cs := #[.slice none 0 0, .int .i64 0, .slice none 0 0]) (t := 33) ?hr ?_; (case hd => rfl); (case hg => rfl); (case hr => first | (go_simp; done) | (go_simp; rfl)); intro gb1456 hg w48 hbox hb; have n0_ := Aside0.mk (blk_below (g := gb1455) (o := .cells #[.slice A0_0 l0_0.length c0_0, .int .i64 a0_1, .slice A0_2 l0_2.length c0_2] 33 (0, 0)) (oK BK1455) hb); have n1_ := Aside0.mk (below_step (oB HB) hb); have n2_ := Aside0.mk (hbox); have n3_ := Aside0.mk ((by rw [hg]; exact (below_size (oB HB)) : w.heap.size ≤ gb1456)); have n4_ := Aside0.mk ((by rw [hg]; exact (below_size (oB HB)) : w.heap.size ≤ gb1456)); have n5_ := Aside0.mk ((by rw [hg]; exact Nat.ne_of_lt (blk_lt (g := gb1455) (o := .cells #[.slice A0_0 l0_0.length c0_0, .int .i64 a0_1, .slice A0_2 l0_2.length c0_2] 33 (0, 0)) (oK BK1455)) : gb1455 ≠ gb1456)); have n6_ := Aside0.mk ((by rw [hg]; exact Nat.ne_of_gt (blk_lt (g := gb1455) (o := .cells #[.slice A0_0 l0_0.length c0_0, .int .i64 a0_1, .slice A0_2 l0_2.length c0_2] 33 (0, 0)) (oK BK1455)) : gb1456 ≠ gb1455)); clear BK1455; clear HB; have BK1455 := n0_; have HB := n1_; have BK1456 := n2_; have GW1456 := n3_; have GE1456 := n4_; have NB1455_1456 := n5_; have NB1456_1455 := n6_; clear n0_ n1_ n2_ n3_ n4_ n5_ n6_; clear hb hbox hg; have hnb49 := NB1455_1456.out; have hnc49 := NB1456_1455.out; have hcz50_0 : w48.cell? ⟨gb1455, 0, none⟩ = some (.slice A0_0 l0_0.length c0_0) := (blk_cell BK1455.out 0).trans rfl; have hcz50_1 : w48.cell? ⟨gb1455, 1, none⟩ = some (.int .i64 a0_1) := (blk_cell BK1455.out 1).trans rfl; have hcz50_2 : w48.cell? ⟨gb1455, 2, none⟩ = some (.slice A0_2 l0_2.length c0_2) := (blk_cell BK1455.out 2).trans rfl; have hfz50_0 := blk_frozen BK1455.out 0; have hfz50_1 := blk_frozen BK1455.out 1; have hfz50_2 := blk_frozen BK1455.out 2) | ((with_reducible refine gate_callee (f := 119) rfl ?_); refine goesL_ (some 8) rfl rfl Try.func119 (by kernel_rfl) rfl #[.agg #[.slice A0_0 l0_0.length c0_0, .int .i64 a0_1, .slice A0_2 l0_2.length c0_2]] rfl (by (try simp only [List.map_toArray, List.map_cons, List.map_nil]); first | done | rfl | (simp only [List.length_drop, List.length_take]; rfl)) ?_; (with_reducible refine (impl_copyWork.calls _ _ l0_0 a0_1 _ _ l0_2 t1457 t1460 t1461 _ ?side1 ?side2 ?side3 ?side4 A2.out).mono ?_); (case side1 => exact oc_ HR0_0.out); (case side2 => exact HC0_0.out); (case side3 => exact oc_ HR0_2.out); (case side4 => exact HC0_2.out); rintro e w51 ⟨v1458, v1462, rfl, ho0, ho1, hb⟩; refine ⟨_, rfl, ?_⟩; have n0_ := Aside0.mk (Kd.R_lower ho0 (below_size (oB HB))); have n1_ := Aside0.mk (Kd.R_lower ho1 (below_size (oB HB))); have n2_ := Aside0.mk (blk_below (g := gb1455) (o := .cells #[.slice A0_0 l0_0.length c0_0, .int .i64 a0_1, .slice A0_2 l0_2.length c0_2] 33 (0, 0)) (oK BK1455) hb); have n3_ := Aside0.mk (blk_below (g := gb1456) (o := .cells #[.slice none 0 0, .int .i64 0, .slice none 0 0] 33 (0, 0)) (oK BK1456) hb); have n4_ := Aside0.mk (below_step (oB HB) hb); clear BK1455; clear BK1456; clear HB; have HO1459 := n0_; have HO1463 := n1_; have BK1455 := n2_; have BK1456 := n3_; have HB := n4_; clear n0_ n1_ n2_ n3_ n4_; (try clear hb); (try clear hb2); (try clear hk); (try clear hi); (try clear ho0); (try clear ho1)) | ((with_reducible refine gate_dst (N := 4) rfl ?_); refine box_event ?hg (N := 4) ?hd (cs := #[.slice none 0 0, .int .i64 0, .slice none 0 0]) (t := 33) ?hr ?_; (case hd => rfl); (case hg => rfl); (case hr => first | (go_simp; done) | (go_simp; rfl)); intro gb1464 hg w52 hbox hb; have n0_ := Aside0.mk (Kd.R_below (oR HO1459) hb); have n1_ := Aside0.mk (Kd.R_below (oR HO1463) hb); have n2_ := Aside0.mk (blk_below (g := gb1455) (o := .cells #[.slice A0_0 l0_0.length c0_0, .int .i64 a0_1, .slice A0_2 l0_2.length c0_2] 33 (0, 0)) (oK BK1455) hb); have n3_ := Aside0.mk (blk_below (g := gb1456) (o := .cells #[.slice none 0 0, .int .i64 0, .slice none 0 0] 33 (0, 0)) (oK BK1456) hb); have n4_ := Aside0.mk (below_step (oB HB) hb); have n5_ := Aside0.mk (hbox); have n6_ := Aside0.mk ((by rw [hg]; exact (below_size (oB HB)) : w.heap.size ≤ gb1464)); have n7_ := Aside0.mk ((by rw [hg]; exact (below_size (oB HB)) : w.heap.size ≤ gb1464)); have n8_ := Aside0.mk ((by rw [hg]; exact Nat.ne_of_lt (blk_lt (g := gb1455) (o := .cells #[.slice A0_0 l0_0.length c0_0, .int .i64 a0_1, .slice A0_2 l0_2.length c0_2] 33 (0, 0)) (oK BK1455)) : gb1455 ≠ gb1464)); have n9_ := Aside0.mk ((by rw [hg]; exact Nat.ne_of_gt (blk_lt (g := gb1455) (o := .cells #[.slice A0_0 l0_0.length c0_0, .int .i64 a0_1, .slice A0_2 l0_2.length c0_2] 33 (0, 0)) (oK BK1455)) : gb1464 ≠ gb1455)); have n10_ := Aside0.mk ((by rw [hg]; exact Nat.ne_of_lt (blk_lt (g := gb1456) (o := .cells #[.slice none 0 0, .int .i64 0, .slice none 0 0] 33 (0, 0)) (oK BK1456)) : gb1456 ≠ gb1464)); have n11_ := Aside0.mk ((by rw [hg]; exact Nat.ne_of_gt (blk_lt (g := gb1456) (o := .cells #[.slice none 0 0, .int .i64 0, .slice none 0 0] 33 (0, 0)) (oK BK1456)) : gb1464 ≠ gb1456)); clear HO1459; clear HO1463; clear BK1455; clear BK1456; clear HB; have HO1459 := n0_; have HO1463 := n1_; have BK1455 := n2_; have BK1456 := n3_; have HB := n4_; have BK1464 := n5_; have GW1464 := n6_; have GE1464 := n7_; have NB1455_1464 := n8_; have NB1464_1455 := n9_; have NB1456_1464 := n10_; have NB1464_1456 := n11_; clear n0_ n1_ n2_ n3_ n4_ n5_ n6_ n7_ n8_ n9_ n10_ n11_; clear hb hbox hg; obtain ⟨Ao53, co53, eo53⟩ := Kd.R_slice HO1459.out; subst eo53; have hnb54 := NB1464_1455.out; have hnc54 := NB1455_1464.out; have hnb55 := NB1464_1456.out; have hnc55 := NB1456_1464.out; have hcz56_0 : w52.cell? ⟨gb1464, 0, none⟩ = some (.slice none 0 0) := (blk_cell BK1464.out 0).trans rfl; have hcz56_1 : w52.cell? ⟨gb1464, 1, none⟩ = some (.int .i64 0) := (blk_cell BK1464.out 1).trans rfl; have hcz56_2 : w52.cell? ⟨gb1464, 2, none⟩ = some (.slice none 0 0) := (blk_cell BK1464.out 2).trans rfl; have hfz56_0 := blk_frozen BK1464.out 0; have hfz56_1 := blk_frozen BK1464.out 1; have hfz56_2 := blk_frozen BK1464.out 2; obtain ⟨Ao57, co57, eo57⟩ := Kd.R_slice HO1463.out; subst eo57; have hcz58_0 : w52.cell? ⟨gb1455, 0, none⟩ = some (.slice A0_0 l0_0.length c0_0) := (blk_cell BK1455.out 0).trans rfl; have hcz58_1 : w52.cell? ⟨gb1455, 1, none⟩ = some (.int .i64 a0_1) := (blk_cell BK1455.out 1).trans rfl; have hcz58_2 : w52.cell? ⟨gb1455, 2, none⟩ = some (.slice A0_2 l0_2.length c0_2) := (blk_cell BK1455.out 2).trans rfl; have hfz58_0 := blk_frozen BK1455.out 0; have hfz58_1 := blk_frozen BK1455.out 1; have hfz58_2 := blk_frozen BK1455.out 2) | ((with_reducible refine gate_callee (f := 80) rfl ?_); refine goesL_ (some 10) rfl rfl Try.func80 (by kernel_rfl) rfl #[.agg #[.slice A0_0 l0_0.length c0_0, .int .i64 a0_1, .slice A0_2 l0_2.length c0_2]] rfl (by (try simp only [List.map_toArray, List.map_cons, List.map_nil]); first | done | rfl | (simp only [List.length_drop, List.length_take]; rfl)) ?_; (with_reducible refine (impl_WrongSteps.calls k _ _ l0_0 a0_1 _ _ l0_2 t1465 _ ?side1 ?side2 ?side3 ?side4 A3.out).mono ?_); (case side1 => exact Kd.C_below HR0_0.out (oB HB)); (case side2 => exact HC0_0.out); (case side3 => exact Kd.C_below HR0_2.out (oB HB)); (case side4 => exact HC0_2.out); rintro e w59 ⟨v1466, rfl, ho0, hb⟩; refine ⟨_, rfl, ?_⟩; have n0_ := Aside0.mk (Kd.R_below (by (with_reducible repeat (first | apply Kd.R_alloc | apply Kd.R_drewN | apply Kd.R_drew)); exact (Kd.R_mono (Kd.R_far (p := ⟨gb1464, 2, none⟩) (Kd.R_far (p := ⟨gb1464, 1, none⟩) (Kd.R_far (p := ⟨gb1464, 0, none⟩) (Kd.R_types HO1459.out BK1464.out (by decide)) (fun _ hk => hk.2) (.slice Ao53 t1457.length co53)) (fun _ hk => hk.2) (.int .i64 t1460)) (fun _ hk => hk.2) (.slice Ao57 t1461.length co57)) (fun _ h_ => h_.1))) hb); have n1_ := Aside0.mk (Kd.R_elder' (by (with_reducible repeat (first | apply Kd.R_alloc | apply Kd.R_drewN | apply Kd.R_drew)); exact (Kd.R_mono (Kd.R_far (p := ⟨gb1464, 2, none⟩) (Kd.R_far (p := ⟨gb1464, 1, none⟩) (Kd.R_far (p := ⟨gb1464, 0, none⟩) (Kd.R_types HO1463.out BK1464.out (by decide)) (fun _ hk => hk.2) (.slice Ao53 t1457.length co53)) (fun _ hk => hk.2) (.int .i64 t1460)) (fun _ hk => hk.2) (.slice Ao57 t1461.length co57)) (fun _ h_ => h_.1))) (Kd.R_base ho0) hb); have n2_ := Aside0.mk (Kd.R_lower (Kd.R_new' ho0 (Kd.R_lt (by (with_reducible repeat (first | apply Kd.R_alloc | apply Kd.R_drewN | apply Kd.R_drew)); exact (Kd.R_mono (Kd.R_far (p := ⟨gb1464, 2, none⟩) (Kd.R_far (p := ⟨gb1464, 1, none⟩) (Kd.R_far (p := ⟨gb1464, 0, none⟩) (Kd.R_types HO1463.out BK1464.out (by decide)) (fun _ hk => hk.2) (.slice Ao53 t1457.length co53)) (fun _ hk => hk.2) (.int .i64 t1460)) (fun _ hk => hk.2) (.slice Ao57 t1461.length co57)) (fun _ h_ => h_.1))))) (below_size (oB HB))); have n3_ := Aside0.mk (blk_below (g := gb1455) (o := .cells #[.slice A0_0 l0_0.length c0_0, .int .i64 a0_1, .slice A0_2 l0_2.length c0_2] 33 (0, 0)) (by (with_reducible repeat (first | refine blk_drewN ?_ _ | refine blk_drew ?_ | refine blk_alloc ?_ _)); refine blk_far ?_ NB1455_1464.out _; (with_reducible repeat (first | refine blk_drewN ?_ _ | refine blk_drew ?_ | refine blk_alloc ?_ _)); refine blk_far ?_ NB1455_1464.out _; (with_reducible repeat (first | refine blk_drewN ?_ _ | refine blk_drew ?_ | refine blk_alloc ?_ _)); refine blk_far ?_ NB1455_1464.out _; (with_reducible repeat (first | refine blk_drewN ?_ _ | refine blk_drew ?_ | refine blk_alloc ?_ _)); exact BK1455.out) hb); have n4_ := Aside0.mk (blk_below (g := gb1456) (o := .cells #[.slice none 0 0, .int .i64 0, .slice none 0 0] 33 (0, 0)) (by (with_reducible repeat (first | refine blk_drewN ?_ _ | refine blk_drew ?_ | refine blk_alloc ?_ _)); refine blk_far ?_ NB1456_1464.out _; (with_reducible repeat (first | refine blk_drewN ?_ _ | refine blk_drew ?_ | refine blk_alloc ?_ _)); refine blk_far ?_ NB1456_1464.out _; (with_reducible repeat (first | refine blk_drewN ?_ _ | refine blk_drew ?_ | refine blk_alloc ?_ _)); refine blk_far ?_ NB1456_1464.out _; (with_reducible repeat (first | refine blk_drewN ?_ _ | refine blk_drew ?_ | refine blk_alloc ?_ _)); exact BK1456.out) hb); have n5_ := Aside0.mk (blk_below (g := gb1464) (o := .cells #[.slice Ao53 t1457.length co53, .int .i64 t1460, .slice Ao57 t1461.length co57] 33 (0, 0)) (by (with_reducible repeat (first | refine blk_drewN ?_ _ | refine blk_drew ?_ | refine blk_alloc ?_ _)); refine blk_put (cs := #[.slice Ao53 t1457.length co53, .int .i64 t1460, .slice none 0 0]) ?_ 2 _ rfl; (with_reducible repeat (first | refine blk_drewN ?_ _ | refine blk_drew ?_ | refine blk_alloc ?_ _)); refine blk_put (cs := #[.slice Ao53 t1457.length co53, .int .i64 0, .slice none 0 0]) ?_ 1 _ rfl; (with_reducible repeat (first | refine blk_drewN ?_ _ | refine blk_drew ?_ | refine blk_alloc ?_ _)); refine blk_put (cs := #[.slice none 0 0, .int .i64 0, .slice none 0 0]) ?_ 0 _ rfl; (with_reducible repeat (first | refine blk_drewN ?_ _ | refine blk_drew ?_ | refine blk_alloc ?_ _)); exact BK1464.out) hb); have n6_ := Aside0.mk (below_step (oB HB) hb); clear HO1459; clear HO1463; clear BK1455; clear BK1456; clear BK1464; clear HB; have HO1459 := n0_; have HO1463 := n1_; have HO1467 := n2_; have BK1455 := n3_; have BK1456 := n4_; have BK1464 := n5_; have HB := n6_; clear n0_ n1_ n2_ n3_ n4_ n5_ n6_; (try clear hb); (try clear hb2); (try clear hk); (try clear hi); (try clear ho0); obtain ⟨Ao60, co60, eo60⟩ := Kd.R_slice HO1467.out; subst eo60))
                have n0_ := Aside0.mk (Kd.R_drew HO1459.out)
                have n1_ := Aside0.mk (Kd.R_drew HO1463.out)
                have n2_ := Aside0.mk (Kd.R_drew HO1467.out)
                have n3_ := Aside0.mk (blk_drew BK1455.out)
                have n4_ := Aside0.mk (blk_drew BK1456.out)
                have n5_ := Aside0.mk (blk_drew BK1464.out)
                have n6_ := Aside0.mk (below_drew1 HB.out)
                clear HO1459
                clear HO1463
                clear HO1467
                clear BK1455
                clear BK1456
                clear BK1464
                clear HB
                have HO1459 := n0_
                have HO1463 := n1_
                have HO1467 := n2_
                have BK1455 := n3_
                have BK1456 := n4_
                have BK1464 := n5_
                have HB := n6_
                clear n0_ n1_ n2_ n3_ n4_ n5_ n6_
                have p1468 : 0 ≤ (0 : Int) := (by omega)
                have q1468 : 0 < (t1465.length : Int) := of_decide_eq_true (by first | (with_reducible assumption) | assumption)
                obtain ⟨ad1468, e1468, hx1468_0⟩ := Kd.at_int (Kd.R_reads' HO1467.out).2.2 0 p1468 q1468
                cases e1468
                have qi1468 : (0 < t1465.length) = True := eq_true (by omega)
                (try rw [show ((0 : Int)).toNat = 0 from rfl] at hx1468_0)
                (try rw [Addr.add_zero'] at hx1468_0)
                replace p1468 := eq_true p1468
                replace q1468 := eq_true q1468
                refine start_ (n := 6) (S := fun w' => w'.cell? ⟨gb1455, 0, none⟩ = some (.slice A0_0 l0_0.length c0_0) ∧ w'.cell? ⟨gb1455, 1, none⟩ = some (.int .i64 a0_1) ∧ w'.cell? ⟨gb1455, 2, none⟩ = some (.slice A0_2 l0_2.length c0_2) ∧ w'.cell? ad1468 = some (.int .i64 (rd t1465 0))) (ds := []) #[false, false, false, false, false, false] (by kernel_rfl) rfl rfl ⟨(blk_cell BK1455.out 0).trans rfl, (blk_cell BK1455.out 1).trans rfl, (blk_cell BK1455.out 2).trans rfl, hx1468_0⟩ (fun hHeld => ?_)
                generalize w59.drew = w61 at HO1459 HO1463 HO1467 BK1455 BK1456 BK1464 HB hx1468_0 hHeld ⊢
                refine pure_ (i := 1) (N := some 16) (v := ?_) (a' := ?_) #[false, true, false, false, false, false] rfl rfl (by kernel_rfl) (fun _ _ _ h => h) (Or.inl ⟨by rfl, ?_⟩) ?_ ?_
                rotate_left
                · intro w'
                  go_simp
                  with_reducible rfl
                rotate_left
                · simp only [Act.put, List.setIfInBounds_toArray, List.set_cons_zero, List.set_cons_succ, i64_w, i32_w]
                  rfl
                refine pure_ (i := 2) (N := some 17) (v := ?_) (a' := ?_) #[false, true, true, false, false, false] rfl rfl (by kernel_rfl) (fun _ _ _ h => h) (Or.inl ⟨by rfl, ?_⟩) ?_ ?_
                rotate_left
                · intro w'
                  go_simp
                  with_reducible rfl
                rotate_left
                · simp only [Act.put, List.setIfInBounds_toArray, List.set_cons_zero, List.set_cons_succ, i64_w, i32_w]
                  rfl
                refine take_ (i := 0) (N := some 15) (v := ?_) (a' := ?_) #[true, true, true, false, false, false] rfl rfl (by kernel_rfl) (fun _ _ _ h => h) (Or.inl ⟨by rfl, ?_⟩) hHeld ?_ ?_
                rotate_left
                · rintro w' ⟨s0, s1, s2, s3⟩
                  go_simp
                  with_reducible rfl
                rotate_left
                · simp only [Act.put, List.setIfInBounds_toArray, List.set_cons_zero, List.set_cons_succ, i64_w, i32_w]
                  rfl
                refine take_ (i := 3) (N := some 18) (v := ?_) (a' := ?_) #[true, true, true, true, false, false] rfl rfl (by kernel_rfl) (fun _ _ _ h => h) (Or.inl ⟨by rfl, ?_⟩) hHeld ?_ ?_
                rotate_left
                · rintro w' ⟨s0, s1, s2, s3⟩
                  go_simp
                  with_reducible rfl
                rotate_left
                · simp only [Act.put, List.setIfInBounds_toArray, List.set_cons_zero, List.set_cons_succ, i64_w, i32_w]
                  rfl
                refine one_ (i := 4) (N := some 19) #[true, true, true, true, true, false] rfl rfl (by kernel_rfl) (by decide) (fun K hK => ?_)
                refine goes_ Try.func117 (by kernel_rfl) rfl #[.agg #[.slice A0_0 l0_0.length c0_0, .int .i64 a0_1, .slice A0_2 l0_2.length c0_2], .int .i64 (rd t1465 0)] (by rfl) rfl rfl (by (try simp only [List.map_toArray, List.map_cons, List.map_nil]); first | done | rfl | (simp only [List.length_drop, List.length_take]; rfl)) ?_
                with_reducible refine (impl_tunedBy.calls k _ _ l0_0 a0_1 _ _ l0_2 (rd t1465 0) t1469 _ ?side1 ?side2 ?side3 ?side4 A22.out).mono ?_
                (case side1 => exact oc_ HR0_0.out)
                (case side2 => exact HC0_0.out)
                (case side3 => exact oc_ HR0_2.out)
                (case side4 => exact HC0_2.out)
                rintro e w62 ⟨rfl, hb⟩
                have HS3_ := (hb.cell (World.block_lt_of_cell? _ _ (hHeld.2.2.2))).trans (hHeld.2.2.2)
                refine ⟨_, rfl, ?_⟩
                have n0_ := Aside0.mk (Kd.R_below (oR HO1459) hb)
                have n1_ := Aside0.mk (Kd.R_below (oR HO1463) hb)
                have n2_ := Aside0.mk (Kd.R_below (oR HO1467) hb)
                have n3_ := Aside0.mk (blk_below (g := gb1455) (o := .cells #[.slice A0_0 l0_0.length c0_0, .int .i64 a0_1, .slice A0_2 l0_2.length c0_2] 33 (0, 0)) (oK BK1455) hb)
                have n4_ := Aside0.mk (blk_below (g := gb1456) (o := .cells #[.slice none 0 0, .int .i64 0, .slice none 0 0] 33 (0, 0)) (oK BK1456) hb)
                have n5_ := Aside0.mk (blk_below (g := gb1464) (o := .cells #[.slice Ao53 t1457.length co53, .int .i64 t1460, .slice Ao57 t1461.length co57] 33 (0, 0)) (oK BK1464) hb)
                have n6_ := Aside0.mk (below_step (oB HB) hb)
                clear HO1459
                clear HO1463
                clear HO1467
                clear BK1455
                clear BK1456
                clear BK1464
                clear HB
                have HO1459 := n0_
                have HO1463 := n1_
                have HO1467 := n2_
                have BK1455 := n3_
                have BK1456 := n4_
                have BK1464 := n5_
                have HB := n6_
                clear n0_ n1_ n2_ n3_ n4_ n5_ n6_
                (try clear hb)
                (try clear hb2)
                (try clear hk)
                (try clear hi)
                refine hK.out _ _ ⟨(blk_cell BK1455.out 0).trans rfl, (blk_cell BK1455.out 1).trans rfl, (blk_cell BK1455.out 2).trans rfl, HS3_⟩ (fun hHeld => ?_)
                clear hK K
                refine norm_ (a' := ?_) ?_ ?_
                rotate_left
                · show Act.put _ (some 19) _ = _
                  simp only [Act.put, List.setIfInBounds_toArray, List.set_cons_zero, List.set_cons_succ, i64_w, i32_w]
                  rfl
                refine pure_ (i := 5) (N := some 6) (v := ?_) (a' := ?_) #[true, true, true, true, true, true] rfl rfl (by kernel_rfl) (fun _ _ _ h => h) (Or.inl ⟨by rfl, ?_⟩) ?_ ?_
                rotate_left
                · intro w'
                  go_simp
                  with_reducible rfl
                rotate_left
                · simp only [Act.put, List.setIfInBounds_toArray, List.set_cons_zero, List.set_cons_succ, i64_w, i32_w]
                  rfl
                refine done_ (by kernel_rfl) ?_
                try go_wp2
                have n0_ := Aside0.mk (Kd.R_drew HO1459.out)
                have n1_ := Aside0.mk (Kd.R_drew HO1463.out)
                have n2_ := Aside0.mk (Kd.R_drew HO1467.out)
                have n3_ := Aside0.mk (blk_drew BK1455.out)
                have n4_ := Aside0.mk (blk_drew BK1456.out)
                have n5_ := Aside0.mk (blk_drew BK1464.out)
                have n6_ := Aside0.mk (below_drew1 HB.out)
                clear HO1459
                clear HO1463
                clear HO1467
                clear BK1455
                clear BK1456
                clear BK1464
                clear HB
                have HO1459 := n0_
                have HO1463 := n1_
                have HO1467 := n2_
                have BK1455 := n3_
                have BK1456 := n4_
                have BK1464 := n5_
                have HB := n6_
                clear n0_ n1_ n2_ n3_ n4_ n5_ n6_
                have p1470 : 0 ≤ (0 : Int) := (by omega)
                have q1470 : 0 < (t1465.length : Int) := of_decide_eq_true (by first | (with_reducible assumption) | assumption)
                obtain ⟨ad1470, e1470, hx1470_0⟩ := Kd.at_int (Kd.R_reads' HO1467.out).2.2 0 p1470 q1470
                obtain rfl : ad1468 = ad1470 := (by injection e1470)
                have qi1470 : (0 < t1465.length) = True := eq_true (by omega)
                (try rw [show ((0 : Int)).toNat = 0 from rfl] at hx1470_0)
                (try rw [Addr.add_zero'] at hx1470_0)
                replace p1470 := eq_true p1470
                replace q1470 := eq_true q1470
                have p1471 : 0 ≤ ((rd t1465 0) : Int) := of_decide_eq_true (by first | (with_reducible assumption) | assumption)
                have q1471 : (rd t1465 0) < (l0_0.length : Int) := of_decide_eq_true (by first | (with_reducible assumption) | assumption)
                obtain ⟨ad1471, e1471, hx1471_0, hx1471_1, hx1471_2, hx1471_3⟩ := at_T96 HR0_0.out (rd t1465 0) p1471 q1471
                have hw1471_3 := hx1471_3
                have hw1471_2 := hx1471_2
                have hw1471_1 := hx1471_1
                have hw1471_0 := hx1471_0
                cases e1471
                replace hx1471_0 := (HB.out.cell (World.block_lt_of_cell? w _ hx1471_0)).trans hx1471_0
                replace hx1471_1 := (HB.out.cell (World.block_lt_of_cell? w _ hx1471_1)).trans hx1471_1
                replace hx1471_2 := (HB.out.cell (World.block_lt_of_cell? w _ hx1471_2)).trans hx1471_2
                replace hx1471_3 := (HB.out.cell (World.block_lt_of_cell? w _ hx1471_3)).trans hx1471_3
                replace p1471 := eq_true p1471
                replace q1471 := eq_true q1471
                have p46 : 0 ≤ (((rd_T96 l0_0 (rd t1465 0)).f1) : Int) := of_decide_eq_true (by first | (with_reducible assumption) | assumption)
                have q46 : (((rd_T96 l0_0 (rd t1465 0)).f1) : Int) < ((t1461.length : Int) : Int) := of_decide_eq_true (by first | (with_reducible assumption) | assumption)
                obtain ⟨go46, co46, eo46, gb46, gl46, cl46, HG46⟩ := Kd.R_form HO1463.out (by omega)
                (first | cases eo46 | (injection eo46 with ea_ en_ ec_; (first | subst ea_ | (injection ea_ with ea_; subst ea_)); subst ec_; clear en_))
                have GB46 := Aside0.mk gb46
                have GG46 := Aside0.mk HG46
                clear gb46 gl46 HG46
                obtain ⟨hx46_0, hf46_0⟩ := Kd.R_celln 0 HO1463.out (((rd_T96 l0_0 (rd t1465 0)).f1) : Int) p46 q46
                replace p46 := eq_true p46
                replace q46 := eq_true q46
                have HP64 := Kd.R_putn HO1463.out (((rd_T96 l0_0 (rd t1465 0)).f1) : Int) t1469
                rw [← Ny1472.out] at HP64
                have HQ64 := Aside0.mk HP64
                clear HP64
                refine start_ (n := 13) (S := fun w' => w'.cell? ⟨gb1464, 0, none⟩ = some (.slice Ao53 t1457.length co53) ∧ w'.cell? ⟨gb1464, 1, none⟩ = some (.int .i64 t1460) ∧ w'.cell? ⟨gb1464, 2, none⟩ = some (.slice (some ⟨go46, 0, none⟩) t1461.length co57) ∧ w'.cell? ⟨gb1455, 0, none⟩ = some (.slice (some ad1471) l0_0.length c0_0) ∧ w'.cell? ⟨gb1455, 1, none⟩ = some (.int .i64 a0_1) ∧ w'.cell? ⟨gb1455, 2, none⟩ = some (.slice A0_2 l0_2.length c0_2) ∧ w'.cell? ad1468 = some (.int .i64 (rd t1465 0)) ∧ w'.cell? (ad1471.add (((rd t1465 0)).toNat * 4)) = some (.int .i64 ((rd_T96 l0_0 (rd t1465 0)).f0)) ∧ w'.cell? ⟨(ad1471.add (((rd t1465 0)).toNat * 4)).block, (ad1471.add (((rd t1465 0)).toNat * 4)).off + 1, none⟩ = some (.int .i64 ((rd_T96 l0_0 (rd t1465 0)).f1)) ∧ w'.cell? ⟨(ad1471.add (((rd t1465 0)).toNat * 4)).block, (ad1471.add (((rd t1465 0)).toNat * 4)).off + 2, none⟩ = some (.int .i64 ((rd_T96 l0_0 (rd t1465 0)).f2)) ∧ w'.cell? ⟨(ad1471.add (((rd t1465 0)).toNat * 4)).block, (ad1471.add (((rd t1465 0)).toNat * 4)).off + 3, none⟩ = some (.int .i64 ((rd_T96 l0_0 (rd t1465 0)).f3))) (ds := [12]) #[false, false, false, false, false, false, false, false, false, false, false, false, false] (by kernel_rfl) rfl rfl ⟨(blk_cell BK1464.out 0).trans rfl, (blk_cell BK1464.out 1).trans rfl, (blk_cell BK1464.out 2).trans rfl, (blk_cell BK1455.out 0).trans rfl, (blk_cell BK1455.out 1).trans rfl, (blk_cell BK1455.out 2).trans rfl, hx1470_0, ((HB.out.cell (World.block_lt_of_cell? w _ hw1471_0)).trans hw1471_0), ((HB.out.cell (World.block_lt_of_cell? w _ hw1471_1)).trans hw1471_1), ((HB.out.cell (World.block_lt_of_cell? w _ hw1471_2)).trans hw1471_2), ((HB.out.cell (World.block_lt_of_cell? w _ hw1471_3)).trans hw1471_3)⟩ (fun hHeld => ?_); refine with_tabW impl_MendStep.tab8 impl_MendStep.bits8 (fun HT_ HW_ => ?_)
                generalize w62.drew = w63 at HO1459 HO1463 HO1467 BK1455 BK1456 BK1464 HB GG46 HQ64 hf46_0 hx1470_0 hx1471_0 hx1471_1 hx1471_2 hx1471_3 hx46_0 hHeld ⊢
                refine pure_ (i := 0) (N := some 23) (v := ?_) (a' := ?_) #[true, false, false, false, false, false, false, false, false, false, false, false, false] rfl rfl (any_of HT_.out (by kernel_rfl)) (fun _ _ _ h => h) (Or.inl ⟨by rfl, ?_⟩) ?_ ?_
                rotate_left
                · intro w'
                  go_simp
                  with_reducible rfl
                rotate_left
                · simp only [Act.put, List.setIfInBounds_toArray, List.set_cons_zero, List.set_cons_succ, i64_w, i32_w]
                  rfl
                refine pure_ (i := 2) (N := some 25) (v := ?_) (a' := ?_) #[true, false, true, false, false, false, false, false, false, false, false, false, false] rfl rfl (any_of HT_.out (by kernel_rfl)) (fun _ _ _ h => h) (Or.inl ⟨by rfl, ?_⟩) ?_ ?_
                rotate_left
                · intro w'
                  go_simp
                  with_reducible rfl
                rotate_left
                · simp only [Act.put, List.setIfInBounds_toArray, List.set_cons_zero, List.set_cons_succ, i64_w, i32_w]
                  rfl
                refine pure_ (i := 4) (N := some 27) (v := ?_) (a' := ?_) #[true, false, true, false, true, false, false, false, false, false, false, false, false] rfl rfl (any_of HT_.out (by kernel_rfl)) (fun _ _ _ h => h) (Or.inl ⟨by rfl, ?_⟩) ?_ ?_
                rotate_left
                · intro w'
                  go_simp
                  with_reducible rfl
                rotate_left
                · simp only [Act.put, List.setIfInBounds_toArray, List.set_cons_zero, List.set_cons_succ, i64_w, i32_w]
                  rfl
                refine pure_ (i := 5) (N := some 28) (v := ?_) (a' := ?_) #[true, false, true, false, true, true, false, false, false, false, false, false, false] rfl rfl (any_of HT_.out (by kernel_rfl)) (fun _ _ _ h => h) (Or.inl ⟨by rfl, ?_⟩) ?_ ?_
                rotate_left
                · intro w'
                  go_simp
                  with_reducible rfl
                rotate_left
                · simp only [Act.put, List.setIfInBounds_toArray, List.set_cons_zero, List.set_cons_succ, i64_w, i32_w]
                  rfl
                refine pure_ (i := 10) (N := some 33) (v := ?_) (a' := ?_) #[true, false, true, false, true, true, false, false, false, false, true, false, false] rfl rfl (any_of HT_.out (by kernel_rfl)) (fun _ _ _ h => h) (Or.inl ⟨by rfl, ?_⟩) ?_ ?_
                rotate_left
                · intro w'
                  go_simp
                  with_reducible rfl
                rotate_left
                · simp only [Act.put, List.setIfInBounds_toArray, List.set_cons_zero, List.set_cons_succ, i64_w, i32_w]
                  rfl
                refine take_ (i := 1) (N := some 24) (v := ?_) (a' := ?_) #[true, true, true, false, true, true, false, false, false, false, true, false, false] rfl rfl (take_ofW HT_.out HW_.out (by kernel_rfl)) (fun _ _ _ h => h) (Or.inl ⟨by rfl, ?_⟩) hHeld ?_ ?_
                rotate_left
                · rintro w' ⟨s0, s1, s2, s3, s4, s5, s6, s7, s8, s9, s10⟩
                  go_simp
                  with_reducible rfl
                rotate_left
                · simp only [Act.put, List.setIfInBounds_toArray, List.set_cons_zero, List.set_cons_succ, i64_w, i32_w]
                  rfl
                refine take_ (i := 3) (N := some 26) (v := ?_) (a' := ?_) #[true, true, true, true, true, true, false, false, false, false, true, false, false] rfl rfl (take_ofW HT_.out HW_.out (by kernel_rfl)) (fun _ _ _ h => h) (Or.inl ⟨by rfl, ?_⟩) hHeld ?_ ?_
                rotate_left
                · rintro w' ⟨s0, s1, s2, s3, s4, s5, s6, s7, s8, s9, s10⟩
                  go_simp
                  with_reducible rfl
                rotate_left
                · simp only [Act.put, List.setIfInBounds_toArray, List.set_cons_zero, List.set_cons_succ, i64_w, i32_w]
                  rfl
                refine take_ (i := 6) (N := some 29) (v := ?_) (a' := ?_) #[true, true, true, true, true, true, true, false, false, false, true, false, false] rfl rfl (take_ofW HT_.out HW_.out (by kernel_rfl)) (fun _ _ _ h => h) (Or.inl ⟨by rfl, ?_⟩) hHeld ?_ ?_
                rotate_left
                · rintro w' ⟨s0, s1, s2, s3, s4, s5, s6, s7, s8, s9, s10⟩
                  go_simp
                  with_reducible rfl
                rotate_left
                · simp only [Act.put, List.setIfInBounds_toArray, List.set_cons_zero, List.set_cons_succ, i64_w, i32_w]
                  rfl
                refine pure_ (i := 7) (N := some 30) (v := ?_) (a' := ?_) #[true, true, true, true, true, true, true, true, false, false, true, false, false] rfl rfl (any_of HT_.out (by kernel_rfl)) (fun _ _ _ h => h) (Or.inl ⟨by rfl, ?_⟩) ?_ ?_
                rotate_left
                · intro w'
                  go_simp
                  with_reducible rfl
                rotate_left
                · simp only [Act.put, List.setIfInBounds_toArray, List.set_cons_zero, List.set_cons_succ, i64_w, i32_w]
                  rfl
                refine pure_ (i := 8) (N := some 31) (v := ?_) (a' := ?_) #[true, true, true, true, true, true, true, true, true, false, true, false, false] rfl rfl (any_of HT_.out (by kernel_rfl)) (fun _ _ _ h => h) (Or.inl ⟨by rfl, ?_⟩) ?_ ?_
                rotate_left
                · intro w'
                  go_simp
                  with_reducible rfl
                rotate_left
                · simp only [Act.put, List.setIfInBounds_toArray, List.set_cons_zero, List.set_cons_succ, i64_w, i32_w]
                  rfl
                refine take_ (i := 9) (N := some 32) (v := ?_) (a' := ?_) #[true, true, true, true, true, true, true, true, true, true, true, false, false] rfl rfl (take_ofW HT_.out HW_.out (by kernel_rfl)) (fun _ _ _ h => h) (Or.inl ⟨by rfl, ?_⟩) hHeld ?_ ?_
                rotate_left
                · rintro w' ⟨s0, s1, s2, s3, s4, s5, s6, s7, s8, s9, s10⟩
                  go_simp
                  with_reducible rfl
                rotate_left
                · simp only [Act.put, List.setIfInBounds_toArray, List.set_cons_zero, List.set_cons_succ, i64_w, i32_w]
                  rfl
                refine pure_ (i := 11) (N := some 34) (v := ?_) (a' := ?_) #[true, true, true, true, true, true, true, true, true, true, true, true, false] rfl rfl (any_of HT_.out (by kernel_rfl)) (fun _ _ _ h => h) (Or.inl ⟨by rfl, ?_⟩) ?_ ?_
                rotate_left
                · intro w'
                  go_simp
                  with_reducible rfl
                rotate_left
                · simp only [Act.put, List.setIfInBounds_toArray, List.set_cons_zero, List.set_cons_succ, i64_w, i32_w]
                  rfl
                refine last_ (i := 12) (N := none) #[true, true, true, true, true, true, true, true, true, true, true, true, true] rfl rfl (one_of HT_.out (by kernel_rfl)) (by decide) (fun K hK => ?_)
                refine skip_ (w1 := ?_) (by rfl) rfl ?_ ?_
                rotate_left
                · go_simp
                  rfl
                refine hK.out _ _ ?_
                clear hK K
                refine done_ (done_of HT_.out (by kernel_rfl)) ?_
                have n0_ : Aside0 (Kd.R k96 96 (w63.setCell ⟨go46, (((rd_T96 l0_0 (rd t1465 0)).f1) : Int).toNat, none⟩ (.int .i64 t1469)) w.heap.size (fun _ => True) (.slice Ao53 t1457.length co53) t1457) := ⟨by (with_reducible repeat (first | apply Kd.R_alloc | apply Kd.R_drewN | apply Kd.R_drew)); exact Kd.R_mono (Kd.R_far (p := ⟨go46, (((rd_T96 l0_0 (rd t1465 0)).f1) : Int).toNat, none⟩) (Kd.R_types HO1459.out GG46.out (by decide)) (fun _ hk => hk.2) (.int .i64 t1469)) (fun _ hk => trivial)⟩
                have n1_ : Aside0 (Kd.R (Kd.int .i64) 3 (w63.setCell ⟨go46, (((rd_T96 l0_0 (rd t1465 0)).f1) : Int).toNat, none⟩ (.int .i64 t1469)) w.heap.size (fun k_ => some k_ ≠ (.slice (some ad1468) t1465.length co60 : Value).ownBlock) (.slice (some ⟨go46, 0, none⟩) t1461.length co57) y1472) := ⟨by (with_reducible repeat (first | apply Kd.R_alloc | apply Kd.R_drewN | apply Kd.R_drew)); exact Kd.R_mono HQ64.out (fun _ hk => hk.2)⟩
                have n2_ : Aside0 (Kd.R (Kd.int .i64) 3 (w63.setCell ⟨go46, (((rd_T96 l0_0 (rd t1465 0)).f1) : Int).toNat, none⟩ (.int .i64 t1469)) w.heap.size (fun k_ => some k_ ≠ (.slice (some ⟨go46, 0, none⟩) t1461.length co57 : Value).ownBlock) (.slice (some ad1468) t1465.length co60) t1465) := ⟨by (with_reducible repeat (first | apply Kd.R_alloc | apply Kd.R_drewN | apply Kd.R_drew)); exact Kd.R_mono (Kd.R_far (p := ⟨go46, (((rd_T96 l0_0 (rd t1465 0)).f1) : Int).toNat, none⟩) (Kd.R_mono HO1467.out (fun k_ hk => (⟨hk, fun e_ => hk.2 (by rw [e_]; rfl)⟩ : _ ∧ k_ ≠ go46))) (fun _ hk => hk.2) (.int .i64 t1469)) (fun _ hk => hk.1.2)⟩
                have n3_ : Aside0 ((w63.setCell ⟨go46, (((rd_T96 l0_0 (rd t1465 0)).f1) : Int).toNat, none⟩ (.int .i64 t1469)).heap[gb1455]? = some (.cells #[.slice (some ad1471) l0_0.length c0_0, .int .i64 a0_1, .slice A0_2 l0_2.length c0_2] 33 (0, 0))) := ⟨by (with_reducible repeat (first | refine blk_drewN ?_ _ | refine blk_drew ?_ | refine blk_alloc ?_ _)); refine blk_far ?_ (by have h_ := Kd.R_ne HO1463.out BK1455.out (by decide); intro e_; exact h_ (by rw [e_]; rfl)) _; (with_reducible repeat (first | refine blk_drewN ?_ _ | refine blk_drew ?_ | refine blk_alloc ?_ _)); exact BK1455.out⟩
                have n4_ : Aside0 ((w63.setCell ⟨go46, (((rd_T96 l0_0 (rd t1465 0)).f1) : Int).toNat, none⟩ (.int .i64 t1469)).heap[gb1456]? = some (.cells #[.slice none 0 0, .int .i64 0, .slice none 0 0] 33 (0, 0))) := ⟨by (with_reducible repeat (first | refine blk_drewN ?_ _ | refine blk_drew ?_ | refine blk_alloc ?_ _)); refine blk_far ?_ (by have h_ := Kd.R_ne HO1463.out BK1456.out (by decide); intro e_; exact h_ (by rw [e_]; rfl)) _; (with_reducible repeat (first | refine blk_drewN ?_ _ | refine blk_drew ?_ | refine blk_alloc ?_ _)); exact BK1456.out⟩
                have n5_ : Aside0 ((w63.setCell ⟨go46, (((rd_T96 l0_0 (rd t1465 0)).f1) : Int).toNat, none⟩ (.int .i64 t1469)).heap[gb1464]? = some (.cells #[.slice Ao53 t1457.length co53, .int .i64 t1460, .slice (some ⟨go46, 0, none⟩) t1461.length co57] 33 (0, 0))) := ⟨by (with_reducible repeat (first | refine blk_drewN ?_ _ | refine blk_drew ?_ | refine blk_alloc ?_ _)); refine blk_far ?_ (by have h_ := Kd.R_ne HO1463.out BK1464.out (by decide); intro e_; exact h_ (by rw [e_]; rfl)) _; (with_reducible repeat (first | refine blk_drewN ?_ _ | refine blk_drew ?_ | refine blk_alloc ?_ _)); exact BK1464.out⟩
                have n6_ : Aside0 (Below w.heap.size w (w63.setCell ⟨go46, (((rd_T96 l0_0 (rd t1465 0)).f1) : Int).toNat, none⟩ (.int .i64 t1469))) := ⟨oB HB⟩
                (try clear HO1459)
                (try clear HO1463)
                (try clear HO1467)
                (try clear BK1455)
                (try clear BK1456)
                (try clear BK1464)
                (try clear HB)
                generalize (w63.setCell ⟨go46, (((rd_T96 l0_0 (rd t1465 0)).f1) : Int).toNat, none⟩ (.int .i64 t1469)) = w65 at n0_ n1_ n2_ n3_ n4_ n5_ n6_ ⊢
                have HO1459 := n0_
                have HO1463 := n1_
                have HO1467 := n2_
                have BK1455 := n3_
                have BK1456 := n4_
                have BK1464 := n5_
                have HB := n6_
                clear n0_ n1_ n2_ n3_ n4_ n5_ n6_
                have hcz66_0 : w65.cell? ⟨gb1464, 0, none⟩ = some (.slice Ao53 t1457.length co53) := (blk_cell BK1464.out 0).trans rfl
                have hcz66_1 : w65.cell? ⟨gb1464, 1, none⟩ = some (.int .i64 t1460) := (blk_cell BK1464.out 1).trans rfl
                have hcz66_2 : w65.cell? ⟨gb1464, 2, none⟩ = some (.slice (some ⟨go46, 0, none⟩) t1461.length co57) := (blk_cell BK1464.out 2).trans rfl
                have hfz66_0 := blk_frozen BK1464.out 0
                have hfz66_1 := blk_frozen BK1464.out 1
                have hfz66_2 := blk_frozen BK1464.out 2
                have hcz67_0 : w65.cell? ⟨gb1456, 0, none⟩ = some (.slice none 0 0) := (blk_cell BK1456.out 0).trans rfl
                have hcz67_1 : w65.cell? ⟨gb1456, 1, none⟩ = some (.int .i64 0) := (blk_cell BK1456.out 1).trans rfl
                have hcz67_2 : w65.cell? ⟨gb1456, 2, none⟩ = some (.slice none 0 0) := (blk_cell BK1456.out 2).trans rfl
                have hfz67_0 := blk_frozen BK1456.out 0
                have hfz67_1 := blk_frozen BK1456.out 1
                have hfz67_2 := blk_frozen BK1456.out 2
                try go_wp2
                refine bodyPost_ret (results_ct rfl _ _ gb1456 33 #[.slice Ao53 t1457.length co53, .int .i64 t1460, .slice (some ⟨go46, 0, none⟩) t1461.length co57] (0, 0) _ rfl (by (with_reducible repeat (first | refine blk_drewN ?_ _ | refine blk_drew ?_ | refine blk_alloc ?_ _)); refine blk_put (cs := #[.slice Ao53 t1457.length co53, .int .i64 t1460, .slice none 0 0]) ?_ 2 _ rfl; (with_reducible repeat (first | refine blk_drewN ?_ _ | refine blk_drew ?_ | refine blk_alloc ?_ _)); refine blk_put (cs := #[.slice Ao53 t1457.length co53, .int .i64 0, .slice none 0 0]) ?_ 1 _ rfl; (with_reducible repeat (first | refine blk_drewN ?_ _ | refine blk_drew ?_ | refine blk_alloc ?_ _)); refine blk_put (cs := #[.slice none 0 0, .int .i64 0, .slice none 0 0]) ?_ 0 _ rfl; (with_reducible repeat (first | refine blk_drewN ?_ _ | refine blk_drew ?_ | refine blk_alloc ?_ _)); exact BK1456.out) Try.underlying33 rfl (by kernel_rfl)) rfl ?_
                exact ⟨_, _, by first | rfl | (simp [errW_none, errW_some] <;> rfl) | (simp [*, errW_none, errW_some] <;> rfl), by (with_reducible repeat (first | apply Kd.R_alloc | apply Kd.R_drewN | apply Kd.R_drew)); exact Kd.R_mono (Kd.R_far (p := ⟨gb1456, 2, none⟩) (Kd.R_far (p := ⟨gb1456, 1, none⟩) (Kd.R_far (p := ⟨gb1456, 0, none⟩) (Kd.R_types HO1459.out BK1456.out (by decide)) (fun _ hk => hk.2) (.slice Ao53 t1457.length co53)) (fun _ hk => hk.2) (.int .i64 t1460)) (fun _ hk => hk.2) (.slice (some ⟨go46, 0, none⟩) t1461.length co57)) (fun _ hk => trivial), by (with_reducible repeat (first | apply Kd.R_alloc | apply Kd.R_drewN | apply Kd.R_drew)); exact Kd.R_mono (Kd.R_far (p := ⟨gb1456, 2, none⟩) (Kd.R_far (p := ⟨gb1456, 1, none⟩) (Kd.R_far (p := ⟨gb1456, 0, none⟩) (Kd.R_types HO1463.out BK1456.out (by decide)) (fun _ hk => hk.2) (.slice Ao53 t1457.length co53)) (fun _ hk => hk.2) (.int .i64 t1460)) (fun _ hk => hk.2) (.slice (some ⟨go46, 0, none⟩) t1461.length co57)) (fun _ hk => trivial), oB HB⟩
              · rw [if_neg c45] at H
                exact absurd H (by simp)
            · rw [if_neg c44] at H
              exact absurd H (by simp)
          · rw [if_neg c43] at H
            exact absurd H (by simp)
        · rw [if_neg c42] at H
          exact absurd H (by simp)
    · rw [if_neg c21] at H
      exact absurd H (by simp)
end Go.Proofs.Ytbkkpllejgedcaa.P


namespace Go.Proofs.Ytbkkpllejgedcaa.P
open Go.RowKit Go.Proofs.YtbkkpllejgedcaaW.PrintWords Go.Proofs.YtbkkpllejgedcaaW.PrintLast Go.Proofs.YtbkkpllejgedcaaW.PrintMore Go.Proofs.Ytbkkpllejgedcaa.V
attribute [local go_sem] cell_b frozen_b
attribute [local go_sem] max2_int min2_int max_two min_two max_three min_three max_four min_four
set_option linter.unusedVariables false
set_option linter.unusedSimpArgs false
def impl_ShopTune.f (k : Nat) (l0_0 : List (S96)) (a0_1 : Int) (l0_2 : List Int) (a0_3 : Int) (a0_4 : Int) (l0_5 : List (S74)) : Option ((List (S96)) × Int × List Int × Int × Int × (List (S74)) × Bool) := (impl_copyShop.f l0_0 a0_1 l0_2 a0_3 a0_4 l0_5).bind fun bt1475 => ((impl_ShopOk.f k l0_0 a0_1 l0_2 a0_3 a0_4 l0_5).bind fun t1488 => (if t1488 = true then ((impl_WorkStep.f k l0_0 a0_1 l0_2).bind fun bt1489 => ((impl_WrongSteps.f k l0_0 a0_1 l0_2).bind fun t1498 => (if (t1498.length : Int) > 0 then ((impl_MendStep.f k l0_0 a0_1 l0_2).bind fun bt1501 => (if bt1501.2.2.2 = true then (some (bt1501.1, bt1501.2.1, bt1501.2.2.1, bt1475.2.2.2.1, bt1475.2.2.2.2.1, bt1475.2.2.2.2.2, true)) else (some (bt1475.1, bt1475.2.1, bt1475.2.2.1, bt1475.2.2.2.1, bt1475.2.2.2.2.1, bt1475.2.2.2.2.2, false)))) else (if bt1489.2.2.2 = true then (some (bt1489.1, bt1489.2.1, bt1489.2.2.1, bt1475.2.2.2.1, bt1475.2.2.2.2.1, bt1475.2.2.2.2.2, true)) else (some (bt1475.1, bt1475.2.1, bt1475.2.2.1, bt1475.2.2.2.1, bt1475.2.2.2.2.1, bt1475.2.2.2.2.2, false)))))) else (some (bt1475.1, bt1475.2.1, bt1475.2.2.1, bt1475.2.2.2.1, bt1475.2.2.2.2.1, bt1475.2.2.2.2.2, false))))
set_option maxHeartbeats 8000000 in
set_option maxRecDepth 100000 in
set_option synthInstance.maxHeartbeats 400000 in
set_option synthInstance.maxSize 100000 in
theorem impl_ShopTune.calls (k : Nat) (A0_0 : Option Addr) (c0_0 : Nat) (l0_0 : List (S96)) (a0_1 : Int) (A0_2 : Option Addr) (c0_2 : Nat) (l0_2 : List Int) (a0_3 : Int) (a0_4 : Int) (A0_5 : Option Addr) (c0_5 : Nat) (l0_5 : List (S74)) (r1 : List (S96)) (r2 : Int) (r3 : List Int) (r4 : Int) (r5 : Int) (r6 : List (S74)) (r7 : Bool) (w : World) (hr0_0 : Kd.C k96 w A0_0 l0_0.length l0_0) (hc0_0 : l0_0.length ≤ c0_0) (hr0_2 : Kd.C (Kd.int .i64) w A0_2 l0_2.length l0_2) (hc0_2 : l0_2.length ≤ c0_2) (hr0_5 : Kd.C k74 w A0_5 l0_5.length l0_5) (hc0_5 : l0_5.length ≤ c0_5) (h : impl_ShopTune.f k l0_0 a0_1 l0_2 a0_3 a0_4 l0_5 = some (r1, r2, r3, r4, r5, r6, r7)) :
    Calls Try.prog 42 #[.agg #[.slice A0_0 l0_0.length c0_0, .int .i64 a0_1, .slice A0_2 l0_2.length c0_2, .int .i64 a0_3, .int .i64 a0_4, .slice A0_5 l0_5.length c0_5]] w fun e w' => ∃ v0_ v2_ v5_ : Value, e = .returned (.tuple #[.agg #[v0_, .int .i64 r2, v2_, .int .i64 r4, .int .i64 r5, v5_], .bool r7]) ∧ Kd.R k96 96 w' w.heap.size (fun _ => True) v0_ r1 ∧ Kd.R (Kd.int .i64) 3 w' w.heap.size (fun _ => True) v2_ r3 ∧ Kd.R k74 74 w' w.heap.size (fun _ => True) v5_ r6 ∧ Below w.heap.size w w' := by
  have ihr0_0 := RdE.mk hr0_0
  have ihc0_0 := LeI.mk hc0_0
  have ihr0_2 := RdE.mk hr0_2
  have ihc0_2 := LeI.mk hc0_2
  have ihr0_5 := RdE.mk hr0_5
  have ihc0_5 := LeI.mk hc0_5
  clear hr0_0 hc0_0 hr0_2 hc0_2 hr0_5 hc0_5
  unfold impl_ShopTune.f at h
  have hu33 := Try.underlying33
  have hu36 := Try.underlying36
  (repeat' first | ((with_reducible replace h := ite_some h); rcases h with ⟨hc, h⟩ | ⟨hc, h⟩ <;> first | exact (none_some h).elim | exact absurd hc (by decide) | subst hc | (replace hc := Bool.eq_false_iff.mpr hc; subst hc) | (have hd := beq_iff_eq.mpr hc; have he := bne_eq_false_iff_eq.mpr hc; clear hc) | (have hd := beq_eq_false_iff_ne.mpr hc; have he := bne_iff_ne.mpr hc) | (have hd := decide_eq_false hc) | (have hd := decide_eq_true hc) | skip))
  all_goals go_enter Try.func42, Try.ntmps42
  all_goals go_wp2_with (first
    | ((with_reducible refine gate_dst (N := 1) rfl ?_); refine box_event rfl (N := 1) rfl (cs := #[.slice A0_0 l0_0.length c0_0, .int .i64 a0_1, .slice A0_2 l0_2.length c0_2, .int .i64 a0_3, .int .i64 a0_4, .slice A0_5 l0_5.length c0_5]) (t := 36) (by first | (go_simp; done) | (go_simp; rfl)) ?_; intro g hg w1 hk hb; have j1 := Born.mk hg; have j2 := Bel.mk hb; have j3 := Blk.mk hk; clear hg hb hk)
    | ((with_reducible refine gate_dst (N := 2) rfl ?_); refine box_event rfl (N := 2) rfl (cs := #[.slice none 0 0, .int .i64 0, .slice none 0 0, .int .i64 0, .int .i64 0, .slice none 0 0]) (t := 36) (by first | (go_simp; done) | (go_simp; rfl)) ?_; intro g hg w1 hk hb; have j1 := Born.mk hg; have j2 := Bel.mk hb; have j3 := Blk.mk hk; clear hg hb hk)
    | ((with_reducible refine gate_dst (N := 4) rfl ?_); refine box_event rfl (N := 4) rfl (cs := #[.slice none 0 0, .int .i64 0, .slice none 0 0, .int .i64 0, .int .i64 0, .slice none 0 0]) (t := 36) (by first | (go_simp; done) | (go_simp; rfl)) ?_; intro g hg w1 hk hb; have j1 := Born.mk hg; have j2 := Bel.mk hb; have j3 := Blk.mk hk; clear hg hb hk)
    | ((with_reducible refine gate_dst (N := 5) rfl ?_); refine box_event rfl (N := 5) rfl (cs := #[.slice none 0 0, .int .i64 0, .slice none 0 0]) (t := 33) (by first | (go_simp; done) | (go_simp; rfl)) ?_; intro g hg w1 hk hb; have j1 := Born.mk hg; have j2 := Bel.mk hb; have j3 := Blk.mk hk; clear hg hb hk)
    | (go_at_call 84; replace h := Option.bind_eq_some_iff.mp h; obtain ⟨⟨t1, t2, t3, t4, t5, t6⟩, A, h⟩ := h; (try dsimp only at h); refine (impl_copyShop.calls _ _ _ _ _ _ _ _ _ _ _ _ _ _ _ _ _ _ _ Rd.out LeI.out Rd.out LeI.out Rd.out LeI.out A).mono ?_; rintro e w2 ⟨v0, v1, v2, rfl, ho0, ho1, ho2, hb⟩; obtain ⟨B0, b0, rfl⟩ := Kd.R_slice ho0; have j0 := RowE.mk ho0; have q0 := LeI.mk (rowLe j0); obtain ⟨B1, b1, rfl⟩ := Kd.R_slice ho1; have j1 := RowE.mk ho1; have q1 := LeI.mk (rowLe j1); obtain ⟨B2, b2, rfl⟩ := Kd.R_slice ho2; have j2 := RowE.mk ho2; have q2 := LeI.mk (rowLe j2); have jb := Bel.mk hb; clear A ho0 ho1 ho2 hb; (repeat' first | ((with_reducible replace h := ite_some h); rcases h with ⟨hc, h⟩ | ⟨hc, h⟩ <;> first | exact (none_some h).elim | exact absurd hc (by decide) | subst hc | (replace hc := Bool.eq_false_iff.mpr hc; subst hc) | (have hd := beq_iff_eq.mpr hc; have he := bne_eq_false_iff_eq.mpr hc; clear hc) | (have hd := beq_eq_false_iff_ne.mpr hc; have he := bne_iff_ne.mpr hc) | (have hd := decide_eq_false hc) | (have hd := decide_eq_true hc) | skip)))
    | (go_at_call 18; replace h := Option.bind_eq_some_iff.mp h; obtain ⟨t, A, h⟩ := h; (try dsimp only at h); refine (impl_ShopOk.calls _ _ _ _ _ _ _ _ _ _ _ _ _ _ _ Rd.out LeI.out Rd.out LeI.out Rd.out LeI.out A).mono ?_; rintro e w2 ⟨rfl, hb⟩; have jb := Bel.mk hb; clear A hb; (repeat' first | ((with_reducible replace h := ite_some h); rcases h with ⟨hc, h⟩ | ⟨hc, h⟩ <;> first | exact (none_some h).elim | exact absurd hc (by decide) | subst hc | (replace hc := Bool.eq_false_iff.mpr hc; subst hc) | (have hd := beq_iff_eq.mpr hc; have he := bne_eq_false_iff_eq.mpr hc; clear hc) | (have hd := beq_eq_false_iff_ne.mpr hc; have he := bne_iff_ne.mpr hc) | (have hd := decide_eq_false hc) | (have hd := decide_eq_true hc) | skip)))
    | (go_at_call 89; replace h := Option.bind_eq_some_iff.mp h; obtain ⟨⟨t1, t2, t3, t4⟩, A, h⟩ := h; (try dsimp only at h); refine (impl_WorkStep.calls _ _ _ _ _ _ _ _ _ _ _ _ _ Rd.out LeI.out Rd.out LeI.out A).mono ?_; rintro e w2 ⟨v0, v1, rfl, ho0, ho1, hb⟩; obtain ⟨B0, b0, rfl⟩ := Kd.R_slice ho0; have j0 := RowE.mk ho0; have q0 := LeI.mk (rowLe j0); obtain ⟨B1, b1, rfl⟩ := Kd.R_slice ho1; have j1 := RowE.mk ho1; have q1 := LeI.mk (rowLe j1); have jb := Bel.mk hb; clear A ho0 ho1 hb; (repeat' first | ((with_reducible replace h := ite_some h); rcases h with ⟨hc, h⟩ | ⟨hc, h⟩ <;> first | exact (none_some h).elim | exact absurd hc (by decide) | subst hc | (replace hc := Bool.eq_false_iff.mpr hc; subst hc) | (have hd := beq_iff_eq.mpr hc; have he := bne_eq_false_iff_eq.mpr hc; clear hc) | (have hd := beq_eq_false_iff_ne.mpr hc; have he := bne_iff_ne.mpr hc) | (have hd := decide_eq_false hc) | (have hd := decide_eq_true hc) | skip)))
    | (go_at_call 80; replace h := Option.bind_eq_some_iff.mp h; obtain ⟨t, A, h⟩ := h; (try dsimp only at h); refine (impl_WrongSteps.calls _ _ _ _ _ _ _ _ _ _ Rd.out LeI.out Rd.out LeI.out A).mono ?_; rintro e w2 ⟨v0, rfl, ho0, hb⟩; obtain ⟨B0, b0, rfl⟩ := Kd.R_slice ho0; have j0 := RowE.mk ho0; have q0 := LeI.mk (rowLe j0); have jb := Bel.mk hb; clear A ho0 hb; (repeat' first | ((with_reducible replace h := ite_some h); rcases h with ⟨hc, h⟩ | ⟨hc, h⟩ <;> first | exact (none_some h).elim | exact absurd hc (by decide) | subst hc | (replace hc := Bool.eq_false_iff.mpr hc; subst hc) | (have hd := beq_iff_eq.mpr hc; have he := bne_eq_false_iff_eq.mpr hc; clear hc) | (have hd := beq_eq_false_iff_ne.mpr hc; have he := bne_iff_ne.mpr hc) | (have hd := decide_eq_false hc) | (have hd := decide_eq_true hc) | skip)); (try have hn : decide (0 < t.length) = true := decide_eq_true (by omega)); (try have hn : decide (0 < t.length) = false := decide_eq_false (by omega)))
    | (go_at_call 90; replace h := Option.bind_eq_some_iff.mp h; obtain ⟨⟨t1, t2, t3, t4⟩, A, h⟩ := h; (try dsimp only at h); refine (impl_MendStep.calls _ _ _ _ _ _ _ _ _ _ _ _ _ Rd.out LeI.out Rd.out LeI.out A).mono ?_; rintro e w2 ⟨v0, v1, rfl, ho0, ho1, hb⟩; obtain ⟨B0, b0, rfl⟩ := Kd.R_slice ho0; have j0 := RowE.mk ho0; have q0 := LeI.mk (rowLe j0); obtain ⟨B1, b1, rfl⟩ := Kd.R_slice ho1; have j1 := RowE.mk ho1; have q1 := LeI.mk (rowLe j1); have jb := Bel.mk hb; clear A ho0 ho1 hb; (repeat' first | ((with_reducible replace h := ite_some h); rcases h with ⟨hc, h⟩ | ⟨hc, h⟩ <;> first | exact (none_some h).elim | exact absurd hc (by decide) | subst hc | (replace hc := Bool.eq_false_iff.mpr hc; subst hc) | (have hd := beq_iff_eq.mpr hc; have he := bne_eq_false_iff_eq.mpr hc; clear hc) | (have hd := beq_eq_false_iff_ne.mpr hc; have he := bne_iff_ne.mpr hc) | (have hd := decide_eq_false hc) | (have hd := decide_eq_true hc) | skip))))
  all_goals (repeat' first | ((with_reducible replace h := ite_some h); rcases h with ⟨hc, h⟩ | ⟨hc, h⟩ <;> first | exact (none_some h).elim | exact absurd hc (by decide) | subst hc | (replace hc := Bool.eq_false_iff.mpr hc; subst hc) | (have hd := beq_iff_eq.mpr hc; have he := bne_eq_false_iff_eq.mpr hc; clear hc) | (have hd := beq_eq_false_iff_ne.mpr hc; have he := bne_iff_ne.mpr hc) | (have hd := decide_eq_false hc) | (have hd := decide_eq_true hc) | skip))
  all_goals simp only [Option.some.injEq, Prod.mk.injEq] at h
  all_goals obtain ⟨rfl, rfl, rfl, rfl, rfl, rfl, rfl⟩ := h
  all_goals refine bodyPost_ret (results_ct rfl _ _ _ _ _ (0, 0) _ rfl Blk.out Try.underlying36 rfl (by kernel_rfl)) rfl ?_
  all_goals exact ⟨_, _, _, rfl, (by first | exact rowFin | exact Kd.R_nil _ _ _ _ _), (by first | exact rowFin | exact Kd.R_nil _ _ _ _ _), (by first | exact rowFin | exact Kd.R_nil _ _ _ _ _), From.out⟩
end Go.Proofs.Ytbkkpllejgedcaa.P


namespace Go.Proofs.Ytbkkpllejgedcaa.P
open Go.RowKit Go.Proofs.YtbkkpllejgedcaaW.PrintWords Go.Proofs.YtbkkpllejgedcaaW.PrintLast Go.Proofs.YtbkkpllejgedcaaW.PrintMore Go.Proofs.Ytbkkpllejgedcaa.V
attribute [local go_sem] cell_b frozen_b
attribute [local go_sem] max2_int min2_int max_two min_two max_three min_three max_four min_four
set_option linter.unusedVariables false
set_option linter.unusedSimpArgs false
mutual
def laws_FnExactShopTune.j0 : Nat → Bool → Bool → Bool → List (S98) → Int → List Int → Int → Int → List (S68) → List (S96) → Int → List Int → Int → Int → List (S74) → List (S96) → Int → List Int → Int → Int → List (S74) → List (S96) → Int → List Int → Int → Int → List (S74) → Option (Bool)
  | 0, _, _, _, _, _, _, _, _, _, _, _, _, _, _, _, _, _, _, _, _, _, _, _, _, _, _, _ => none
  | k + 1, x5, x8, x40, x1510000, x1510001, x1510002, x1510003, x1510004, x1510005, x1537000, x1537001, x1537002, x1537003, x1537004, x1537005, x1550000, x1550001, x1550002, x1550003, x1550004, x1550005, x1564000, x1564001, x1564002, x1564003, x1564004, x1564005 => if x40 = true then (some false) else ((laws_toShop.f k x1510000 x1510001 x1510002 x1510003 x1510004 x1510005).bind fun bt1565 => ((laws_eqShop.f k x1550000 x1550001 x1550002 x1550003 x1550004 x1550005 bt1565.1 bt1565.2.1 bt1565.2.2.1 bt1565.2.2.2.1 bt1565.2.2.2.2.1 bt1565.2.2.2.2.2).bind fun t1577 => (if t1577 = true then ((laws_markShop.f k x1550000 x1550001 x1550002 x1550003 x1550004 x1550005 1).bind fun bt1578 => (if bt1578.1 < 0 then (laws_FnExactShopTune.j1 k x5 true x1510000 x1510001 x1510002 x1510003 x1510004 x1510005 x1537000 x1537001 x1537002 x1537003 x1537004 x1537005 x1564000 x1564001 x1564002 x1564003 x1564004 x1564005) else ((laws_eqShop.f k x1564000 x1564001 x1564002 x1564003 x1564004 x1564005 x1537000 x1537001 x1537002 x1537003 x1537004 x1537005).bind fun t1582 => (if t1582 = true then (laws_FnExactShopTune.j1 k x5 (x8 != x5) x1510000 x1510001 x1510002 x1510003 x1510004 x1510005 x1537000 x1537001 x1537002 x1537003 x1537004 x1537005 x1564000 x1564001 x1564002 x1564003 x1564004 x1564005) else (laws_FnExactShopTune.j1 k x5 true x1510000 x1510001 x1510002 x1510003 x1510004 x1510005 x1537000 x1537001 x1537002 x1537003 x1537004 x1537005 x1564000 x1564001 x1564002 x1564003 x1564004 x1564005))))) else (some false))))
def laws_FnExactShopTune.j1 : Nat → Bool → Bool → List (S98) → Int → List Int → Int → Int → List (S68) → List (S96) → Int → List Int → Int → Int → List (S74) → List (S96) → Int → List Int → Int → Int → List (S74) → Option (Bool)
  | 0, _, _, _, _, _, _, _, _, _, _, _, _, _, _, _, _, _, _, _, _ => none
  | k + 1, x5, x61, x1510000, x1510001, x1510002, x1510003, x1510004, x1510005, x1537000, x1537001, x1537002, x1537003, x1537004, x1537005, x1564000, x1564001, x1564002, x1564003, x1564004, x1564005 => if x61 = true then (some false) else ((laws_markShop.f k x1564000 x1564001 x1564002 x1564003 x1564004 x1564005 1).bind fun bt1583 => ((laws_heldShop.f k bt1583.2.1 x1564001 bt1583.2.2.1 x1564003 x1564004 bt1583.2.2.2 1).bind fun t1587 => (if t1587 < 0 then (some false) else (if t1587 = bt1583.1 then ((laws_toShop.f k x1510000 x1510001 x1510002 x1510003 x1510004 x1510005).bind fun bt1588 => ((impl_ShopTune.f k bt1588.1 bt1588.2.1 bt1588.2.2.1 bt1588.2.2.2.1 bt1588.2.2.2.2.1 bt1588.2.2.2.2.2).bind fun bt1600 => ((laws_eqShop.f k bt1600.1 bt1600.2.1 bt1600.2.2.1 bt1600.2.2.2.1 bt1600.2.2.2.2.1 bt1600.2.2.2.2.2.1 x1537000 x1537001 x1537002 x1537003 x1537004 x1537005).bind fun t1614 => (if t1614 = true then (laws_FnExactShopTune.j2 k bt1583.1 (bt1600.2.2.2.2.2.2 != x5) bt1583.2.1 x1564001 bt1583.2.2.1 x1564003 x1564004 bt1583.2.2.2) else (laws_FnExactShopTune.j2 k bt1583.1 true bt1583.2.1 x1564001 bt1583.2.2.1 x1564003 x1564004 bt1583.2.2.2))))) else (some false)))))
def laws_FnExactShopTune.j2 : Nat → Int → Bool → List (S96) → Int → List Int → Int → Int → List (S74) → Option (Bool)
  | 0, _, _, _, _, _, _, _, _ => none
  | k + 1, x10, x87, x1564000, x1564001, x1564002, x1564003, x1564004, x1564005 => if x87 = true then (some false) else ((laws_heldShop.f k x1564000 x1564001 x1564002 x1564003 x1564004 x1564005 1).bind fun t1615 => (if t1615 < 0 then (some false) else (if t1615 = x10 then (some true) else (some false))))
end
def laws_FnExactShopTune.f (k : Nat) (l0_0 : List (S98)) (a0_1 : Int) (l0_2 : List Int) (a0_3 : Int) (a0_4 : Int) (l0_5 : List (S68)) : Option (Bool) := (laws_szShop.f l0_0 a0_1 l0_2 a0_3 a0_4 l0_5 1048576).bind fun t1510 => (if t1510 < 0 then (some true) else ((laws_toShop.f k l0_0 a0_1 l0_2 a0_3 a0_4 l0_5).bind fun bt1511 => ((spec_ShopTune.f k bt1511.1 bt1511.2.1 bt1511.2.2.1 bt1511.2.2.2.1 bt1511.2.2.2.2.1 bt1511.2.2.2.2.2).bind fun bt1523 => ((laws_toShop.f k l0_0 a0_1 l0_2 a0_3 a0_4 l0_5).bind fun bt1537 => ((impl_ShopTune.f k bt1537.1 bt1537.2.1 bt1537.2.2.1 bt1537.2.2.2.1 bt1537.2.2.2.2.1 bt1537.2.2.2.2.2).bind fun bt1550 => ((laws_eqShop.f k bt1550.1 bt1550.2.1 bt1550.2.2.1 bt1550.2.2.2.1 bt1550.2.2.2.2.1 bt1550.2.2.2.2.2.1 bt1523.1 bt1523.2.1 bt1523.2.2.1 bt1523.2.2.2.1 bt1523.2.2.2.2.1 bt1523.2.2.2.2.2.1).bind fun t1564 => (if t1564 = true then (laws_FnExactShopTune.j0 k bt1523.2.2.2.2.2.2 bt1550.2.2.2.2.2.2 (bt1550.2.2.2.2.2.2 != bt1523.2.2.2.2.2.2) l0_0 a0_1 l0_2 a0_3 a0_4 l0_5 bt1523.1 bt1523.2.1 bt1523.2.2.1 bt1523.2.2.2.1 bt1523.2.2.2.2.1 bt1523.2.2.2.2.2.1 bt1537.1 bt1537.2.1 bt1537.2.2.1 bt1537.2.2.2.1 bt1537.2.2.2.2.1 bt1537.2.2.2.2.2 bt1550.1 bt1550.2.1 bt1550.2.2.1 bt1550.2.2.2.1 bt1550.2.2.2.2.1 bt1550.2.2.2.2.2.1) else (laws_FnExactShopTune.j0 k bt1523.2.2.2.2.2.2 bt1550.2.2.2.2.2.2 true l0_0 a0_1 l0_2 a0_3 a0_4 l0_5 bt1523.1 bt1523.2.1 bt1523.2.2.1 bt1523.2.2.2.1 bt1523.2.2.2.2.1 bt1523.2.2.2.2.2.1 bt1537.1 bt1537.2.1 bt1537.2.2.1 bt1537.2.2.2.1 bt1537.2.2.2.2.1 bt1537.2.2.2.2.2 bt1550.1 bt1550.2.1 bt1550.2.2.1 bt1550.2.2.2.1 bt1550.2.2.2.2.1 bt1550.2.2.2.2.2.1))))))))
set_option maxHeartbeats 8000000 in
set_option maxRecDepth 100000 in
set_option synthInstance.maxHeartbeats 400000 in
set_option synthInstance.maxSize 100000 in
theorem laws_FnExactShopTune.calls (k : Nat) (A0_0 : Option Addr) (c0_0 : Nat) (l0_0 : List (S98)) (a0_1 : Int) (A0_2 : Option Addr) (c0_2 : Nat) (l0_2 : List Int) (a0_3 : Int) (a0_4 : Int) (A0_5 : Option Addr) (c0_5 : Nat) (l0_5 : List (S68)) (r : Bool) (w : World) (hr0_0 : Kd.C k98 w A0_0 l0_0.length l0_0) (hc0_0 : l0_0.length ≤ c0_0) (hr0_2 : Kd.C (Kd.int .i64) w A0_2 l0_2.length l0_2) (hc0_2 : l0_2.length ≤ c0_2) (hr0_5 : Kd.C k68 w A0_5 l0_5.length l0_5) (hc0_5 : l0_5.length ≤ c0_5) (h : laws_FnExactShopTune.f k l0_0 a0_1 l0_2 a0_3 a0_4 l0_5 = some r) (hrt_ : Aside0 (r = true)) :
    Calls Try.prog 11 #[.agg #[.slice A0_0 l0_0.length c0_0, .int .i64 a0_1, .slice A0_2 l0_2.length c0_2, .int .i64 a0_3, .int .i64 a0_4, .slice A0_5 l0_5.length c0_5]] w fun e w' => e = .returned (.bool r) ∧ Below w.heap.size w w' := by
  have ihr0_0 := RdE.mk hr0_0
  have ihc0_0 := LeI.mk hc0_0
  have ihr0_2 := RdE.mk hr0_2
  have ihc0_2 := LeI.mk hc0_2
  have ihr0_5 := RdE.mk hr0_5
  have ihc0_5 := LeI.mk hc0_5
  clear hr0_0 hc0_0 hr0_2 hc0_2 hr0_5 hc0_5
  obtain rfl := hrt_.out
  clear hrt_
  unfold laws_FnExactShopTune.f at h
  have hu28 := Try.underlying28
  have hu36 := Try.underlying36
  (repeat' first | ((with_reducible replace h := ite_some h); rcases h with ⟨hc, h⟩ | ⟨hc, h⟩ <;> first | exact (none_some h).elim | exact absurd (Option.some.inj h) (by decide) | exact absurd hc (by decide) | subst hc | (replace hc := Bool.eq_false_iff.mpr hc; subst hc) | (have hd := Bool.eq_false_iff.mpr hc) | (have hd := beq_iff_eq.mpr hc; have he := bne_eq_false_iff_eq.mpr hc; clear hc) | (have hd := beq_eq_false_iff_ne.mpr hc; have he := bne_iff_ne.mpr hc) | (have hd := decide_eq_false hc) | (have hd := decide_eq_true hc) | skip) | ((have hj : laws_FnExactShopTune.j0 k _ _ _ _ _ _ _ _ _ _ _ _ _ _ _ _ _ _ _ _ _ _ _ _ _ _ _ = _ := h); clear hj; rcases k with _ | k <;> rw [laws_FnExactShopTune.j0] at h <;> first | exact (none_some h).elim | skip) | ((have hj : laws_FnExactShopTune.j1 k _ _ _ _ _ _ _ _ _ _ _ _ _ _ _ _ _ _ _ _ = _ := h); clear hj; rcases k with _ | k <;> rw [laws_FnExactShopTune.j1] at h <;> first | exact (none_some h).elim | skip) | ((have hj : laws_FnExactShopTune.j2 k _ _ _ _ _ _ _ _ = _ := h); clear hj; rcases k with _ | k <;> rw [laws_FnExactShopTune.j2] at h <;> first | exact (none_some h).elim | skip))
  all_goals go_enter Try.func11, Try.ntmps11
  all_goals go_wp2_with (first
    | ((with_reducible refine gate_dst (N := 1) rfl ?_); refine box_event rfl (N := 1) rfl (cs := #[.slice A0_0 l0_0.length c0_0, .int .i64 a0_1, .slice A0_2 l0_2.length c0_2, .int .i64 a0_3, .int .i64 a0_4, .slice A0_5 l0_5.length c0_5]) (t := 28) (by first | (go_simp; done) | (go_simp; rfl)) ?_; intro g hg w1 hk hb; have j1 := Born.mk hg; have j2 := Bel.mk hb; have j3 := Blk.mk hk; clear hg hb hk)
    | ((with_reducible refine gate_dst (N := 4) rfl ?_); refine box_event rfl (N := 4) rfl (cs := #[.slice none 0 0, .int .i64 0, .slice none 0 0, .int .i64 0, .int .i64 0, .slice none 0 0]) (t := 36) (by first | (go_simp; done) | (go_simp; rfl)) ?_; intro g hg w1 hk hb; have j1 := Born.mk hg; have j2 := Bel.mk hb; have j3 := Blk.mk hk; clear hg hb hk)
    | ((with_reducible refine gate_dst (N := 6) rfl ?_); refine box_event rfl (N := 6) rfl (cs := #[.slice none 0 0, .int .i64 0, .slice none 0 0, .int .i64 0, .int .i64 0, .slice none 0 0]) (t := 36) (by first | (go_simp; done) | (go_simp; rfl)) ?_; intro g hg w1 hk hb; have j1 := Born.mk hg; have j2 := Bel.mk hb; have j3 := Blk.mk hk; clear hg hb hk)
    | ((with_reducible refine gate_dst (N := 7) rfl ?_); refine box_event rfl (N := 7) rfl (cs := #[.slice none 0 0, .int .i64 0, .slice none 0 0, .int .i64 0, .int .i64 0, .slice none 0 0]) (t := 36) (by first | (go_simp; done) | (go_simp; rfl)) ?_; intro g hg w1 hk hb; have j1 := Born.mk hg; have j2 := Bel.mk hb; have j3 := Blk.mk hk; clear hg hb hk)
    | ((with_reducible refine gate_dst (N := 12) rfl ?_); refine box_event rfl (N := 12) rfl (cs := #[.slice none 0 0, .int .i64 0, .slice none 0 0, .int .i64 0, .int .i64 0, .slice none 0 0]) (t := 36) (by first | (go_simp; done) | (go_simp; rfl)) ?_; intro g hg w1 hk hb; have j1 := Born.mk hg; have j2 := Bel.mk hb; have j3 := Blk.mk hk; clear hg hb hk)
    | (go_at_call 15; replace h := Option.bind_eq_some_iff.mp h; obtain ⟨t, A, h⟩ := h; (try dsimp only at h); refine (laws_szShop.calls _ _ _ _ _ _ _ _ _ _ _ _ _ _ _ Rd.out LeI.out Rd.out LeI.out Rd.out LeI.out A).mono ?_; rintro e w2 ⟨rfl, hb⟩; have jb := Bel.mk hb; clear A hb; (repeat' first | ((with_reducible replace h := ite_some h); rcases h with ⟨hc, h⟩ | ⟨hc, h⟩ <;> first | exact (none_some h).elim | exact absurd (Option.some.inj h) (by decide) | exact absurd hc (by decide) | subst hc | (replace hc := Bool.eq_false_iff.mpr hc; subst hc) | (have hd := Bool.eq_false_iff.mpr hc) | (have hd := beq_iff_eq.mpr hc; have he := bne_eq_false_iff_eq.mpr hc; clear hc) | (have hd := beq_eq_false_iff_ne.mpr hc; have he := bne_iff_ne.mpr hc) | (have hd := decide_eq_false hc) | (have hd := decide_eq_true hc) | skip) | ((have hj : laws_FnExactShopTune.j0 k _ _ _ _ _ _ _ _ _ _ _ _ _ _ _ _ _ _ _ _ _ _ _ _ _ _ _ = _ := h); clear hj; rcases k with _ | k <;> rw [laws_FnExactShopTune.j0] at h <;> first | exact (none_some h).elim | skip) | ((have hj : laws_FnExactShopTune.j1 k _ _ _ _ _ _ _ _ _ _ _ _ _ _ _ _ _ _ _ _ = _ := h); clear hj; rcases k with _ | k <;> rw [laws_FnExactShopTune.j1] at h <;> first | exact (none_some h).elim | skip) | ((have hj : laws_FnExactShopTune.j2 k _ _ _ _ _ _ _ _ = _ := h); clear hj; rcases k with _ | k <;> rw [laws_FnExactShopTune.j2] at h <;> first | exact (none_some h).elim | skip)))
    | (go_at_call 17; replace h := Option.bind_eq_some_iff.mp h; obtain ⟨⟨t1, t2, t3, t4, t5, t6⟩, A, h⟩ := h; (try dsimp only at h); refine (laws_toShop.calls _ _ _ _ _ _ _ _ _ _ _ _ _ _ _ _ _ _ _ _ Rd.out LeI.out Rd.out LeI.out Rd.out LeI.out A).mono ?_; rintro e w2 ⟨v0, v1, v2, rfl, ho0, ho1, ho2, hb⟩; obtain ⟨B0, b0, rfl⟩ := Kd.R_slice ho0; have j0 := RowE.mk ho0; have q0 := LeI.mk (rowLe j0); obtain ⟨B1, b1, rfl⟩ := Kd.R_slice ho1; have j1 := RowE.mk ho1; have q1 := LeI.mk (rowLe j1); obtain ⟨B2, b2, rfl⟩ := Kd.R_slice ho2; have j2 := RowE.mk ho2; have q2 := LeI.mk (rowLe j2); have jb := Bel.mk hb; clear A ho0 ho1 ho2 hb; (repeat' first | ((with_reducible replace h := ite_some h); rcases h with ⟨hc, h⟩ | ⟨hc, h⟩ <;> first | exact (none_some h).elim | exact absurd (Option.some.inj h) (by decide) | exact absurd hc (by decide) | subst hc | (replace hc := Bool.eq_false_iff.mpr hc; subst hc) | (have hd := Bool.eq_false_iff.mpr hc) | (have hd := beq_iff_eq.mpr hc; have he := bne_eq_false_iff_eq.mpr hc; clear hc) | (have hd := beq_eq_false_iff_ne.mpr hc; have he := bne_iff_ne.mpr hc) | (have hd := decide_eq_false hc) | (have hd := decide_eq_true hc) | skip) | ((have hj : laws_FnExactShopTune.j0 k _ _ _ _ _ _ _ _ _ _ _ _ _ _ _ _ _ _ _ _ _ _ _ _ _ _ _ = _ := h); clear hj; rcases k with _ | k <;> rw [laws_FnExactShopTune.j0] at h <;> first | exact (none_some h).elim | skip) | ((have hj : laws_FnExactShopTune.j1 k _ _ _ _ _ _ _ _ _ _ _ _ _ _ _ _ _ _ _ _ = _ := h); clear hj; rcases k with _ | k <;> rw [laws_FnExactShopTune.j1] at h <;> first | exact (none_some h).elim | skip) | ((have hj : laws_FnExactShopTune.j2 k _ _ _ _ _ _ _ _ = _ := h); clear hj; rcases k with _ | k <;> rw [laws_FnExactShopTune.j2] at h <;> first | exact (none_some h).elim | skip)))
    | (go_at_call 41; replace h := Option.bind_eq_some_iff.mp h; obtain ⟨⟨t1, t2, t3, t4, t5, t6, t7⟩, A, h⟩ := h; (try dsimp only at h); refine (spec_ShopTune.calls _ _ _ _ _ _ _ _ _ _ _ _ _ _ _ _ _ _ _ _ _ Rd.out LeI.out Rd.out LeI.out Rd.out LeI.out A).mono ?_; rintro e w2 ⟨v0, v1, v2, rfl, ho0, ho1, ho2, hb⟩; obtain ⟨B0, b0, rfl⟩ := Kd.R_slice ho0; have j0 := RowE.mk ho0; have q0 := LeI.mk (rowLe j0); obtain ⟨B1, b1, rfl⟩ := Kd.R_slice ho1; have j1 := RowE.mk ho1; have q1 := LeI.mk (rowLe j1); obtain ⟨B2, b2, rfl⟩ := Kd.R_slice ho2; have j2 := RowE.mk ho2; have q2 := LeI.mk (rowLe j2); have jb := Bel.mk hb; clear A ho0 ho1 ho2 hb; (repeat' first | ((with_reducible replace h := ite_some h); rcases h with ⟨hc, h⟩ | ⟨hc, h⟩ <;> first | exact (none_some h).elim | exact absurd (Option.some.inj h) (by decide) | exact absurd hc (by decide) | subst hc | (replace hc := Bool.eq_false_iff.mpr hc; subst hc) | (have hd := Bool.eq_false_iff.mpr hc) | (have hd := beq_iff_eq.mpr hc; have he := bne_eq_false_iff_eq.mpr hc; clear hc) | (have hd := beq_eq_false_iff_ne.mpr hc; have he := bne_iff_ne.mpr hc) | (have hd := decide_eq_false hc) | (have hd := decide_eq_true hc) | skip) | ((have hj : laws_FnExactShopTune.j0 k _ _ _ _ _ _ _ _ _ _ _ _ _ _ _ _ _ _ _ _ _ _ _ _ _ _ _ = _ := h); clear hj; rcases k with _ | k <;> rw [laws_FnExactShopTune.j0] at h <;> first | exact (none_some h).elim | skip) | ((have hj : laws_FnExactShopTune.j1 k _ _ _ _ _ _ _ _ _ _ _ _ _ _ _ _ _ _ _ _ = _ := h); clear hj; rcases k with _ | k <;> rw [laws_FnExactShopTune.j1] at h <;> first | exact (none_some h).elim | skip) | ((have hj : laws_FnExactShopTune.j2 k _ _ _ _ _ _ _ _ = _ := h); clear hj; rcases k with _ | k <;> rw [laws_FnExactShopTune.j2] at h <;> first | exact (none_some h).elim | skip)))
    | (go_at_call 42; replace h := Option.bind_eq_some_iff.mp h; obtain ⟨⟨t1, t2, t3, t4, t5, t6, t7⟩, A, h⟩ := h; (try dsimp only at h); refine (impl_ShopTune.calls _ _ _ _ _ _ _ _ _ _ _ _ _ _ _ _ _ _ _ _ _ Rd.out LeI.out Rd.out LeI.out Rd.out LeI.out A).mono ?_; rintro e w2 ⟨v0, v1, v2, rfl, ho0, ho1, ho2, hb⟩; obtain ⟨B0, b0, rfl⟩ := Kd.R_slice ho0; have j0 := RowE.mk ho0; have q0 := LeI.mk (rowLe j0); obtain ⟨B1, b1, rfl⟩ := Kd.R_slice ho1; have j1 := RowE.mk ho1; have q1 := LeI.mk (rowLe j1); obtain ⟨B2, b2, rfl⟩ := Kd.R_slice ho2; have j2 := RowE.mk ho2; have q2 := LeI.mk (rowLe j2); have jb := Bel.mk hb; clear A ho0 ho1 ho2 hb; (repeat' first | ((with_reducible replace h := ite_some h); rcases h with ⟨hc, h⟩ | ⟨hc, h⟩ <;> first | exact (none_some h).elim | exact absurd (Option.some.inj h) (by decide) | exact absurd hc (by decide) | subst hc | (replace hc := Bool.eq_false_iff.mpr hc; subst hc) | (have hd := Bool.eq_false_iff.mpr hc) | (have hd := beq_iff_eq.mpr hc; have he := bne_eq_false_iff_eq.mpr hc; clear hc) | (have hd := beq_eq_false_iff_ne.mpr hc; have he := bne_iff_ne.mpr hc) | (have hd := decide_eq_false hc) | (have hd := decide_eq_true hc) | skip) | ((have hj : laws_FnExactShopTune.j0 k _ _ _ _ _ _ _ _ _ _ _ _ _ _ _ _ _ _ _ _ _ _ _ _ _ _ _ = _ := h); clear hj; rcases k with _ | k <;> rw [laws_FnExactShopTune.j0] at h <;> first | exact (none_some h).elim | skip) | ((have hj : laws_FnExactShopTune.j1 k _ _ _ _ _ _ _ _ _ _ _ _ _ _ _ _ _ _ _ _ = _ := h); clear hj; rcases k with _ | k <;> rw [laws_FnExactShopTune.j1] at h <;> first | exact (none_some h).elim | skip) | ((have hj : laws_FnExactShopTune.j2 k _ _ _ _ _ _ _ _ = _ := h); clear hj; rcases k with _ | k <;> rw [laws_FnExactShopTune.j2] at h <;> first | exact (none_some h).elim | skip)))
    | (go_at_call 19; replace h := Option.bind_eq_some_iff.mp h; obtain ⟨t, A, h⟩ := h; (try dsimp only at h); refine (laws_eqShop.calls _ _ _ _ _ _ _ _ _ _ _ _ _ _ _ _ _ _ _ _ _ _ _ _ _ _ _ Rd.out LeI.out Rd.out LeI.out Rd.out LeI.out Rd.out LeI.out Rd.out LeI.out Rd.out LeI.out A).mono ?_; rintro e w2 ⟨rfl, hb⟩; have jb := Bel.mk hb; clear A hb; (repeat' first | ((with_reducible replace h := ite_some h); rcases h with ⟨hc, h⟩ | ⟨hc, h⟩ <;> first | exact (none_some h).elim | exact absurd (Option.some.inj h) (by decide) | exact absurd hc (by decide) | subst hc | (replace hc := Bool.eq_false_iff.mpr hc; subst hc) | (have hd := Bool.eq_false_iff.mpr hc) | (have hd := beq_iff_eq.mpr hc; have he := bne_eq_false_iff_eq.mpr hc; clear hc) | (have hd := beq_eq_false_iff_ne.mpr hc; have he := bne_iff_ne.mpr hc) | (have hd := decide_eq_false hc) | (have hd := decide_eq_true hc) | skip) | ((have hj : laws_FnExactShopTune.j0 k _ _ _ _ _ _ _ _ _ _ _ _ _ _ _ _ _ _ _ _ _ _ _ _ _ _ _ = _ := h); clear hj; rcases k with _ | k <;> rw [laws_FnExactShopTune.j0] at h <;> first | exact (none_some h).elim | skip) | ((have hj : laws_FnExactShopTune.j1 k _ _ _ _ _ _ _ _ _ _ _ _ _ _ _ _ _ _ _ _ = _ := h); clear hj; rcases k with _ | k <;> rw [laws_FnExactShopTune.j1] at h <;> first | exact (none_some h).elim | skip) | ((have hj : laws_FnExactShopTune.j2 k _ _ _ _ _ _ _ _ = _ := h); clear hj; rcases k with _ | k <;> rw [laws_FnExactShopTune.j2] at h <;> first | exact (none_some h).elim | skip)))
    | (go_at_call 28; replace h := Option.bind_eq_some_iff.mp h; obtain ⟨⟨t1, t2, t3, t4⟩, A, h⟩ := h; (try dsimp only at h); refine (laws_markShop.calls _ _ _ _ _ _ _ _ _ _ _ _ _ _ _ _ _ _ w _ From.out rowP rowP rowP A).mono ?_; rintro e w2 ⟨rfl, m0, m1, m2, hb, hk⟩; obtain ⟨e0, q0, c0⟩ := Kd.R_reads' m0; replace q0 := LeI.mk (e0 ▸ q0); have j0 := RdE.mk c0; (try simp only [e0] at *); clear e0 c0 m0; obtain ⟨e1, q1, c1⟩ := Kd.R_reads' m1; replace q1 := LeI.mk (e1 ▸ q1); have j1 := RdE.mk c1; (try simp only [e1] at *); clear e1 c1 m1; obtain ⟨e2, q2, c2⟩ := Kd.R_reads' m2; replace q2 := LeI.mk (e2 ▸ q2); have j2 := RdE.mk c2; (try simp only [e2] at *); clear e2 c2 m2; have jf : From w w2 := ⟨hb⟩; clear hb; have jm := mk3 hk; clear hk; clear A; (repeat' first | ((with_reducible replace h := ite_some h); rcases h with ⟨hc, h⟩ | ⟨hc, h⟩ <;> first | exact (none_some h).elim | exact absurd (Option.some.inj h) (by decide) | exact absurd hc (by decide) | subst hc | (replace hc := Bool.eq_false_iff.mpr hc; subst hc) | (have hd := Bool.eq_false_iff.mpr hc) | (have hd := beq_iff_eq.mpr hc; have he := bne_eq_false_iff_eq.mpr hc; clear hc) | (have hd := beq_eq_false_iff_ne.mpr hc; have he := bne_iff_ne.mpr hc) | (have hd := decide_eq_false hc) | (have hd := decide_eq_true hc) | skip) | ((have hj : laws_FnExactShopTune.j0 k _ _ _ _ _ _ _ _ _ _ _ _ _ _ _ _ _ _ _ _ _ _ _ _ _ _ _ = _ := h); clear hj; rcases k with _ | k <;> rw [laws_FnExactShopTune.j0] at h <;> first | exact (none_some h).elim | skip) | ((have hj : laws_FnExactShopTune.j1 k _ _ _ _ _ _ _ _ _ _ _ _ _ _ _ _ _ _ _ _ = _ := h); clear hj; rcases k with _ | k <;> rw [laws_FnExactShopTune.j1] at h <;> first | exact (none_some h).elim | skip) | ((have hj : laws_FnExactShopTune.j2 k _ _ _ _ _ _ _ _ = _ := h); clear hj; rcases k with _ | k <;> rw [laws_FnExactShopTune.j2] at h <;> first | exact (none_some h).elim | skip)))
    | (go_at_call 29; replace h := Option.bind_eq_some_iff.mp h; obtain ⟨t, A, h⟩ := h; (try dsimp only at h); refine (laws_heldShop.calls _ _ _ _ _ _ _ _ _ _ _ _ _ _ _ _ Rd.out LeI.out Rd.out LeI.out Rd.out LeI.out A).mono ?_; rintro e w2 ⟨rfl, hb⟩; have jb := Bel.mk hb; clear A hb; (repeat' first | ((with_reducible replace h := ite_some h); rcases h with ⟨hc, h⟩ | ⟨hc, h⟩ <;> first | exact (none_some h).elim | exact absurd (Option.some.inj h) (by decide) | exact absurd hc (by decide) | subst hc | (replace hc := Bool.eq_false_iff.mpr hc; subst hc) | (have hd := Bool.eq_false_iff.mpr hc) | (have hd := beq_iff_eq.mpr hc; have he := bne_eq_false_iff_eq.mpr hc; clear hc) | (have hd := beq_eq_false_iff_ne.mpr hc; have he := bne_iff_ne.mpr hc) | (have hd := decide_eq_false hc) | (have hd := decide_eq_true hc) | skip) | ((have hj : laws_FnExactShopTune.j0 k _ _ _ _ _ _ _ _ _ _ _ _ _ _ _ _ _ _ _ _ _ _ _ _ _ _ _ = _ := h); clear hj; rcases k with _ | k <;> rw [laws_FnExactShopTune.j0] at h <;> first | exact (none_some h).elim | skip) | ((have hj : laws_FnExactShopTune.j1 k _ _ _ _ _ _ _ _ _ _ _ _ _ _ _ _ _ _ _ _ = _ := h); clear hj; rcases k with _ | k <;> rw [laws_FnExactShopTune.j1] at h <;> first | exact (none_some h).elim | skip) | ((have hj : laws_FnExactShopTune.j2 k _ _ _ _ _ _ _ _ = _ := h); clear hj; rcases k with _ | k <;> rw [laws_FnExactShopTune.j2] at h <;> first | exact (none_some h).elim | skip)))
    | ((with_reducible refine region_at ?_); intro w3 jw; go_region_held3 (fun w' => Sin w3 w') (first | exact ⟨From.out⟩ | skip) (first | (go_at_call 15; replace h := Option.bind_eq_some_iff.mp h; obtain ⟨t, A, h⟩ := h; (try dsimp only at h); refine (laws_szShop.calls _ _ _ _ _ _ _ _ _ _ _ _ _ _ _ Rd.out LeI.out Rd.out LeI.out Rd.out LeI.out A).mono ?_; rintro e w2 ⟨rfl, hb⟩; have jb := Bel.mk hb; clear A hb; (repeat' first | ((with_reducible replace h := ite_some h); rcases h with ⟨hc, h⟩ | ⟨hc, h⟩ <;> first | exact (none_some h).elim | exact absurd (Option.some.inj h) (by decide) | exact absurd hc (by decide) | subst hc | (replace hc := Bool.eq_false_iff.mpr hc; subst hc) | (have hd := Bool.eq_false_iff.mpr hc) | (have hd := beq_iff_eq.mpr hc; have he := bne_eq_false_iff_eq.mpr hc; clear hc) | (have hd := beq_eq_false_iff_ne.mpr hc; have he := bne_iff_ne.mpr hc) | (have hd := decide_eq_false hc) | (have hd := decide_eq_true hc) | skip) | ((have hj : laws_FnExactShopTune.j0 k _ _ _ _ _ _ _ _ _ _ _ _ _ _ _ _ _ _ _ _ _ _ _ _ _ _ _ = _ := h); clear hj; rcases k with _ | k <;> rw [laws_FnExactShopTune.j0] at h <;> first | exact (none_some h).elim | skip) | ((have hj : laws_FnExactShopTune.j1 k _ _ _ _ _ _ _ _ _ _ _ _ _ _ _ _ _ _ _ _ = _ := h); clear hj; rcases k with _ | k <;> rw [laws_FnExactShopTune.j1] at h <;> first | exact (none_some h).elim | skip) | ((have hj : laws_FnExactShopTune.j2 k _ _ _ _ _ _ _ _ = _ := h); clear hj; rcases k with _ | k <;> rw [laws_FnExactShopTune.j2] at h <;> first | exact (none_some h).elim | skip))) | (go_at_call 17; replace h := Option.bind_eq_some_iff.mp h; obtain ⟨⟨t1, t2, t3, t4, t5, t6⟩, A, h⟩ := h; (try dsimp only at h); refine (laws_toShop.calls _ _ _ _ _ _ _ _ _ _ _ _ _ _ _ _ _ _ _ _ Rd.out LeI.out Rd.out LeI.out Rd.out LeI.out A).mono ?_; rintro e w2 ⟨v0, v1, v2, rfl, ho0, ho1, ho2, hb⟩; obtain ⟨B0, b0, rfl⟩ := Kd.R_slice ho0; have j0 := RowE.mk ho0; have q0 := LeI.mk (rowLe j0); obtain ⟨B1, b1, rfl⟩ := Kd.R_slice ho1; have j1 := RowE.mk ho1; have q1 := LeI.mk (rowLe j1); obtain ⟨B2, b2, rfl⟩ := Kd.R_slice ho2; have j2 := RowE.mk ho2; have q2 := LeI.mk (rowLe j2); have jb := Bel.mk hb; clear A ho0 ho1 ho2 hb; (repeat' first | ((with_reducible replace h := ite_some h); rcases h with ⟨hc, h⟩ | ⟨hc, h⟩ <;> first | exact (none_some h).elim | exact absurd (Option.some.inj h) (by decide) | exact absurd hc (by decide) | subst hc | (replace hc := Bool.eq_false_iff.mpr hc; subst hc) | (have hd := Bool.eq_false_iff.mpr hc) | (have hd := beq_iff_eq.mpr hc; have he := bne_eq_false_iff_eq.mpr hc; clear hc) | (have hd := beq_eq_false_iff_ne.mpr hc; have he := bne_iff_ne.mpr hc) | (have hd := decide_eq_false hc) | (have hd := decide_eq_true hc) | skip) | ((have hj : laws_FnExactShopTune.j0 k _ _ _ _ _ _ _ _ _ _ _ _ _ _ _ _ _ _ _ _ _ _ _ _ _ _ _ = _ := h); clear hj; rcases k with _ | k <;> rw [laws_FnExactShopTune.j0] at h <;> first | exact (none_some h).elim | skip) | ((have hj : laws_FnExactShopTune.j1 k _ _ _ _ _ _ _ _ _ _ _ _ _ _ _ _ _ _ _ _ = _ := h); clear hj; rcases k with _ | k <;> rw [laws_FnExactShopTune.j1] at h <;> first | exact (none_some h).elim | skip) | ((have hj : laws_FnExactShopTune.j2 k _ _ _ _ _ _ _ _ = _ := h); clear hj; rcases k with _ | k <;> rw [laws_FnExactShopTune.j2] at h <;> first | exact (none_some h).elim | skip))) | (go_at_call 41; replace h := Option.bind_eq_some_iff.mp h; obtain ⟨⟨t1, t2, t3, t4, t5, t6, t7⟩, A, h⟩ := h; (try dsimp only at h); refine (spec_ShopTune.calls _ _ _ _ _ _ _ _ _ _ _ _ _ _ _ _ _ _ _ _ _ Rd.out LeI.out Rd.out LeI.out Rd.out LeI.out A).mono ?_; rintro e w2 ⟨v0, v1, v2, rfl, ho0, ho1, ho2, hb⟩; obtain ⟨B0, b0, rfl⟩ := Kd.R_slice ho0; have j0 := RowE.mk ho0; have q0 := LeI.mk (rowLe j0); obtain ⟨B1, b1, rfl⟩ := Kd.R_slice ho1; have j1 := RowE.mk ho1; have q1 := LeI.mk (rowLe j1); obtain ⟨B2, b2, rfl⟩ := Kd.R_slice ho2; have j2 := RowE.mk ho2; have q2 := LeI.mk (rowLe j2); have jb := Bel.mk hb; clear A ho0 ho1 ho2 hb; (repeat' first | ((with_reducible replace h := ite_some h); rcases h with ⟨hc, h⟩ | ⟨hc, h⟩ <;> first | exact (none_some h).elim | exact absurd (Option.some.inj h) (by decide) | exact absurd hc (by decide) | subst hc | (replace hc := Bool.eq_false_iff.mpr hc; subst hc) | (have hd := Bool.eq_false_iff.mpr hc) | (have hd := beq_iff_eq.mpr hc; have he := bne_eq_false_iff_eq.mpr hc; clear hc) | (have hd := beq_eq_false_iff_ne.mpr hc; have he := bne_iff_ne.mpr hc) | (have hd := decide_eq_false hc) | (have hd := decide_eq_true hc) | skip) | ((have hj : laws_FnExactShopTune.j0 k _ _ _ _ _ _ _ _ _ _ _ _ _ _ _ _ _ _ _ _ _ _ _ _ _ _ _ = _ := h); clear hj; rcases k with _ | k <;> rw [laws_FnExactShopTune.j0] at h <;> first | exact (none_some h).elim | skip) | ((have hj : laws_FnExactShopTune.j1 k _ _ _ _ _ _ _ _ _ _ _ _ _ _ _ _ _ _ _ _ = _ := h); clear hj; rcases k with _ | k <;> rw [laws_FnExactShopTune.j1] at h <;> first | exact (none_some h).elim | skip) | ((have hj : laws_FnExactShopTune.j2 k _ _ _ _ _ _ _ _ = _ := h); clear hj; rcases k with _ | k <;> rw [laws_FnExactShopTune.j2] at h <;> first | exact (none_some h).elim | skip))) | (go_at_call 42; replace h := Option.bind_eq_some_iff.mp h; obtain ⟨⟨t1, t2, t3, t4, t5, t6, t7⟩, A, h⟩ := h; (try dsimp only at h); refine (impl_ShopTune.calls _ _ _ _ _ _ _ _ _ _ _ _ _ _ _ _ _ _ _ _ _ Rd.out LeI.out Rd.out LeI.out Rd.out LeI.out A).mono ?_; rintro e w2 ⟨v0, v1, v2, rfl, ho0, ho1, ho2, hb⟩; obtain ⟨B0, b0, rfl⟩ := Kd.R_slice ho0; have j0 := RowE.mk ho0; have q0 := LeI.mk (rowLe j0); obtain ⟨B1, b1, rfl⟩ := Kd.R_slice ho1; have j1 := RowE.mk ho1; have q1 := LeI.mk (rowLe j1); obtain ⟨B2, b2, rfl⟩ := Kd.R_slice ho2; have j2 := RowE.mk ho2; have q2 := LeI.mk (rowLe j2); have jb := Bel.mk hb; clear A ho0 ho1 ho2 hb; (repeat' first | ((with_reducible replace h := ite_some h); rcases h with ⟨hc, h⟩ | ⟨hc, h⟩ <;> first | exact (none_some h).elim | exact absurd (Option.some.inj h) (by decide) | exact absurd hc (by decide) | subst hc | (replace hc := Bool.eq_false_iff.mpr hc; subst hc) | (have hd := Bool.eq_false_iff.mpr hc) | (have hd := beq_iff_eq.mpr hc; have he := bne_eq_false_iff_eq.mpr hc; clear hc) | (have hd := beq_eq_false_iff_ne.mpr hc; have he := bne_iff_ne.mpr hc) | (have hd := decide_eq_false hc) | (have hd := decide_eq_true hc) | skip) | ((have hj : laws_FnExactShopTune.j0 k _ _ _ _ _ _ _ _ _ _ _ _ _ _ _ _ _ _ _ _ _ _ _ _ _ _ _ = _ := h); clear hj; rcases k with _ | k <;> rw [laws_FnExactShopTune.j0] at h <;> first | exact (none_some h).elim | skip) | ((have hj : laws_FnExactShopTune.j1 k _ _ _ _ _ _ _ _ _ _ _ _ _ _ _ _ _ _ _ _ = _ := h); clear hj; rcases k with _ | k <;> rw [laws_FnExactShopTune.j1] at h <;> first | exact (none_some h).elim | skip) | ((have hj : laws_FnExactShopTune.j2 k _ _ _ _ _ _ _ _ = _ := h); clear hj; rcases k with _ | k <;> rw [laws_FnExactShopTune.j2] at h <;> first | exact (none_some h).elim | skip))) | (go_at_call 19; replace h := Option.bind_eq_some_iff.mp h; obtain ⟨t, A, h⟩ := h; (try dsimp only at h); refine (laws_eqShop.calls _ _ _ _ _ _ _ _ _ _ _ _ _ _ _ _ _ _ _ _ _ _ _ _ _ _ _ Rd.out LeI.out Rd.out LeI.out Rd.out LeI.out Rd.out LeI.out Rd.out LeI.out Rd.out LeI.out A).mono ?_; rintro e w2 ⟨rfl, hb⟩; have jb := Bel.mk hb; clear A hb; (repeat' first | ((with_reducible replace h := ite_some h); rcases h with ⟨hc, h⟩ | ⟨hc, h⟩ <;> first | exact (none_some h).elim | exact absurd (Option.some.inj h) (by decide) | exact absurd hc (by decide) | subst hc | (replace hc := Bool.eq_false_iff.mpr hc; subst hc) | (have hd := Bool.eq_false_iff.mpr hc) | (have hd := beq_iff_eq.mpr hc; have he := bne_eq_false_iff_eq.mpr hc; clear hc) | (have hd := beq_eq_false_iff_ne.mpr hc; have he := bne_iff_ne.mpr hc) | (have hd := decide_eq_false hc) | (have hd := decide_eq_true hc) | skip) | ((have hj : laws_FnExactShopTune.j0 k _ _ _ _ _ _ _ _ _ _ _ _ _ _ _ _ _ _ _ _ _ _ _ _ _ _ _ = _ := h); clear hj; rcases k with _ | k <;> rw [laws_FnExactShopTune.j0] at h <;> first | exact (none_some h).elim | skip) | ((have hj : laws_FnExactShopTune.j1 k _ _ _ _ _ _ _ _ _ _ _ _ _ _ _ _ _ _ _ _ = _ := h); clear hj; rcases k with _ | k <;> rw [laws_FnExactShopTune.j1] at h <;> first | exact (none_some h).elim | skip) | ((have hj : laws_FnExactShopTune.j2 k _ _ _ _ _ _ _ _ = _ := h); clear hj; rcases k with _ | k <;> rw [laws_FnExactShopTune.j2] at h <;> first | exact (none_some h).elim | skip))) | (go_at_call 28; replace h := Option.bind_eq_some_iff.mp h; obtain ⟨⟨t1, t2, t3, t4⟩, A, h⟩ := h; (try dsimp only at h); refine (laws_markShop.calls _ _ _ _ _ _ _ _ _ _ _ _ _ _ _ _ _ _ w _ From.out rowP rowP rowP A).mono ?_; rintro e w2 ⟨rfl, m0, m1, m2, hb, hk⟩; obtain ⟨e0, q0, c0⟩ := Kd.R_reads' m0; replace q0 := LeI.mk (e0 ▸ q0); have j0 := RdE.mk c0; (try simp only [e0] at *); clear e0 c0 m0; obtain ⟨e1, q1, c1⟩ := Kd.R_reads' m1; replace q1 := LeI.mk (e1 ▸ q1); have j1 := RdE.mk c1; (try simp only [e1] at *); clear e1 c1 m1; obtain ⟨e2, q2, c2⟩ := Kd.R_reads' m2; replace q2 := LeI.mk (e2 ▸ q2); have j2 := RdE.mk c2; (try simp only [e2] at *); clear e2 c2 m2; have jf : From w w2 := ⟨hb⟩; clear hb; have jm := mk3 hk; clear hk; clear A; (repeat' first | ((with_reducible replace h := ite_some h); rcases h with ⟨hc, h⟩ | ⟨hc, h⟩ <;> first | exact (none_some h).elim | exact absurd (Option.some.inj h) (by decide) | exact absurd hc (by decide) | subst hc | (replace hc := Bool.eq_false_iff.mpr hc; subst hc) | (have hd := Bool.eq_false_iff.mpr hc) | (have hd := beq_iff_eq.mpr hc; have he := bne_eq_false_iff_eq.mpr hc; clear hc) | (have hd := beq_eq_false_iff_ne.mpr hc; have he := bne_iff_ne.mpr hc) | (have hd := decide_eq_false hc) | (have hd := decide_eq_true hc) | skip) | ((have hj : laws_FnExactShopTune.j0 k _ _ _ _ _ _ _ _ _ _ _ _ _ _ _ _ _ _ _ _ _ _ _ _ _ _ _ = _ := h); clear hj; rcases k with _ | k <;> rw [laws_FnExactShopTune.j0] at h <;> first | exact (none_some h).elim | skip) | ((have hj : laws_FnExactShopTune.j1 k _ _ _ _ _ _ _ _ _ _ _ _ _ _ _ _ _ _ _ _ = _ := h); clear hj; rcases k with _ | k <;> rw [laws_FnExactShopTune.j1] at h <;> first | exact (none_some h).elim | skip) | ((have hj : laws_FnExactShopTune.j2 k _ _ _ _ _ _ _ _ = _ := h); clear hj; rcases k with _ | k <;> rw [laws_FnExactShopTune.j2] at h <;> first | exact (none_some h).elim | skip))) | (go_at_call 29; replace h := Option.bind_eq_some_iff.mp h; obtain ⟨t, A, h⟩ := h; (try dsimp only at h); refine (laws_heldShop.calls _ _ _ _ _ _ _ _ _ _ _ _ _ _ _ _ Rd.out LeI.out Rd.out LeI.out Rd.out LeI.out A).mono ?_; rintro e w2 ⟨rfl, hb⟩; have jb := Bel.mk hb; clear A hb; (repeat' first | ((with_reducible replace h := ite_some h); rcases h with ⟨hc, h⟩ | ⟨hc, h⟩ <;> first | exact (none_some h).elim | exact absurd (Option.some.inj h) (by decide) | exact absurd hc (by decide) | subst hc | (replace hc := Bool.eq_false_iff.mpr hc; subst hc) | (have hd := Bool.eq_false_iff.mpr hc) | (have hd := beq_iff_eq.mpr hc; have he := bne_eq_false_iff_eq.mpr hc; clear hc) | (have hd := beq_eq_false_iff_ne.mpr hc; have he := bne_iff_ne.mpr hc) | (have hd := decide_eq_false hc) | (have hd := decide_eq_true hc) | skip) | ((have hj : laws_FnExactShopTune.j0 k _ _ _ _ _ _ _ _ _ _ _ _ _ _ _ _ _ _ _ _ _ _ _ _ _ _ _ = _ := h); clear hj; rcases k with _ | k <;> rw [laws_FnExactShopTune.j0] at h <;> first | exact (none_some h).elim | skip) | ((have hj : laws_FnExactShopTune.j1 k _ _ _ _ _ _ _ _ _ _ _ _ _ _ _ _ _ _ _ _ = _ := h); clear hj; rcases k with _ | k <;> rw [laws_FnExactShopTune.j1] at h <;> first | exact (none_some h).elim | skip) | ((have hj : laws_FnExactShopTune.j2 k _ _ _ _ _ _ _ _ = _ := h); clear hj; rcases k with _ | k <;> rw [laws_FnExactShopTune.j2] at h <;> first | exact (none_some h).elim | skip))))))
  all_goals (repeat' first | ((with_reducible replace h := ite_some h); rcases h with ⟨hc, h⟩ | ⟨hc, h⟩ <;> first | exact (none_some h).elim | exact absurd (Option.some.inj h) (by decide) | exact absurd hc (by decide) | subst hc | (replace hc := Bool.eq_false_iff.mpr hc; subst hc) | (have hd := Bool.eq_false_iff.mpr hc) | (have hd := beq_iff_eq.mpr hc; have he := bne_eq_false_iff_eq.mpr hc; clear hc) | (have hd := beq_eq_false_iff_ne.mpr hc; have he := bne_iff_ne.mpr hc) | (have hd := decide_eq_false hc) | (have hd := decide_eq_true hc) | skip) | ((have hj : laws_FnExactShopTune.j0 k _ _ _ _ _ _ _ _ _ _ _ _ _ _ _ _ _ _ _ _ _ _ _ _ _ _ _ = _ := h); clear hj; rcases k with _ | k <;> rw [laws_FnExactShopTune.j0] at h <;> first | exact (none_some h).elim | skip) | ((have hj : laws_FnExactShopTune.j1 k _ _ _ _ _ _ _ _ _ _ _ _ _ _ _ _ _ _ _ _ = _ := h); clear hj; rcases k with _ | k <;> rw [laws_FnExactShopTune.j1] at h <;> first | exact (none_some h).elim | skip) | ((have hj : laws_FnExactShopTune.j2 k _ _ _ _ _ _ _ _ = _ := h); clear hj; rcases k with _ | k <;> rw [laws_FnExactShopTune.j2] at h <;> first | exact (none_some h).elim | skip))
  all_goals go_ret
  all_goals exact ⟨rfl, From.out⟩
end Go.Proofs.Ytbkkpllejgedcaa.P


namespace Go.Proofs.Ytbkkpllejgedcaa.Q
set_option linter.unusedVariables false
set_option linter.unusedSimpArgs false
open Go.RowKit Go.Proofs.YtbkkpllejgedcaaW.PrintWords
theorem evp {α : Type} {c : Prop} [Decidable c] (h : c) {f g : Nat → Option α} {r : α} (k : Ev f r) : Ev (fun n => if c then f n else g n) r := by
  simp only [if_pos h]; exact k
theorem evn {α : Type} {c : Prop} [Decidable c] (h : ¬ c) {f g : Nat → Option α} {r : α} (k : Ev g r) : Ev (fun n => if c then f n else g n) r := by
  simp only [if_neg h]; exact k
theorem evb {α β : Type} {x : Option α} {f : Nat → α → Option β} {a : α} {r : β} (h : x = some a) (k : Ev (fun n => f n a) r) : Ev (fun n => x.bind (f n)) r := by
  simp only [h, Option.bind_some]; exact k
theorem evs {α : Type} {a b : α} (h : a = b) : Ev (fun _ => some a) b := h ▸ Ev.now a
theorem rpos {α : Type} {c : Prop} [Decidable c] (h : c) {f : Nat → Option α} {r s : α} (k : Ev f r) : Ev f (if c then r else s) := by rw [if_pos h]; exact k
theorem rneg {α : Type} {c : Prop} [Decidable c] (h : ¬ c) {f : Nat → Option α} {r s : α} (k : Ev f s) : Ev f (if c then r else s) := by rw [if_neg h]; exact k
theorem down {P : Nat → Prop} {n : Nat} (he : P n) (hs : ∀ i, i < n → P (i + 1) → P i) (i : Nat) (h : i ≤ n) : P i := by
  obtain ⟨d, rfl⟩ : ∃ d, n = i + d := ⟨n - i, by omega⟩
  clear h
  induction d generalizing i with
  | zero => exact he
  | succ d ih =>
    refine hs i (by omega) (ih (i + 1) ?_ ?_)
    · rw [show i + 1 + d = i + (d + 1) by omega]; exact he
    · intro j hj; exact hs j (by omega)
theorem w64 {n : Int} (h1 : -9223372036854775808 ≤ n) (h2 : n ≤ 9223372036854775807) : wrap64 n = n := by unfold wrap64; omega
theorem rd_nat (l : List Int) (i : Nat) (h : i < l.length) : rd l (i : Int) = l[i] := by
  unfold rd; simp [List.getD_eq_getElem?_getD, h]
theorem drop_cons {α : Type} (l : List α) (i : Nat) (h : i < l.length) : l.drop i = l[i] :: l.drop (i + 1) := List.drop_eq_getElem_cons h
theorem drop_end {α : Type} (l : List α) : l.drop l.length = [] := List.drop_eq_nil_of_le (Nat.le_refl _)
theorem set_take {α : Type} (l : List α) (i : Nat) (v : α) (h : i < l.length) : (l.set i v).take (i + 1) = l.take i ++ [v] := by
  rw [List.take_set, List.take_succ_eq_append_getElem h, List.set_append_right _ _ (by simp; omega)]
  simp [Nat.min_eq_left (Nat.le_of_lt h)]
end Go.Proofs.Ytbkkpllejgedcaa.Q


namespace Go.Proofs.Ytbkkpllejgedcaa.Q
set_option linter.unusedVariables false
set_option linter.unusedSimpArgs false
open Go.RowKit Go.Proofs.Ytbkkpllejgedcaa.P Go.Proofs.YtbkkpllejgedcaaW.PrintWords
theorem within_eq (a b c : Int) : impl_within.f a b c = some (decide (b ≤ a ∧ a ≤ c)) := by
  unfold impl_within.f; by_cases h : b ≤ a <;> simp [h]
theorem l01In_eq (a b c : Int) : spec_l01In.f a b c = some (decide (b ≤ a ∧ a ≤ c)) := by
  unfold spec_l01In.f; by_cases h : a ≥ b
  · rw [if_pos h]; simp [show b ≤ a from h]
  · rw [if_neg h]; simp [show ¬ b ≤ a from h]
end Go.Proofs.Ytbkkpllejgedcaa.Q


namespace Go.Proofs.Ytbkkpllejgedcaa.Q
set_option linter.unusedVariables false
set_option linter.unusedSimpArgs false
open Go.RowKit Go.Proofs.Ytbkkpllejgedcaa.P Go.Proofs.YtbkkpllejgedcaaW.PrintWords Go.Proofs.YtbkkpllejgedcaaW.PrintMore
def fine (n : Int) : Bool := decide (1 ≤ n ∧ n ≤ 10000000)
theorem pitch_eq (n : Int) : spec_l18Pitch.f n = some (fine n) := by unfold spec_l18Pitch.f; rw [l01In_eq]; rfl
theorem isFine_eq (n : Int) : impl_isFine.f n = some (fine n) := by unfold impl_isFine.f; rw [within_eq]; rfl
def orZero (n : Int) : Int := if fine n = true then n else 0
def tunedPitch (a k b : Int) : Int :=
  if fine a = true then
    if 0 ≤ b ∧ b ≤ 100000 then
      if k = 1 then orZero (wrap64 (Int.tdiv (mx (wrap64 ((wrap64 (3 * a)) - b)) 0) 2))
      else if k = 2 then orZero (wrap64 (Int.tdiv (mx (wrap64 ((wrap64 (3 * a)) - b)) 0) 4))
      else if k = 3 then if b = 0 then orZero (wrap64 (2 * a)) else 0
      else if k = 4 then if b = 0 then orZero (wrap64 (Int.tdiv a 2)) else 0
      else 0
    else 0
  else 0
theorem mx_comm (a b : Int) : mx a b = mx b a := by unfold mx; split <;> split <;> omega
theorem evz {n : Int} {x : Option Bool} (h : x = some (fine n)) : Ev (fun _ => x.bind fun t => if t = true then some n else some 0) (orZero n) := by
  subst h; simp only [Option.bind_some]; unfold orZero; by_cases h : fine n = true
  · rw [if_pos h, if_pos h]; exact Ev.now _
  · rw [if_neg h, if_neg h]; exact Ev.now _
theorem tuned_impl (a k b : Int) : Ev (fun n => impl_TunedPitch.f n a k b) (tunedPitch a k b) := by
  have jt : Ev (fun n => impl_TunedPitch.j0 n a k b true) 0 := Ev.step (fun n => by rw [impl_TunedPitch.j0]) (evp rfl (Ev.now _))
  unfold impl_TunedPitch.f
  refine evb (isFine_eq a) ?_
  unfold tunedPitch
  by_cases ha : fine a = true
  rotate_left
  · exact rneg ha <| evn ha jt
  refine rpos ha <| evp ha (evb (within_eq _ _ _) ?_)
  by_cases hb : 0 ≤ b ∧ b ≤ 100000
  rotate_left
  · exact rneg hb <| evn (by simpa using hb) jt
  refine rpos hb <| evp (by simpa using hb) ?_
  have jf : (k = 3 ∨ k = 4 → b = 0) → Ev (fun n => impl_TunedPitch.j0 n a k b false) (if k = 1 then orZero (wrap64 (Int.tdiv (mx (wrap64 ((wrap64 (3 * a)) - b)) 0) 2))
      else if k = 2 then orZero (wrap64 (Int.tdiv (mx (wrap64 ((wrap64 (3 * a)) - b)) 0) 4))
      else if k = 3 then if b = 0 then orZero (wrap64 (2 * a)) else 0
      else if k = 4 then if b = 0 then orZero (wrap64 (Int.tdiv a 2)) else 0
      else 0) := by
    intro h0
    refine Ev.step (fun n => by rw [impl_TunedPitch.j0]) (evn (by decide) ?_)
    by_cases h1 : k = 1
    · exact rpos h1 <| evp h1 (evz (isFine_eq _))
    refine rneg h1 <| evn h1 ?_
    by_cases h2 : k = 2
    · exact rpos h2 <| evp h2 (evz (isFine_eq _))
    refine rneg h2 <| evn h2 ?_
    by_cases h3 : k = 3
    · exact rpos h3 <| rpos (h0 (.inl h3)) <| evp h3 (evz (isFine_eq _))
    refine rneg h3 <| evn h3 ?_
    by_cases h4 : k = 4
    · exact rpos h4 <| rpos (h0 (.inr h4)) <| evp h4 (evz (isFine_eq _))
    refine rneg h4 <| evn h4 ?_
    refine evb (isFine_eq _) (evn (by decide) (Ev.now _))
  by_cases b0 : b = 0
  · exact evp b0 (jf fun _ => b0)
  refine evn b0 ?_
  by_cases h3 : k = 3
  · refine evp h3 ?_
    exact rneg (by omega) <| rneg (by omega) <| rpos h3 <| rneg b0 jt
  refine evn h3 ?_
  by_cases h4 : k = 4
  · rw [show (k == 4) = true by simp [h4]]; exact rneg (by omega) <| rneg (by omega) <| rneg (by omega) <| rpos h4 <| rneg b0 jt
  · rw [show (k == 4) = false by simp [h4]]; exact jf (by omega)
theorem tuned_spec (a k b : Int) : Ev (fun n => spec_TunedPitch.f n a k b) (tunedPitch a k b) := by
  have jt : Ev (fun n => spec_TunedPitch.j0 n a k b true) 0 := Ev.step (fun n => by rw [spec_TunedPitch.j0]) (evp rfl (Ev.now _))
  unfold spec_TunedPitch.f
  refine evb (pitch_eq a) ?_
  unfold tunedPitch
  by_cases ha : fine a = true
  rotate_left
  · exact rneg ha <| evn ha jt
  refine rpos ha <| evp ha (evb (l01In_eq _ _ _) ?_)
  by_cases hb : 0 ≤ b ∧ b ≤ 100000
  rotate_left
  · rw [show (!decide (0 ≤ b ∧ b ≤ 100000)) = true by rw [decide_eq_false hb]; rfl]; exact rneg hb jt
  rw [show (!decide (0 ≤ b ∧ b ≤ 100000)) = false by rw [decide_eq_true hb]; rfl]
  refine rpos hb ?_
  have j2t : Ev (fun n => spec_TunedPitch.j2 n a 0 true) (orZero (wrap64 (Int.tdiv a 2))) := Ev.step (fun n => by rw [spec_TunedPitch.j2]) (evp rfl (evz (pitch_eq _)))
  have j2f : Ev (fun n => spec_TunedPitch.j2 n a 0 false) 0 := Ev.step (fun n => by rw [spec_TunedPitch.j2]) (evn (by decide) (evz (pitch_eq 0)))
  refine Ev.step (fun n => by rw [spec_TunedPitch.j0]) (evn (by decide) ?_)
  by_cases h1 : k = 1
  · rw [mx_comm 0]; exact rpos h1 <| evp h1 (evz (pitch_eq _))
  refine rneg h1 <| evn h1 ?_
  by_cases h2 : k = 2
  · rw [mx_comm 0]; exact rpos h2 <| evp h2 (evz (pitch_eq _))
  refine rneg h2 <| evn h2 ?_
  have j1f : Ev (fun n => spec_TunedPitch.j1 n a k b 0 false) (if k = 4 then if b = 0 then orZero (wrap64 (Int.tdiv a 2)) else 0 else 0) := by
    refine Ev.step (fun n => by rw [spec_TunedPitch.j1]) (evn (by decide) ?_)
    by_cases h4 : k = 4
    · refine rpos h4 <| evp h4 ?_
      by_cases b0 : b = 0
      · rw [show (b == 0) = true by simp [b0]]; exact rpos b0 j2t
      · rw [show (b == 0) = false by simp [b0]]; exact rneg b0 j2f
    · exact rneg h4 <| evn h4 j2f
  by_cases h3 : k = 3
  · refine rpos h3 <| evp h3 ?_
    by_cases b0 : b = 0
    · rw [show (b == 0) = true by simp [b0]]
      exact rpos b0 <| Ev.step (fun n => by rw [spec_TunedPitch.j1]) (evp rfl (evz (pitch_eq _)))
    · rw [show (b == 0) = false by simp [b0]]
      rw [if_neg (by omega)] at j1f
      exact rneg b0 j1f
  exact rneg h3 <| evn h3 j1f
end Go.Proofs.Ytbkkpllejgedcaa.Q


namespace Go.Proofs.Ytbkkpllejgedcaa.Q
set_option linter.unusedVariables false
set_option linter.unusedSimpArgs false
open Go.RowKit Go.Proofs.Ytbkkpllejgedcaa.P Go.Proofs.YtbkkpllejgedcaaW.PrintWords Go.Proofs.YtbkkpllejgedcaaW.PrintMore
def cStep (x : S98) : S96 := ⟨x.f0, x.f1, x.f2, x.f3⟩
theorem rdS (l : List S96) (i : Nat) (h : i < l.length) : rd_T96 l (i : Int) = l[i] := by
  unfold rd_T96; simp [List.getD_eq_getElem?_getD, h]
theorem rdLS (l : List S98) (i : Nat) (h : i < l.length) : rd_T98 l (i : Int) = l[i] := by
  unfold rd_T98; simp [List.getD_eq_getElem?_getD, h]
theorem toStepS_ev (l : List S98) (hl : l.length ≤ 1048576) : Ev (fun k => laws_toStepS.f k l) (l.map cStep) := by
  have key : ∀ i, i ≤ l.length → ∀ acc : List S96, acc.length = l.length → Ev (fun k => laws_toStepS.l0 k l acc (i : Int)) (acc.take i ++ (l.drop i).map cStep) := by
    refine down (n := l.length) ?_ ?_
    · intro acc ha
      refine Ev.step (fun k => by rw [laws_toStepS.l0]) (evn (by omega) (evs ?_))
      rw [drop_end, List.map_nil, List.append_nil, List.take_of_length_le (by omega)]
    · intro i hi ih acc ha
      refine Ev.step (fun k => by rw [laws_toStepS.l0]) (evp (by omega) (evp (by omega) ?_))
      rw [rdLS l i hi]
      refine evb (a := (l[i].f0, l[i].f1, l[i].f2, l[i].f3)) rfl (evp (by omega) ?_)
      rw [w64 (by omega) (by omega), Int.toNat_natCast]
      have := ih (acc.set i (cStep l[i])) (by simpa using ha)
      rw [set_take _ _ _ (by omega), List.append_assoc] at this
      rw [drop_cons l i hi, List.map_cons]
      exact this
  have := key 0 (Nat.zero_le _) (List.replicate l.length z96) (by simp)
  unfold laws_toStepS.f
  refine evp (by omega) (evp (by omega) ?_)
  simpa using this
theorem eqStep_self (a b c d : Int) : laws_eqStep.f a b c d a b c d = some true := by unfold laws_eqStep.f; simp
theorem eqStepS_ev (l : List S96) (hl : l.length ≤ 9000000000000000000) : Ev (fun k => laws_eqStepS.f k l l) true := by
  have key : ∀ i, i ≤ l.length → Ev (fun k => laws_eqStepS.l0 k l l (i : Int)) true := by
    refine down (n := l.length) ?_ ?_
    · refine Ev.step (fun k => by rw [laws_eqStepS.l0]) (evn (by omega) ?_)
      exact Ev.now _
    · intro i hi ih
      refine Ev.step (fun k => by rw [laws_eqStepS.l0]) (evp (by omega) (evp (by omega) (evp (by omega) ?_)))
      refine evb (eqStep_self _ _ _ _) (evp rfl ?_)
      rw [w64 (by omega) (by omega)]
      exact ih
  unfold laws_eqStepS.f
  refine evp rfl ?_
  exact key 0 (Nat.zero_le _)
theorem szStepS_eq (l : List S98) (m : Int) (h0 : 0 ≤ m) (hm : m ≤ 1048576) (hl : l.length ≤ 9223372036854775807) : laws_szStepS.f l m = some (if m < l.length then -1 else m - l.length) := by
  unfold laws_szStepS.f
  rw [w64 (by omega) (by omega)]
  by_cases h : m < l.length
  · rw [if_pos (by omega), if_pos h]
  · rw [if_neg (by omega), if_neg h]
def runsS (m : Int) (n : Nat) : List S96 := (List.range n).map (fun (j : Nat) => ⟨m + 4 * j, m + 4 * j + 1, m + 4 * j + 2, m + 4 * j + 3⟩)
theorem runsS_len (m : Int) (n : Nat) : (runsS m n).length = n := by simp [runsS]
theorem rd_set_self (l : List S96) (i : Nat) (v : S96) (h : i < l.length) : rd_T96 (l.set i v) (i : Int) = v := by
  rw [rdS _ _ (by simpa using h)]; simp
theorem markStepS_ev (l : List S96) (m : Int) (h0 : 0 ≤ m) (hm : m + 4 * l.length ≤ 4000000000000000000) : Ev (fun k => laws_markStepS.f k l m) (m + 4 * l.length, runsS m l.length) := by
  have key : ∀ i, i ≤ l.length → ∀ acc : List S96, acc.length = l.length → acc.take i = runsS m i → Ev (fun k => laws_markStepS.l0 k acc (m + 4 * i) (i : Int)) (m + 4 * l.length, runsS m l.length) := by
    refine down (n := l.length) ?_ ?_
    · intro acc ha ht
      refine Ev.step (fun k => by rw [laws_markStepS.l0]) (evn (by omega) (evs ?_))
      rw [← ht, List.take_of_length_le (by omega)]
    · intro i hi ih acc ha ht
      refine Ev.step (fun k => by rw [laws_markStepS.l0]) ?_
      refine evp (by omega) (evp (by omega) ?_)
      simp only [Option.bind_some]
      rw [w64 (n := m + 4 * i + 1) (by omega) (by omega), w64 (n := m + 4 * i + 1 + 1) (by omega) (by omega), w64 (n := m + 4 * i + 1 + 1 + 1) (by omega) (by omega), w64 (n := m + 4 * i + 1 + 1 + 1 + 1) (by omega) (by omega), w64 (n := (i : Int) + 1) (by omega) (by omega), Int.toNat_natCast]
      have := ih (acc.set i ⟨m + 4 * i, m + 4 * i + 1, m + 4 * i + 2, m + 4 * i + 3⟩) (by simpa using ha) (by
        rw [set_take _ _ _ (by omega), ht]
        simp [runsS, List.range_succ])
      have rs : ∀ (L : List S96) (v : S96), L.length = l.length → rd_T96 (L.set i v) (i : Int) = v := fun L v hL => rd_set_self L i v (by omega)
      simp only [rs _ _ ha, List.set_set]
      rw [show m + 4 * (i : Int) + 1 + 1 = m + 4 * i + 2 by omega, show m + 4 * (i : Int) + 2 + 1 = m + 4 * i + 3 by omega, show m + 4 * (i : Int) + 3 + 1 = m + 4 * ((i + 1 : Nat) : Int) by omega]
      exact this
  have := key 0 (Nat.zero_le _) l rfl (by simp [runsS])
  unfold laws_markStepS.f
  simpa using this
theorem heldStepS_ev (n : Nat) (m : Int) (h0 : 0 ≤ m) (hm : m + 4 * n ≤ 4000000000000000000) : Ev (fun k => laws_heldStepS.f k (runsS m n) m) (m + 4 * n) := by
  have key : ∀ i, i ≤ n → Ev (fun k => laws_heldStepS.l0 k (runsS m n) (m + 4 * i) (i : Int)) (m + 4 * n) := by
    refine down (n := n) ?_ ?_
    · exact Ev.step (fun k => by rw [laws_heldStepS.l0]) (evn (by rw [runsS_len]; omega) (evs rfl))
    · intro i hi ih
      refine Ev.step (fun k => by rw [laws_heldStepS.l0]) (evp (by rw [runsS_len]; omega) (evp (by omega) ?_))
      rw [rdS _ _ (by rw [runsS_len]; exact hi), show (runsS m n)[i]'(by rw [runsS_len]; exact hi) = ⟨m + 4 * i, m + 4 * i + 1, m + 4 * i + 2, m + 4 * i + 3⟩ by simp [runsS]]
      rw [w64 (n := m + 4 * i + 1) (by omega) (by omega), w64 (n := m + 4 * i + 1 + 1) (by omega) (by omega), w64 (n := m + 4 * i + 1 + 1 + 1) (by omega) (by omega), w64 (n := m + 4 * i + 1 + 1 + 1 + 1) (by omega) (by omega), w64 (n := (i : Int) + 1) (by omega) (by omega)]
      refine evp rfl (evp rfl (evp ?_ (evp ?_ ?_)))
      · show m + 4 * (i : Int) + 2 = _; omega
      · show m + 4 * (i : Int) + 3 = _; omega
      rw [show m + 4 * (i : Int) + 1 + 1 + 1 + 1 = m + 4 * ((i + 1 : Nat) : Int) by omega]
      exact ih
  have := key 0 (Nat.zero_le _)
  unfold laws_heldStepS.f
  simpa using this
end Go.Proofs.Ytbkkpllejgedcaa.Q


namespace Go.Proofs.Ytbkkpllejgedcaa.Q
set_option linter.unusedVariables false
set_option linter.unusedSimpArgs false
open Go.RowKit Go.Proofs.Ytbkkpllejgedcaa.P Go.Proofs.YtbkkpllejgedcaaW.PrintWords Go.Proofs.YtbkkpllejgedcaaW.PrintMore
theorem planGoS_eq (l : List S96) (t : List Bool) : planGoS l t = planGo l t := by
  induction l generalizing t with
  | nil => rfl
  | cons x r ih => simp only [planGoS, planGo, ih]; rfl
theorem planSpec_eq (l : List S96) : spec_PlanOk.f l = some (planOk l) := by
  show some (planOkS l) = some (planOk l)
  unfold planOkS planOk
  rw [planGoS_eq, Bool.and_comm]; rfl
def inKeys (x : S96) : Prop := 0 ≤ x.f0 ∧ x.f0 ≤ 11 ∧ 0 ≤ x.f1 ∧ x.f1 ≤ 11 ∧ x.f1 = (x.f0 + 1) % 12
theorem stepOk_in {x : S96} {t : List Bool} (h : stepOk x t = true) : inKeys x := by
  simp [stepOk] at h; unfold inKeys; omega
theorem planGo_in {l : List S96} {t : List Bool} (h : planGo l t = true) : ∀ x ∈ l, inKeys x := by
  induction l generalizing t with
  | nil => simp
  | cons y r ih =>
    simp only [planGo, Bool.and_eq_true] at h
    intro x hx
    rcases List.mem_cons.1 hx with rfl | hx
    · exact stepOk_in h.1
    · exact ih h.2 x hx
theorem planOk_in {l : List S96} (h : planOk l = true) : ∀ x ∈ l, inKeys x := by
  simp only [planOk, Bool.and_eq_true] at h; exact planGo_in h.2
theorem planOk_len {l : List S96} (h : planOk l = true) : l.length ≤ 11 := by
  simp only [planOk, Bool.and_eq_true, decide_eq_true_eq] at h; exact h.1
theorem rd_get (l : List Int) (i : Int) : rd l i = l.getD i.toNat 0 := rfl
end Go.Proofs.Ytbkkpllejgedcaa.Q


namespace Go.Proofs.Ytbkkpllejgedcaa.Q
set_option linter.unusedVariables false
set_option linter.unusedSimpArgs false
open Go.RowKit Go.Proofs.Ytbkkpllejgedcaa.P Go.Proofs.YtbkkpllejgedcaaW.PrintWords Go.Proofs.YtbkkpllejgedcaaW.PrintMore
def stepTo (c : Int) : List S96 → Nat → Int
  | [], _ => -1
  | x :: r, j => if x.f1 = c then (j : Int) else stepTo c r (j + 1)
theorem stepTo_ev (l : List S96) (c : Int) (hl : l.length ≤ 4000000) : Ev (fun n => spec_l20Step.f n l c) (stepTo c l 0) := by
  have key : ∀ i, i ≤ l.length → Ev (fun n => spec_l20Step.l0 n l c (i : Int)) (stepTo c (l.drop i) i) := by
    refine down (n := l.length) ?_ ?_
    · refine Ev.step (fun n => by rw [spec_l20Step.l0]) (evn (by omega) (evs ?_))
      rw [drop_end]; rfl
    · intro i hi ih
      refine Ev.step (fun n => by rw [spec_l20Step.l0]) ?_
      refine evp (by omega) (evp (by omega) ?_)
      rw [rdS l i hi, drop_cons l i hi, stepTo]
      by_cases h : l[i].f1 = c
      · exact rpos h <| evp h (Ev.now _)
      · refine rneg h <| evn h ?_
        rw [w64 (by omega) (by omega)]
        exact ih
  exact key 0 (Nat.zero_le _)
theorem stepTo_lt (c : Int) (l : List S96) (j d : Nat) : (0 ≤ stepTo c l j ∧ stepTo c l j < ((j + d : Nat) : Int)) ↔ ∃ x ∈ l.take d, x.f1 = c := by
  induction l generalizing j d with
  | nil => simp [stepTo]
  | cons x r ih =>
    unfold stepTo
    cases d with
    | zero =>
      simp only [List.take_zero, List.not_mem_nil, false_and, exists_false, iff_false]
      by_cases h : x.f1 = c
      · rw [if_pos h]; omega
      · rw [if_neg h]
        have := ih (j + 1) 0
        simp at this
        have h1 := this
        intro h2
        have : ∀ (l : List S96) (j : Nat), stepTo c l j = -1 ∨ (j : Int) ≤ stepTo c l j := by
          intro l
          induction l with
          | nil => intro j; exact .inl rfl
          | cons y s ih2 =>
            intro j; unfold stepTo; split
            · exact .inr (Int.le_refl _)
            · rcases ih2 (j + 1) with h | h
              · exact .inl h
              · exact .inr (by omega)
        rcases this r (j + 1) with h3 | h3 <;> omega
    | succ d =>
      rw [List.take_succ_cons]
      by_cases h : x.f1 = c
      · rw [if_pos h]
        exact ⟨fun _ => ⟨x, List.mem_cons_self, h⟩, fun _ => ⟨by omega, by omega⟩⟩
      · rw [if_neg h]
        have := ih (j + 1) d
        rw [show j + 1 + d = j + (d + 1) by omega] at this
        rw [this]
        constructor
        · rintro ⟨y, hy, e⟩; exact ⟨y, List.mem_cons_of_mem _ hy, e⟩
        · rintro ⟨y, hy, e⟩
          rcases List.mem_cons.1 hy with rfl | hy
          · exact absurd e h
          · exact ⟨y, hy, e⟩
theorem tunedBy_len (l : List S96) (t : List Bool) : (P.tunedBy l t).length = t.length := by
  unfold P.tunedBy
  induction l generalizing t with
  | nil => rfl
  | cons x r ih => rw [List.foldl_cons, ih, List.length_set]
theorem tunedBy_get (l : List S96) (t : List Bool) (hin : ∀ x ∈ l, 0 ≤ x.f1) (c : Nat) (hc : c < t.length) : (P.tunedBy l t)[c]? = some (t[c] || l.any (fun x => decide (x.f1 = (c : Int)))) := by
  unfold P.tunedBy
  induction l generalizing t with
  | nil => simp [hc]
  | cons x r ih =>
    rw [List.foldl_cons, ih _ (fun y hy => hin y (List.mem_cons_of_mem _ hy)) (by simpa using hc)]
    have := hin x List.mem_cons_self
    simp only [List.any_cons, List.getElem_set]
    by_cases h : x.f1 = (c : Int)
    · rw [if_pos (by omega)]; simp [h]
    · rw [if_neg (by omega)]; simp [h]
theorem workOk_spec (p : List S96) (d : Int) (q : List Int) : Ev (fun n => spec_WorkOk.f n p d q) (workOk p d q) := by
  have jt : Ev (fun n => spec_WorkOk.j0 n true p d q) false := Ev.step (fun n => by rw [spec_WorkOk.j0]) (evp rfl (Ev.now _))
  unfold spec_WorkOk.f workOk
  refine evb (planSpec_eq p) ?_
  by_cases hp : planOk p = true
  rotate_left
  · rw [show planOk p = false by simpa using hp, Bool.false_and]; exact evn (by simp) jt
  refine evp hp (evb (l01In_eq _ _ _) ?_)
  rw [hp, Bool.true_and]
  by_cases hd : 0 ≤ d ∧ d ≤ (p.length : Int)
  rotate_left
  · rw [decide_eq_false hd, Bool.false_and]; exact evn (by simp) jt
  rw [decide_eq_true hd, Bool.true_and]
  refine evp rfl ?_
  by_cases hq : q.length = 12
  rotate_left
  · rw [decide_eq_false hq, Bool.false_and, show ((q.length : Int) != 12) = true by simpa using (show ¬ (q.length : Int) = 12 by omega)]; exact jt
  rw [decide_eq_true hq, Bool.true_and, show ((q.length : Int) != 12) = false by simpa using (show (q.length : Int) = 12 by omega)]
  have hl := planOk_len hp
  have hin := planOk_in hp
  obtain ⟨T, hT⟩ : ∃ T, P.tunedBy (p.take d.toNat) tuned0 = T := ⟨_, rfl⟩
  have hTl : T.length = 12 := by rw [← hT, tunedBy_len]; rfl
  have hTi : ∀ c : Nat, (hc : c < T.length) → T[c] = (decide (c = 0) || decide (0 ≤ stepTo (c : Int) p 0 ∧ stepTo (c : Int) p 0 < d)) := by
    intro c hc
    have h1 := tunedBy_get (p.take d.toNat) tuned0 (fun x hx => (hin x (List.mem_of_mem_take hx)).2.2.1) c (show c < 12 by omega)
    rw [hT, List.getElem?_eq_getElem hc] at h1
    rw [Option.some.inj h1]
    congr 1
    · have : ∀ c, (h : c < tuned0.length) → tuned0[c] = decide (c = 0) := by decide
      exact this c _
    · have h2 := stepTo_lt (c : Int) p 0 d.toNat
      rw [Nat.zero_add, Int.toNat_of_nonneg hd.1] at h2
      rw [Bool.eq_iff_iff, decide_eq_true_iff, h2]
      simp
  rw [hT]
  have key : ∀ i : Nat, i ≤ 12 → Ev (fun n => spec_WorkOk.l0 n (i : Int) p d q) (keyGo (T.drop i) (q.drop i)) := by
    refine down (n := 12) ?_ ?_
    · refine Ev.step (fun n => by rw [spec_WorkOk.l0]) (evn (by omega) (evs ?_))
      rw [List.drop_eq_nil_of_le (by omega)]; rfl
    · intro i hi ih
      refine Ev.step (fun n => by rw [spec_WorkOk.l0]) ?_
      refine evp (by omega) (Ev.bind (stepTo_ev p _ (by omega)) ?_)
      rw [rd_nat q i (by omega), drop_cons T i (by omega), drop_cons q i (by omega), keyGo, hTi i (by omega), w64 (n := (i : Int) + 1) (by omega) (by omega)]
      have fin : ∀ v : Bool, Ev (fun n => (spec_l18Pitch.f q[i]).bind fun t => if t = true then spec_WorkOk.l0 n (((i + 1 : Nat)) : Int) p d q else some false) (decide (1 ≤ q[i] ∧ q[i] ≤ 10000000) && keyGo (T.drop (i + 1)) (q.drop (i + 1))) := by
        intro v
        refine evb (pitch_eq _) ?_
        by_cases hf : fine q[i] = true
        · rw [show decide (1 ≤ q[i] ∧ q[i] ≤ 10000000) = true from hf, Bool.true_and]; exact evp hf ih
        · rw [show decide (1 ≤ q[i] ∧ q[i] ≤ 10000000) = false by simpa [fine] using hf, Bool.false_and]; exact evn hf (Ev.now _)
      have zer : Ev (fun n => if 0 ≤ (i : Int) then (if (i : Int) < (q.length : Int) then (if q[i] = 0 then spec_WorkOk.l0 n (((i + 1 : Nat)) : Int) p d q else some false) else none) else none) (decide (q[i] = 0) && keyGo (T.drop (i + 1)) (q.drop (i + 1))) := by
        refine evp (by omega) (evp (by omega) ?_)
        by_cases hz : q[i] = 0
        · rw [decide_eq_true hz, Bool.true_and]; exact evp hz ih
        · rw [decide_eq_false hz, Bool.false_and]; exact evn hz (Ev.now _)
      by_cases h0 : i = 0
      · refine evp (by omega) (evp (by omega) (evp (by omega) ?_))
        rw [decide_eq_true h0, Bool.true_or, if_pos rfl]
        exact fin true
      refine evn (by omega) ?_
      rw [decide_eq_false h0, Bool.false_or]
      by_cases h1 : 0 ≤ stepTo (i : Int) p 0
      rotate_left
      · rw [decide_eq_false (fun h => h1 h.1), if_neg (by simp)]; exact evn (by omega) zer
      refine evp (by omega) ?_
      by_cases h2 : stepTo (i : Int) p 0 < d
      · rw [decide_eq_true ⟨h1, h2⟩, if_pos rfl]; exact evp h2 (evp (by omega) (evp (by omega) (fin true)))
      · rw [decide_eq_false (fun h => h2 h.2), if_neg (by simp)]; exact evn h2 zer
  refine Ev.step (fun n => by rw [spec_WorkOk.j0]) (evn (by decide) ?_)
  exact key 0 (by omega)
theorem workImpl_eq (p : List S96) (d : Int) (q : List Int) : impl_WorkOk.f p d q = some (workOk p d q) := rfl
theorem workOk_plan {p : List S96} {d : Int} {q : List Int} (h : workOk p d q = true) : planOk p = true := by
  simp only [workOk, Bool.and_eq_true] at h; exact h.1
theorem workOk_done {p : List S96} {d : Int} {q : List Int} (h : workOk p d q = true) : 0 ≤ d ∧ d ≤ p.length := by
  simp only [workOk, Bool.and_eq_true, decide_eq_true_eq] at h; exact h.2.1
theorem workOk_len {p : List S96} {d : Int} {q : List Int} (h : workOk p d q = true) : q.length = 12 := by
  simp only [workOk, Bool.and_eq_true, decide_eq_true_eq] at h; exact h.2.2.1
end Go.Proofs.Ytbkkpllejgedcaa.Q


namespace Go.Proofs.Ytbkkpllejgedcaa.Q
set_option linter.unusedVariables false
set_option linter.unusedSimpArgs false
open Go.RowKit Go.Proofs.Ytbkkpllejgedcaa.P Go.Proofs.YtbkkpllejgedcaaW.PrintWords Go.Proofs.YtbkkpllejgedcaaW.PrintMore
def cEntry (x : S68) : S74 := ⟨⟨x.f0.f0, x.f0.f1⟩, x.f1, x.f2⟩
theorem rdE (l : List S74) (i : Nat) (h : i < l.length) : rd_T74 l (i : Int) = l[i] := by
  unfold rd_T74; simp [List.getD_eq_getElem?_getD, h]
theorem rdLE (l : List S68) (i : Nat) (h : i < l.length) : rd_T68 l (i : Int) = l[i] := by
  unfold rd_T68; simp [List.getD_eq_getElem?_getD, h]
theorem toEntryS_ev (l : List S68) (hl : l.length ≤ 1048576) : Ev (fun k => laws_toEntryS.f k l) (l.map cEntry) := by
  have key : ∀ i, i ≤ l.length → ∀ acc : List S74, acc.length = l.length → Ev (fun k => laws_toEntryS.l0 k l acc (i : Int)) (acc.take i ++ (l.drop i).map cEntry) := by
    refine down (n := l.length) ?_ ?_
    · intro acc ha
      refine Ev.step (fun k => by rw [laws_toEntryS.l0]) (evn (by omega) (evs ?_))
      rw [drop_end, List.map_nil, List.append_nil, List.take_of_length_le (by omega)]
    · intro i hi ih acc ha
      refine Ev.step (fun k => by rw [laws_toEntryS.l0]) (evp (by omega) (evp (by omega) ?_))
      rw [rdLE l i hi]
      refine evb (a := (l[i].f0.f0, l[i].f0.f1, l[i].f1, l[i].f2)) rfl (evp (by omega) ?_)
      rw [w64 (by omega) (by omega), Int.toNat_natCast]
      have := ih (acc.set i (cEntry l[i])) (by simpa using ha)
      rw [set_take _ _ _ (by omega), List.append_assoc] at this
      rw [drop_cons l i hi, List.map_cons]
      exact this
  have := key 0 (Nat.zero_le _) (List.replicate l.length z74) (by simp)
  unfold laws_toEntryS.f
  refine evp (by omega) (evp (by omega) ?_)
  simpa using this
theorem eqPipe_self (a b : Int) : laws_eqPipe.f a b a b = some true := by unfold laws_eqPipe.f; simp
theorem eqEntry_self (a b c d : Int) : laws_eqEntry.f a b c d a b c d = some true := by unfold laws_eqEntry.f; simp [eqPipe_self]
theorem eqEntryS_ev (l : List S74) (hl : l.length ≤ 9000000000000000000) : Ev (fun k => laws_eqEntryS.f k l l) true := by
  have key : ∀ i, i ≤ l.length → Ev (fun k => laws_eqEntryS.l0 k l l (i : Int)) true := by
    refine down (n := l.length) ?_ ?_
    · refine Ev.step (fun k => by rw [laws_eqEntryS.l0]) (evn (by omega) ?_)
      exact Ev.now _
    · intro i hi ih
      refine Ev.step (fun k => by rw [laws_eqEntryS.l0]) (evp (by omega) (evp (by omega) (evp (by omega) ?_)))
      refine evb (eqEntry_self _ _ _ _) (evp rfl ?_)
      rw [w64 (by omega) (by omega)]
      exact ih
  unfold laws_eqEntryS.f
  refine evp rfl ?_
  exact key 0 (Nat.zero_le _)
theorem szEntryS_eq (l : List S68) (m : Int) (h0 : 0 ≤ m) (hm : m ≤ 1048576) (hl : l.length ≤ 9223372036854775807) : laws_szEntryS.f l m = some (if m < l.length then -1 else m - l.length) := by
  unfold laws_szEntryS.f
  rw [w64 (by omega) (by omega)]
  by_cases h : m < l.length
  · rw [if_pos (by omega), if_pos h]
  · rw [if_neg (by omega), if_neg h]
end Go.Proofs.Ytbkkpllejgedcaa.Q


namespace Go.Proofs.Ytbkkpllejgedcaa.Q
set_option linter.unusedVariables false
set_option linter.unusedSimpArgs false
open Go.RowKit Go.Proofs.Ytbkkpllejgedcaa.P Go.Proofs.YtbkkpllejgedcaaW.PrintWords Go.Proofs.YtbkkpllejgedcaaW.PrintMore
theorem shopOk_impl (p : List S96) (d : Int) (q : List Int) (a m : Int) (l : List S74) (hl : l.length ≤ 1048577) : Ev (fun k => impl_ShopOk.f k p d q a m l) (shopOk p d q a m l) := Ev.now _
theorem shopOk_spec (p : List S96) (d : Int) (q : List Int) (a m : Int) (l : List S74) (hl : l.length ≤ 1048577) : Ev (fun k => spec_ShopOk.f k p d q a m l) (shopOk p d q a m l) := Ev.bind (workOk_spec p d q) (Ev.now _)
end Go.Proofs.Ytbkkpllejgedcaa.Q


namespace Go.Proofs.Ytbkkpllejgedcaa.Q
set_option linter.unusedVariables false
set_option linter.unusedSimpArgs false
open Go.RowKit Go.Proofs.Ytbkkpllejgedcaa.P Go.Proofs.YtbkkpllejgedcaaW.PrintWords Go.Proofs.YtbkkpllejgedcaaW.PrintMore
theorem copyPlan_eq (p : List S96) (hp : p.length ≤ 4000000) : impl_copyPlan.f p = some p := by
  unfold impl_copyPlan.f; simp only [Option.bind_some]; rw [if_pos (by simp; omega)]; simp
theorem l19Copy_eq (p : List S96) (hp : p.length ≤ 4000000) : spec_l19Copy.f p = some p := by
  unfold spec_l19Copy.f; simp only [Option.bind_some]; rw [if_pos (by simp; omega)]; simp
theorem l02Copy_eq (p : List Int) (hp : p.length ≤ 4000000) : spec_l02Copy.f p = some p := by
  unfold spec_l02Copy.f; simp only [Option.bind_some]; rw [if_pos (by simp; omega)]; simp
theorem copyWork_eq (p : List S96) (d : Int) (q : List Int) (hp : p.length ≤ 4000000) (hq : q.length ≤ 4000000) : impl_copyWork.f p d q = some (p, d, q) := by
  unfold impl_copyWork.f; rw [copyPlan_eq p hp]; simp only [Option.bind_some]; rw [if_pos (by simp; omega)]; simp
theorem l36Copy_eq (p : List S96) (d : Int) (q : List Int) (hp : p.length ≤ 4000000) (hq : q.length ≤ 4000000) : spec_l36Copy.f p d q = some (p, d, q) := by
  unfold spec_l36Copy.f; rw [l19Copy_eq p hp]; simp only [Option.bind_some]; rw [l02Copy_eq q hq]; rfl
end Go.Proofs.Ytbkkpllejgedcaa.Q


namespace Go.Proofs.Ytbkkpllejgedcaa.Q
set_option linter.unusedVariables false
set_option linter.unusedSimpArgs false
open Go.RowKit Go.Proofs.Ytbkkpllejgedcaa.P Go.Proofs.YtbkkpllejgedcaaW.PrintWords Go.Proofs.YtbkkpllejgedcaaW.PrintMore
theorem copyLog_eq (l : List S74) (hl : l.length ≤ 4000000) : impl_copyLog.f l = some l := by
  unfold impl_copyLog.f; simp only [Option.bind_some]; rw [if_pos (by simp; omega)]; simp
theorem l34Copy_eq (l : List S74) (hl : l.length ≤ 4000000) : spec_l34Copy.f l = some l := by
  unfold spec_l34Copy.f; simp only [Option.bind_some]; rw [if_pos (by simp; omega)]; simp
end Go.Proofs.Ytbkkpllejgedcaa.Q


namespace Go.Proofs.Ytbkkpllejgedcaa.Q
set_option linter.unusedVariables false
set_option linter.unusedSimpArgs false
open Go.RowKit Go.Proofs.Ytbkkpllejgedcaa.P Go.Proofs.YtbkkpllejgedcaaW.PrintWords Go.Proofs.YtbkkpllejgedcaaW.PrintMore
theorem copyShop_eq (p : List S96) (d : Int) (q : List Int) (a m : Int) (l : List S74) (hp : p.length ≤ 4000000) (hq : q.length ≤ 4000000) (hl : l.length ≤ 4000000) : impl_copyShop.f p d q a m l = some (p, d, q, a, m, l) := by
  unfold impl_copyShop.f; rw [copyWork_eq p d q hp hq, Option.bind_some, copyLog_eq l hl]; rfl
theorem l38Copy_eq (p : List S96) (d : Int) (q : List Int) (a m : Int) (l : List S74) (hp : p.length ≤ 4000000) (hq : q.length ≤ 4000000) (hl : l.length ≤ 4000000) : spec_l38Copy.f p d q a m l = some (p, d, q, a, m, l) := by
  unfold spec_l38Copy.f; rw [l36Copy_eq p d q hp hq, Option.bind_some, l34Copy_eq l hl]; rfl
end Go.Proofs.Ytbkkpllejgedcaa.Q


namespace Go.Proofs.Ytbkkpllejgedcaa.Q
set_option linter.unusedVariables false
set_option linter.unusedSimpArgs false
open Go.RowKit Go.Proofs.Ytbkkpllejgedcaa.P Go.Proofs.YtbkkpllejgedcaaW.PrintWords Go.Proofs.YtbkkpllejgedcaaW.PrintMore
def tuneAt (p : List S96) (q : List Int) (i : Nat) : Int := tunedPitch (q.getD (p.getD i z96).f0.toNat 0) (p.getD i z96).f2 (p.getD i z96).f3
theorem getS (p : List S96) (i : Nat) (hi : i < p.length) : p.getD i z96 = p[i] := by simp [List.getD_eq_getElem?_getD, hi]
theorem tunedBy_ev (p : List S96) (d : Int) (q : List Int) (i : Nat) (hp : planOk p = true) (hq : q.length = 12) (hi : i < p.length) : Ev (fun n => impl_tunedBy.f n p d q (i : Int)) (tuneAt p q i) := by
  obtain ⟨k0, k1, k2, k3, k4⟩ := planOk_in hp p[i] (List.getElem_mem hi)
  unfold impl_tunedBy.f tuneAt
  rw [getS p i hi, rdS p i hi]
  refine evp (by omega) (evp (by omega) (evp k0 (evp (by omega) (Ev.bind (tuned_impl _ _ _) (Ev.now _)))))
end Go.Proofs.Ytbkkpllejgedcaa.Q


namespace Go.Proofs.Ytbkkpllejgedcaa.Q
set_option linter.unusedVariables false
set_option linter.unusedSimpArgs false
open Go.RowKit Go.Proofs.Ytbkkpllejgedcaa.P Go.Proofs.YtbkkpllejgedcaaW.PrintWords Go.Proofs.YtbkkpllejgedcaaW.PrintMore
def isBad (p : List S96) (q : List Int) (i : Nat) : Bool := decide (q.getD (p.getD i z96).f1.toNat 0 ≠ tuneAt p q i)
def wrongs (p : List S96) (q : List Int) (l : List Nat) : List Int := (l.filter (isBad p q)).map (fun (i : Nat) => (i : Int))
def wrongSteps (p : List S96) (d : Int) (q : List Int) : List Int := if workOk p d q = true then wrongs p q (List.range d.toNat) else []
theorem wrongs_cons (p : List S96) (q : List Int) (i : Nat) (l : List Nat) : wrongs p q (i :: l) = if isBad p q i = true then (i : Int) :: wrongs p q l else wrongs p q l := by
  unfold wrongs; rw [List.filter_cons]; split <;> rfl
theorem wrong_impl (p : List S96) (d : Int) (q : List Int) : Ev (fun n => impl_WrongSteps.f n p d q) (wrongSteps p d q) := by
  unfold impl_WrongSteps.f wrongSteps
  refine evb (workImpl_eq p d q) ?_
  by_cases h : workOk p d q = true
  rotate_left
  · exact rneg h <| evn h (Ev.now _)
  have hp := workOk_plan h; have hd := workOk_done h; have hq := workOk_len h; have hl := planOk_len hp
  obtain ⟨m, rfl⟩ := Int.eq_ofNat_of_zero_le hd.1
  refine rpos h <| evp h (evp hd.1 (evp hd.2 ?_))
  simp only [Option.bind_some, Int.toNat_natCast]
  have key : ∀ i, i ≤ m → ∀ acc : List Int, acc.length ≤ i → Ev (fun n => impl_WrongSteps.l0 n acc (p.take m) ((p.take m).length : Int) (i : Int) p m q) (acc ++ wrongs p q ((List.range m).drop i)) := by
    refine down (n := m) ?_ ?_
    · intro acc ha
      refine Ev.step (fun n => by rw [impl_WrongSteps.l0]) (evn (by rw [List.length_take]; omega) (evs ?_))
      rw [List.drop_eq_nil_of_le (by simp)]; simp [wrongs]
    · intro i hi ih acc ha
      obtain ⟨k0, k1, k2, k3, k4⟩ := planOk_in hp p[i] (List.getElem_mem (by omega))
      have e : (p.take m)[i]'(by rw [List.length_take]; omega) = p[i] := by simp
      refine Ev.step (fun n => by rw [impl_WrongSteps.l0]) ?_
      refine evp (by rw [List.length_take]; omega) (evp (by omega) (evp (by rw [List.length_take]; omega) ?_))
      rw [rdS (p.take m) i (by rw [List.length_take]; omega), e]
      refine evp k2 (evp (by omega) (Ev.bind (tunedBy_ev p _ q i hp hq (by omega)) ?_))
      rw [drop_cons _ i (by simpa using hi), List.getElem_range, rd_get, w64 (n := (i : Int) + 1) (by omega) (by omega)]
      have g := getS p i (by omega)
      have eb : isBad p q i = decide (q.getD p[i].f1.toNat 0 ≠ tuneAt p q i) := by unfold isBad; rw [g]
      by_cases hb : q.getD p[i].f1.toNat 0 = tuneAt p q i
      · rw [show wrongs p q (i :: (List.range m).drop (i + 1)) = wrongs p q ((List.range m).drop (i + 1)) by rw [wrongs_cons, eb, if_neg (by simp only [decide_eq_true_eq]; exact fun h => h hb)]]
        refine evp hb ?_
        exact ih acc (by omega)
      · rw [show wrongs p q (i :: (List.range m).drop (i + 1)) = (i : Int) :: wrongs p q ((List.range m).drop (i + 1)) by rw [wrongs_cons, eb, if_pos (by simp only [decide_eq_true_eq]; exact hb)]]
        refine evn hb (evp (by omega) ?_)
        have := ih (acc ++ [(i : Int)]) (by simp; omega)
        rw [List.append_assoc] at this
        exact this
  have := key 0 (Nat.zero_le _) [] (Nat.le_refl _)
  simpa using this
theorem wrong_spec (p : List S96) (d : Int) (q : List Int) : Ev (fun n => spec_WrongSteps.f n p d q) (wrongSteps p d q) := by
  unfold spec_WrongSteps.f wrongSteps
  simp only [Option.bind_some]
  refine Ev.bind (workOk_spec p d q) ?_
  by_cases h : workOk p d q = true
  rotate_left
  · exact rneg h <| evn h (Ev.now _)
  have hp := workOk_plan h; have hd := workOk_done h; have hq := workOk_len h; have hl := planOk_len hp
  obtain ⟨m, rfl⟩ := Int.eq_ofNat_of_zero_le hd.1
  refine rpos h <| evp h ?_
  simp only [Int.toNat_natCast]
  have key : ∀ i, i ≤ m → ∀ acc : List Int, acc.length ≤ i → Ev (fun n => spec_WrongSteps.l0 n acc (i : Int) p m q) (acc ++ wrongs p q ((List.range m).drop i)) := by
    refine down (n := m) ?_ ?_
    · intro acc ha
      refine Ev.step (fun n => by rw [spec_WrongSteps.l0]) (evn (by omega) (evs ?_))
      rw [List.drop_eq_nil_of_le (by simp)]; simp [wrongs]
    · intro i hi ih acc ha
      obtain ⟨k0, k1, k2, k3, k4⟩ := planOk_in hp p[i] (List.getElem_mem (by omega))
      refine Ev.step (fun n => by rw [spec_WrongSteps.l0]) ?_
      refine evp (by omega) (evp (by omega) (evp (by omega) ?_))
      rw [rdS p i (by omega)]
      refine evp k2 (evp (by omega) (evp k0 (evp (by omega) (Ev.bind (tuned_spec _ _ _) ?_))))
      rw [drop_cons _ i (by simpa using hi), List.getElem_range, rd_get, rd_get, w64 (n := (i : Int) + 1) (by omega) (by omega)]
      have g := getS p i (by omega)
      have eb : isBad p q i = decide (q.getD p[i].f1.toNat 0 ≠ tuneAt p q i) := by unfold isBad; rw [g]
      by_cases hb : q.getD p[i].f1.toNat 0 = tuneAt p q i
      · rw [show wrongs p q (i :: (List.range m).drop (i + 1)) = wrongs p q ((List.range m).drop (i + 1)) by rw [wrongs_cons, eb, if_neg (by simp only [decide_eq_true_eq]; exact fun h => h hb)]]
        refine evp (by rw [hb]; unfold tuneAt; rw [g]) ?_
        exact ih acc (by omega)
      · rw [show wrongs p q (i :: (List.range m).drop (i + 1)) = (i : Int) :: wrongs p q ((List.range m).drop (i + 1)) by rw [wrongs_cons, eb, if_pos (by simp only [decide_eq_true_eq]; exact hb)]]
        refine evn (by unfold tuneAt at hb; rw [g] at hb; exact hb) (evp (by omega) ?_)
        have := ih (acc ++ [(i : Int)]) (by simp; omega)
        rw [List.append_assoc] at this
        exact this
  have := key 0 (Nat.zero_le _) [] (Nat.le_refl _)
  simpa using this
end Go.Proofs.Ytbkkpllejgedcaa.Q


namespace Go.Proofs.Ytbkkpllejgedcaa.Q
set_option linter.unusedVariables false
set_option linter.unusedSimpArgs false
open Go.RowKit Go.Proofs.Ytbkkpllejgedcaa.P Go.Proofs.YtbkkpllejgedcaaW.PrintWords Go.Proofs.YtbkkpllejgedcaaW.PrintMore
def mendStep (p : List S96) (d : Int) (q : List Int) : List S96 × Int × List Int × Bool :=
  match wrongSteps p d q with
  | [] => (p, d, q, false)
  | i :: _ => if tuneAt p q i.toNat = 0 then (p, d, q, false) else (p, d, q.set (p.getD i.toNat z96).f1.toNat (tuneAt p q i.toNat), true)
theorem wrongSteps_head {p : List S96} {d : Int} {q : List Int} {i : Int} {r : List Int} (h : wrongSteps p d q = i :: r) : workOk p d q = true ∧ ∃ j : Nat, i = j ∧ (j : Int) < d ∧ j < p.length := by
  unfold wrongSteps at h
  by_cases hw : workOk p d q = true
  rotate_left
  · rw [if_neg hw] at h; exact absurd h (by simp)
  rw [if_pos hw] at h
  refine ⟨hw, ?_⟩
  have hi : i ∈ wrongs p q (List.range d.toNat) := by rw [h]; exact List.mem_cons_self
  unfold wrongs at hi
  obtain ⟨j, hj, rfl⟩ := List.mem_map.1 hi
  have hd := workOk_done hw
  have := List.mem_range.1 (List.mem_filter.1 hj).1
  exact ⟨j, rfl, by omega, by omega⟩
theorem mend_impl (p : List S96) (d : Int) (q : List Int) (hp : p.length ≤ 4000000) (hq : q.length ≤ 4000000) : Ev (fun n => impl_MendStep.f n p d q) (mendStep p d q) := by
  unfold impl_MendStep.f mendStep
  refine evb (copyWork_eq p d q hp hq) (Ev.bind (wrong_impl p d q) ?_)
  cases h : wrongSteps p d q with
  | nil => exact evp rfl (Ev.now _)
  | cons i r =>
    obtain ⟨hw, j, rfl, hj, hj2⟩ := wrongSteps_head h
    have hp := workOk_plan hw; have hq := workOk_len hw
    obtain ⟨k0, k1, k2, k3, k4⟩ := planOk_in hp p[j] (List.getElem_mem hj2)
    refine evn (by simp; omega) (evp (by simp) ?_)
    rw [show rd ((j : Int) :: r) 0 = (j : Int) from rfl]
    refine Ev.bind (tunedBy_ev p d q j hp hq hj2) ?_
    simp only [Int.toNat_natCast]
    by_cases hz : tuneAt p q j = 0
    · exact rpos hz <| evp hz (Ev.now _)
    refine rneg hz <| evn hz (evp (by omega) (evp (by omega) ?_))
    rw [rdS p j hj2, getS p j hj2]
    exact evp k2 (evp (by omega) (Ev.now _))
theorem mend_spec (p : List S96) (d : Int) (q : List Int) (hp : p.length ≤ 4000000) (hq : q.length ≤ 4000000) : Ev (fun n => spec_MendStep.f n p d q) (mendStep p d q) := by
  unfold spec_MendStep.f mendStep
  refine evb (l36Copy_eq p d q hp hq) (Ev.bind (wrong_spec p d q) ?_)
  cases h : wrongSteps p d q with
  | nil => exact evp rfl (Ev.now _)
  | cons i r =>
    obtain ⟨hw, j, rfl, hj, hj2⟩ := wrongSteps_head h
    have hp := workOk_plan hw; have hq := workOk_len hw
    obtain ⟨k0, k1, k2, k3, k4⟩ := planOk_in hp p[j] (List.getElem_mem hj2)
    refine evn (by simp; omega) (evp (by simp) ?_)
    rw [show rd ((j : Int) :: r) 0 = (j : Int) from rfl]
    refine evp (by omega) (evp (by omega) ?_)
    rw [rdS p j hj2]
    refine evp k0 (evp (by omega) (Ev.bind (tuned_spec _ _ _) ?_))
    rw [rd_get]
    have et : tunedPitch (q.getD p[j].f0.toNat 0) p[j].f2 p[j].f3 = tuneAt p q j := by unfold tuneAt; rw [getS p j hj2]
    simp only [Int.toNat_natCast]
    rw [et, getS p j hj2]
    by_cases hz : tuneAt p q j = 0
    · exact rpos hz <| evp hz (Ev.now _)
    exact rneg hz <| evn hz (evp k2 (evp (by omega) (Ev.now _)))
theorem mendStep_len (p : List S96) (d : Int) (q : List Int) : (mendStep p d q).1 = p ∧ (mendStep p d q).2.1 = d ∧ (mendStep p d q).2.2.1.length = q.length := by
  unfold mendStep; split
  · exact ⟨rfl, rfl, rfl⟩
  · split
    · exact ⟨rfl, rfl, rfl⟩
    · exact ⟨rfl, rfl, by simp⟩
end Go.Proofs.Ytbkkpllejgedcaa.Q


namespace Go.Proofs.Ytbkkpllejgedcaa.Q
set_option linter.unusedVariables false
set_option linter.unusedSimpArgs false
open Go.RowKit Go.Proofs.Ytbkkpllejgedcaa.P Go.Proofs.YtbkkpllejgedcaaW.PrintWords Go.Proofs.YtbkkpllejgedcaaW.PrintMore
def workStep (p : List S96) (d : Int) (q : List Int) : List S96 × Int × List Int × Bool :=
  if workOk p d q = true then
    if d = (p.length : Int) then (p, d, q, false)
    else if tuneAt p q d.toNat = 0 then (p, d, q, false)
    else (p, d + 1, q.set (p.getD d.toNat z96).f1.toNat (tuneAt p q d.toNat), true)
  else (p, d, q, false)
theorem step_impl (p : List S96) (d : Int) (q : List Int) (hp : p.length ≤ 4000000) (hq : q.length ≤ 4000000) : Ev (fun n => impl_WorkStep.f n p d q) (workStep p d q) := by
  have jt : Ev (fun n => impl_WorkStep.j0 n true p d q p d q) (p, d, q, false) := Ev.step (fun n => by rw [impl_WorkStep.j0]) (evp rfl (Ev.now _))
  unfold impl_WorkStep.f workStep
  refine evb (copyWork_eq p d q hp hq) (evb (workImpl_eq p d q) ?_)
  by_cases h : workOk p d q = true
  rotate_left
  · exact rneg h <| evn h jt
  refine rpos h <| evp h ?_
  have hp := workOk_plan h; have hd := workOk_done h; have hq := workOk_len h; have hl := planOk_len hp
  obtain ⟨m, rfl⟩ := Int.eq_ofNat_of_zero_le hd.1
  by_cases he : (m : Int) = (p.length : Int)
  · rw [show ((m : Int) == (p.length : Int)) = true by simpa using he]; exact rpos he jt
  rw [show ((m : Int) == (p.length : Int)) = false by simpa using he]
  refine rneg he ?_
  have hm : m < p.length := by omega
  obtain ⟨k0, k1, k2, k3, k4⟩ := planOk_in hp p[m] (List.getElem_mem hm)
  refine Ev.step (fun n => by rw [impl_WorkStep.j0]) ?_
  refine evn (by decide) (Ev.bind (tunedBy_ev p m q m hp hq hm) ?_)
  simp only [Int.toNat_natCast]
  by_cases hz : tuneAt p q m = 0
  · exact rpos hz <| evp hz (Ev.now _)
  refine rneg hz <| evn hz (evp (by omega) (evp (by omega) ?_))
  rw [rdS p m hm, getS p m hm, w64 (n := (m : Int) + 1) (by omega) (by omega)]
  exact evp k2 (evp (by omega) (Ev.now _))
theorem step_spec (p : List S96) (d : Int) (q : List Int) (hp : p.length ≤ 4000000) (hq : q.length ≤ 4000000) : Ev (fun n => spec_WorkStep.f n p d q) (workStep p d q) := by
  have jt : Ev (fun n => spec_WorkStep.j0 n true p d q p d q) (p, d, q, false) := Ev.step (fun n => by rw [spec_WorkStep.j0]) (evp rfl (Ev.now _))
  unfold spec_WorkStep.f workStep
  refine evb (l36Copy_eq p d q hp hq) (Ev.bind (workOk_spec p d q) ?_)
  by_cases h : workOk p d q = true
  rotate_left
  · exact rneg h <| evn h jt
  refine rpos h <| evp h ?_
  have hp := workOk_plan h; have hd := workOk_done h; have hq := workOk_len h; have hl := planOk_len hp
  obtain ⟨m, rfl⟩ := Int.eq_ofNat_of_zero_le hd.1
  by_cases he : (m : Int) = (p.length : Int)
  · rw [show ((m : Int) == (p.length : Int)) = true by simpa using he]; exact rpos he jt
  rw [show ((m : Int) == (p.length : Int)) = false by simpa using he]
  refine rneg he ?_
  have hm : m < p.length := by omega
  obtain ⟨k0, k1, k2, k3, k4⟩ := planOk_in hp p[m] (List.getElem_mem hm)
  refine Ev.step (fun n => by rw [spec_WorkStep.j0]) ?_
  refine evn (by decide) (evp (by omega) (evp (by omega) ?_))
  rw [rdS p m hm]
  refine evp k0 (evp (by omega) (Ev.bind (tuned_spec _ _ _) ?_))
  rw [rd_get]
  have et : tunedPitch (q.getD p[m].f0.toNat 0) p[m].f2 p[m].f3 = tuneAt p q m := by unfold tuneAt; rw [getS p m hm]
  rw [et, getS p ((m : Int).toNat) hm]
  simp only [Int.toNat_natCast]
  by_cases hz : tuneAt p q m = 0
  · exact rpos hz <| evp hz (Ev.now _)
  refine rneg hz <| evn hz ?_
  rw [w64 (n := (m : Int) + 1) (by omega) (by omega)]
  exact evp k2 (evp (by omega) (Ev.now _))
theorem workStep_len (p : List S96) (d : Int) (q : List Int) : (workStep p d q).1 = p ∧ (workStep p d q).2.2.1.length = q.length := by
  unfold workStep; split
  · split
    · exact ⟨rfl, rfl⟩
    · split
      · exact ⟨rfl, rfl⟩
      · exact ⟨rfl, by simp⟩
  · exact ⟨rfl, rfl⟩
end Go.Proofs.Ytbkkpllejgedcaa.Q


namespace Go.Proofs.Ytbkkpllejgedcaa.Q
set_option linter.unusedVariables false
set_option linter.unusedSimpArgs false
open Go.RowKit Go.Proofs.Ytbkkpllejgedcaa.P Go.Proofs.YtbkkpllejgedcaaW.PrintWords Go.Proofs.YtbkkpllejgedcaaW.PrintMore
theorem mendStep_false (p : List S96) (d : Int) (q : List Int) (h : ¬ (mendStep p d q).2.2.2 = true) : mendStep p d q = (p, d, q, false) := by
  unfold mendStep at h ⊢
  split
  · rfl
  · split
    · rfl
    · rename_i h2 h3; rw [h2] at h; simp only [if_neg h3] at h; exact absurd trivial h
theorem workStep_false (p : List S96) (d : Int) (q : List Int) (h : ¬ (workStep p d q).2.2.2 = true) : workStep p d q = (p, d, q, false) := by
  unfold workStep at h ⊢
  split
  · rename_i h1
    rw [if_pos h1] at h
    split
    · rfl
    · rename_i h2
      rw [if_neg h2] at h
      split
      · rfl
      · rename_i h3; rw [if_neg h3] at h; exact absurd rfl h
  · rfl
def tuneStep (p : List S96) (d : Int) (q : List Int) : List S96 × Int × List Int × Bool := if (((wrongSteps p d q).length : Nat) : Int) > 0 then mendStep p d q else workStep p d q
def shopTune (p : List S96) (d : Int) (q : List Int) (a m : Int) (l : List S74) : List S96 × Int × List Int × Int × Int × List S74 × Bool :=
  if shopOk p d q a m l = true then ((tuneStep p d q).1, (tuneStep p d q).2.1, (tuneStep p d q).2.2.1, a, m, l, (tuneStep p d q).2.2.2) else (p, d, q, a, m, l, false)
theorem stune_impl (p : List S96) (d : Int) (q : List Int) (a m : Int) (l : List S74) (hp : p.length ≤ 4000000) (hq : q.length ≤ 4000000) (hl : l.length ≤ 1048576) : Ev (fun k => impl_ShopTune.f k p d q a m l) (shopTune p d q a m l) := by
  unfold impl_ShopTune.f shopTune tuneStep
  refine evb (copyShop_eq p d q a m l hp hq (by omega)) (Ev.bind (shopOk_impl p d q a m l (by omega)) ?_)
  by_cases h : shopOk p d q a m l = true
  rotate_left
  · exact rneg h <| evn h (Ev.now _)
  refine rpos h <| evp h (Ev.bind (step_impl p d q hp hq) (Ev.bind (wrong_impl p d q) ?_))
  by_cases h2 : (((wrongSteps p d q).length : Nat) : Int) > 0
  · simp only [if_pos h2]
    refine Ev.bind (mend_impl p d q hp hq) ?_
    by_cases h3 : (mendStep p d q).2.2.2 = true
    · exact evp h3 (evs (by rw [h3]))
    · exact evn h3 (evs (by rw [mendStep_false p d q h3]))
  · simp only [if_neg h2]
    by_cases h3 : (workStep p d q).2.2.2 = true
    · exact evp h3 (evs (by rw [h3]))
    · exact evn h3 (evs (by rw [workStep_false p d q h3]))
theorem stune_spec (p : List S96) (d : Int) (q : List Int) (a m : Int) (l : List S74) (hp : p.length ≤ 4000000) (hq : q.length ≤ 4000000) (hl : l.length ≤ 1048576) : Ev (fun k => spec_ShopTune.f k p d q a m l) (shopTune p d q a m l) := by
  unfold spec_ShopTune.f shopTune tuneStep
  refine evb (l38Copy_eq p d q a m l hp hq (by omega)) (Ev.bind (shopOk_spec p d q a m l (by omega)) ?_)
  by_cases h : shopOk p d q a m l = true
  rotate_left
  · exact rneg h <| evn h (Ev.now _)
  refine rpos h <| evp h (Ev.bind (wrong_spec p d q) ?_)
  by_cases h2 : (((wrongSteps p d q).length : Nat) : Int) > 0
  · simp only [if_pos h2]; exact Ev.bind (mend_spec p d q hp hq) (Ev.now _)
  · simp only [if_neg h2]; exact Ev.bind (step_spec p d q hp hq) (Ev.now _)
theorem shopTune_len (p : List S96) (d : Int) (q : List Int) (a m : Int) (l : List S74) : (shopTune p d q a m l).1 = p ∧ (shopTune p d q a m l).2.2.1.length = q.length ∧ (shopTune p d q a m l).2.2.2.2.2.1 = l := by
  unfold shopTune tuneStep; split
  · split
    · exact ⟨(mendStep_len p d q).1, (mendStep_len p d q).2.2, rfl⟩
    · exact ⟨(workStep_len p d q).1, (workStep_len p d q).2, rfl⟩
  · exact ⟨rfl, rfl, rfl⟩
end Go.Proofs.Ytbkkpllejgedcaa.Q


namespace Go.Proofs.Ytbkkpllejgedcaa.Q
set_option linter.unusedVariables false
set_option linter.unusedSimpArgs false
open Go.RowKit Go.Proofs.Ytbkkpllejgedcaa.P Go.Proofs.YtbkkpllejgedcaaW.PrintWords Go.Proofs.YtbkkpllejgedcaaW.PrintMore
theorem toIntS_ev (l : List Int) (hl : l.length ≤ 1048576) : Ev (fun k => laws_toIntS.f k l) l := by
  have key : ∀ i, i ≤ l.length → ∀ acc : List Int, acc.length = l.length → Ev (fun k => laws_toIntS.l0 k l acc (i : Int)) (acc.take i ++ l.drop i) := by
    refine down (n := l.length) ?_ ?_
    · intro acc ha
      refine Ev.step (fun k => by rw [laws_toIntS.l0]) (evn (by omega) (evs ?_))
      rw [drop_end, List.append_nil, List.take_of_length_le (by omega)]
    · intro i hi ih acc ha
      refine Ev.step (fun k => by rw [laws_toIntS.l0]) (evp (by omega) (evp (by omega) (evp (by omega) ?_)))
      rw [w64 (by omega) (by omega), rd_nat l i hi, Int.toNat_natCast]
      have := ih (acc.set i l[i]) (by simpa using ha)
      rw [set_take _ _ _ (by omega), List.append_assoc] at this
      rw [drop_cons l i hi]
      exact this
  have := key 0 (Nat.zero_le _) (List.replicate l.length 0) (by simp)
  unfold laws_toIntS.f
  refine evp (by omega) (evp (by omega) ?_)
  simpa using this
theorem eqIntS_ev (l : List Int) (hl : l.length ≤ 9000000000000000000) : Ev (fun k => laws_eqIntS.f k l l) true := by
  have key : ∀ i, i ≤ l.length → Ev (fun k => laws_eqIntS.l0 k l l (i : Int)) true := by
    refine down (n := l.length) ?_ ?_
    · exact Ev.step (fun k => by rw [laws_eqIntS.l0]) (evn (by omega) (evs rfl))
    · intro i hi ih
      refine Ev.step (fun k => by rw [laws_eqIntS.l0]) (evp (by omega) (evp (by omega) (evp (by omega) (evp rfl ?_))))
      rw [w64 (by omega) (by omega)]
      exact ih
  unfold laws_eqIntS.f
  exact evp rfl (key 0 (Nat.zero_le _))
def runs (k : Int) (n : Nat) : List Int := (List.range n).map (fun (j : Nat) => k + j)
theorem runs_len (k : Int) (n : Nat) : (runs k n).length = n := by simp [runs]
theorem markIntS_ev (l : List Int) (m : Int) (h0 : 0 ≤ m) (hm : m + l.length ≤ 4000000000000000000) : Ev (fun k => laws_markIntS.f k l m) (m + l.length, runs m l.length) := by
  have key : ∀ i, i ≤ l.length → ∀ acc : List Int, acc.length = l.length → acc.take i = runs m i → Ev (fun k => laws_markIntS.l0 k acc (m + i) (i : Int)) (m + l.length, runs m l.length) := by
    refine down (n := l.length) ?_ ?_
    · intro acc ha ht
      refine Ev.step (fun k => by rw [laws_markIntS.l0]) (evn (by omega) (evs ?_))
      rw [← ht, List.take_of_length_le (by omega)]
    · intro i hi ih acc ha ht
      refine Ev.step (fun k => by rw [laws_markIntS.l0]) (evp (by omega) (evp (by omega) ?_))
      rw [w64 (by omega) (by omega), w64 (by omega) (by omega), Int.toNat_natCast]
      have := ih (acc.set i (m + i)) (by simpa using ha) (by
        rw [set_take _ _ _ (by omega), ht]
        simp [runs, List.range_succ])
      rw [Int.add_assoc]
      exact this
  have := key 0 (Nat.zero_le _) l rfl (by simp [runs])
  unfold laws_markIntS.f
  simpa using this
theorem heldIntS_ev (n : Nat) (m : Int) (h0 : 0 ≤ m) (hm : m + n ≤ 4000000000000000000) : Ev (fun k => laws_heldIntS.f k (runs m n) m) (m + n) := by
  have key : ∀ i, i ≤ n → Ev (fun k => laws_heldIntS.l0 k (runs m n) (m + i) (i : Int)) (m + n) := by
    refine down (n := n) ?_ ?_
    · exact Ev.step (fun k => by rw [laws_heldIntS.l0]) (evn (by rw [runs_len]; omega) (evs rfl))
    · intro i hi ih
      refine Ev.step (fun k => by rw [laws_heldIntS.l0]) (evp (by rw [runs_len]; omega) (evp (by omega) (evp ?_ ?_)))
      · rw [rd_nat _ _ (by rw [runs_len]; exact hi)]; simp [runs]
      · rw [w64 (by omega) (by omega), w64 (by omega) (by omega), Int.add_assoc]
        exact ih
  have := key 0 (Nat.zero_le _)
  unfold laws_heldIntS.f
  simpa using this
end Go.Proofs.Ytbkkpllejgedcaa.Q


namespace Go.Proofs.Ytbkkpllejgedcaa.Q
set_option linter.unusedVariables false
set_option linter.unusedSimpArgs false
open Go.RowKit Go.Proofs.Ytbkkpllejgedcaa.P Go.Proofs.YtbkkpllejgedcaaW.PrintWords Go.Proofs.YtbkkpllejgedcaaW.PrintMore
theorem szIntS_eq (l : List Int) (m : Int) (h0 : 0 ≤ m) (hm : m ≤ 1048576) (hl : l.length ≤ 9223372036854775807) : laws_szIntS.f l m = some (if m < l.length then -1 else m - l.length) := by
  unfold laws_szIntS.f
  rw [w64 (by omega) (by omega)]
  by_cases h : m < l.length
  · rw [if_pos (by omega), if_pos h]
  · rw [if_neg (by omega), if_neg h]
theorem szWork_eq (p : List S98) (d : Int) (q : List Int) (m : Int) (h0 : 0 ≤ m) (hm : m ≤ 1048576) (hp : p.length ≤ 9223372036854775807) (hq : q.length ≤ 9223372036854775807) :
    laws_szWork.f p d q m = some (if m < p.length + q.length then -1 else m - p.length - q.length) := by
  unfold laws_szWork.f
  rw [szStepS_eq p m h0 hm hp, Option.bind_some]
  by_cases h : m < p.length
  · rw [if_pos h, if_pos (by omega), if_pos (by omega)]
  rw [if_neg h, if_neg (by omega), szIntS_eq q _ (by omega) (by omega) hq, Option.bind_some]
  by_cases h2 : m - p.length < q.length
  · rw [if_pos h2, if_pos (by omega), if_pos (by omega)]
  · rw [if_neg h2, if_neg (by omega), if_neg (by omega)]
theorem toWork_ev (p : List S98) (d : Int) (q : List Int) (hp : p.length ≤ 1048576) (hq : q.length ≤ 1048576) : Ev (fun k => laws_toWork.f k p d q) (p.map cStep, d, q) := by
  unfold laws_toWork.f
  exact Ev.bind (toStepS_ev p hp) (Ev.bind (toIntS_ev q hq) (Ev.now _))
theorem eqWork_ev (p : List S96) (d : Int) (q : List Int) (hp : p.length ≤ 9000000000000000000) (hq : q.length ≤ 9000000000000000000) : Ev (fun k => laws_eqWork.f k p d q p d q) true := by
  unfold laws_eqWork.f
  exact Ev.bind (eqStepS_ev p hp) (evp rfl (evp rfl (Ev.bind (eqIntS_ev q hq) (evp rfl (Ev.now _)))))
end Go.Proofs.Ytbkkpllejgedcaa.Q


namespace Go.Proofs.Ytbkkpllejgedcaa.Q
set_option linter.unusedVariables false
set_option linter.unusedSimpArgs false
open Go.RowKit Go.Proofs.Ytbkkpllejgedcaa.P Go.Proofs.YtbkkpllejgedcaaW.PrintWords Go.Proofs.YtbkkpllejgedcaaW.PrintMore
theorem szShop_eq (p : List S98) (d : Int) (q : List Int) (a m : Int) (l : List S68) (n : Int) (h0 : 0 ≤ n) (hm : n ≤ 1048576) (hp : p.length ≤ 9223372036854775807) (hq : q.length ≤ 9223372036854775807) (hl : l.length ≤ 9223372036854775807) :
    laws_szShop.f p d q a m l n = some (if n < p.length + q.length + l.length then -1 else n - p.length - q.length - l.length) := by
  unfold laws_szShop.f
  rw [szWork_eq p d q n h0 hm hp hq, Option.bind_some]
  by_cases h : n < p.length + q.length
  · rw [if_pos h, if_pos (by omega), if_pos (by omega)]
  rw [if_neg h, if_neg (by omega), szEntryS_eq l _ (by omega) (by omega) hl, Option.bind_some]
  by_cases h2 : n - p.length - q.length < l.length
  · rw [if_pos h2, if_pos (by omega), if_pos (by omega)]
  · rw [if_neg h2, if_neg (by omega), if_neg (by omega)]
theorem toShop_ev (p : List S98) (d : Int) (q : List Int) (a m : Int) (l : List S68) (hp : p.length ≤ 1048576) (hq : q.length ≤ 1048576) (hl : l.length ≤ 1048576) : Ev (fun k => laws_toShop.f k p d q a m l) (p.map cStep, d, q, a, m, l.map cEntry) := by
  unfold laws_toShop.f
  exact Ev.bind (toWork_ev p d q hp hq) (Ev.bind (toEntryS_ev l hl) (Ev.now _))
theorem eqShop_ev (p : List S96) (d : Int) (q : List Int) (a m : Int) (l : List S74) (hp : p.length ≤ 9000000000000000000) (hq : q.length ≤ 9000000000000000000) (hl : l.length ≤ 9000000000000000000) : Ev (fun k => laws_eqShop.f k p d q a m l p d q a m l) true := by
  unfold laws_eqShop.f
  exact Ev.bind (eqWork_ev p d q hp hq) (evp rfl (evp rfl (evp rfl (Ev.bind (eqEntryS_ev l hl) (evp rfl (Ev.now _))))))
end Go.Proofs.Ytbkkpllejgedcaa.Q


namespace Go.Proofs.Ytbkkpllejgedcaa.Q
set_option linter.unusedVariables false
set_option linter.unusedSimpArgs false
open Go.RowKit Go.Proofs.Ytbkkpllejgedcaa.P Go.Proofs.YtbkkpllejgedcaaW.PrintWords Go.Proofs.YtbkkpllejgedcaaW.PrintMore
theorem markWork_ev (p : List S96) (d : Int) (q : List Int) (m : Int) (h0 : 0 ≤ m) (hm : m + 4 * p.length + q.length ≤ 4000000000000000000) :
    Ev (fun k => laws_markWork.f k p d q m) (m + 4 * p.length + q.length, runsS m p.length, runs (m + 4 * p.length) q.length) := by
  unfold laws_markWork.f
  exact Ev.bind (markStepS_ev p m h0 (by omega)) (Ev.bind (markIntS_ev q _ (by omega) (by omega)) (Ev.now _))
theorem heldWork_ev (n : Nat) (d : Int) (j : Nat) (m : Int) (h0 : 0 ≤ m) (hm : m + 4 * n + j ≤ 4000000000000000000) :
    Ev (fun k => laws_heldWork.f k (runsS m n) d (runs (m + 4 * n) j) m) (m + 4 * n + j) := by
  unfold laws_heldWork.f
  exact Ev.bind (heldStepS_ev n m h0 (by omega)) (evn (by omega) (Ev.bind (heldIntS_ev j _ (by omega) (by omega)) (evn (by omega) (Ev.now _))))
end Go.Proofs.Ytbkkpllejgedcaa.Q


namespace Go.Proofs.Ytbkkpllejgedcaa.Q
set_option linter.unusedVariables false
set_option linter.unusedSimpArgs false
open Go.RowKit Go.Proofs.Ytbkkpllejgedcaa.P Go.Proofs.YtbkkpllejgedcaaW.PrintWords Go.Proofs.YtbkkpllejgedcaaW.PrintMore
def runsE (m : Int) (n : Nat) : List S74 := (List.range n).map (fun (j : Nat) => ⟨⟨m + 4 * j, m + 4 * j + 1⟩, m + 4 * j + 2, m + 4 * j + 3⟩)
theorem runsE_len (m : Int) (n : Nat) : (runsE m n).length = n := by simp [runsE]
theorem rdE_set_self (l : List S74) (i : Nat) (v : S74) (h : i < l.length) : rd_T74 (l.set i v) (i : Int) = v := by
  rw [rdE _ _ (by simpa using h)]; simp
theorem markEntryS_ev (l : List S74) (m : Int) (h0 : 0 ≤ m) (hm : m + 4 * l.length ≤ 4000000000000000000) : Ev (fun k => laws_markEntryS.f k l m) (m + 4 * l.length, runsE m l.length) := by
  have key : ∀ i, i ≤ l.length → ∀ acc : List S74, acc.length = l.length → acc.take i = runsE m i → Ev (fun k => laws_markEntryS.l0 k acc (m + 4 * i) (i : Int)) (m + 4 * l.length, runsE m l.length) := by
    refine down (n := l.length) ?_ ?_
    · intro acc ha ht
      refine Ev.step (fun k => by rw [laws_markEntryS.l0]) (evn (by omega) (evs ?_))
      rw [← ht, List.take_of_length_le (by omega)]
    · intro i hi ih acc ha ht
      refine Ev.step (fun k => by rw [laws_markEntryS.l0]) ?_
      refine evp (by omega) (evp (by omega) ?_)
      simp only [Option.bind_some]
      rw [w64 (n := m + 4 * i + 1) (by omega) (by omega), w64 (n := m + 4 * i + 1 + 1) (by omega) (by omega), w64 (n := m + 4 * i + 1 + 1 + 1) (by omega) (by omega), w64 (n := m + 4 * i + 1 + 1 + 1 + 1) (by omega) (by omega), w64 (n := (i : Int) + 1) (by omega) (by omega), Int.toNat_natCast]
      have := ih (acc.set i ⟨⟨m + 4 * i, m + 4 * i + 1⟩, m + 4 * i + 2, m + 4 * i + 3⟩) (by simpa using ha) (by
        rw [set_take _ _ _ (by omega), ht]
        simp [runsE, List.range_succ])
      have rs : ∀ (L : List S74) (v : S74), L.length = l.length → rd_T74 (L.set i v) (i : Int) = v := fun L v hL => rdE_set_self L i v (by omega)
      simp only [rs _ _ ha, List.set_set]
      rw [show m + 4 * (i : Int) + 1 + 1 = m + 4 * i + 2 by omega, show m + 4 * (i : Int) + 2 + 1 = m + 4 * i + 3 by omega, show m + 4 * (i : Int) + 3 + 1 = m + 4 * ((i + 1 : Nat) : Int) by omega]
      exact this
  have := key 0 (Nat.zero_le _) l rfl (by simp [runsE])
  unfold laws_markEntryS.f
  simpa using this
theorem heldEntryS_ev (n : Nat) (m : Int) (h0 : 0 ≤ m) (hm : m + 4 * n ≤ 4000000000000000000) : Ev (fun k => laws_heldEntryS.f k (runsE m n) m) (m + 4 * n) := by
  have key : ∀ i, i ≤ n → Ev (fun k => laws_heldEntryS.l0 k (runsE m n) (m + 4 * i) (i : Int)) (m + 4 * n) := by
    refine down (n := n) ?_ ?_
    · exact Ev.step (fun k => by rw [laws_heldEntryS.l0]) (evn (by rw [runsE_len]; omega) (evs rfl))
    · intro i hi ih
      refine Ev.step (fun k => by rw [laws_heldEntryS.l0]) (evp (by rw [runsE_len]; omega) (evp (by omega) ?_))
      rw [rdE _ _ (by rw [runsE_len]; exact hi), show (runsE m n)[i]'(by rw [runsE_len]; exact hi) = ⟨⟨m + 4 * i, m + 4 * i + 1⟩, m + 4 * i + 2, m + 4 * i + 3⟩ by simp [runsE]]
      rw [w64 (n := m + 4 * i + 1) (by omega) (by omega), w64 (n := m + 4 * i + 1 + 1) (by omega) (by omega), w64 (n := m + 4 * i + 1 + 1 + 1) (by omega) (by omega), w64 (n := m + 4 * i + 1 + 1 + 1 + 1) (by omega) (by omega), w64 (n := (i : Int) + 1) (by omega) (by omega)]
      refine evp rfl (evp rfl (evp ?_ (evp ?_ ?_)))
      · show m + 4 * (i : Int) + 2 = _; omega
      · show m + 4 * (i : Int) + 3 = _; omega
      rw [show m + 4 * (i : Int) + 1 + 1 + 1 + 1 = m + 4 * ((i + 1 : Nat) : Int) by omega]
      exact ih
  have := key 0 (Nat.zero_le _)
  unfold laws_heldEntryS.f
  simpa using this
end Go.Proofs.Ytbkkpllejgedcaa.Q


namespace Go.Proofs.Ytbkkpllejgedcaa.Q
set_option linter.unusedVariables false
set_option linter.unusedSimpArgs false
open Go.RowKit Go.Proofs.Ytbkkpllejgedcaa.P Go.Proofs.YtbkkpllejgedcaaW.PrintWords Go.Proofs.YtbkkpllejgedcaaW.PrintMore
theorem markShop_ev (p : List S96) (d : Int) (q : List Int) (a m : Int) (l : List S74) (n : Int) (h0 : 0 ≤ n) (hn : n ≤ 4) (hp : p.length ≤ 4000000) (hq : q.length ≤ 4000000) (hl : l.length ≤ 4000000) :
    Ev (fun k => laws_markShop.f k p d q a m l n) (n + 4 * p.length + q.length + 4 * l.length, runsS n p.length, runs (n + 4 * p.length) q.length, runsE (n + 4 * p.length + q.length) l.length) := by
  unfold laws_markShop.f
  exact Ev.bind (markWork_ev p d q n h0 (by omega)) (Ev.bind (markEntryS_ev l _ (by omega) (by omega)) (Ev.now _))
theorem heldShop_ev (x : Nat) (d : Int) (y : Nat) (a m : Int) (z : Nat) (n : Int) (h0 : 0 ≤ n) (hn : n ≤ 4) (hp : x ≤ 4000000) (hq : y ≤ 4000000) (hl : z ≤ 4000000) :
    Ev (fun k => laws_heldShop.f k (runsS n x) d (runs (n + 4 * x) y) a m (runsE (n + 4 * x + y) z) n) (n + 4 * x + y + 4 * z) := by
  unfold laws_heldShop.f
  exact Ev.bind (heldWork_ev x d y n h0 (by omega)) (evn (by omega) (Ev.bind (heldEntryS_ev z _ (by omega) (by omega)) (evn (by omega) (Ev.now _))))
end Go.Proofs.Ytbkkpllejgedcaa.Q


namespace Go.Proofs.Ytbkkpllejgedcaa.Q
set_option linter.unusedVariables false
set_option linter.unusedSimpArgs false
open Go.RowKit Go.Deep Go.ChangeShapes Go.WideShapes Go.Proofs.YtbkkpllejgedcaaW.PrintWords
def Opens {α : Type} (P : Program) (w : World) (d : Kd α) (T : TypeId) (G : α → Prop) : Prop :=
  ∀ (H : Type) (enc : TypeId × Value → H) (base : Nat) (spare : Nat → Bool) (held : Bool) (fuel : Nat) (cs : List Value) (x : DataW H × List MemPlace),
    DataW.trod enc P w base spare held fuel T cs = some x → ∃ v, d.K w v cs ∧ G v
def OpensFs {α : Type} (P : Program) (w : World) (d : Kd α) (off : Nat) (fs : Array Field) (i : Nat) (G : α → Prop) : Prop :=
  ∀ (H : Type) (enc : TypeId × Value → H) (base : Nat) (spare : Nat → Bool) (held : Bool) (fuel : Nat) (cs : List Value), cs.length = off + d.sz →
    (∀ j f, i ≤ j → fs[j]? = some f → ∃ y : DataW H × List MemPlace, DataW.trod enc P w base spare held fuel f.type ((cs.drop f.offset).take (P.cellsOf f.type)) = some y) → ∃ v, d.K w v (cs.drop off) ∧ G v
section
variable {P : Program} {w : World}
theorem Opens.int {k : IntKind} {T : TypeId} (ht : P.underlying T = some (.int k)) : Opens P w (Kd.int k) T (fun n => (Lit.int k n).wf = true) := by
  intro H enc base spare held fuel cs x hx
  obtain ⟨n, rfl, _, hw⟩ := DataW.trod_int ht hx
  exact ⟨n, rfl, hw⟩
theorem Opens.slice {α : Type} (z : α) {d : Kd α} {E T : TypeId} {G : α → Prop} (ht : P.underlying T = some (.slice E)) (hC : P.cellsOf E = d.sz) (h : Opens P w d E G) :
    Opens P w (Kd.slice E d) T (fun l => l.length ≤ 9223372036854775807 ∧ ∀ x ∈ l, G x) := by
  haveI : Inhabited α := ⟨z⟩
  intro H enc base spare held fuel cs x hx
  rcases open_slice ht hx with ⟨rfl, _⟩ | ⟨a, len, cap, m, n, D, Pl, rfl, hb, hl, hm, hmm, _, hi⟩
  · exact ⟨[], ⟨none, 0, rfl, Nat.le_refl _, rfl, by simp, fun h => absurd h (by simp)⟩, by simp, by simp⟩
  · have hlm : len ≤ m := by rw [hmm]; split <;> omega
    obtain ⟨V, hV⟩ := choose_lt (α := α) (n := len) (p := fun i v => G v ∧ ∃ c, c.length = d.sz ∧ d.K w v c ∧ ∀ j u, c[j]? = some u → w.cell? (a.add (i * d.sz + j)) = some u) (fun i hil => by
      obtain ⟨cs', h1, h2⟩ := hi i (by omega)
      obtain ⟨v, hv, g⟩ := h H enc base spare held n cs' _ h2
      obtain ⟨_, hcl, hat⟩ := World.cells?_some h1
      refine ⟨v, g, cs', by rw [hcl, hC], hv, fun j u hu => ?_⟩
      have hj : j < P.cellsOf E := by rw [← hcl]; exact (List.getElem?_eq_some_iff.1 hu).1
      have := hat j hj
      rw [hC, Go.Deep.add_add] at this
      rw [this, hu])
    refine ⟨(List.range len).map V, ⟨some a, cap, by simp, by simpa using hl, by simp, by have := hm; unfold maxLen at this; simp; omega, fun _ => ⟨a, rfl, fun j p hj => ?_⟩⟩, ?_⟩
    · have hj' : j < len := by have := (List.getElem?_eq_some_iff.1 hj).1; simpa using this
      obtain rfl : V j = p := by simpa [hj'] using hj
      exact (hV j hj').2
    · refine ⟨by have := hm; unfold maxLen at this; simp; omega, fun x hx => ?_⟩
      obtain ⟨i, hi, rfl⟩ := List.mem_map.1 hx
      exact (hV i (List.mem_range.1 hi)).1
theorem OpensFs.one {α : Type} {d : Kd α} {off i : Nat} {fs : Array Field} {f : Field} {G : α → Prop} (hf : fs[i]? = some f) (h : Opens P w d f.type G) (ho : f.offset = off) (hc : P.cellsOf f.type = d.sz) : OpensFs P w d off fs i G := by
  intro H enc base spare held fuel cs hlen hfs
  obtain ⟨y, hy⟩ := hfs i f (Nat.le_refl _) hf
  rw [ho, hc, List.take_of_length_le (by simp [hlen])] at hy
  exact h H enc base spare held fuel _ _ hy
theorem OpensFs.more {α β : Type} {d : Kd α} {d2 : Kd β} {off i : Nat} {fs : Array Field} {f : Field} {G : α → Prop} {G2 : β → Prop} (hf : fs[i]? = some f) (h : Opens P w d f.type G) (ho : f.offset = off) (hc : P.cellsOf f.type = d.sz)
    (h2 : OpensFs P w d2 (off + d.sz) fs (i + 1) G2) : OpensFs P w (Kd.pair d d2) off fs i (fun x => G x.1 ∧ G2 x.2) := by
  intro H enc base spare held fuel cs hlen hfs
  have hlen' : cs.length = off + (d.sz + d2.sz) := hlen
  obtain ⟨y, hy⟩ := hfs i f (Nat.le_refl _) hf
  rw [ho, hc] at hy
  obtain ⟨v, hv, g⟩ := h H enc base spare held fuel _ _ hy
  obtain ⟨v2, hv2, g2⟩ := h2 H enc base spare held fuel cs (by omega) (fun j f' hj hf' => hfs j f' (by omega) hf')
  refine ⟨(v, v2), ⟨_, _, ?_, hv, hv2⟩, g, g2⟩
  rw [← List.drop_drop, List.take_append_drop]
theorem Opens.pairs {α : Type} {d : Kd α} {T : TypeId} {fs : Array Field} {G : α → Prop} (ht : P.underlying T = some (.struct fs)) (hC : P.cellsOf T = d.sz) (h : OpensFs P w d 0 fs 0 G) : Opens P w d T G := by
  intro H enc base spare held fuel cs x hx
  obtain ⟨xs, n, _, _, hlen, hxl, hat⟩ := DataW.trod_struct ht hx
  exact h H enc base spare held n cs (by rw [hlen, hC, Nat.zero_add]) (fun j f' _ hf' => by
    have hi' : j < fs.size := (Array.getElem?_eq_some_iff.1 hf').1
    have e := hat j f' hf'
    rw [List.getElem?_eq_getElem (by omega)] at e
    exact ⟨_, e⟩)
theorem Opens.struct {α β : Type} {d : Kd α} {T : TypeId} {fs : Array Field} {f : β → α} {G0 : α → Prop} {G : β → Prop} (g : α → β) (ht : P.underlying T = some (.struct fs)) (hC : P.cellsOf T = d.sz) (hfg : ∀ x, f (g x) = x)
    (h : OpensFs P w d 0 fs 0 G0) (hg : ∀ x, G0 x → G (g x)) : Opens P w (Kd.iso d f) T G := by
  intro H enc base spare held fuel cs x hx
  obtain ⟨v, hv, g0⟩ := Opens.pairs ht hC h H enc base spare held fuel cs x hx
  refine ⟨g v, ?_, hg v g0⟩
  show d.K w (f (g v)) cs
  rw [hfg]
  exact hv
end
end Go.Proofs.Ytbkkpllejgedcaa.Q


namespace Go.Proofs.Ytbkkpllejgedcaa.Q
open Go.RowKit Go.Proofs.Ytbkkpllejgedcaa.P Go.Proofs.YtbkkpllejgedcaaW.PrintWords
def good98 (x : S98) : Prop := ((Lit.int .i64 x.f0).wf = true ∧ (Lit.int .i64 x.f1).wf = true ∧ (Lit.int .i64 x.f2).wf = true ∧ (Lit.int .i64 x.f3).wf = true)
theorem op98 {w : World} : Opens Try.prog w k98 98 good98 := (Opens.struct (fun x => (⟨x.1, x.2.1, x.2.2.1, x.2.2.2⟩ : S98)) (G := good98) Try.underlying98 (by kernel_rfl) (fun _ => rfl) (OpensFs.more rfl (Opens.int Try.underlying3) rfl (by kernel_rfl) (OpensFs.more rfl (Opens.int Try.underlying3) rfl (by kernel_rfl) (OpensFs.more rfl (Opens.int Try.underlying3) rfl (by kernel_rfl) (OpensFs.one rfl (Opens.int Try.underlying3) rfl (by kernel_rfl))))) (fun _ h => h))
def good3 (x : Int) : Prop := (Lit.int .i64 x).wf = true
theorem op3 {w : World} : Opens Try.prog w (Kd.int .i64) 3 good3 := (Opens.int Try.underlying3)
def good54 (x : S54) : Prop := ((Lit.int .i64 x.f0).wf = true ∧ (Lit.int .i64 x.f1).wf = true)
theorem op54 {w : World} : Opens Try.prog w k54 54 good54 := (Opens.struct (fun x => (⟨x.1, x.2⟩ : S54)) (G := good54) Try.underlying54 (by kernel_rfl) (fun _ => rfl) (OpensFs.more rfl (Opens.int Try.underlying3) rfl (by kernel_rfl) (OpensFs.one rfl (Opens.int Try.underlying3) rfl (by kernel_rfl))) (fun _ h => h))
def good68 (x : S68) : Prop := (((Lit.int .i64 x.f0.f0).wf = true ∧ (Lit.int .i64 x.f0.f1).wf = true) ∧ (Lit.int .i64 x.f1).wf = true ∧ (Lit.int .i64 x.f2).wf = true)
theorem op68 {w : World} : Opens Try.prog w k68 68 good68 := (Opens.struct (fun x => (⟨x.1, x.2.1, x.2.2⟩ : S68)) (G := good68) Try.underlying68 (by kernel_rfl) (fun _ => rfl) (OpensFs.more rfl op54 rfl (by kernel_rfl) (OpensFs.more rfl (Opens.int Try.underlying3) rfl (by kernel_rfl) (OpensFs.one rfl (Opens.int Try.underlying3) rfl (by kernel_rfl)))) (fun _ h => h))
end Go.Proofs.Ytbkkpllejgedcaa.Q


namespace Go.Proofs.Ytbkkpllejgedcaa.Pure
set_option linter.unusedVariables false
set_option linter.unusedSimpArgs false
open Go.RowKit Go.Proofs.Ytbkkpllejgedcaa.P Go.Proofs.Ytbkkpllejgedcaa.Q Go.Proofs.YtbkkpllejgedcaaW.PrintWords Go.Proofs.YtbkkpllejgedcaaW.PrintLast
theorem FnExactShopTune (p : List S98) (d : Int) (q : List Int) (a m : Int) (l : List S68) (h0 : ((p.length ≤ 9223372036854775807 ∧ ∀ y ∈ p, good98 y) ∧ (Lit.int .i64 d).wf = true ∧ (q.length ≤ 9223372036854775807 ∧ ∀ y ∈ q, good3 y)) ∧ (Lit.int .i64 a).wf = true ∧ (Lit.int .i64 m).wf = true ∧ (l.length ≤ 9223372036854775807 ∧ ∀ y ∈ l, good68 y)) : ∃ k, laws_FnExactShopTune.f k p d q a m l = some true := by
  refine Ev.rounds ?_
  unfold laws_FnExactShopTune.f
  refine evb (szShop_eq p d q a m l 1048576 (by omega) (by omega) h0.1.1.1 h0.1.2.2.1 h0.2.2.2.1) ?_
  by_cases h : (1048576 : Int) < p.length + q.length + l.length
  · rw [if_pos h]; exact evp (by omega) (Ev.now _)
  rw [if_neg h]
  refine evn (by omega) ?_
  have lp : (p.map cStep).length ≤ 1048576 := by simp; omega
  have ll : (l.map cEntry).length ≤ 1048576 := by simp; omega
  have T := toShop_ev p d q a m l (by omega) (by omega) (by omega)
  have E := eqShop_ev (p.map cStep) d q a m (l.map cEntry) (by omega) (by omega) (by omega)
  have M := markShop_ev (p.map cStep) d q a m (l.map cEntry) 1 (by omega) (by omega) (by omega) (by omega) (by omega)
  obtain ⟨R, hR⟩ : ∃ R, shopTune (p.map cStep) d q a m (l.map cEntry) = R := ⟨_, rfl⟩
  have A := stune_spec (p.map cStep) d q a m (l.map cEntry) (by omega) (by omega) (by omega)
  have B := stune_impl (p.map cStep) d q a m (l.map cEntry) (by omega) (by omega) (by omega)
  rw [hR] at A B
  have L := shopTune_len (p.map cStep) d q a m (l.map cEntry)
  rw [hR] at L
  have L1 : R.1.length ≤ 1048576 := by rw [L.1]; exact lp
  have L2 : R.2.2.1.length ≤ 1048576 := by rw [L.2.1]; omega
  have L3 : R.2.2.2.2.2.1.length ≤ 1048577 := by rw [L.2.2]; omega
  have F := eqShop_ev R.1 R.2.1 R.2.2.1 R.2.2.2.1 R.2.2.2.2.1 R.2.2.2.2.2.1 (by omega) (by omega) (by omega)
  have G := markShop_ev R.1 R.2.1 R.2.2.1 R.2.2.2.1 R.2.2.2.2.1 R.2.2.2.2.2.1 1 (by omega) (by omega) (by omega) (by omega) (by omega)
  have H := heldShop_ev R.1.length R.2.1 R.2.2.1.length R.2.2.2.1 R.2.2.2.2.1 R.2.2.2.2.2.1.length 1 (by omega) (by omega) (by omega) (by omega) (by omega)
  repeat' first
    | exact Ev.now _
    | refine Ev.bind T ?_
    | refine Ev.bind E ?_
    | refine Ev.bind M ?_
    | refine Ev.bind A ?_
    | refine Ev.bind B ?_
    | refine Ev.bind F ?_
    | refine Ev.bind G ?_
    | refine Ev.bind H ?_
    | refine evp rfl ?_
    | refine evn (by first | decide | (dsimp only; omega) | simp) ?_
    | refine Ev.step (fun k => by rw [laws_FnExactShopTune.j0]) ?_
    | refine Ev.step (fun k => by rw [laws_FnExactShopTune.j1]) ?_
    | refine Ev.step (fun k => by rw [laws_FnExactShopTune.j2]) ?_
end Go.Proofs.Ytbkkpllejgedcaa.Pure


namespace Go.Proofs.Ytbkkpllejgedcaa.fnExactShopTune
open Go.ChangeShapes Go.WideShapes Go.ChangeAt Go.RowKit Go.Proofs.Ytbkkpllejgedcaa.P Go.Proofs.Ytbkkpllejgedcaa.Q Go.Proofs.YtbkkpllejgedcaaW.PrintWords
open Go.ChangeMaps (open_string shut_string)
set_option linter.unusedVariables false
set_option linter.unusedSimpArgs false
theorem own : ownKnob Try.prog.godebug = none := by kernel_rfl
theorem laidOut : laidOutB Try.prog = true := by kernel_rfl
set_option maxRecDepth 100000 in
theorem lifted (os : Os) (started : os.Started) (H : Type) (enc : TypeId × Value → H) :
    ReturnsInHanded {} Try.checked os 11 .any (Rows.fnExactShopTuneSpec.pre6 enc Try.prog Try.f11 Rows.fnExactShopTuneRow.domain false) (Rows.fnExactShopTuneSpec.post enc Try.prog Try.f11 false true false false) := by
  refine returnsInHanded_of_change_sized (C := Try.checked) own started (by kernel_rfl) Try.func11
    (ChangeSpec.witness6 (enc := enc) (C := Try.checked) false ⟨#[], #[.agg #[.slice none 0 0, .int .i64 0, .slice none 0 0, .int .i64 0, .int .i64 0, .slice none 0 0]], []⟩ 8 (by kernel_rfl) (by kernel_rfl) (by kernel_rfl) (by kernel_rfl)) ?_
  intro W base args ds gs before hval0 hW hcnd hsz0 _
  have hval : ∀ (j : Nat) t v, Try.f11.params[j]? = some t → args[j]? = some v → Value.okWide Try.prog W .any base t v := hval0
  have hW' := hW
  obtain ⟨p, q, hA0, hV, rfl, hfz, hnd⟩ := hW
  have hA : DataW.TrodAll enc Try.prog W 0 (fun _ => true) true Try.f11.params.toList args.toList ds p := hA0
  rw [Try.params11] at hA hval
  obtain ⟨v0, vs0, d0, ds0, p0, q0, hargs, rfl, rfl, h0, r0⟩ := trodAll_cons hA
  obtain ⟨rfl, rfl, rfl⟩ := trodAll_nil r0
  obtain rfl : args = #[v0] := by cases args; simp_all
  obtain ⟨rfl, rfl⟩ := trodVars_none hV
  have k0 := h0
  have lt0 : ∀ x ∈ p0, x.block < W.heap.size := by obtain ⟨m, hm⟩ := k0; exact DataW.trod_lt m _ _ _ hm
  obtain ⟨fuel0, f0⟩ := h0
  obtain ⟨x0, K0, G0⟩ := (show Opens Try.prog W (Kd.pair (Kd.pair (Kd.slice 98 k98) (Kd.pair (Kd.int .i64) (Kd.slice 3 (Kd.int .i64)))) (Kd.pair (Kd.int .i64) (Kd.pair (Kd.int .i64) (Kd.slice 68 k68)))) 28 _ from Opens.pairs Try.underlying28 (by kernel_rfl) (OpensFs.more rfl (Opens.pairs Try.underlying25 (by kernel_rfl) (OpensFs.more rfl (Opens.slice z98 Try.underlying22 (by kernel_rfl) op98) rfl (by kernel_rfl) (OpensFs.more rfl (Opens.int Try.underlying3) rfl (by kernel_rfl) (OpensFs.one rfl (Opens.slice 0 Try.underlying23 (by kernel_rfl) op3) rfl (by kernel_rfl))))) rfl (by kernel_rfl) (OpensFs.more rfl (Opens.int Try.underlying3) rfl (by kernel_rfl) (OpensFs.more rfl (Opens.int Try.underlying3) rfl (by kernel_rfl) (OpensFs.one rfl (Opens.slice z68 Try.underlying26 (by kernel_rfl) op68) rfl (by kernel_rfl)))))) H enc 0 _ _ fuel0 _ _ f0
  obtain ⟨cs0, rfl, _⟩ := okWide_struct Try.underlying28 (hval 0 28 v0 rfl rfl)
  obtain ⟨_, _, e0, ⟨_, _, rfl, ⟨A0_0, c0_0, rfl, hc0_0, hr0_0⟩, ⟨_, _, rfl, rfl, ⟨A0_1, c0_1, rfl, hc0_1, hr0_1⟩⟩⟩, ⟨_, _, rfl, rfl, ⟨_, _, rfl, rfl, ⟨A0_2, c0_2, rfl, hc0_2, hr0_2⟩⟩⟩⟩ := K0
  obtain rfl : cs0 = #[.slice A0_0 x0.1.1.length c0_0, .int .i64 x0.1.2.1, .slice A0_1 x0.1.2.2.length c0_1, .int .i64 x0.2.1, .int .i64 x0.2.2.1, .slice A0_2 x0.2.2.2.length c0_2] := Array.ext' e0
  obtain ⟨k, hP⟩ := Pure.FnExactShopTune x0.1.1 x0.1.2.1 x0.1.2.2 x0.2.1 x0.2.2.1 x0.2.2.2 G0
  refine (P.laws_FnExactShopTune.calls k _ _ x0.1.1 x0.1.2.1 _ _ x0.1.2.2 x0.2.1 x0.2.2.1 _ _ x0.2.2.2 true W hr0_0 hc0_0 hr0_1 hc0_1 hr0_2 hc0_2 hP ⟨rfl⟩).mono fun e W' ⟨he, bel0⟩ => ?_
  have bel : Below W.heap.size W W' := bel0
  subst he
  exact ⟨_, rfl, _, _, _, [], _, [], hW', trodAll_mk1 (shut_bool Try.underlying4 _), (trodAll_cons_mk (Below.trod laidOut (by kernel_rfl) (of_decide_eq_true (by kernel_rfl)) k0 bel lt0) trodAll_mk0), rfl, bel.frame _, fun h => by cases h⟩
theorem over : Rows.fnExactShopTuneRow.holds Try.pinned (OpenSpec.ofChange Rows.fnExactShopTuneSpec) :=
  OpenClaim.holds_of_wide 11 Try.f11 rfl rfl rfl rfl rfl rfl rfl ⟨rfl, rfl, rfl, rfl, rfl⟩ rfl rfl rfl rfl rfl (by kernel_rfl) Try.func11 (by kernel_rfl)
    (of_decide_eq_true (by kernel_rfl)) (by unfold Func.isWrapper; first | (rw [if_pos (by decide +kernel)]; kernel_rfl) | (rw [if_neg (by decide +kernel)]; exact ⟨rfl, rfl⟩))
    (fun os started H enc _ => lifted os started H enc)
theorem proved : Rows.FnExactShopTuneSaid := over
#print axioms proved
end Go.Proofs.Ytbkkpllejgedcaa.fnExactShopTune
namespace Go.Proofs.Ytbkkpllejgedcaa
theorem fnExactShopTune_holds : Rows.FnExactShopTuneSaid := fnExactShopTune.proved
end Go.Proofs.Ytbkkpllejgedcaa

