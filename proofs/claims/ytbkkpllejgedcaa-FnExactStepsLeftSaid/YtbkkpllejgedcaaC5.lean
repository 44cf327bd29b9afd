/- What functions of the program come to (f), that their calls come to just this (calls), and the plain laws over lists and numbers, and the law FnExactStepsLeft: for every argument it answers true. No condition but those of the given row. -/
import Derived.Test.YtbkkpllejgedcaaRows
import Derived.Test.YtbkkpllejgedcaaC4
import Derived.Deep.Slices
import Derived.ChangeArms
import Derived.ChangeSame
import Derived.KernelRfl
import Derived.WalkKit
import Derived.ProofKit
import Derived.OpenShut
import Derived.ShutString
import Derived.ChangeOld
import Derived.Below
import Derived.SizedLaws
namespace Go.Proofs.Ytbkkpllejgedcaa.P
open Go.RowKit Go.Proofs.YtbkkpllejgedcaaW.PrintWords Go.Proofs.YtbkkpllejgedcaaW.PrintLast Go.Proofs.YtbkkpllejgedcaaW.PrintMore
attribute [local go_sem] max2_int min2_int max_two min_two max_three min_three max_four min_four
set_option linter.unusedVariables false
set_option linter.unusedSimpArgs false
def impl_tunedBy.f (k : Nat) (l0_0 : List (S96)) (a0_1 : Int) (l0_2 : List Int) (a1 : Int) : Option (Int) := if 0 ≤ a1 then (if a1 < (l0_0.length : Int) then (if 0 ≤ ((rd_T96 l0_0 a1).f0) then (if ((rd_T96 l0_0 a1).f0) < (l0_2.length : Int) then ((impl_TunedPitch.f k (rd l0_2 ((rd_T96 l0_0 a1).f0)) ((rd_T96 l0_0 a1).f2) ((rd_T96 l0_0 a1).f3)).bind fun t558 => (some t558)) else (none)) else (none)) else (none)) else (none)
def impl_tunedBy.T2 : Bool × List (List Nat × List Nat) := (true, [([], []), ([0], [0]), ([], []), ([2], [2]), ([1, 3], [1, 3]), ([4], [4]), ([], []), ([6], [6]), ([], []), ([8], [8]), ([5, 7, 9], [5, 7, 9]), ([10, 10, 0, 1, 2, 3, 4, 5, 6, 7, 8, 9, 10], [10])])
def impl_tunedBy.B2 : List Nat := [0, 1, 0, 4, 15, 31, 0, 64, 0, 256, 1023, 2047]
theorem impl_tunedBy.tab2 : rtab .any (opsOf Try.f117 2) = impl_tunedBy.T2 := by kernel_rfl
theorem impl_tunedBy.bits2 : waitsOk impl_tunedBy.T2.2 impl_tunedBy.B2 = true := by kernel_rfl
set_option maxHeartbeats 8000000 in
set_option maxRecDepth 100000 in
theorem impl_tunedBy.calls (k : Nat) (A0_0 : Option Addr) (c0_0 : Nat) (l0_0 : List (S96)) (a0_1 : Int) (A0_2 : Option Addr) (c0_2 : Nat) (l0_2 : List Int) (a1 : Int) (r : Int) (w : World) (hr0_0 : Kd.C k96 w A0_0 l0_0.length l0_0) (hc0_0 : l0_0.length ≤ c0_0) (hr0_2 : Kd.C (Kd.int .i64) w A0_2 l0_2.length l0_2) (hc0_2 : l0_2.length ≤ c0_2) (h : impl_tunedBy.f k l0_0 a0_1 l0_2 a1 = some r) :
    Calls Try.prog 117 #[.agg #[.slice A0_0 l0_0.length c0_0, .int .i64 a0_1, .slice A0_2 l0_2.length c0_2], .int .i64 a1] w fun e w' => e = .returned (.int .i64 r) ∧ Below w.heap.size w w' := by
  have hu33 := Try.underlying33
  have hu96 := Try.underlying96
  have HR0_0 := Aside0.mk hr0_0
  have HC0_0 := Aside0.mk hc0_0
  clear hr0_0 hc0_0
  have HR0_2 := Aside0.mk hr0_2
  have HC0_2 := Aside0.mk hc0_2
  clear hr0_2 hc0_2
  have HB := Aside0.mk (Below.refl w.heap.size w)
  have H : (if 0 ≤ a1 then (if a1 < (l0_0.length : Int) then (if 0 ≤ ((rd_T96 l0_0 a1).f0) then (if ((rd_T96 l0_0 a1).f0) < (l0_2.length : Int) then ((impl_TunedPitch.f k (rd l0_2 ((rd_T96 l0_0 a1).f0)) ((rd_T96 l0_0 a1).f2) ((rd_T96 l0_0 a1).f3)).bind fun t558 => (some t558)) else (none)) else (none)) else (none)) else (none)) = some r := h
  clear h
  by_cases c3 : 0 ≤ a1
  · rw [if_pos c3] at H
    have c3b0 : decide (0 ≤ a1) = true := decide_eq_true c3
    clear c3
    by_cases c4 : a1 < (l0_0.length : Int)
    · rw [if_pos c4] at H
      have c4b0 : decide (a1 < (l0_0.length : Int)) = true := decide_eq_true c4
      clear c4
      by_cases c5 : 0 ≤ ((rd_T96 l0_0 a1).f0)
      · rw [if_pos c5] at H
        have c5b0 : decide (0 ≤ ((rd_T96 l0_0 a1).f0)) = true := decide_eq_true c5
        clear c5
        by_cases c6 : ((rd_T96 l0_0 a1).f0) < (l0_2.length : Int)
        · rw [if_pos c6] at H
          have c6b0 : decide (((rd_T96 l0_0 a1).f0) < (l0_2.length : Int)) = true := decide_eq_true c6
          clear c6
          replace H := Option.bind_eq_some_iff.mp H
          obtain ⟨t558, A70, H⟩ := H
          (try dsimp only at H)
          have A7 := Aside0.mk A70
          clear A70
          obtain rfl := Option.some.inj H
          go_enter Try.func117, Try.ntmps117
          try go_wp2_with (first | ((with_reducible refine gate_dst (N := 2) rfl ?_); refine box_event ?hg (N := 2) ?hd (cs := #[.slice A0_0 l0_0.length c0_0, .int .i64 a0_1, .slice A0_2 l0_2.length c0_2]) (t := 33) ?hr ?_; (case hd => rfl); (case hg => rfl); (case hr => first | (go_simp; done) | (go_simp; rfl)); intro gb554 hg w8 hbox hb; have n0_ := Aside0.mk (below_step (oB HB) hb); have n1_ := Aside0.mk (hbox); have n2_ := Aside0.mk ((by rw [hg]; exact (below_size (oB HB)) : w.heap.size ≤ gb554)); have n3_ := Aside0.mk ((by rw [hg]; exact (below_size (oB HB)) : w.heap.size ≤ gb554)); clear HB; have HB := n0_; have BK554 := n1_; have GW554 := n2_; have GE554 := n3_; clear n0_ n1_ n2_ n3_; clear hb hbox hg; have hcz9_0 : w8.cell? ⟨gb554, 0, none⟩ = some (.slice A0_0 l0_0.length c0_0) := (blk_cell BK554.out 0).trans rfl; have hcz9_1 : w8.cell? ⟨gb554, 1, none⟩ = some (.int .i64 a0_1) := (blk_cell BK554.out 1).trans rfl; have hcz9_2 : w8.cell? ⟨gb554, 2, none⟩ = some (.slice A0_2 l0_2.length c0_2) := (blk_cell BK554.out 2).trans rfl; have hfz9_0 := blk_frozen BK554.out 0; have hfz9_1 := blk_frozen BK554.out 1; have hfz9_2 := blk_frozen BK554.out 2; have p555 : 0 ≤ (a1 : Int) := of_decide_eq_true (by first | (with_reducible assumption) | assumption); have q555 : a1 < (l0_0.length : Int) := of_decide_eq_true (by first | (with_reducible assumption) | assumption); obtain ⟨ad555, e555, hx555_0, hx555_1, hx555_2, hx555_3⟩ := at_T96 HR0_0.out a1 p555 q555; cases e555; replace hx555_0 := (HB.out.cell (World.block_lt_of_cell? w _ hx555_0)).trans hx555_0; replace hx555_1 := (HB.out.cell (World.block_lt_of_cell? w _ hx555_1)).trans hx555_1; replace hx555_2 := (HB.out.cell (World.block_lt_of_cell? w _ hx555_2)).trans hx555_2; replace hx555_3 := (HB.out.cell (World.block_lt_of_cell? w _ hx555_3)).trans hx555_3; replace p555 := eq_true p555; replace q555 := eq_true q555) | ((with_reducible refine gate_dst (N := 5) rfl ?_); refine box_event ?hg (N := 5) ?hd (cs := #[.int .i64 0, .int .i64 0, .int .i64 0, .int .i64 0]) (t := 96) ?hr ?_; (case hd => rfl); (case hg => rfl); (case hr => first | (go_simp; done) | (go_simp; rfl)); intro gb556 hg w10 hbox hb; have n0_ := Aside0.mk (blk_below (g := gb554) (o := .cells #[.slice (some ad555) l0_0.length c0_0, .int .i64 a0_1, .slice A0_2 l0_2.length c0_2] 33 (0, 0)) (oK BK554) hb); have n1_ := Aside0.mk (below_step (oB HB) hb); have n2_ := Aside0.mk (hbox); have n3_ := Aside0.mk ((by rw [hg]; exact (below_size (oB HB)) : w.heap.size ≤ gb556)); have n4_ := Aside0.mk ((by rw [hg]; exact (below_size (oB HB)) : w.heap.size ≤ gb556)); have n5_ := Aside0.mk ((by rw [hg]; exact Nat.ne_of_lt (blk_lt (g := gb554) (o := .cells #[.slice (some ad555) l0_0.length c0_0, .int .i64 a0_1, .slice A0_2 l0_2.length c0_2] 33 (0, 0)) (oK BK554)) : gb554 ≠ gb556)); have n6_ := Aside0.mk ((by rw [hg]; exact Nat.ne_of_gt (blk_lt (g := gb554) (o := .cells #[.slice (some ad555) l0_0.length c0_0, .int .i64 a0_1, .slice A0_2 l0_2.length c0_2] 33 (0, 0)) (oK BK554)) : gb556 ≠ gb554)); clear BK554; clear HB; have BK554 := n0_; have HB := n1_; have BK556 := n2_; have GW556 := n3_; have GE556 := n4_; have NB554_556 := n5_; have NB556_554 := n6_; clear n0_ n1_ n2_ n3_ n4_ n5_ n6_; clear hb hbox hg; have hnb11 := NB556_554.out; have hnc11 := NB554_556.out; have hcz12_0 : w10.cell? ⟨gb556, 0, none⟩ = some (.int .i64 0) := (blk_cell BK556.out 0).trans rfl; have hcz12_1 : w10.cell? ⟨gb556, 1, none⟩ = some (.int .i64 0) := (blk_cell BK556.out 1).trans rfl; have hcz12_2 : w10.cell? ⟨gb556, 2, none⟩ = some (.int .i64 0) := (blk_cell BK556.out 2).trans rfl; have hcz12_3 : w10.cell? ⟨gb556, 3, none⟩ = some (.int .i64 0) := (blk_cell BK556.out 3).trans rfl; have hfz12_0 := blk_frozen BK556.out 0; have hfz12_1 := blk_frozen BK556.out 1; have hfz12_2 := blk_frozen BK556.out 2; have hfz12_3 := blk_frozen BK556.out 3))
          have n0_ : Aside0 (((((w10.setCell ⟨gb556, 0, none⟩ (.int .i64 ((rd_T96 l0_0 a1).f0))).setCell ⟨gb556, 1, none⟩ (.int .i64 ((rd_T96 l0_0 a1).f1))).setCell ⟨gb556, 2, none⟩ (.int .i64 ((rd_T96 l0_0 a1).f2))).setCell ⟨gb556, 3, none⟩ (.int .i64 ((rd_T96 l0_0 a1).f3))).heap[gb554]? = some (.cells #[.slice (some ad555) l0_0.length c0_0, .int .i64 a0_1, .slice A0_2 l0_2.length c0_2] 33 (0, 0))) := ⟨by (with_reducible repeat (first | refine blk_drewN ?_ _ | refine blk_drew ?_ | refine blk_alloc ?_ _)); refine blk_far ?_ NB554_556.out _; (with_reducible repeat (first | refine blk_drewN ?_ _ | refine blk_drew ?_ | refine blk_alloc ?_ _)); refine blk_far ?_ NB554_556.out _; (with_reducible repeat (first | refine blk_drewN ?_ _ | refine blk_drew ?_ | refine blk_alloc ?_ _)); refine blk_far ?_ NB554_556.out _; (with_reducible repeat (first | refine blk_drewN ?_ _ | refine blk_drew ?_ | refine blk_alloc ?_ _)); refine blk_far ?_ NB554_556.out _; (with_reducible repeat (first | refine blk_drewN ?_ _ | refine blk_drew ?_ | refine blk_alloc ?_ _)); exact BK554.out⟩
          have n1_ : Aside0 (((((w10.setCell ⟨gb556, 0, none⟩ (.int .i64 ((rd_T96 l0_0 a1).f0))).setCell ⟨gb556, 1, none⟩ (.int .i64 ((rd_T96 l0_0 a1).f1))).setCell ⟨gb556, 2, none⟩ (.int .i64 ((rd_T96 l0_0 a1).f2))).setCell ⟨gb556, 3, none⟩ (.int .i64 ((rd_T96 l0_0 a1).f3))).heap[gb556]? = some (.cells #[.int .i64 ((rd_T96 l0_0 a1).f0), .int .i64 ((rd_T96 l0_0 a1).f1), .int .i64 ((rd_T96 l0_0 a1).f2), .int .i64 ((rd_T96 l0_0 a1).f3)] 96 (0, 0))) := ⟨by (with_reducible repeat (first | refine blk_drewN ?_ _ | refine blk_drew ?_ | refine blk_alloc ?_ _)); refine blk_put (cs := #[.int .i64 ((rd_T96 l0_0 a1).f0), .int .i64 ((rd_T96 l0_0 a1).f1), .int .i64 ((rd_T96 l0_0 a1).f2), .int .i64 0]) ?_ 3 _ rfl; (with_reducible repeat (first | refine blk_drewN ?_ _ | refine blk_drew ?_ | refine blk_alloc ?_ _)); refine blk_put (cs := #[.int .i64 ((rd_T96 l0_0 a1).f0), .int .i64 ((rd_T96 l0_0 a1).f1), .int .i64 0, .int .i64 0]) ?_ 2 _ rfl; (with_reducible repeat (first | refine blk_drewN ?_ _ | refine blk_drew ?_ | refine blk_alloc ?_ _)); refine blk_put (cs := #[.int .i64 ((rd_T96 l0_0 a1).f0), .int .i64 0, .int .i64 0, .int .i64 0]) ?_ 1 _ rfl; (with_reducible repeat (first | refine blk_drewN ?_ _ | refine blk_drew ?_ | refine blk_alloc ?_ _)); refine blk_put (cs := #[.int .i64 0, .int .i64 0, .int .i64 0, .int .i64 0]) ?_ 0 _ rfl; (with_reducible repeat (first | refine blk_drewN ?_ _ | refine blk_drew ?_ | refine blk_alloc ?_ _)); exact BK556.out⟩
          have n2_ : Aside0 (Below w.heap.size w ((((w10.setCell ⟨gb556, 0, none⟩ (.int .i64 ((rd_T96 l0_0 a1).f0))).setCell ⟨gb556, 1, none⟩ (.int .i64 ((rd_T96 l0_0 a1).f1))).setCell ⟨gb556, 2, none⟩ (.int .i64 ((rd_T96 l0_0 a1).f2))).setCell ⟨gb556, 3, none⟩ (.int .i64 ((rd_T96 l0_0 a1).f3)))) := ⟨oB HB⟩
          (try clear BK554)
          (try clear BK556)
          (try clear HB)
          generalize ((((w10.setCell ⟨gb556, 0, none⟩ (.int .i64 ((rd_T96 l0_0 a1).f0))).setCell ⟨gb556, 1, none⟩ (.int .i64 ((rd_T96 l0_0 a1).f1))).setCell ⟨gb556, 2, none⟩ (.int .i64 ((rd_T96 l0_0 a1).f2))).setCell ⟨gb556, 3, none⟩ (.int .i64 ((rd_T96 l0_0 a1).f3))) = w13 at n0_ n1_ n2_ ⊢
          have BK554 := n0_
          have BK556 := n1_
          have HB := n2_
          clear n0_ n1_ n2_
          have n0_ := Aside0.mk (blk_drew BK554.out)
          have n1_ := Aside0.mk (blk_drew BK556.out)
          have n2_ := Aside0.mk (below_drew1 HB.out)
          clear BK554
          clear BK556
          clear HB
          have BK554 := n0_
          have BK556 := n1_
          have HB := n2_
          clear n0_ n1_ n2_
          have p557 : 0 ≤ (((rd_T96 l0_0 a1).f0) : Int) := of_decide_eq_true (by first | (with_reducible assumption) | assumption)
          have q557 : ((rd_T96 l0_0 a1).f0) < (l0_2.length : Int) := of_decide_eq_true (by first | (with_reducible assumption) | assumption)
          obtain ⟨ad557, e557, hx557_0⟩ := Kd.at_int HR0_2.out ((rd_T96 l0_0 a1).f0) p557 q557
          have hw557_0 := hx557_0
          cases e557
          replace hx557_0 := (HB.out.cell (World.block_lt_of_cell? w _ hx557_0)).trans hx557_0
          replace p557 := eq_true p557
          replace q557 := eq_true q557
          refine start_ (n := 12) (S := fun w' => w'.cell? ⟨gb554, 0, none⟩ = some (.slice (some ad555) l0_0.length c0_0) ∧ w'.cell? ⟨gb554, 1, none⟩ = some (.int .i64 a0_1) ∧ w'.cell? ⟨gb554, 2, none⟩ = some (.slice (some ad557) l0_2.length c0_2) ∧ w'.cell? ⟨gb556, 0, none⟩ = some (.int .i64 ((rd_T96 l0_0 a1).f0)) ∧ w'.cell? ⟨gb556, 1, none⟩ = some (.int .i64 ((rd_T96 l0_0 a1).f1)) ∧ w'.cell? ⟨gb556, 2, none⟩ = some (.int .i64 ((rd_T96 l0_0 a1).f2)) ∧ w'.cell? ⟨gb556, 3, none⟩ = some (.int .i64 ((rd_T96 l0_0 a1).f3)) ∧ w'.cell? (ad557.add (((rd_T96 l0_0 a1).f0)).toNat) = some (.int .i64 (rd l0_2 ((rd_T96 l0_0 a1).f0)))) (ds := []) #[false, false, false, false, false, false, false, false, false, false, false, false] (by kernel_rfl) rfl rfl ⟨(blk_cell BK554.out 0).trans rfl, (blk_cell BK554.out 1).trans rfl, (blk_cell BK554.out 2).trans rfl, (blk_cell BK556.out 0).trans rfl, (blk_cell BK556.out 1).trans rfl, (blk_cell BK556.out 2).trans rfl, (blk_cell BK556.out 3).trans rfl, ((HB.out.cell (World.block_lt_of_cell? w _ hw557_0)).trans hw557_0)⟩ (fun hHeld => ?_); refine with_tabW impl_tunedBy.tab2 impl_tunedBy.bits2 (fun HT_ HW_ => ?_)
          generalize w13.drew = w14 at BK554 BK556 HB hx557_0 hHeld ⊢
          refine pure_ (i := 0) (N := some 11) (v := ?_) (a' := ?_) #[true, false, false, false, false, false, false, false, false, false, false, false] rfl rfl (any_of HT_.out (by kernel_rfl)) (fun _ _ _ h => h) (Or.inl ⟨by rfl, ?_⟩) ?_ ?_
          rotate_left
          · intro w'
            go_simp
            with_reducible rfl
          rotate_left
          · simp only [Act.put, List.setIfInBounds_toArray, List.set_cons_zero, List.set_cons_succ, i64_w, i32_w]
            rfl
          refine pure_ (i := 2) (N := some 13) (v := ?_) (a' := ?_) #[true, false, true, false, false, false, false, false, false, false, false, false] rfl rfl (any_of HT_.out (by kernel_rfl)) (fun _ _ _ h => h) (Or.inl ⟨by rfl, ?_⟩) ?_ ?_
          rotate_left
          · intro w'
            go_simp
            with_reducible rfl
          rotate_left
          · simp only [Act.put, List.setIfInBounds_toArray, List.set_cons_zero, List.set_cons_succ, i64_w, i32_w]
            rfl
          refine pure_ (i := 6) (N := some 17) (v := ?_) (a' := ?_) #[true, false, true, false, false, false, true, false, false, false, false, false] rfl rfl (any_of HT_.out (by kernel_rfl)) (fun _ _ _ h => h) (Or.inl ⟨by rfl, ?_⟩) ?_ ?_
          rotate_left
          · intro w'
            go_simp
            with_reducible rfl
          rotate_left
          · simp only [Act.put, List.setIfInBounds_toArray, List.set_cons_zero, List.set_cons_succ, i64_w, i32_w]
            rfl
          refine pure_ (i := 8) (N := some 19) (v := ?_) (a' := ?_) #[true, false, true, false, false, false, true, false, true, false, false, false] rfl rfl (any_of HT_.out (by kernel_rfl)) (fun _ _ _ h => h) (Or.inl ⟨by rfl, ?_⟩) ?_ ?_
          rotate_left
          · intro w'
            go_simp
            with_reducible rfl
          rotate_left
          · simp only [Act.put, List.setIfInBounds_toArray, List.set_cons_zero, List.set_cons_succ, i64_w, i32_w]
            rfl
          refine take_ (i := 1) (N := some 12) (v := ?_) (a' := ?_) #[true, true, true, false, false, false, true, false, true, false, false, false] rfl rfl (take_ofW HT_.out HW_.out (by kernel_rfl)) (fun _ _ _ h => h) (Or.inl ⟨by rfl, ?_⟩) hHeld ?_ ?_
          rotate_left
          · rintro w' ⟨s0, s1, s2, s3, s4, s5, s6, s7⟩
            go_simp
            with_reducible rfl
          rotate_left
          · simp only [Act.put, List.setIfInBounds_toArray, List.set_cons_zero, List.set_cons_succ, i64_w, i32_w]
            rfl
          refine take_ (i := 3) (N := some 14) (v := ?_) (a' := ?_) #[true, true, true, true, false, false, true, false, true, false, false, false] rfl rfl (take_ofW HT_.out HW_.out (by kernel_rfl)) (fun _ _ _ h => h) (Or.inl ⟨by rfl, ?_⟩) hHeld ?_ ?_
          rotate_left
          · rintro w' ⟨s0, s1, s2, s3, s4, s5, s6, s7⟩
            go_simp
            with_reducible rfl
          rotate_left
          · simp only [Act.put, List.setIfInBounds_toArray, List.set_cons_zero, List.set_cons_succ, i64_w, i32_w]
            rfl
          refine pure_ (i := 4) (N := some 15) (v := ?_) (a' := ?_) #[true, true, true, true, true, false, true, false, true, false, false, false] rfl rfl (any_of HT_.out (by kernel_rfl)) (fun _ _ _ h => h) (Or.inl ⟨by rfl, ?_⟩) ?_ ?_
          rotate_left
          · intro w'
            go_simp
            with_reducible rfl
          rotate_left
          · simp only [Act.put, List.setIfInBounds_toArray, List.set_cons_zero, List.set_cons_succ, i64_w, i32_w]
            rfl
          refine take_ (i := 5) (N := some 16) (v := ?_) (a' := ?_) #[true, true, true, true, true, true, true, false, true, false, false, false] rfl rfl (take_ofW HT_.out HW_.out (by kernel_rfl)) (fun _ _ _ h => h) (Or.inl ⟨by rfl, ?_⟩) hHeld ?_ ?_
          rotate_left
          · rintro w' ⟨s0, s1, s2, s3, s4, s5, s6, s7⟩
            go_simp
            with_reducible rfl
          rotate_left
          · simp only [Act.put, List.setIfInBounds_toArray, List.set_cons_zero, List.set_cons_succ, i64_w, i32_w]
            rfl
          refine take_ (i := 7) (N := some 18) (v := ?_) (a' := ?_) #[true, true, true, true, true, true, true, true, true, false, false, false] rfl rfl (take_ofW HT_.out HW_.out (by kernel_rfl)) (fun _ _ _ h => h) (Or.inl ⟨by rfl, ?_⟩) hHeld ?_ ?_
          rotate_left
          · rintro w' ⟨s0, s1, s2, s3, s4, s5, s6, s7⟩
            go_simp
            with_reducible rfl
          rotate_left
          · simp only [Act.put, List.setIfInBounds_toArray, List.set_cons_zero, List.set_cons_succ, i64_w, i32_w]
            rfl
          refine take_ (i := 9) (N := some 20) (v := ?_) (a' := ?_) #[true, true, true, true, true, true, true, true, true, true, false, false] rfl rfl (take_ofW HT_.out HW_.out (by kernel_rfl)) (fun _ _ _ h => h) (Or.inl ⟨by rfl, ?_⟩) hHeld ?_ ?_
          rotate_left
          · rintro w' ⟨s0, s1, s2, s3, s4, s5, s6, s7⟩
            go_simp
            with_reducible rfl
          rotate_left
          · simp only [Act.put, List.setIfInBounds_toArray, List.set_cons_zero, List.set_cons_succ, i64_w, i32_w]
            rfl
          refine one_ (i := 10) (N := some 21) #[true, true, true, true, true, true, true, true, true, true, true, false] rfl rfl (one_of HT_.out (by kernel_rfl)) (by decide) (fun K hK => ?_)
          refine goes_ Try.func125 (by kernel_rfl) rfl #[.int .i64 (rd l0_2 ((rd_T96 l0_0 a1).f0)), .int .i64 ((rd_T96 l0_0 a1).f2), .int .i64 ((rd_T96 l0_0 a1).f3)] (by rfl) rfl rfl (by (try simp only [List.map_toArray, List.map_cons, List.map_nil]); first | done | rfl | (simp only [List.length_drop, List.length_take]; rfl)) ?_
          with_reducible refine (impl_TunedPitch.calls k (rd l0_2 ((rd_T96 l0_0 a1).f0)) ((rd_T96 l0_0 a1).f2) ((rd_T96 l0_0 a1).f3) t558 _ A7.out).mono ?_
          rintro e w15 ⟨rfl, hb⟩
          refine ⟨_, rfl, ?_⟩
          have n0_ := Aside0.mk (blk_below (g := gb554) (o := .cells #[.slice (some ad555) l0_0.length c0_0, .int .i64 a0_1, .slice (some ad557) l0_2.length c0_2] 33 (0, 0)) (oK BK554) hb)
          have n1_ := Aside0.mk (blk_below (g := gb556) (o := .cells #[.int .i64 ((rd_T96 l0_0 a1).f0), .int .i64 ((rd_T96 l0_0 a1).f1), .int .i64 ((rd_T96 l0_0 a1).f2), .int .i64 ((rd_T96 l0_0 a1).f3)] 96 (0, 0)) (oK BK556) hb)
          have n2_ := Aside0.mk (below_step (oB HB) hb)
          clear BK554
          clear BK556
          clear HB
          have BK554 := n0_
          have BK556 := n1_
          have HB := n2_
          clear n0_ n1_ n2_
          (try clear hb)
          (try clear hb2)
          (try clear hk)
          (try clear hi)
          refine hK.out _ _ ⟨(blk_cell BK554.out 0).trans rfl, (blk_cell BK554.out 1).trans rfl, (blk_cell BK554.out 2).trans rfl, (blk_cell BK556.out 0).trans rfl, (blk_cell BK556.out 1).trans rfl, (blk_cell BK556.out 2).trans rfl, (blk_cell BK556.out 3).trans rfl, ((HB.out.cell (World.block_lt_of_cell? w _ hw557_0)).trans hw557_0)⟩ (fun hHeld => ?_)
          clear hK K
          refine norm_ (a' := ?_) ?_ ?_
          rotate_left
          · show Act.put _ (some 21) _ = _
            simp only [Act.put, List.setIfInBounds_toArray, List.set_cons_zero, List.set_cons_succ, i64_w, i32_w]
            rfl
          refine pure_ (i := 11) (N := some 4) (v := ?_) (a' := ?_) #[true, true, true, true, true, true, true, true, true, true, true, true] rfl rfl (any_of HT_.out (by kernel_rfl)) (fun _ _ _ h => h) (Or.inl ⟨by rfl, ?_⟩) ?_ ?_
          rotate_left
          · intro w'
            go_simp
            with_reducible rfl
          rotate_left
          · simp only [Act.put, List.setIfInBounds_toArray, List.set_cons_zero, List.set_cons_succ, i64_w, i32_w]
            rfl
          refine done_ (done_of HT_.out (by kernel_rfl)) ?_
          try go_wp2
          go_ret
          exact ⟨by first | rfl | (simp [errW_none, errW_some] <;> rfl) | (simp [*, errW_none, errW_some] <;> rfl), oB HB⟩
        · rw [if_neg c6] at H
          exact absurd H (by simp)
      · rw [if_neg c5] at H
        exact absurd H (by simp)
    · rw [if_neg c4] at H
      exact absurd H (by simp)
  · rw [if_neg c3] at H
    exact absurd H (by simp)
end Go.Proofs.Ytbkkpllejgedcaa.P


namespace Go.Proofs.Ytbkkpllejgedcaa.P
open Go.RowKit Go.Proofs.YtbkkpllejgedcaaW.PrintWords Go.Proofs.YtbkkpllejgedcaaW.PrintLast Go.Proofs.YtbkkpllejgedcaaW.PrintMore
attribute [local go_sem] max2_int min2_int max_two min_two max_three min_three max_four min_four
set_option linter.unusedVariables false
set_option linter.unusedSimpArgs false
def impl_WrongSteps.l0 : Nat → List Int → List (S96) → Int → Int → List (S96) → Int → List Int → Option (List Int)
  | 0, _, _, _, _, _, _, _ => none
  | k + 1, x3, x14, x15, x16, x560000, x560001, x560002 => if x16 < x15 then (if 0 ≤ x16 then (if x16 < (x14.length : Int) then (if 0 ≤ ((rd_T96 x14 x16).f1) then (if ((rd_T96 x14 x16).f1) < (x560002.length : Int) then ((impl_tunedBy.f k x560000 x560001 x560002 x16).bind fun t571 => (if (rd x560002 ((rd_T96 x14 x16).f1)) = t571 then (impl_WrongSteps.l0 k x3 x14 x15 (wrap64 (x16 + 1)) x560000 x560001 x560002) else (if x3.length < 17592186044416 then (impl_WrongSteps.l0 k (x3 ++ [x16]) x14 x15 (wrap64 (x16 + 1)) x560000 x560001 x560002) else (none)))) else (none)) else (none)) else (none)) else (none)) else (some x3)
def impl_WrongSteps.f (k : Nat) (l0_0 : List (S96)) (a0_1 : Int) (l0_2 : List Int) : Option (List Int) := (impl_WorkOk.f l0_0 a0_1 l0_2).bind fun t560 => (if t560 = true then (if 0 ≤ a0_1 then (if a0_1 ≤ (l0_0.length : Int) then ((some (l0_0.take (a0_1 : Int).toNat : List (S96))).bind fun y564 => (impl_WrongSteps.l0 k (([] : List Int)) y564 (y564.length : Int) 0 l0_0 a0_1 l0_2)) else (none)) else (none)) else (some ([] : List Int)))
def impl_WrongSteps.T7 : Bool × List (List Nat × List Nat) := (true, [([], []), ([0], [0]), ([], []), ([2], [2]), ([1, 3], [1, 3]), ([4], [4]), ([], []), ([], []), ([6, 7], [6, 7]), ([5, 8], [5, 8])])
def impl_WrongSteps.B7 : List Nat := [0, 1, 0, 4, 15, 31, 0, 0, 192, 511]
theorem impl_WrongSteps.tab7 : rtab .any (opsOf Try.f80 7) = impl_WrongSteps.T7 := by kernel_rfl
theorem impl_WrongSteps.bits7 : waitsOk impl_WrongSteps.T7.2 impl_WrongSteps.B7 = true := by kernel_rfl
set_option maxHeartbeats 8000000 in
set_option maxRecDepth 100000 in
theorem impl_WrongSteps.calls (k : Nat) (A0_0 : Option Addr) (c0_0 : Nat) (l0_0 : List (S96)) (a0_1 : Int) (A0_2 : Option Addr) (c0_2 : Nat) (l0_2 : List Int) (r : List Int) (w : World) (hr0_0 : Kd.C k96 w A0_0 l0_0.length l0_0) (hc0_0 : l0_0.length ≤ c0_0) (hr0_2 : Kd.C (Kd.int .i64) w A0_2 l0_2.length l0_2) (hc0_2 : l0_2.length ≤ c0_2) (h : impl_WrongSteps.f k l0_0 a0_1 l0_2 = some r) :
    Calls Try.prog 80 #[.agg #[.slice A0_0 l0_0.length c0_0, .int .i64 a0_1, .slice A0_2 l0_2.length c0_2]] w fun e w' => ∃ v0_ : Value, e = .returned (v0_) ∧ Kd.R (Kd.int .i64) 3 w' w.heap.size (fun _ => True) v0_ r ∧ Below w.heap.size w w' := by
  have hu33 := Try.underlying33
  have hu96 := Try.underlying96
  have HR0_0 := Aside0.mk hr0_0
  have HC0_0 := Aside0.mk hc0_0
  clear hr0_0 hc0_0
  have HR0_2 := Aside0.mk hr0_2
  have HC0_2 := Aside0.mk hc0_2
  clear hr0_2 hc0_2
  have HB := Aside0.mk (Below.refl w.heap.size w)
  have H : ((impl_WorkOk.f l0_0 a0_1 l0_2).bind fun t560 => (if t560 = true then (if 0 ≤ a0_1 then (if a0_1 ≤ (l0_0.length : Int) then ((some (l0_0.take (a0_1 : Int).toNat : List (S96))).bind fun y564 => (impl_WrongSteps.l0 k (([] : List Int)) y564 (y564.length : Int) 0 l0_0 a0_1 l0_2)) else (none)) else (none)) else (some ([] : List Int)))) = some r := h
  clear h
  replace H := Option.bind_eq_some_iff.mp H
  obtain ⟨t560, A20, H⟩ := H
  (try dsimp only at H)
  have A2 := Aside0.mk A20
  clear A20
  by_cases c3 : t560 = true
  · subst c3
    rw [if_pos rfl] at H
    obtain ⟨y561, hy561⟩ : ∃ y_ : List Int, y_ = (([] : List Int)) := ⟨_, rfl⟩
    replace H : (if 0 ≤ a0_1 then (if a0_1 ≤ (l0_0.length : Int) then ((some (l0_0.take (a0_1 : Int).toNat : List (S96))).bind fun y564 => (impl_WrongSteps.l0 k y561 y564 (y564.length : Int) 0 l0_0 a0_1 l0_2)) else (none)) else (none)) = some r := by first | (rw [hy561]; with_reducible exact H) | (have H2_ := (Option.bind_some _ _).symm.trans H; rw [hy561]; with_reducible exact H2_) | (have H2_ := (Option.bind_some _ _).symm.trans H; with_reducible exact H2_) | with_reducible exact H | (rw [hy561]; exact H) | exact H
    have Ny561 := Aside0.mk hy561
    clear hy561
    by_cases c4 : 0 ≤ a0_1
    · rw [if_pos c4] at H
      have c4b0 := eq_true c4
      have c4b1 : decide (0 ≤ a0_1) = true := decide_eq_true c4
      clear c4
      by_cases c5 : a0_1 ≤ (l0_0.length : Int)
      · rw [if_pos c5] at H
        have c5b0 := eq_true c5
        have c5b1 : decide (a0_1 ≤ (l0_0.length : Int)) = true := decide_eq_true c5
        clear c5
        obtain ⟨y564, hy564⟩ : ∃ y_ : List (S96), y_ = (l0_0.take (a0_1 : Int).toNat) := ⟨_, rfl⟩
        replace H : (impl_WrongSteps.l0 k y561 y564 (y564.length : Int) 0 l0_0 a0_1 l0_2) = some r := by first | (rw [hy564]; with_reducible exact H) | (have H2_ := (Option.bind_some _ _).symm.trans H; rw [hy564]; with_reducible exact H2_) | (have H2_ := (Option.bind_some _ _).symm.trans H; with_reducible exact H2_) | with_reducible exact H | (rw [hy564]; exact H) | exact H
        have Ny564 := Aside0.mk hy564
        clear hy564
        have H' := Aside0.mk H
        clear H
        go_enter Try.func80, Try.ntmps80
        go_wp2_with (first | ((with_reducible refine gate_dst (N := 1) rfl ?_); refine box_event ?hg (N := 1) ?hd (cs := #[.slice A0_0 l0_0.length c0_0, .int .i64 a0_1, .slice A0_2 l0_2.length c0_2]) (t := 33) ?hr ?_; (case hd => rfl); (case hg => rfl); (case hr => first | (go_simp; done) | (go_simp; rfl)); intro gb559 hg w6 hbox hb; have n0_ := Aside0.mk (below_step (oB HB) hb); have n1_ := Aside0.mk (hbox); have n2_ := Aside0.mk ((by rw [hg]; exact (below_size (oB HB)) : w.heap.size ≤ gb559)); have n3_ := Aside0.mk ((by rw [hg]; exact (below_size (oB HB)) : w.heap.size ≤ gb559)); clear HB; have HB := n0_; have BK559 := n1_; have GW559 := n2_; have GE559 := n3_; clear n0_ n1_ n2_ n3_; clear hb hbox hg; have hcz7_0 : w6.cell? ⟨gb559, 0, none⟩ = some (.slice A0_0 l0_0.length c0_0) := (blk_cell BK559.out 0).trans rfl; have hcz7_1 : w6.cell? ⟨gb559, 1, none⟩ = some (.int .i64 a0_1) := (blk_cell BK559.out 1).trans rfl; have hcz7_2 : w6.cell? ⟨gb559, 2, none⟩ = some (.slice A0_2 l0_2.length c0_2) := (blk_cell BK559.out 2).trans rfl; have hfz7_0 := blk_frozen BK559.out 0; have hfz7_1 := blk_frozen BK559.out 1; have hfz7_2 := blk_frozen BK559.out 2) | ((with_reducible refine gate_callee (f := 64) rfl ?_); refine goesL_ (some 7) rfl rfl Try.func64 (by kernel_rfl) rfl #[.agg #[.slice A0_0 l0_0.length c0_0, .int .i64 a0_1, .slice A0_2 l0_2.length c0_2]] rfl (by (try simp only [List.map_toArray, List.map_cons, List.map_nil]); first | done | rfl | (simp only [List.length_drop, List.length_take]; rfl)) ?_; (with_reducible refine (impl_WorkOk.calls _ _ l0_0 a0_1 _ _ l0_2 true _ ?side1 ?side2 ?side3 ?side4 A2.out).mono ?_); (case side1 => exact oc_ HR0_0.out); (case side2 => exact HC0_0.out); (case side3 => exact oc_ HR0_2.out); (case side4 => exact HC0_2.out); rintro e w8 ⟨rfl, hb⟩; refine ⟨_, rfl, ?_⟩; have n0_ := Aside0.mk (blk_below (g := gb559) (o := .cells #[.slice A0_0 l0_0.length c0_0, .int .i64 a0_1, .slice A0_2 l0_2.length c0_2] 33 (0, 0)) (oK BK559) hb); have n1_ := Aside0.mk (below_step (oB HB) hb); clear BK559; clear HB; have BK559 := n0_; have HB := n1_; clear n0_ n1_; (try clear hb); (try clear hb2); (try clear hk); (try clear hi)) | ((with_reducible refine gate_dst (N := 9) rfl ?_); refine Kd.R_lit (Kd.int .i64) _ 3 ?hg (N := 9) ?hd (xs := ([] : List Int)) (inner := []) (ok := fun _ => True) (okp := fun _ => True) ?hr ?hp (fun _ hk => hk) trivial (Below.refl _ _) (Nat.le_refl _) (by simp) ?_; (case hd => rfl); (case hg => rfl); (case hr => first | (go_simp; done) | (go_simp; rfl)); (case hp => exact (Reps.none _ _)); intro v562 w9 ho10 hb hg_ hnew_; clear hg_ hnew_; (first | rw [← Ny561.out] at ho10 | (simp only [Int.reduceToNat] at ho10; rw [← Ny561.out] at ho10)); have n0_ := Aside0.mk (Kd.R_lower ho10 (below_size (oB HB))); have n1_ := Aside0.mk (blk_below (g := gb559) (o := .cells #[.slice A0_0 l0_0.length c0_0, .int .i64 a0_1, .slice A0_2 l0_2.length c0_2] 33 (0, 0)) (oK BK559) hb); have n2_ := Aside0.mk (below_step (oB HB) hb); clear BK559; clear HB; have HO563 := n0_; have BK559 := n1_; have HB := n2_; clear n0_ n1_ n2_; clear hb ho10; have hcz11_0 : w9.cell? ⟨gb559, 0, none⟩ = some (.slice A0_0 l0_0.length c0_0) := (blk_cell BK559.out 0).trans rfl; have hcz11_1 : w9.cell? ⟨gb559, 1, none⟩ = some (.int .i64 a0_1) := (blk_cell BK559.out 1).trans rfl; have hcz11_2 : w9.cell? ⟨gb559, 2, none⟩ = some (.slice A0_2 l0_2.length c0_2) := (blk_cell BK559.out 2).trans rfl; have hfz11_0 := blk_frozen BK559.out 0; have hfz11_1 := blk_frozen BK559.out 1; have hfz11_2 := blk_frozen BK559.out 2; have q12 : (a0_1 : Int) ≤ ((l0_0.length : Int) : Int) := of_decide_eq_true (by first | (with_reducible assumption) | assumption); obtain ⟨i012, hi012, _, hsz12, _⟩ := info_parts info96; have hroom12 : l0_0.length ≤ c0_0 := HC0_0.out; have hC12 : Kd.C k96 _ A0_0 l0_0.length l0_0 := HR0_0.out; have hcut12 := cut_to (P := Try.prog) 31 96 .i64 Try.underlying31 hi012 A0_0 l0_0.length c0_0 a0_1 (of_decide_eq_true (by first | (with_reducible assumption) | assumption)) q12 hroom12; have hr12 := Kd.C_take (m := (a0_1 : Int).toNat) hC12 (by omega); have hy12 : y564.length = (a0_1 : Int).toNat := (by rw [Ny564.out, List.length_take]; omega); rw [← Ny564.out] at hr12; rw [← hy12] at hcut12; have HR567 := Aside0.mk hr12; have HC567 := Aside0.mk (show y564.length ≤ c0_0 from by omega); clear hr12 hC12 hroom12 hi012 hsz12; have KY12 := Aside0.mk hy12; clear hy12; replace q12 := eq_true q12))
        go_loopg [3, 16] k (fun kq v3 v16 w' => ∃ (x3_1 : List Int) (x16_1 : Int), v16 = .int .i64 x16_1 ∧ Aside0 (impl_WrongSteps.l0 kq x3_1 y564 (y564.length : Int) x16_1 l0_0 a0_1 l0_2 = some r) ∧ Aside0 (kq ≤ k) ∧ Aside0 (Kd.R (Kd.int .i64) 3 w' w.heap.size (fun _ => True) v3 x3_1) ∧ Aside0 (w'.heap[gb559]? = some (.cells #[(.slice A0_0 l0_0.length c0_0), .int .i64 a0_1, (.slice A0_2 l0_2.length c0_2)] 33 (0, 0))) ∧ Aside0 (Below w.heap.size w w'))
        case atStart => exact ⟨(y561), (0), (by first | rfl | (simp; done) | (simp [*]; done)), H', ⟨Nat.le_refl _⟩, ⟨oR HO563⟩, ⟨oK BK559⟩, ⟨oB HB⟩⟩
        case round =>
          clear H'
          try clear q1
          try clear p2
          try clear c3
          try clear c4
          try clear c4b0
          try clear c4b1
          try clear c5
          try clear c5b0
          try clear c5b1
          try clear c6
          try clear c8
          try clear q12
          try clear hcz11_0
          try clear hcz11_1
          try clear hcz11_2
          try clear hcz7_0
          try clear hcz7_1
          try clear hcz7_2
          try clear hfz11_0
          try clear hfz11_1
          try clear hfz11_2
          try clear hfz7_0
          try clear hfz7_1
          try clear hfz7_2
          try clear q12
          obtain ⟨x3_1, x16_1, rfl, HA, HK1, HO_3, BK559, HB⟩ := hrel
          cases gk with
          | zero => exact absurd HA.out (by simp [impl_WrongSteps.l0])
          | succ k1 =>
            have H := HA.out
            clear HA
            simp only [impl_WrongSteps.l0] at H
            by_cases c13 : x16_1 < (y564.length : Int)
            · rw [if_pos c13] at H
              have c13b0 : decide (x16_1 < (y564.length : Int)) = true := decide_eq_true c13
              clear c13
              by_cases c14 : 0 ≤ x16_1
              · rw [if_pos c14] at H
                have c14b0 : decide (0 ≤ x16_1) = true := decide_eq_true c14
                clear c14
                by_cases c15 : x16_1 < (y564.length : Int)
                · rw [if_pos c15] at H
                  have c15b0 : decide (x16_1 < (y564.length : Int)) = true := decide_eq_true c15
                  clear c15
                  by_cases c16 : 0 ≤ ((rd_T96 y564 x16_1).f1)
                  · rw [if_pos c16] at H
                    have c16b0 : decide (0 ≤ ((rd_T96 y564 x16_1).f1)) = true := decide_eq_true c16
                    clear c16
                    by_cases c17 : ((rd_T96 y564 x16_1).f1) < (l0_2.length : Int)
                    · rw [if_pos c17] at H
                      have c17b0 : decide (((rd_T96 y564 x16_1).f1) < (l0_2.length : Int)) = true := decide_eq_true c17
                      clear c17
                      replace H := Option.bind_eq_some_iff.mp H
                      obtain ⟨t571, A180, H⟩ := H
                      (try dsimp only at H)
                      have A18 := Aside0.mk A180
                      clear A180
                      by_cases c19 : (rd l0_2 ((rd_T96 y564 x16_1).f1)) = t571
                      · rw [if_pos c19] at H
                        have c19b0 : ((rd l0_2 ((rd_T96 y564 x16_1).f1)) == t571) = true := beq_iff_eq.mpr c19
                        have c19b1 : ((rd l0_2 ((rd_T96 y564 x16_1).f1)) != t571) = false := bne_eq_false_iff_eq.mpr c19
                        clear c19
                        have H' := Aside0.mk H
                        clear H
                        have p568 : 0 ≤ (x16_1 : Int) := of_decide_eq_true (by first | (with_reducible assumption) | assumption)
                        have q568 : x16_1 < (y564.length : Int) := of_decide_eq_true (by first | (with_reducible assumption) | assumption)
                        obtain ⟨ad568, e568, hx568_0, hx568_1, hx568_2, hx568_3⟩ := at_T96 HR567.out x16_1 p568 q568
                        cases e568
                        replace hx568_0 := (HB.out.cell (World.block_lt_of_cell? w _ hx568_0)).trans hx568_0
                        replace hx568_1 := (HB.out.cell (World.block_lt_of_cell? w _ hx568_1)).trans hx568_1
                        replace hx568_2 := (HB.out.cell (World.block_lt_of_cell? w _ hx568_2)).trans hx568_2
                        replace hx568_3 := (HB.out.cell (World.block_lt_of_cell? w _ hx568_3)).trans hx568_3
                        replace p568 := eq_true p568
                        replace q568 := eq_true q568
                        try go_wp2_with (first | ((with_reducible refine gate_dst (N := 5) rfl ?_); refine box_event ?hg (N := 5) ?hd (cs := #[.int .i64 0, .int .i64 0, .int .i64 0, .int .i64 0]) (t := 96) ?hr ?_; (case hd => rfl); (case hg => rfl); (case hr => first | (go_simp; done) | (go_simp; rfl)); intro gb569 hg w20 hbox hb; have n0_ := Aside0.mk (Kd.R_below (oR HO_3) hb); have n1_ := Aside0.mk (blk_below (g := gb559) (o := .cells #[.slice (some ad568) l0_0.length c0_0, .int .i64 a0_1, .slice A0_2 l0_2.length c0_2] 33 (0, 0)) (oK BK559) hb); have n2_ := Aside0.mk (below_step (oB HB) hb); have n3_ := Aside0.mk (hbox); have n4_ := Aside0.mk ((by rw [hg]; exact (below_size (oB HB)) : w.heap.size ≤ gb569)); have n5_ := Aside0.mk ((by rw [hg]; exact (below_size (oB HB)) : w.heap.size ≤ gb569)); have n6_ := Aside0.mk ((by rw [hg]; exact Nat.ne_of_lt (blk_lt (g := gb559) (o := .cells #[.slice (some ad568) l0_0.length c0_0, .int .i64 a0_1, .slice A0_2 l0_2.length c0_2] 33 (0, 0)) (oK BK559)) : gb559 ≠ gb569)); have n7_ := Aside0.mk ((by rw [hg]; exact Nat.ne_of_gt (blk_lt (g := gb559) (o := .cells #[.slice (some ad568) l0_0.length c0_0, .int .i64 a0_1, .slice A0_2 l0_2.length c0_2] 33 (0, 0)) (oK BK559)) : gb569 ≠ gb559)); clear HO_3; clear BK559; clear HB; have HO_3 := n0_; have BK559 := n1_; have HB := n2_; have BK569 := n3_; have GW569 := n4_; have GE569 := n5_; have NB559_569 := n6_; have NB569_559 := n7_; clear n0_ n1_ n2_ n3_ n4_ n5_ n6_ n7_; clear hb hbox hg; have hnb21 := NB569_559.out; have hnc21 := NB559_569.out; have hcz22_0 : w20.cell? ⟨gb569, 0, none⟩ = some (.int .i64 0) := (blk_cell BK569.out 0).trans rfl; have hcz22_1 : w20.cell? ⟨gb569, 1, none⟩ = some (.int .i64 0) := (blk_cell BK569.out 1).trans rfl; have hcz22_2 : w20.cell? ⟨gb569, 2, none⟩ = some (.int .i64 0) := (blk_cell BK569.out 2).trans rfl; have hcz22_3 : w20.cell? ⟨gb569, 3, none⟩ = some (.int .i64 0) := (blk_cell BK569.out 3).trans rfl; have hfz22_0 := blk_frozen BK569.out 0; have hfz22_1 := blk_frozen BK569.out 1; have hfz22_2 := blk_frozen BK569.out 2; have hfz22_3 := blk_frozen BK569.out 3))
                        have n0_ : Aside0 (Kd.R (Kd.int .i64) 3 ((((w20.setCell ⟨gb569, 0, none⟩ (.int .i64 ((rd_T96 y564 x16_1).f0))).setCell ⟨gb569, 1, none⟩ (.int .i64 ((rd_T96 y564 x16_1).f1))).setCell ⟨gb569, 2, none⟩ (.int .i64 ((rd_T96 y564 x16_1).f2))).setCell ⟨gb569, 3, none⟩ (.int .i64 ((rd_T96 y564 x16_1).f3))) w.heap.size (fun _ => True) u3 x3_1) := ⟨by (with_reducible repeat (first | apply Kd.R_alloc | apply Kd.R_drewN | apply Kd.R_drew)); exact Kd.R_mono (Kd.R_far (p := ⟨gb569, 3, none⟩) (Kd.R_far (p := ⟨gb569, 2, none⟩) (Kd.R_far (p := ⟨gb569, 1, none⟩) (Kd.R_far (p := ⟨gb569, 0, none⟩) (Kd.R_types HO_3.out BK569.out (by decide)) (fun _ hk => hk.2) (.int .i64 ((rd_T96 y564 x16_1).f0))) (fun _ hk => hk.2) (.int .i64 ((rd_T96 y564 x16_1).f1))) (fun _ hk => hk.2) (.int .i64 ((rd_T96 y564 x16_1).f2))) (fun _ hk => hk.2) (.int .i64 ((rd_T96 y564 x16_1).f3))) (fun _ hk => trivial)⟩
                        have n1_ : Aside0 (((((w20.setCell ⟨gb569, 0, none⟩ (.int .i64 ((rd_T96 y564 x16_1).f0))).setCell ⟨gb569, 1, none⟩ (.int .i64 ((rd_T96 y564 x16_1).f1))).setCell ⟨gb569, 2, none⟩ (.int .i64 ((rd_T96 y564 x16_1).f2))).setCell ⟨gb569, 3, none⟩ (.int .i64 ((rd_T96 y564 x16_1).f3))).heap[gb559]? = some (.cells #[.slice (some ad568) l0_0.length c0_0, .int .i64 a0_1, .slice A0_2 l0_2.length c0_2] 33 (0, 0))) := ⟨by (with_reducible repeat (first | refine blk_drewN ?_ _ | refine blk_drew ?_ | refine blk_alloc ?_ _)); refine blk_far ?_ NB559_569.out _; (with_reducible repeat (first | refine blk_drewN ?_ _ | refine blk_drew ?_ | refine blk_alloc ?_ _)); refine blk_far ?_ NB559_569.out _; (with_reducible repeat (first | refine blk_drewN ?_ _ | refine blk_drew ?_ | refine blk_alloc ?_ _)); refine blk_far ?_ NB559_569.out _; (with_reducible repeat (first | refine blk_drewN ?_ _ | refine blk_drew ?_ | refine blk_alloc ?_ _)); refine blk_far ?_ NB559_569.out _; (with_reducible repeat (first | refine blk_drewN ?_ _ | refine blk_drew ?_ | refine blk_alloc ?_ _)); exact BK559.out⟩
                        have n2_ : Aside0 (((((w20.setCell ⟨gb569, 0, none⟩ (.int .i64 ((rd_T96 y564 x16_1).f0))).setCell ⟨gb569, 1, none⟩ (.int .i64 ((rd_T96 y564 x16_1).f1))).setCell ⟨gb569, 2, none⟩ (.int .i64 ((rd_T96 y564 x16_1).f2))).setCell ⟨gb569, 3, none⟩ (.int .i64 ((rd_T96 y564 x16_1).f3))).heap[gb569]? = some (.cells #[.int .i64 ((rd_T96 y564 x16_1).f0), .int .i64 ((rd_T96 y564 x16_1).f1), .int .i64 ((rd_T96 y564 x16_1).f2), .int .i64 ((rd_T96 y564 x16_1).f3)] 96 (0, 0))) := ⟨by (with_reducible repeat (first | refine blk_drewN ?_ _ | refine blk_drew ?_ | refine blk_alloc ?_ _)); refine blk_put (cs := #[.int .i64 ((rd_T96 y564 x16_1).f0), .int .i64 ((rd_T96 y564 x16_1).f1), .int .i64 ((rd_T96 y564 x16_1).f2), .int .i64 0]) ?_ 3 _ rfl; (with_reducible repeat (first | refine blk_drewN ?_ _ | refine blk_drew ?_ | refine blk_alloc ?_ _)); refine blk_put (cs := #[.int .i64 ((rd_T96 y564 x16_1).f0), .int .i64 ((rd_T96 y564 x16_1).f1), .int .i64 0, .int .i64 0]) ?_ 2 _ rfl; (with_reducible repeat (first | refine blk_drewN ?_ _ | refine blk_drew ?_ | refine blk_alloc ?_ _)); refine blk_put (cs := #[.int .i64 ((rd_T96 y564 x16_1).f0), .int .i64 0, .int .i64 0, .int .i64 0]) ?_ 1 _ rfl; (with_reducible repeat (first | refine blk_drewN ?_ _ | refine blk_drew ?_ | refine blk_alloc ?_ _)); refine blk_put (cs := #[.int .i64 0, .int .i64 0, .int .i64 0, .int .i64 0]) ?_ 0 _ rfl; (with_reducible repeat (first | refine blk_drewN ?_ _ | refine blk_drew ?_ | refine blk_alloc ?_ _)); exact BK569.out⟩
                        have n3_ : Aside0 (Below w.heap.size w ((((w20.setCell ⟨gb569, 0, none⟩ (.int .i64 ((rd_T96 y564 x16_1).f0))).setCell ⟨gb569, 1, none⟩ (.int .i64 ((rd_T96 y564 x16_1).f1))).setCell ⟨gb569, 2, none⟩ (.int .i64 ((rd_T96 y564 x16_1).f2))).setCell ⟨gb569, 3, none⟩ (.int .i64 ((rd_T96 y564 x16_1).f3)))) := ⟨oB HB⟩
                        (try clear HO_3)
                        (try clear BK559)
                        (try clear BK569)
                        (try clear HB)
                        generalize ((((w20.setCell ⟨gb569, 0, none⟩ (.int .i64 ((rd_T96 y564 x16_1).f0))).setCell ⟨gb569, 1, none⟩ (.int .i64 ((rd_T96 y564 x16_1).f1))).setCell ⟨gb569, 2, none⟩ (.int .i64 ((rd_T96 y564 x16_1).f2))).setCell ⟨gb569, 3, none⟩ (.int .i64 ((rd_T96 y564 x16_1).f3))) = w23 at n0_ n1_ n2_ n3_ ⊢
                        have HO_3 := n0_
                        have BK559 := n1_
                        have BK569 := n2_
                        have HB := n3_
                        clear n0_ n1_ n2_ n3_
                        have n0_ := Aside0.mk (Kd.R_drew HO_3.out)
                        have n1_ := Aside0.mk (blk_drew BK559.out)
                        have n2_ := Aside0.mk (blk_drew BK569.out)
                        have n3_ := Aside0.mk (below_drew1 HB.out)
                        clear HO_3
                        clear BK559
                        clear BK569
                        clear HB
                        have HO_3 := n0_
                        have BK559 := n1_
                        have BK569 := n2_
                        have HB := n3_
                        clear n0_ n1_ n2_ n3_
                        have p570 : 0 ≤ (((rd_T96 y564 x16_1).f1) : Int) := of_decide_eq_true (by first | (with_reducible assumption) | assumption)
                        have q570 : ((rd_T96 y564 x16_1).f1) < (l0_2.length : Int) := of_decide_eq_true (by first | (with_reducible assumption) | assumption)
                        obtain ⟨ad570, e570, hx570_0⟩ := Kd.at_int HR0_2.out ((rd_T96 y564 x16_1).f1) p570 q570
                        have hw570_0 := hx570_0
                        cases e570
                        replace hx570_0 := (HB.out.cell (World.block_lt_of_cell? w _ hx570_0)).trans hx570_0
                        replace p570 := eq_true p570
                        replace q570 := eq_true q570
                        refine start_ (n := 10) (S := fun w' => w'.cell? ⟨gb559, 0, none⟩ = some (.slice (some ad568) l0_0.length c0_0) ∧ w'.cell? ⟨gb559, 1, none⟩ = some (.int .i64 a0_1) ∧ w'.cell? ⟨gb559, 2, none⟩ = some (.slice (some ad570) l0_2.length c0_2) ∧ w'.cell? ⟨gb569, 0, none⟩ = some (.int .i64 ((rd_T96 y564 x16_1).f0)) ∧ w'.cell? ⟨gb569, 1, none⟩ = some (.int .i64 ((rd_T96 y564 x16_1).f1)) ∧ w'.cell? ⟨gb569, 2, none⟩ = some (.int .i64 ((rd_T96 y564 x16_1).f2)) ∧ w'.cell? ⟨gb569, 3, none⟩ = some (.int .i64 ((rd_T96 y564 x16_1).f3)) ∧ w'.cell? (ad570.add (((rd_T96 y564 x16_1).f1)).toNat) = some (.int .i64 (rd l0_2 ((rd_T96 y564 x16_1).f1)))) (ds := []) #[false, false, false, false, false, false, false, false, false, false] (by kernel_rfl) rfl rfl ⟨(blk_cell BK559.out 0).trans rfl, (blk_cell BK559.out 1).trans rfl, (blk_cell BK559.out 2).trans rfl, (blk_cell BK569.out 0).trans rfl, (blk_cell BK569.out 1).trans rfl, (blk_cell BK569.out 2).trans rfl, (blk_cell BK569.out 3).trans rfl, ((HB.out.cell (World.block_lt_of_cell? w _ hw570_0)).trans hw570_0)⟩ (fun hHeld => ?_); refine with_tabW impl_WrongSteps.tab7 impl_WrongSteps.bits7 (fun HT_ HW_ => ?_)
                        generalize w23.drew = w24 at HO_3 BK559 BK569 HB hx570_0 hHeld ⊢
                        refine pure_ (i := 0) (N := some 21) (v := ?_) (a' := ?_) #[true, false, false, false, false, false, false, false, false, false] rfl rfl (any_of HT_.out (by kernel_rfl)) (fun _ _ _ h => h) (Or.inl ⟨by rfl, ?_⟩) ?_ ?_
                        rotate_left
                        · intro w'
                          go_simp
                          with_reducible rfl
                        rotate_left
                        · simp only [Act.put, List.setIfInBounds_toArray, List.set_cons_zero, List.set_cons_succ, i64_w, i32_w]
                          rfl
                        refine pure_ (i := 2) (N := some 23) (v := ?_) (a' := ?_) #[true, false, true, false, false, false, false, false, false, false] rfl rfl (any_of HT_.out (by kernel_rfl)) (fun _ _ _ h => h) (Or.inl ⟨by rfl, ?_⟩) ?_ ?_
                        rotate_left
                        · intro w'
                          go_simp
                          with_reducible rfl
                        rotate_left
                        · simp only [Act.put, List.setIfInBounds_toArray, List.set_cons_zero, List.set_cons_succ, i64_w, i32_w]
                          rfl
                        refine pure_ (i := 7) (N := some 28) (v := ?_) (a' := ?_) #[true, false, true, false, false, false, false, true, false, false] rfl rfl (any_of HT_.out (by kernel_rfl)) (fun _ _ _ h => h) (Or.inl ⟨by rfl, ?_⟩) ?_ ?_
                        rotate_left
                        · intro w'
                          go_simp
                          with_reducible rfl
                        rotate_left
                        · simp only [Act.put, List.setIfInBounds_toArray, List.set_cons_zero, List.set_cons_succ, i64_w, i32_w]
                          rfl
                        refine take_ (i := 1) (N := some 22) (v := ?_) (a' := ?_) #[true, true, true, false, false, false, false, true, false, false] rfl rfl (take_ofW HT_.out HW_.out (by kernel_rfl)) (fun _ _ _ h => h) (Or.inl ⟨by rfl, ?_⟩) hHeld ?_ ?_
                        rotate_left
                        · rintro w' ⟨s0, s1, s2, s3, s4, s5, s6, s7⟩
                          go_simp
                          with_reducible rfl
                        rotate_left
                        · simp only [Act.put, List.setIfInBounds_toArray, List.set_cons_zero, List.set_cons_succ, i64_w, i32_w]
                          rfl
                        refine take_ (i := 3) (N := some 24) (v := ?_) (a' := ?_) #[true, true, true, true, false, false, false, true, false, false] rfl rfl (take_ofW HT_.out HW_.out (by kernel_rfl)) (fun _ _ _ h => h) (Or.inl ⟨by rfl, ?_⟩) hHeld ?_ ?_
                        rotate_left
                        · rintro w' ⟨s0, s1, s2, s3, s4, s5, s6, s7⟩
                          go_simp
                          with_reducible rfl
                        rotate_left
                        · simp only [Act.put, List.setIfInBounds_toArray, List.set_cons_zero, List.set_cons_succ, i64_w, i32_w]
                          rfl
                        refine pure_ (i := 4) (N := some 25) (v := ?_) (a' := ?_) #[true, true, true, true, true, false, false, true, false, false] rfl rfl (any_of HT_.out (by kernel_rfl)) (fun _ _ _ h => h) (Or.inl ⟨by rfl, ?_⟩) ?_ ?_
                        rotate_left
                        · intro w'
                          go_simp
                          with_reducible rfl
                        rotate_left
                        · simp only [Act.put, List.setIfInBounds_toArray, List.set_cons_zero, List.set_cons_succ, i64_w, i32_w]
                          rfl
                        refine take_ (i := 5) (N := some 26) (v := ?_) (a' := ?_) #[true, true, true, true, true, true, false, true, false, false] rfl rfl (take_ofW HT_.out HW_.out (by kernel_rfl)) (fun _ _ _ h => h) (Or.inl ⟨by rfl, ?_⟩) hHeld ?_ ?_
                        rotate_left
                        · rintro w' ⟨s0, s1, s2, s3, s4, s5, s6, s7⟩
                          go_simp
                          with_reducible rfl
                        rotate_left
                        · simp only [Act.put, List.setIfInBounds_toArray, List.set_cons_zero, List.set_cons_succ, i64_w, i32_w]
                          rfl
                        refine take_ (i := 6) (N := some 27) (v := ?_) (a' := ?_) #[true, true, true, true, true, true, true, true, false, false] rfl rfl (take_ofW HT_.out HW_.out (by kernel_rfl)) (fun _ _ _ h => h) (Or.inl ⟨by rfl, ?_⟩) hHeld ?_ ?_
                        rotate_left
                        · rintro w' ⟨s0, s1, s2, s3, s4, s5, s6, s7⟩
                          go_simp
                          with_reducible rfl
                        rotate_left
                        · simp only [Act.put, List.setIfInBounds_toArray, List.set_cons_zero, List.set_cons_succ, i64_w, i32_w]
                          rfl
                        refine one_ (i := 8) (N := some 29) #[true, true, true, true, true, true, true, true, true, false] rfl rfl (one_of HT_.out (by kernel_rfl)) (by decide) (fun K hK => ?_)
                        refine goes_ Try.func117 (by kernel_rfl) rfl #[.agg #[.slice (some ad568) l0_0.length c0_0, .int .i64 a0_1, .slice (some ad570) l0_2.length c0_2], .int .i64 x16_1] (by rfl) rfl rfl (by (try simp only [List.map_toArray, List.map_cons, List.map_nil]); first | done | rfl | (simp only [List.length_drop, List.length_take]; rfl)) ?_
                        with_reducible refine (impl_tunedBy.calls k1 _ _ l0_0 a0_1 _ _ l0_2 x16_1 t571 _ ?side1 ?side2 ?side3 ?side4 A18.out).mono ?_
                        (case side1 => exact oc_ HR0_0.out)
                        (case side2 => exact HC0_0.out)
                        (case side3 => exact oc_ HR0_2.out)
                        (case side4 => exact HC0_2.out)
                        rintro e w25 ⟨rfl, hb⟩
                        refine ⟨_, rfl, ?_⟩
                        have n0_ := Aside0.mk (Kd.R_below (oR HO_3) hb)
                        have n1_ := Aside0.mk (blk_below (g := gb559) (o := .cells #[.slice (some ad568) l0_0.length c0_0, .int .i64 a0_1, .slice (some ad570) l0_2.length c0_2] 33 (0, 0)) (oK BK559) hb)
                        have n2_ := Aside0.mk (blk_below (g := gb569) (o := .cells #[.int .i64 ((rd_T96 y564 x16_1).f0), .int .i64 ((rd_T96 y564 x16_1).f1), .int .i64 ((rd_T96 y564 x16_1).f2), .int .i64 ((rd_T96 y564 x16_1).f3)] 96 (0, 0)) (oK BK569) hb)
                        have n3_ := Aside0.mk (below_step (oB HB) hb)
                        clear HO_3
                        clear BK559
                        clear BK569
                        clear HB
                        have HO_3 := n0_
                        have BK559 := n1_
                        have BK569 := n2_
                        have HB := n3_
                        clear n0_ n1_ n2_ n3_
                        (try clear hb)
                        (try clear hb2)
                        (try clear hk)
                        (try clear hi)
                        refine hK.out _ _ ⟨(blk_cell BK559.out 0).trans rfl, (blk_cell BK559.out 1).trans rfl, (blk_cell BK559.out 2).trans rfl, (blk_cell BK569.out 0).trans rfl, (blk_cell BK569.out 1).trans rfl, (blk_cell BK569.out 2).trans rfl, (blk_cell BK569.out 3).trans rfl, ((HB.out.cell (World.block_lt_of_cell? w _ hw570_0)).trans hw570_0)⟩ (fun hHeld => ?_)
                        clear hK K
                        refine norm_ (a' := ?_) ?_ ?_
                        rotate_left
                        · show Act.put _ (some 29) _ = _
                          simp only [Act.put, List.setIfInBounds_toArray, List.set_cons_zero, List.set_cons_succ, i64_w, i32_w]
                          rfl
                        refine pure_ (i := 9) (N := some 30) (v := ?_) (a' := ?_) #[true, true, true, true, true, true, true, true, true, true] rfl rfl (any_of HT_.out (by kernel_rfl)) (fun _ _ _ h => h) (Or.inl ⟨by rfl, ?_⟩) ?_ ?_
                        rotate_left
                        · intro w'
                          go_simp
                          with_reducible rfl
                        rotate_left
                        · simp only [Act.put, List.setIfInBounds_toArray, List.set_cons_zero, List.set_cons_succ, i64_w, i32_w]
                          rfl
                        refine done_ (done_of HT_.out (by kernel_rfl)) ?_
                        try go_wp2
                        go_roundg k1
                        case measure => have := HK1.out; omega
                        case rel => exact ⟨(x3_1), (wrap64 (x16_1 + 1)), (by first | rfl | (simp; done) | (simp [*]; done)), H', ⟨by have := HK1.out; omega⟩, ⟨oR HO_3⟩, ⟨oK BK559⟩, ⟨oB HB⟩⟩
                      · rw [if_neg c19] at H
                        have c19b0 : ((rd l0_2 ((rd_T96 y564 x16_1).f1)) == t571) = false := beq_eq_false_iff_ne.mpr c19
                        have c19b1 : ((rd l0_2 ((rd_T96 y564 x16_1).f1)) != t571) = true := bne_iff_ne.mpr c19
                        by_cases c26 : x3_1.length < 17592186044416
                        · rw [if_pos c26] at H
                          have LMc26 := Aside0.mk c26
                          clear c26
                          obtain ⟨y572, hy572⟩ : ∃ y_ : List Int, y_ = (x3_1 ++ [x16_1]) := ⟨_, rfl⟩
                          replace H : (impl_WrongSteps.l0 k1 y572 y564 (y564.length : Int) (wrap64 (x16_1 + 1)) l0_0 a0_1 l0_2) = some r := by first | (rw [hy572]; with_reducible exact H) | (have H2_ := (Option.bind_some _ _).symm.trans H; rw [hy572]; with_reducible exact H2_) | (have H2_ := (Option.bind_some _ _).symm.trans H; with_reducible exact H2_) | with_reducible exact H | (rw [hy572]; exact H) | exact H
                          have Ny572 := Aside0.mk hy572
                          clear hy572
                          have H' := Aside0.mk H
                          clear H
                          have p568 : 0 ≤ (x16_1 : Int) := of_decide_eq_true (by first | (with_reducible assumption) | assumption)
                          have q568 : x16_1 < (y564.length : Int) := of_decide_eq_true (by first | (with_reducible assumption) | assumption)
                          obtain ⟨ad568, e568, hx568_0, hx568_1, hx568_2, hx568_3⟩ := at_T96 HR567.out x16_1 p568 q568
                          cases e568
                          replace hx568_0 := (HB.out.cell (World.block_lt_of_cell? w _ hx568_0)).trans hx568_0
                          replace hx568_1 := (HB.out.cell (World.block_lt_of_cell? w _ hx568_1)).trans hx568_1
                          replace hx568_2 := (HB.out.cell (World.block_lt_of_cell? w _ hx568_2)).trans hx568_2
                          replace hx568_3 := (HB.out.cell (World.block_lt_of_cell? w _ hx568_3)).trans hx568_3
                          replace p568 := eq_true p568
                          replace q568 := eq_true q568
                          try go_wp2_with (first | ((with_reducible refine gate_dst (N := 5) rfl ?_); refine box_event ?hg (N := 5) ?hd (cs := #[.int .i64 0, .int .i64 0, .int .i64 0, .int .i64 0]) (t := 96) ?hr ?_; (case hd => rfl); (case hg => rfl); (case hr => first | (go_simp; done) | (go_simp; rfl)); intro gb569 hg w27 hbox hb; have n0_ := Aside0.mk (Kd.R_below (oR HO_3) hb); have n1_ := Aside0.mk (blk_below (g := gb559) (o := .cells #[.slice (some ad568) l0_0.length c0_0, .int .i64 a0_1, .slice A0_2 l0_2.length c0_2] 33 (0, 0)) (oK BK559) hb); have n2_ := Aside0.mk (below_step (oB HB) hb); have n3_ := Aside0.mk (hbox); have n4_ := Aside0.mk ((by rw [hg]; exact (below_size (oB HB)) : w.heap.size ≤ gb569)); have n5_ := Aside0.mk ((by rw [hg]; exact (below_size (oB HB)) : w.heap.size ≤ gb569)); have n6_ := Aside0.mk ((by rw [hg]; exact Nat.ne_of_lt (blk_lt (g := gb559) (o := .cells #[.slice (some ad568) l0_0.length c0_0, .int .i64 a0_1, .slice A0_2 l0_2.length c0_2] 33 (0, 0)) (oK BK559)) : gb559 ≠ gb569)); have n7_ := Aside0.mk ((by rw [hg]; exact Nat.ne_of_gt (blk_lt (g := gb559) (o := .cells #[.slice (some ad568) l0_0.length c0_0, .int .i64 a0_1, .slice A0_2 l0_2.length c0_2] 33 (0, 0)) (oK BK559)) : gb569 ≠ gb559)); clear HO_3; clear BK559; clear HB; have HO_3 := n0_; have BK559 := n1_; have HB := n2_; have BK569 := n3_; have GW569 := n4_; have GE569 := n5_; have NB559_569 := n6_; have NB569_559 := n7_; clear n0_ n1_ n2_ n3_ n4_ n5_ n6_ n7_; clear hb hbox hg; have hnb28 := NB569_559.out; have hnc28 := NB559_569.out; have hcz29_0 : w27.cell? ⟨gb569, 0, none⟩ = some (.int .i64 0) := (blk_cell BK569.out 0).trans rfl; have hcz29_1 : w27.cell? ⟨gb569, 1, none⟩ = some (.int .i64 0) := (blk_cell BK569.out 1).trans rfl; have hcz29_2 : w27.cell? ⟨gb569, 2, none⟩ = some (.int .i64 0) := (blk_cell BK569.out 2).trans rfl; have hcz29_3 : w27.cell? ⟨gb569, 3, none⟩ = some (.int .i64 0) := (blk_cell BK569.out 3).trans rfl; have hfz29_0 := blk_frozen BK569.out 0; have hfz29_1 := blk_frozen BK569.out 1; have hfz29_2 := blk_frozen BK569.out 2; have hfz29_3 := blk_frozen BK569.out 3))
                          have n0_ : Aside0 (Kd.R (Kd.int .i64) 3 ((((w27.setCell ⟨gb569, 0, none⟩ (.int .i64 ((rd_T96 y564 x16_1).f0))).setCell ⟨gb569, 1, none⟩ (.int .i64 ((rd_T96 y564 x16_1).f1))).setCell ⟨gb569, 2, none⟩ (.int .i64 ((rd_T96 y564 x16_1).f2))).setCell ⟨gb569, 3, none⟩ (.int .i64 ((rd_T96 y564 x16_1).f3))) w.heap.size (fun _ => True) u3 x3_1) := ⟨by (with_reducible repeat (first | apply Kd.R_alloc | apply Kd.R_drewN | apply Kd.R_drew)); exact Kd.R_mono (Kd.R_far (p := ⟨gb569, 3, none⟩) (Kd.R_far (p := ⟨gb569, 2, none⟩) (Kd.R_far (p := ⟨gb569, 1, none⟩) (Kd.R_far (p := ⟨gb569, 0, none⟩) (Kd.R_types HO_3.out BK569.out (by decide)) (fun _ hk => hk.2) (.int .i64 ((rd_T96 y564 x16_1).f0))) (fun _ hk => hk.2) (.int .i64 ((rd_T96 y564 x16_1).f1))) (fun _ hk => hk.2) (.int .i64 ((rd_T96 y564 x16_1).f2))) (fun _ hk => hk.2) (.int .i64 ((rd_T96 y564 x16_1).f3))) (fun _ hk => trivial)⟩
                          have n1_ : Aside0 (((((w27.setCell ⟨gb569, 0, none⟩ (.int .i64 ((rd_T96 y564 x16_1).f0))).setCell ⟨gb569, 1, none⟩ (.int .i64 ((rd_T96 y564 x16_1).f1))).setCell ⟨gb569, 2, none⟩ (.int .i64 ((rd_T96 y564 x16_1).f2))).setCell ⟨gb569, 3, none⟩ (.int .i64 ((rd_T96 y564 x16_1).f3))).heap[gb559]? = some (.cells #[.slice (some ad568) l0_0.length c0_0, .int .i64 a0_1, .slice A0_2 l0_2.length c0_2] 33 (0, 0))) := ⟨by (with_reducible repeat (first | refine blk_drewN ?_ _ | refine blk_drew ?_ | refine blk_alloc ?_ _)); refine blk_far ?_ NB559_569.out _; (with_reducible repeat (first | refine blk_drewN ?_ _ | refine blk_drew ?_ | refine blk_alloc ?_ _)); refine blk_far ?_ NB559_569.out _; (with_reducible repeat (first | refine blk_drewN ?_ _ | refine blk_drew ?_ | refine blk_alloc ?_ _)); refine blk_far ?_ NB559_569.out _; (with_reducible repeat (first | refine blk_drewN ?_ _ | refine blk_drew ?_ | refine blk_alloc ?_ _)); refine blk_far ?_ NB559_569.out _; (with_reducible repeat (first | refine blk_drewN ?_ _ | refine blk_drew ?_ | refine blk_alloc ?_ _)); exact BK559.out⟩
                          have n2_ : Aside0 (((((w27.setCell ⟨gb569, 0, none⟩ (.int .i64 ((rd_T96 y564 x16_1).f0))).setCell ⟨gb569, 1, none⟩ (.int .i64 ((rd_T96 y564 x16_1).f1))).setCell ⟨gb569, 2, none⟩ (.int .i64 ((rd_T96 y564 x16_1).f2))).setCell ⟨gb569, 3, none⟩ (.int .i64 ((rd_T96 y564 x16_1).f3))).heap[gb569]? = some (.cells #[.int .i64 ((rd_T96 y564 x16_1).f0), .int .i64 ((rd_T96 y564 x16_1).f1), .int .i64 ((rd_T96 y564 x16_1).f2), .int .i64 ((rd_T96 y564 x16_1).f3)] 96 (0, 0))) := ⟨by (with_reducible repeat (first | refine blk_drewN ?_ _ | refine blk_drew ?_ | refine blk_alloc ?_ _)); refine blk_put (cs := #[.int .i64 ((rd_T96 y564 x16_1).f0), .int .i64 ((rd_T96 y564 x16_1).f1), .int .i64 ((rd_T96 y564 x16_1).f2), .int .i64 0]) ?_ 3 _ rfl; (with_reducible repeat (first | refine blk_drewN ?_ _ | refine blk_drew ?_ | refine blk_alloc ?_ _)); refine blk_put (cs := #[.int .i64 ((rd_T96 y564 x16_1).f0), .int .i64 ((rd_T96 y564 x16_1).f1), .int .i64 0, .int .i64 0]) ?_ 2 _ rfl; (with_reducible repeat (first | refine blk_drewN ?_ _ | refine blk_drew ?_ | refine blk_alloc ?_ _)); refine blk_put (cs := #[.int .i64 ((rd_T96 y564 x16_1).f0), .int .i64 0, .int .i64 0, .int .i64 0]) ?_ 1 _ rfl; (with_reducible repeat (first | refine blk_drewN ?_ _ | refine blk_drew ?_ | refine blk_alloc ?_ _)); refine blk_put (cs := #[.int .i64 0, .int .i64 0, .int .i64 0, .int .i64 0]) ?_ 0 _ rfl; (with_reducible repeat (first | refine blk_drewN ?_ _ | refine blk_drew ?_ | refine blk_alloc ?_ _)); exact BK569.out⟩
                          have n3_ : Aside0 (Below w.heap.size w ((((w27.setCell ⟨gb569, 0, none⟩ (.int .i64 ((rd_T96 y564 x16_1).f0))).setCell ⟨gb569, 1, none⟩ (.int .i64 ((rd_T96 y564 x16_1).f1))).setCell ⟨gb569, 2, none⟩ (.int .i64 ((rd_T96 y564 x16_1).f2))).setCell ⟨gb569, 3, none⟩ (.int .i64 ((rd_T96 y564 x16_1).f3)))) := ⟨oB HB⟩
                          (try clear HO_3)
                          (try clear BK559)
                          (try clear BK569)
                          (try clear HB)
                          generalize ((((w27.setCell ⟨gb569, 0, none⟩ (.int .i64 ((rd_T96 y564 x16_1).f0))).setCell ⟨gb569, 1, none⟩ (.int .i64 ((rd_T96 y564 x16_1).f1))).setCell ⟨gb569, 2, none⟩ (.int .i64 ((rd_T96 y564 x16_1).f2))).setCell ⟨gb569, 3, none⟩ (.int .i64 ((rd_T96 y564 x16_1).f3))) = w30 at n0_ n1_ n2_ n3_ ⊢
                          have HO_3 := n0_
                          have BK559 := n1_
                          have BK569 := n2_
                          have HB := n3_
                          clear n0_ n1_ n2_ n3_
                          have n0_ := Aside0.mk (Kd.R_drew HO_3.out)
                          have n1_ := Aside0.mk (blk_drew BK559.out)
                          have n2_ := Aside0.mk (blk_drew BK569.out)
                          have n3_ := Aside0.mk (below_drew1 HB.out)
                          clear HO_3
                          clear BK559
                          clear BK569
                          clear HB
                          have HO_3 := n0_
                          have BK559 := n1_
                          have BK569 := n2_
                          have HB := n3_
                          clear n0_ n1_ n2_ n3_
                          have p570 : 0 ≤ (((rd_T96 y564 x16_1).f1) : Int) := of_decide_eq_true (by first | (with_reducible assumption) | assumption)
                          have q570 : ((rd_T96 y564 x16_1).f1) < (l0_2.length : Int) := of_decide_eq_true (by first | (with_reducible assumption) | assumption)
                          obtain ⟨ad570, e570, hx570_0⟩ := Kd.at_int HR0_2.out ((rd_T96 y564 x16_1).f1) p570 q570
                          have hw570_0 := hx570_0
                          cases e570
                          replace hx570_0 := (HB.out.cell (World.block_lt_of_cell? w _ hx570_0)).trans hx570_0
                          replace p570 := eq_true p570
                          replace q570 := eq_true q570
                          refine start_ (n := 10) (S := fun w' => w'.cell? ⟨gb559, 0, none⟩ = some (.slice (some ad568) l0_0.length c0_0) ∧ w'.cell? ⟨gb559, 1, none⟩ = some (.int .i64 a0_1) ∧ w'.cell? ⟨gb559, 2, none⟩ = some (.slice (some ad570) l0_2.length c0_2) ∧ w'.cell? ⟨gb569, 0, none⟩ = some (.int .i64 ((rd_T96 y564 x16_1).f0)) ∧ w'.cell? ⟨gb569, 1, none⟩ = some (.int .i64 ((rd_T96 y564 x16_1).f1)) ∧ w'.cell? ⟨gb569, 2, none⟩ = some (.int .i64 ((rd_T96 y564 x16_1).f2)) ∧ w'.cell? ⟨gb569, 3, none⟩ = some (.int .i64 ((rd_T96 y564 x16_1).f3)) ∧ w'.cell? (ad570.add (((rd_T96 y564 x16_1).f1)).toNat) = some (.int .i64 (rd l0_2 ((rd_T96 y564 x16_1).f1)))) (ds := []) #[false, false, false, false, false, false, false, false, false, false] (by kernel_rfl) rfl rfl ⟨(blk_cell BK559.out 0).trans rfl, (blk_cell BK559.out 1).trans rfl, (blk_cell BK559.out 2).trans rfl, (blk_cell BK569.out 0).trans rfl, (blk_cell BK569.out 1).trans rfl, (blk_cell BK569.out 2).trans rfl, (blk_cell BK569.out 3).trans rfl, ((HB.out.cell (World.block_lt_of_cell? w _ hw570_0)).trans hw570_0)⟩ (fun hHeld => ?_); refine with_tabW impl_WrongSteps.tab7 impl_WrongSteps.bits7 (fun HT_ HW_ => ?_)
                          generalize w30.drew = w31 at HO_3 BK559 BK569 HB hx570_0 hHeld ⊢
                          refine pure_ (i := 0) (N := some 21) (v := ?_) (a' := ?_) #[true, false, false, false, false, false, false, false, false, false] rfl rfl (any_of HT_.out (by kernel_rfl)) (fun _ _ _ h => h) (Or.inl ⟨by rfl, ?_⟩) ?_ ?_
                          rotate_left
                          · intro w'
                            go_simp
                            with_reducible rfl
                          rotate_left
                          · simp only [Act.put, List.setIfInBounds_toArray, List.set_cons_zero, List.set_cons_succ, i64_w, i32_w]
                            rfl
                          refine pure_ (i := 2) (N := some 23) (v := ?_) (a' := ?_) #[true, false, true, false, false, false, false, false, false, false] rfl rfl (any_of HT_.out (by kernel_rfl)) (fun _ _ _ h => h) (Or.inl ⟨by rfl, ?_⟩) ?_ ?_
                          rotate_left
                          · intro w'
                            go_simp
                            with_reducible rfl
                          rotate_left
                          · simp only [Act.put, List.setIfInBounds_toArray, List.set_cons_zero, List.set_cons_succ, i64_w, i32_w]
                            rfl
                          refine pure_ (i := 7) (N := some 28) (v := ?_) (a' := ?_) #[true, false, true, false, false, false, false, true, false, false] rfl rfl (any_of HT_.out (by kernel_rfl)) (fun _ _ _ h => h) (Or.inl ⟨by rfl, ?_⟩) ?_ ?_
                          rotate_left
                          · intro w'
                            go_simp
                            with_reducible rfl
                          rotate_left
                          · simp only [Act.put, List.setIfInBounds_toArray, List.set_cons_zero, List.set_cons_succ, i64_w, i32_w]
                            rfl
                          refine take_ (i := 1) (N := some 22) (v := ?_) (a' := ?_) #[true, true, true, false, false, false, false, true, false, false] rfl rfl (take_ofW HT_.out HW_.out (by kernel_rfl)) (fun _ _ _ h => h) (Or.inl ⟨by rfl, ?_⟩) hHeld ?_ ?_
                          rotate_left
                          · rintro w' ⟨s0, s1, s2, s3, s4, s5, s6, s7⟩
                            go_simp
                            with_reducible rfl
                          rotate_left
                          · simp only [Act.put, List.setIfInBounds_toArray, List.set_cons_zero, List.set_cons_succ, i64_w, i32_w]
                            rfl
                          refine take_ (i := 3) (N := some 24) (v := ?_) (a' := ?_) #[true, true, true, true, false, false, false, true, false, false] rfl rfl (take_ofW HT_.out HW_.out (by kernel_rfl)) (fun _ _ _ h => h) (Or.inl ⟨by rfl, ?_⟩) hHeld ?_ ?_
                          rotate_left
                          · rintro w' ⟨s0, s1, s2, s3, s4, s5, s6, s7⟩
                            go_simp
                            with_reducible rfl
                          rotate_left
                          · simp only [Act.put, List.setIfInBounds_toArray, List.set_cons_zero, List.set_cons_succ, i64_w, i32_w]
                            rfl
                          refine pure_ (i := 4) (N := some 25) (v := ?_) (a' := ?_) #[true, true, true, true, true, false, false, true, false, false] rfl rfl (any_of HT_.out (by kernel_rfl)) (fun _ _ _ h => h) (Or.inl ⟨by rfl, ?_⟩) ?_ ?_
                          rotate_left
                          · intro w'
                            go_simp
                            with_reducible rfl
                          rotate_left
                          · simp only [Act.put, List.setIfInBounds_toArray, List.set_cons_zero, List.set_cons_succ, i64_w, i32_w]
                            rfl
                          refine take_ (i := 5) (N := some 26) (v := ?_) (a' := ?_) #[true, true, true, true, true, true, false, true, false, false] rfl rfl (take_ofW HT_.out HW_.out (by kernel_rfl)) (fun _ _ _ h => h) (Or.inl ⟨by rfl, ?_⟩) hHeld ?_ ?_
                          rotate_left
                          · rintro w' ⟨s0, s1, s2, s3, s4, s5, s6, s7⟩
                            go_simp
                            with_reducible rfl
                          rotate_left
                          · simp only [Act.put, List.setIfInBounds_toArray, List.set_cons_zero, List.set_cons_succ, i64_w, i32_w]
                            rfl
                          refine take_ (i := 6) (N := some 27) (v := ?_) (a' := ?_) #[true, true, true, true, true, true, true, true, false, false] rfl rfl (take_ofW HT_.out HW_.out (by kernel_rfl)) (fun _ _ _ h => h) (Or.inl ⟨by rfl, ?_⟩) hHeld ?_ ?_
                          rotate_left
                          · rintro w' ⟨s0, s1, s2, s3, s4, s5, s6, s7⟩
                            go_simp
                            with_reducible rfl
                          rotate_left
                          · simp only [Act.put, List.setIfInBounds_toArray, List.set_cons_zero, List.set_cons_succ, i64_w, i32_w]
                            rfl
                          refine one_ (i := 8) (N := some 29) #[true, true, true, true, true, true, true, true, true, false] rfl rfl (one_of HT_.out (by kernel_rfl)) (by decide) (fun K hK => ?_)
                          refine goes_ Try.func117 (by kernel_rfl) rfl #[.agg #[.slice (some ad568) l0_0.length c0_0, .int .i64 a0_1, .slice (some ad570) l0_2.length c0_2], .int .i64 x16_1] (by rfl) rfl rfl (by (try simp only [List.map_toArray, List.map_cons, List.map_nil]); first | done | rfl | (simp only [List.length_drop, List.length_take]; rfl)) ?_
                          with_reducible refine (impl_tunedBy.calls k1 _ _ l0_0 a0_1 _ _ l0_2 x16_1 t571 _ ?side1 ?side2 ?side3 ?side4 A18.out).mono ?_
                          (case side1 => exact oc_ HR0_0.out)
                          (case side2 => exact HC0_0.out)
                          (case side3 => exact oc_ HR0_2.out)
                          (case side4 => exact HC0_2.out)
                          rintro e w32 ⟨rfl, hb⟩
                          refine ⟨_, rfl, ?_⟩
                          have n0_ := Aside0.mk (Kd.R_below (oR HO_3) hb)
                          have n1_ := Aside0.mk (blk_below (g := gb559) (o := .cells #[.slice (some ad568) l0_0.length c0_0, .int .i64 a0_1, .slice (some ad570) l0_2.length c0_2] 33 (0, 0)) (oK BK559) hb)
                          have n2_ := Aside0.mk (blk_below (g := gb569) (o := .cells #[.int .i64 ((rd_T96 y564 x16_1).f0), .int .i64 ((rd_T96 y564 x16_1).f1), .int .i64 ((rd_T96 y564 x16_1).f2), .int .i64 ((rd_T96 y564 x16_1).f3)] 96 (0, 0)) (oK BK569) hb)
                          have n3_ := Aside0.mk (below_step (oB HB) hb)
                          clear HO_3
                          clear BK559
                          clear BK569
                          clear HB
                          have HO_3 := n0_
                          have BK559 := n1_
                          have BK569 := n2_
                          have HB := n3_
                          clear n0_ n1_ n2_ n3_
                          (try clear hb)
                          (try clear hb2)
                          (try clear hk)
                          (try clear hi)
                          refine hK.out _ _ ⟨(blk_cell BK559.out 0).trans rfl, (blk_cell BK559.out 1).trans rfl, (blk_cell BK559.out 2).trans rfl, (blk_cell BK569.out 0).trans rfl, (blk_cell BK569.out 1).trans rfl, (blk_cell BK569.out 2).trans rfl, (blk_cell BK569.out 3).trans rfl, ((HB.out.cell (World.block_lt_of_cell? w _ hw570_0)).trans hw570_0)⟩ (fun hHeld => ?_)
                          clear hK K
                          refine norm_ (a' := ?_) ?_ ?_
                          rotate_left
                          · show Act.put _ (some 29) _ = _
                            simp only [Act.put, List.setIfInBounds_toArray, List.set_cons_zero, List.set_cons_succ, i64_w, i32_w]
                            rfl
                          refine pure_ (i := 9) (N := some 30) (v := ?_) (a' := ?_) #[true, true, true, true, true, true, true, true, true, true] rfl rfl (any_of HT_.out (by kernel_rfl)) (fun _ _ _ h => h) (Or.inl ⟨by rfl, ?_⟩) ?_ ?_
                          rotate_left
                          · intro w'
                            go_simp
                            with_reducible rfl
                          rotate_left
                          · simp only [Act.put, List.setIfInBounds_toArray, List.set_cons_zero, List.set_cons_succ, i64_w, i32_w]
                            rfl
                          refine done_ (done_of HT_.out (by kernel_rfl)) ?_
                          try go_wp2_with (first | ((with_reducible refine gate_builtin (b := .append) (xs := #[.tmp 31, .tmp 33]) rfl ?_); at_builtin; refine Kd.R_append (Kd.int .i64) (w0 := w) w.heap.size rfl (.tmp 31) (.tmp 33) 23 3 (.int .i64 0) 8 rfl Try.underlying23 info3 rfl (by decide) (by omega) u3 x3_1 x16_1 [.int .i64 x16_1] (fun _ => True) (fun _ => False) rfl rfl ?aP (fun _ hk => hk.elim) ?aF ?aO ?aB ?aS ?aL ?_; (case aP => exact rfl); (case aB => exact (oB HB)); (case aF => exact (fun _ _ => trivial)); (case aO => exact (oR HO_3)); (case aS => exact (below_size (oB HB))); (case aL => have := LMc26.out; omega); intro v573 w33 ho hb hg hat; rw [← Ny572.out] at ho; have n0_ := Aside0.mk (blk_grown (g := gb559) (o := .cells #[.slice (some ad568) l0_0.length c0_0, .int .i64 a0_1, .slice (some ad570) l0_2.length c0_2] 33 (0, 0)) (oK BK559) hg (Kd.R_ne HO_3.out BK559.out (by decide))); have n1_ := Aside0.mk (blk_grown (g := gb569) (o := .cells #[.int .i64 ((rd_T96 y564 x16_1).f0), .int .i64 ((rd_T96 y564 x16_1).f1), .int .i64 ((rd_T96 y564 x16_1).f2), .int .i64 ((rd_T96 y564 x16_1).f3)] 96 (0, 0)) (oK BK569) hg (Kd.R_ne HO_3.out BK569.out (by decide))); have n2_ := Aside0.mk (hb); have n3_ := Aside0.mk (ho); clear BK559; clear BK569; clear HB; clear HO_3; have BK559 := n0_; have BK569 := n1_; have HB := n2_; have HO574 := n3_; clear n0_ n1_ n2_ n3_; clear ho hb hg hat))
                          go_roundg k1
                          case measure => have := HK1.out; omega
                          case rel => exact ⟨(y572), (wrap64 (x16_1 + 1)), (by first | rfl | (simp; done) | (simp [*]; done)), H', ⟨by have := HK1.out; omega⟩, ⟨oR HO574⟩, ⟨oK BK559⟩, ⟨oB HB⟩⟩
                        · rw [if_neg c26] at H
                          exact absurd H (by simp)
                    · rw [if_neg c17] at H
                      exact absurd H (by simp)
                  · rw [if_neg c16] at H
                    exact absurd H (by simp)
                · rw [if_neg c15] at H
                  exact absurd H (by simp)
              · rw [if_neg c14] at H
                exact absurd H (by simp)
            · rw [if_neg c13] at H
              have c13b0 : decide (x16_1 < (y564.length : Int)) = false := decide_eq_false c13
              clear c13
              obtain rfl := Option.some.inj H
              go_wp2
              go_ret
              exact ⟨_, by first | rfl | (simp [errW_none, errW_some] <;> rfl) | (simp [*, errW_none, errW_some] <;> rfl), oR HO_3, oB HB⟩
      · rw [if_neg c5] at H
        exact absurd H (by simp)
    · rw [if_neg c4] at H
      exact absurd H (by simp)
  · replace c3 := Bool.eq_false_iff.mpr c3
    subst c3
    rw [if_neg (show ¬ (false = true) by decide)] at H
    obtain rfl := Option.some.inj H
    go_enter Try.func80, Try.ntmps80
    go_wp2_with (first | ((with_reducible refine gate_dst (N := 1) rfl ?_); refine box_event ?hg (N := 1) ?hd (cs := #[.slice A0_0 l0_0.length c0_0, .int .i64 a0_1, .slice A0_2 l0_2.length c0_2]) (t := 33) ?hr ?_; (case hd => rfl); (case hg => rfl); (case hr => first | (go_simp; done) | (go_simp; rfl)); intro gb559 hg w34 hbox hb; have n0_ := Aside0.mk (below_step (oB HB) hb); have n1_ := Aside0.mk (hbox); have n2_ := Aside0.mk ((by rw [hg]; exact (below_size (oB HB)) : w.heap.size ≤ gb559)); have n3_ := Aside0.mk ((by rw [hg]; exact (below_size (oB HB)) : w.heap.size ≤ gb559)); clear HB; have HB := n0_; have BK559 := n1_; have GW559 := n2_; have GE559 := n3_; clear n0_ n1_ n2_ n3_; clear hb hbox hg; have hcz35_0 : w34.cell? ⟨gb559, 0, none⟩ = some (.slice A0_0 l0_0.length c0_0) := (blk_cell BK559.out 0).trans rfl; have hcz35_1 : w34.cell? ⟨gb559, 1, none⟩ = some (.int .i64 a0_1) := (blk_cell BK559.out 1).trans rfl; have hcz35_2 : w34.cell? ⟨gb559, 2, none⟩ = some (.slice A0_2 l0_2.length c0_2) := (blk_cell BK559.out 2).trans rfl; have hfz35_0 := blk_frozen BK559.out 0; have hfz35_1 := blk_frozen BK559.out 1; have hfz35_2 := blk_frozen BK559.out 2) | ((with_reducible refine gate_callee (f := 64) rfl ?_); refine goesL_ (some 7) rfl rfl Try.func64 (by kernel_rfl) rfl #[.agg #[.slice A0_0 l0_0.length c0_0, .int .i64 a0_1, .slice A0_2 l0_2.length c0_2]] rfl (by (try simp only [List.map_toArray, List.map_cons, List.map_nil]); first | done | rfl | (simp only [List.length_drop, List.length_take]; rfl)) ?_; (with_reducible refine (impl_WorkOk.calls _ _ l0_0 a0_1 _ _ l0_2 false _ ?side1 ?side2 ?side3 ?side4 A2.out).mono ?_); (case side1 => exact oc_ HR0_0.out); (case side2 => exact HC0_0.out); (case side3 => exact oc_ HR0_2.out); (case side4 => exact HC0_2.out); rintro e w36 ⟨rfl, hb⟩; refine ⟨_, rfl, ?_⟩; have n0_ := Aside0.mk (blk_below (g := gb559) (o := .cells #[.slice A0_0 l0_0.length c0_0, .int .i64 a0_1, .slice A0_2 l0_2.length c0_2] 33 (0, 0)) (oK BK559) hb); have n1_ := Aside0.mk (below_step (oB HB) hb); clear BK559; clear HB; have BK559 := n0_; have HB := n1_; clear n0_ n1_; (try clear hb); (try clear hb2); (try clear hk); (try clear hi)))
    go_ret
    exact ⟨_, by first | rfl | (simp [errW_none, errW_some] <;> rfl) | (simp [*, errW_none, errW_some] <;> rfl), by first | exact Kd.R_nil _ _ _ _ _ | exact Kd.N_nil _ _ _ _ _ | exact Kd.V_nil _ _ _ _ _ | exact Kd.Q_nil _ _ _ _ _ | exact Kd.S_nil _ _ _ _ _, oB HB⟩
end Go.Proofs.Ytbkkpllejgedcaa.P


namespace Go.Proofs.Ytbkkpllejgedcaa.P
open Go.RowKit Go.Proofs.YtbkkpllejgedcaaW.PrintWords Go.Proofs.YtbkkpllejgedcaaW.PrintLast Go.Proofs.YtbkkpllejgedcaaW.PrintMore
attribute [local go_sem] max2_int min2_int max_two min_two max_three min_three max_four min_four
set_option linter.unusedVariables false
set_option linter.unusedSimpArgs false
def impl_StepsLeft.f (k : Nat) (l0_0 : List (S96)) (a0_1 : Int) (l0_2 : List Int) (a0_3 : Int) (a0_4 : Int) (l0_5 : List (S74)) : Option (Int) := (impl_ShopOk.f k l0_0 a0_1 l0_2 a0_3 a0_4 l0_5).bind fun t576 => (if t576 = true then ((impl_WrongSteps.f k l0_0 a0_1 l0_2).bind fun t577 => (some (wrap64 ((wrap64 ((l0_0.length : Int) - a0_1)) + (t577.length : Int))))) else (some 0))
def impl_StepsLeft.T3 : Bool × List (List Nat × List Nat) := (true, [([], []), ([0], [0]), ([1], [1]), ([2], [2]), ([], []), ([4], [4]), ([5], [5]), ([3, 6], [3, 6]), ([], []), ([8], [8]), ([9], [9]), ([10], [10]), ([7, 11], [7, 11]), ([12, 10, 0, 1, 2, 3, 4, 5, 6, 7, 8, 9, 10, 11, 12], [12])])
def impl_StepsLeft.B3 : List Nat := [0, 1, 3, 7, 0, 16, 48, 127, 0, 256, 768, 1792, 4095, 8191]
theorem impl_StepsLeft.tab3 : rtab .any (opsOf Try.f31 3) = impl_StepsLeft.T3 := by kernel_rfl
theorem impl_StepsLeft.bits3 : waitsOk impl_StepsLeft.T3.2 impl_StepsLeft.B3 = true := by kernel_rfl
set_option maxHeartbeats 8000000 in
set_option maxRecDepth 100000 in
theorem impl_StepsLeft.calls (k : Nat) (A0_0 : Option Addr) (c0_0 : Nat) (l0_0 : List (S96)) (a0_1 : Int) (A0_2 : Option Addr) (c0_2 : Nat) (l0_2 : List Int) (a0_3 : Int) (a0_4 : Int) (A0_5 : Option Addr) (c0_5 : Nat) (l0_5 : List (S74)) (r : Int) (w : World) (hr0_0 : Kd.C k96 w A0_0 l0_0.length l0_0) (hc0_0 : l0_0.length ≤ c0_0) (hr0_2 : Kd.C (Kd.int .i64) w A0_2 l0_2.length l0_2) (hc0_2 : l0_2.length ≤ c0_2) (hr0_5 : Kd.C k74 w A0_5 l0_5.length l0_5) (hc0_5 : l0_5.length ≤ c0_5) (h : impl_StepsLeft.f k l0_0 a0_1 l0_2 a0_3 a0_4 l0_5 = some r) :
    Calls Try.prog 31 #[.agg #[.slice A0_0 l0_0.length c0_0, .int .i64 a0_1, .slice A0_2 l0_2.length c0_2, .int .i64 a0_3, .int .i64 a0_4, .slice A0_5 l0_5.length c0_5]] w fun e w' => e = .returned (.int .i64 r) ∧ Below w.heap.size w w' := by
  have hu36 := Try.underlying36
  have hu33 := Try.underlying33
  have HR0_0 := Aside0.mk hr0_0
  have HC0_0 := Aside0.mk hc0_0
  clear hr0_0 hc0_0
  have HR0_2 := Aside0.mk hr0_2
  have HC0_2 := Aside0.mk hc0_2
  clear hr0_2 hc0_2
  have HR0_5 := Aside0.mk hr0_5
  have HC0_5 := Aside0.mk hc0_5
  clear hr0_5 hc0_5
  have HB := Aside0.mk (Below.refl w.heap.size w)
  have H : ((impl_ShopOk.f k l0_0 a0_1 l0_2 a0_3 a0_4 l0_5).bind fun t576 => (if t576 = true then ((impl_WrongSteps.f k l0_0 a0_1 l0_2).bind fun t577 => (some (wrap64 ((wrap64 ((l0_0.length : Int) - a0_1)) + (t577.length : Int))))) else (some 0))) = some r := h
  clear h
  replace H := Option.bind_eq_some_iff.mp H
  obtain ⟨t576, A20, H⟩ := H
  (try dsimp only at H)
  have A2 := Aside0.mk A20
  clear A20
  by_cases c3 : t576 = true
  · subst c3
    rw [if_pos rfl] at H
    replace H := Option.bind_eq_some_iff.mp H
    obtain ⟨t577, A40, H⟩ := H
    (try dsimp only at H)
    have A4 := Aside0.mk A40
    clear A40
    obtain rfl := Option.some.inj H
    go_enter Try.func31, Try.ntmps31
    try go_wp2_with (first | ((with_reducible refine gate_dst (N := 1) rfl ?_); refine box_event ?hg (N := 1) ?hd (cs := #[.slice A0_0 l0_0.length c0_0, .int .i64 a0_1, .slice A0_2 l0_2.length c0_2, .int .i64 a0_3, .int .i64 a0_4, .slice A0_5 l0_5.length c0_5]) (t := 36) ?hr ?_; (case hd => rfl); (case hg => rfl); (case hr => first | (go_simp; done) | (go_simp; rfl)); intro gb575 hg w5 hbox hb; have n0_ := Aside0.mk (below_step (oB HB) hb); have n1_ := Aside0.mk (hbox); have n2_ := Aside0.mk ((by rw [hg]; exact (below_size (oB HB)) : w.heap.size ≤ gb575)); have n3_ := Aside0.mk ((by rw [hg]; exact (below_size (oB HB)) : w.heap.size ≤ gb575)); clear HB; have HB := n0_; have BK575 := n1_; have GW575 := n2_; have GE575 := n3_; clear n0_ n1_ n2_ n3_; clear hb hbox hg; have hcz6_0 : w5.cell? ⟨gb575, 0, none⟩ = some (.slice A0_0 l0_0.length c0_0) := (blk_cell BK575.out 0).trans rfl; have hcz6_1 : w5.cell? ⟨gb575, 1, none⟩ = some (.int .i64 a0_1) := (blk_cell BK575.out 1).trans rfl; have hcz6_2 : w5.cell? ⟨gb575, 2, none⟩ = some (.slice A0_2 l0_2.length c0_2) := (blk_cell BK575.out 2).trans rfl; have hcz6_3 : w5.cell? ⟨gb575, 3, none⟩ = some (.int .i64 a0_3) := (blk_cell BK575.out 3).trans rfl; have hcz6_4 : w5.cell? ⟨gb575, 4, none⟩ = some (.int .i64 a0_4) := (blk_cell BK575.out 4).trans rfl; have hcz6_5 : w5.cell? ⟨gb575, 5, none⟩ = some (.slice A0_5 l0_5.length c0_5) := (blk_cell BK575.out 5).trans rfl; have hfz6_0 := blk_frozen BK575.out 0; have hfz6_1 := blk_frozen BK575.out 1; have hfz6_2 := blk_frozen BK575.out 2; have hfz6_3 := blk_frozen BK575.out 3; have hfz6_4 := blk_frozen BK575.out 4; have hfz6_5 := blk_frozen BK575.out 5) | ((with_reducible refine gate_callee (f := 18) rfl ?_); refine goesL_ (some 4) rfl rfl Try.func18 (by kernel_rfl) rfl #[.agg #[.slice A0_0 l0_0.length c0_0, .int .i64 a0_1, .slice A0_2 l0_2.length c0_2, .int .i64 a0_3, .int .i64 a0_4, .slice A0_5 l0_5.length c0_5]] rfl (by (try simp only [List.map_toArray, List.map_cons, List.map_nil]); first | done | rfl | (simp only [List.length_drop, List.length_take]; rfl)) ?_; (with_reducible refine (impl_ShopOk.calls k _ _ l0_0 a0_1 _ _ l0_2 a0_3 a0_4 _ _ l0_5 true _ ?side1 ?side2 ?side3 ?side4 ?side5 ?side6 A2.out).mono ?_); (case side1 => exact oc_ HR0_0.out); (case side2 => exact HC0_0.out); (case side3 => exact oc_ HR0_2.out); (case side4 => exact HC0_2.out); (case side5 => exact oc_ HR0_5.out); (case side6 => exact HC0_5.out); rintro e w7 ⟨rfl, hb⟩; refine ⟨_, rfl, ?_⟩; have n0_ := Aside0.mk (blk_below (g := gb575) (o := .cells #[.slice A0_0 l0_0.length c0_0, .int .i64 a0_1, .slice A0_2 l0_2.length c0_2, .int .i64 a0_3, .int .i64 a0_4, .slice A0_5 l0_5.length c0_5] 36 (0, 0)) (oK BK575) hb); have n1_ := Aside0.mk (below_step (oB HB) hb); clear BK575; clear HB; have BK575 := n0_; have HB := n1_; clear n0_ n1_; (try clear hb); (try clear hb2); (try clear hk); (try clear hi)))
    have n0_ := Aside0.mk (blk_drew BK575.out)
    have n1_ := Aside0.mk (below_drew1 HB.out)
    clear BK575
    clear HB
    have BK575 := n0_
    have HB := n1_
    clear n0_ n1_
    refine start_ (n := 14) (S := fun w' => w'.cell? ⟨gb575, 0, none⟩ = some (.slice A0_0 l0_0.length c0_0) ∧ w'.cell? ⟨gb575, 1, none⟩ = some (.int .i64 a0_1) ∧ w'.cell? ⟨gb575, 2, none⟩ = some (.slice A0_2 l0_2.length c0_2) ∧ w'.cell? ⟨gb575, 3, none⟩ = some (.int .i64 a0_3) ∧ w'.cell? ⟨gb575, 4, none⟩ = some (.int .i64 a0_4) ∧ w'.cell? ⟨gb575, 5, none⟩ = some (.slice A0_5 l0_5.length c0_5)) (ds := []) #[false, false, false, false, false, false, false, false, false, false, false, false, false, false] (by kernel_rfl) rfl rfl ⟨(blk_cell BK575.out 0).trans rfl, (blk_cell BK575.out 1).trans rfl, (blk_cell BK575.out 2).trans rfl, (blk_cell BK575.out 3).trans rfl, (blk_cell BK575.out 4).trans rfl, (blk_cell BK575.out 5).trans rfl⟩ (fun hHeld => ?_); refine with_tabW impl_StepsLeft.tab3 impl_StepsLeft.bits3 (fun HT_ HW_ => ?_)
    generalize w7.drew = w8 at BK575 HB hHeld ⊢
    refine pure_ (i := 0) (N := some 6) (v := ?_) (a' := ?_) #[true, false, false, false, false, false, false, false, false, false, false, false, false, false] rfl rfl (any_of HT_.out (by kernel_rfl)) (fun _ _ _ h => h) (Or.inl ⟨by rfl, ?_⟩) ?_ ?_
    rotate_left
    · intro w'
      go_simp
      with_reducible rfl
    rotate_left
    · simp only [Act.put, List.setIfInBounds_toArray, List.set_cons_zero, List.set_cons_succ, i64_w, i32_w]
      rfl
    refine pure_ (i := 1) (N := some 7) (v := ?_) (a' := ?_) #[true, true, false, false, false, false, false, false, false, false, false, false, false, false] rfl rfl (any_of HT_.out (by kernel_rfl)) (fun _ _ _ h => h) (Or.inl ⟨by rfl, ?_⟩) ?_ ?_
    rotate_left
    · intro w'
      go_simp
      with_reducible rfl
    rotate_left
    · simp only [Act.put, List.setIfInBounds_toArray, List.set_cons_zero, List.set_cons_succ, i64_w, i32_w]
      rfl
    refine pure_ (i := 4) (N := some 10) (v := ?_) (a' := ?_) #[true, true, false, false, true, false, false, false, false, false, false, false, false, false] rfl rfl (any_of HT_.out (by kernel_rfl)) (fun _ _ _ h => h) (Or.inl ⟨by rfl, ?_⟩) ?_ ?_
    rotate_left
    · intro w'
      go_simp
      with_reducible rfl
    rotate_left
    · simp only [Act.put, List.setIfInBounds_toArray, List.set_cons_zero, List.set_cons_succ, i64_w, i32_w]
      rfl
    refine pure_ (i := 5) (N := some 11) (v := ?_) (a' := ?_) #[true, true, false, false, true, true, false, false, false, false, false, false, false, false] rfl rfl (any_of HT_.out (by kernel_rfl)) (fun _ _ _ h => h) (Or.inl ⟨by rfl, ?_⟩) ?_ ?_
    rotate_left
    · intro w'
      go_simp
      with_reducible rfl
    rotate_left
    · simp only [Act.put, List.setIfInBounds_toArray, List.set_cons_zero, List.set_cons_succ, i64_w, i32_w]
      rfl
    refine pure_ (i := 8) (N := some 14) (v := ?_) (a' := ?_) #[true, true, false, false, true, true, false, false, true, false, false, false, false, false] rfl rfl (any_of HT_.out (by kernel_rfl)) (fun _ _ _ h => h) (Or.inl ⟨by rfl, ?_⟩) ?_ ?_
    rotate_left
    · intro w'
      go_simp
      with_reducible rfl
    rotate_left
    · simp only [Act.put, List.setIfInBounds_toArray, List.set_cons_zero, List.set_cons_succ, i64_w, i32_w]
      rfl
    refine take_ (i := 2) (N := some 8) (v := ?_) (a' := ?_) #[true, true, true, false, true, true, false, false, true, false, false, false, false, false] rfl rfl (take_ofW HT_.out HW_.out (by kernel_rfl)) (fun _ _ _ h => h) (Or.inl ⟨by rfl, ?_⟩) hHeld ?_ ?_
    rotate_left
    · rintro w' ⟨s0, s1, s2, s3, s4, s5⟩
      go_simp
      with_reducible rfl
    rotate_left
    · simp only [Act.put, List.setIfInBounds_toArray, List.set_cons_zero, List.set_cons_succ, i64_w, i32_w]
      rfl
    refine pure_ (i := 3) (N := some 9) (v := ?_) (a' := ?_) #[true, true, true, true, true, true, false, false, true, false, false, false, false, false] rfl rfl (any_of HT_.out (by kernel_rfl)) (fun _ _ _ h => h) (Or.inl ⟨by rfl, ?_⟩) ?_ ?_
    rotate_left
    · intro w'
      go_simp
      with_reducible rfl
    rotate_left
    · simp only [Act.put, List.setIfInBounds_toArray, List.set_cons_zero, List.set_cons_succ, i64_w, i32_w]
      rfl
    refine take_ (i := 6) (N := some 12) (v := ?_) (a' := ?_) #[true, true, true, true, true, true, true, false, true, false, false, false, false, false] rfl rfl (take_ofW HT_.out HW_.out (by kernel_rfl)) (fun _ _ _ h => h) (Or.inl ⟨by rfl, ?_⟩) hHeld ?_ ?_
    rotate_left
    · rintro w' ⟨s0, s1, s2, s3, s4, s5⟩
      go_simp
      with_reducible rfl
    rotate_left
    · simp only [Act.put, List.setIfInBounds_toArray, List.set_cons_zero, List.set_cons_succ, i64_w, i32_w]
      rfl
    refine pure_ (i := 7) (N := some 13) (v := ?_) (a' := ?_) #[true, true, true, true, true, true, true, true, true, false, false, false, false, false] rfl rfl (any_of HT_.out (by kernel_rfl)) (fun _ _ _ h => h) (Or.inl ⟨by rfl, ?_⟩) ?_ ?_
    rotate_left
    · intro w'
      go_simp
      with_reducible rfl
    rotate_left
    · simp only [Act.put, List.setIfInBounds_toArray, List.set_cons_zero, List.set_cons_succ, i64_w, i32_w]
      rfl
    refine take_ (i := 9) (N := some 15) (v := ?_) (a' := ?_) #[true, true, true, true, true, true, true, true, true, true, false, false, false, false] rfl rfl (take_ofW HT_.out HW_.out (by kernel_rfl)) (fun _ _ _ h => h) (Or.inl ⟨by rfl, ?_⟩) hHeld ?_ ?_
    rotate_left
    · rintro w' ⟨s0, s1, s2, s3, s4, s5⟩
      go_simp
      with_reducible rfl
    rotate_left
    · simp only [Act.put, List.setIfInBounds_toArray, List.set_cons_zero, List.set_cons_succ, i64_w, i32_w]
      rfl
    refine one_ (i := 10) (N := some 16) #[true, true, true, true, true, true, true, true, true, true, true, false, false, false] rfl rfl (one_of HT_.out (by kernel_rfl)) (by decide) (fun K hK => ?_)
    refine goes_ Try.func80 (by kernel_rfl) rfl #[.agg #[.slice A0_0 l0_0.length c0_0, .int .i64 a0_1, .slice A0_2 l0_2.length c0_2]] (by rfl) rfl rfl (by (try simp only [List.map_toArray, List.map_cons, List.map_nil]); first | done | rfl | (simp only [List.length_drop, List.length_take]; rfl)) ?_
    with_reducible refine (impl_WrongSteps.calls k _ _ l0_0 a0_1 _ _ l0_2 t577 _ ?side1 ?side2 ?side3 ?side4 A4.out).mono ?_
    (case side1 => exact oc_ HR0_0.out)
    (case side2 => exact HC0_0.out)
    (case side3 => exact oc_ HR0_2.out)
    (case side4 => exact HC0_2.out)
    rintro e w9 ⟨v578, rfl, ho0, hb⟩
    refine ⟨_, rfl, ?_⟩
    have n0_ := Aside0.mk (Kd.R_lower ho0 (below_size (oB HB)))
    have n1_ := Aside0.mk (blk_below (g := gb575) (o := .cells #[.slice A0_0 l0_0.length c0_0, .int .i64 a0_1, .slice A0_2 l0_2.length c0_2, .int .i64 a0_3, .int .i64 a0_4, .slice A0_5 l0_5.length c0_5] 36 (0, 0)) (oK BK575) hb)
    have n2_ := Aside0.mk (below_step (oB HB) hb)
    clear BK575
    clear HB
    have HO579 := n0_
    have BK575 := n1_
    have HB := n2_
    clear n0_ n1_ n2_
    (try clear hb)
    (try clear hb2)
    (try clear hk)
    (try clear hi)
    (try clear ho0)
    obtain ⟨Ao10, co10, eo10⟩ := Kd.R_slice HO579.out
    (first | subst eo10 | (injection eo10 with f1_ f2_ f3_; have f4_ := f1_.symm; have f5_ := f3_.symm; clear f1_ f2_ f3_; subst f4_; subst f5_))
    refine hK.out _ _ ⟨(blk_cell BK575.out 0).trans rfl, (blk_cell BK575.out 1).trans rfl, (blk_cell BK575.out 2).trans rfl, (blk_cell BK575.out 3).trans rfl, (blk_cell BK575.out 4).trans rfl, (blk_cell BK575.out 5).trans rfl⟩ (fun hHeld => ?_)
    clear hK K
    refine norm_ (a' := ?_) ?_ ?_
    rotate_left
    · show Act.put _ (some 16) _ = _
      simp only [Act.put, List.setIfInBounds_toArray, List.set_cons_zero, List.set_cons_succ, i64_w, i32_w]
      rfl
    refine pure_ (i := 11) (N := some 17) (v := ?_) (a' := ?_) #[true, true, true, true, true, true, true, true, true, true, true, true, false, false] rfl rfl (any_of HT_.out (by kernel_rfl)) (fun _ _ _ h => h) (Or.inl ⟨by rfl, ?_⟩) ?_ ?_
    rotate_left
    · intro w'
      go_simp
      with_reducible rfl
    rotate_left
    · simp only [Act.put, List.setIfInBounds_toArray, List.set_cons_zero, List.set_cons_succ, i64_w, i32_w]
      rfl
    refine pure_ (i := 12) (N := some 18) (v := ?_) (a' := ?_) #[true, true, true, true, true, true, true, true, true, true, true, true, true, false] rfl rfl (any_of HT_.out (by kernel_rfl)) (fun _ _ _ h => h) (Or.inl ⟨by rfl, ?_⟩) ?_ ?_
    rotate_left
    · intro w'
      go_simp
      with_reducible rfl
    rotate_left
    · simp only [Act.put, List.setIfInBounds_toArray, List.set_cons_zero, List.set_cons_succ, i64_w, i32_w]
      rfl
    refine pure_ (i := 13) (N := some 2) (v := ?_) (a' := ?_) #[true, true, true, true, true, true, true, true, true, true, true, true, true, true] rfl rfl (any_of HT_.out (by kernel_rfl)) (fun _ _ _ h => h) (Or.inl ⟨by rfl, ?_⟩) ?_ ?_
    rotate_left
    · intro w'
      go_simp
      with_reducible rfl
    rotate_left
    · simp only [Act.put, List.setIfInBounds_toArray, List.set_cons_zero, List.set_cons_succ, i64_w, i32_w]
      rfl
    refine done_ (done_of HT_.out (by kernel_rfl)) ?_
    try go_wp2
    go_ret
    exact ⟨by first | rfl | (simp [errW_none, errW_some] <;> rfl) | (simp [*, errW_none, errW_some] <;> rfl), oB HB⟩
  · replace c3 := Bool.eq_false_iff.mpr c3
    subst c3
    rw [if_neg (show ¬ (false = true) by decide)] at H
    obtain rfl := Option.some.inj H
    go_enter Try.func31, Try.ntmps31
    go_wp2_with (first | ((with_reducible refine gate_dst (N := 1) rfl ?_); refine box_event ?hg (N := 1) ?hd (cs := #[.slice A0_0 l0_0.length c0_0, .int .i64 a0_1, .slice A0_2 l0_2.length c0_2, .int .i64 a0_3, .int .i64 a0_4, .slice A0_5 l0_5.length c0_5]) (t := 36) ?hr ?_; (case hd => rfl); (case hg => rfl); (case hr => first | (go_simp; done) | (go_simp; rfl)); intro gb575 hg w11 hbox hb; have n0_ := Aside0.mk (below_step (oB HB) hb); have n1_ := Aside0.mk (hbox); have n2_ := Aside0.mk ((by rw [hg]; exact (below_size (oB HB)) : w.heap.size ≤ gb575)); have n3_ := Aside0.mk ((by rw [hg]; exact (below_size (oB HB)) : w.heap.size ≤ gb575)); clear HB; have HB := n0_; have BK575 := n1_; have GW575 := n2_; have GE575 := n3_; clear n0_ n1_ n2_ n3_; clear hb hbox hg; have hcz12_0 : w11.cell? ⟨gb575, 0, none⟩ = some (.slice A0_0 l0_0.length c0_0) := (blk_cell BK575.out 0).trans rfl; have hcz12_1 : w11.cell? ⟨gb575, 1, none⟩ = some (.int .i64 a0_1) := (blk_cell BK575.out 1).trans rfl; have hcz12_2 : w11.cell? ⟨gb575, 2, none⟩ = some (.slice A0_2 l0_2.length c0_2) := (blk_cell BK575.out 2).trans rfl; have hcz12_3 : w11.cell? ⟨gb575, 3, none⟩ = some (.int .i64 a0_3) := (blk_cell BK575.out 3).trans rfl; have hcz12_4 : w11.cell? ⟨gb575, 4, none⟩ = some (.int .i64 a0_4) := (blk_cell BK575.out 4).trans rfl; have hcz12_5 : w11.cell? ⟨gb575, 5, none⟩ = some (.slice A0_5 l0_5.length c0_5) := (blk_cell BK575.out 5).trans rfl; have hfz12_0 := blk_frozen BK575.out 0; have hfz12_1 := blk_frozen BK575.out 1; have hfz12_2 := blk_frozen BK575.out 2; have hfz12_3 := blk_frozen BK575.out 3; have hfz12_4 := blk_frozen BK575.out 4; have hfz12_5 := blk_frozen BK575.out 5) | ((with_reducible refine gate_callee (f := 18) rfl ?_); refine goesL_ (some 4) rfl rfl Try.func18 (by kernel_rfl) rfl #[.agg #[.slice A0_0 l0_0.length c0_0, .int .i64 a0_1, .slice A0_2 l0_2.length c0_2, .int .i64 a0_3, .int .i64 a0_4, .slice A0_5 l0_5.length c0_5]] rfl (by (try simp only [List.map_toArray, List.map_cons, List.map_nil]); first | done | rfl | (simp only [List.length_drop, List.length_take]; rfl)) ?_; (with_reducible refine (impl_ShopOk.calls k _ _ l0_0 a0_1 _ _ l0_2 a0_3 a0_4 _ _ l0_5 false _ ?side1 ?side2 ?side3 ?side4 ?side5 ?side6 A2.out).mono ?_); (case side1 => exact oc_ HR0_0.out); (case side2 => exact HC0_0.out); (case side3 => exact oc_ HR0_2.out); (case side4 => exact HC0_2.out); (case side5 => exact oc_ HR0_5.out); (case side6 => exact HC0_5.out); rintro e w13 ⟨rfl, hb⟩; refine ⟨_, rfl, ?_⟩; have n0_ := Aside0.mk (blk_below (g := gb575) (o := .cells #[.slice A0_0 l0_0.length c0_0, .int .i64 a0_1, .slice A0_2 l0_2.length c0_2, .int .i64 a0_3, .int .i64 a0_4, .slice A0_5 l0_5.length c0_5] 36 (0, 0)) (oK BK575) hb); have n1_ := Aside0.mk (below_step (oB HB) hb); clear BK575; clear HB; have BK575 := n0_; have HB := n1_; clear n0_ n1_; (try clear hb); (try clear hb2); (try clear hk); (try clear hi)))
    go_ret
    exact ⟨by first | rfl | (simp [errW_none, errW_some] <;> rfl) | (simp [*, errW_none, errW_some] <;> rfl), oB HB⟩
end Go.Proofs.Ytbkkpllejgedcaa.P


namespace Go.Proofs.Ytbkkpllejgedcaa.P
open Go.RowKit Go.Proofs.YtbkkpllejgedcaaW.PrintWords Go.Proofs.YtbkkpllejgedcaaW.PrintLast Go.Proofs.YtbkkpllejgedcaaW.PrintMore
attribute [local go_sem] max2_int min2_int max_two min_two max_three min_three max_four min_four
set_option linter.unusedVariables false
set_option linter.unusedSimpArgs false
def laws_FnExactStepsLeft.f (k : Nat) (l0_0 : List (S98)) (a0_1 : Int) (l0_2 : List Int) (a0_3 : Int) (a0_4 : Int) (l0_5 : List (S68)) : Option (Bool) := (laws_szShop.f l0_0 a0_1 l0_2 a0_3 a0_4 l0_5 1048576).bind fun t581 => (if t581 < 0 then (some true) else ((laws_toShop.f k l0_0 a0_1 l0_2 a0_3 a0_4 l0_5).bind fun bt582 => ((spec_StepsLeft.f k bt582.1 bt582.2.1 bt582.2.2.1 bt582.2.2.2.1 bt582.2.2.2.2.1 bt582.2.2.2.2.2).bind fun t594 => ((laws_toShop.f k l0_0 a0_1 l0_2 a0_3 a0_4 l0_5).bind fun bt595 => ((impl_StepsLeft.f k bt595.1 bt595.2.1 bt595.2.2.1 bt595.2.2.2.1 bt595.2.2.2.2.1 bt595.2.2.2.2.2).bind fun t608 => (if t608 = t594 then ((laws_toShop.f k l0_0 a0_1 l0_2 a0_3 a0_4 l0_5).bind fun bt609 => ((laws_eqShop.f k bt595.1 bt595.2.1 bt595.2.2.1 bt595.2.2.2.1 bt595.2.2.2.2.1 bt595.2.2.2.2.2 bt609.1 bt609.2.1 bt609.2.2.1 bt609.2.2.2.1 bt609.2.2.2.2.1 bt609.2.2.2.2.2).bind fun t621 => (if t621 = true then (some true) else (some false)))) else (some false)))))))
set_option maxHeartbeats 8000000 in
set_option maxRecDepth 100000 in
theorem laws_FnExactStepsLeft.calls (k : Nat) (A0_0 : Option Addr) (c0_0 : Nat) (l0_0 : List (S98)) (a0_1 : Int) (A0_2 : Option Addr) (c0_2 : Nat) (l0_2 : List Int) (a0_3 : Int) (a0_4 : Int) (A0_5 : Option Addr) (c0_5 : Nat) (l0_5 : List (S68)) (r : Bool) (w : World) (hr0_0 : Kd.C k98 w A0_0 l0_0.length l0_0) (hc0_0 : l0_0.length ≤ c0_0) (hr0_2 : Kd.C (Kd.int .i64) w A0_2 l0_2.length l0_2) (hc0_2 : l0_2.length ≤ c0_2) (hr0_5 : Kd.C k68 w A0_5 l0_5.length l0_5) (hc0_5 : l0_5.length ≤ c0_5) (h : laws_FnExactStepsLeft.f k l0_0 a0_1 l0_2 a0_3 a0_4 l0_5 = some r) (hrt_ : Aside0 (r = true)) :
    Calls Try.prog 6 #[.agg #[.slice A0_0 l0_0.length c0_0, .int .i64 a0_1, .slice A0_2 l0_2.length c0_2, .int .i64 a0_3, .int .i64 a0_4, .slice A0_5 l0_5.length c0_5]] w fun e w' => e = .returned (.bool r) ∧ Below w.heap.size w w' := by
  have hu28 := Try.underlying28
  have hu36 := Try.underlying36
  have HR0_0 := Aside0.mk hr0_0
  have HC0_0 := Aside0.mk hc0_0
  clear hr0_0 hc0_0
  have HR0_2 := Aside0.mk hr0_2
  have HC0_2 := Aside0.mk hc0_2
  clear hr0_2 hc0_2
  have HR0_5 := Aside0.mk hr0_5
  have HC0_5 := Aside0.mk hc0_5
  clear hr0_5 hc0_5
  have HB := Aside0.mk (Below.refl w.heap.size w)
  have H : ((laws_szShop.f l0_0 a0_1 l0_2 a0_3 a0_4 l0_5 1048576).bind fun t581 => (if t581 < 0 then (some true) else ((laws_toShop.f k l0_0 a0_1 l0_2 a0_3 a0_4 l0_5).bind fun bt582 => ((spec_StepsLeft.f k bt582.1 bt582.2.1 bt582.2.2.1 bt582.2.2.2.1 bt582.2.2.2.2.1 bt582.2.2.2.2.2).bind fun t594 => ((laws_toShop.f k l0_0 a0_1 l0_2 a0_3 a0_4 l0_5).bind fun bt595 => ((impl_StepsLeft.f k bt595.1 bt595.2.1 bt595.2.2.1 bt595.2.2.2.1 bt595.2.2.2.2.1 bt595.2.2.2.2.2).bind fun t608 => (if t608 = t594 then ((laws_toShop.f k l0_0 a0_1 l0_2 a0_3 a0_4 l0_5).bind fun bt609 => ((laws_eqShop.f k bt595.1 bt595.2.1 bt595.2.2.1 bt595.2.2.2.1 bt595.2.2.2.2.1 bt595.2.2.2.2.2 bt609.1 bt609.2.1 bt609.2.2.1 bt609.2.2.2.1 bt609.2.2.2.2.1 bt609.2.2.2.2.2).bind fun t621 => (if t621 = true then (some true) else (some false)))) else (some false)))))))) = some r := h
  clear h
  replace H := Option.bind_eq_some_iff.mp H
  obtain ⟨t581, A20, H⟩ := H
  (try dsimp only at H)
  have A2 := Aside0.mk A20
  clear A20
  by_cases c3 : t581 < 0
  · rw [if_pos c3] at H
    have c3b0 : decide (t581 < 0) = true := decide_eq_true c3
    clear c3
    obtain rfl := Option.some.inj H
    go_enter Try.func6, Try.ntmps6
    go_wp2_with (first | ((with_reducible refine gate_dst (N := 1) rfl ?_); refine box_event ?hg (N := 1) ?hd (cs := #[.slice A0_0 l0_0.length c0_0, .int .i64 a0_1, .slice A0_2 l0_2.length c0_2, .int .i64 a0_3, .int .i64 a0_4, .slice A0_5 l0_5.length c0_5]) (t := 28) ?hr ?_; (case hd => rfl); (case hg => rfl); (case hr => first | (go_simp; done) | (go_simp; rfl)); intro gb580 hg w4 hbox hb; have n0_ := Aside0.mk (below_step (oB HB) hb); have n1_ := Aside0.mk (hbox); have n2_ := Aside0.mk ((by rw [hg]; exact (below_size (oB HB)) : w.heap.size ≤ gb580)); have n3_ := Aside0.mk ((by rw [hg]; exact (below_size (oB HB)) : w.heap.size ≤ gb580)); clear HB; have HB := n0_; have BK580 := n1_; have GW580 := n2_; have GE580 := n3_; clear n0_ n1_ n2_ n3_; clear hb hbox hg; have hcz5_0 : w4.cell? ⟨gb580, 0, none⟩ = some (.slice A0_0 l0_0.length c0_0) := (blk_cell BK580.out 0).trans rfl; have hcz5_1 : w4.cell? ⟨gb580, 1, none⟩ = some (.int .i64 a0_1) := (blk_cell BK580.out 1).trans rfl; have hcz5_2 : w4.cell? ⟨gb580, 2, none⟩ = some (.slice A0_2 l0_2.length c0_2) := (blk_cell BK580.out 2).trans rfl; have hcz5_3 : w4.cell? ⟨gb580, 3, none⟩ = some (.int .i64 a0_3) := (blk_cell BK580.out 3).trans rfl; have hcz5_4 : w4.cell? ⟨gb580, 4, none⟩ = some (.int .i64 a0_4) := (blk_cell BK580.out 4).trans rfl; have hcz5_5 : w4.cell? ⟨gb580, 5, none⟩ = some (.slice A0_5 l0_5.length c0_5) := (blk_cell BK580.out 5).trans rfl; have hfz5_0 := blk_frozen BK580.out 0; have hfz5_1 := blk_frozen BK580.out 1; have hfz5_2 := blk_frozen BK580.out 2; have hfz5_3 := blk_frozen BK580.out 3; have hfz5_4 := blk_frozen BK580.out 4; have hfz5_5 := blk_frozen BK580.out 5) | ((with_reducible refine gate_callee (f := 15) rfl ?_); refine goesL_ (some 9) rfl rfl Try.func15 (by kernel_rfl) rfl #[.agg #[.slice A0_0 l0_0.length c0_0, .int .i64 a0_1, .slice A0_2 l0_2.length c0_2, .int .i64 a0_3, .int .i64 a0_4, .slice A0_5 l0_5.length c0_5], .int .i64 1048576] rfl (by (try simp only [List.map_toArray, List.map_cons, List.map_nil]); first | done | rfl | (simp only [List.length_drop, List.length_take]; rfl)) ?_; (with_reducible refine (laws_szShop.calls _ _ l0_0 a0_1 _ _ l0_2 a0_3 a0_4 _ _ l0_5 1048576 t581 _ ?side1 ?side2 ?side3 ?side4 ?side5 ?side6 A2.out).mono ?_); (case side1 => exact oc_ HR0_0.out); (case side2 => exact HC0_0.out); (case side3 => exact oc_ HR0_2.out); (case side4 => exact HC0_2.out); (case side5 => exact oc_ HR0_5.out); (case side6 => exact HC0_5.out); rintro e w6 ⟨rfl, hb⟩; refine ⟨_, rfl, ?_⟩; have n0_ := Aside0.mk (blk_below (g := gb580) (o := .cells #[.slice A0_0 l0_0.length c0_0, .int .i64 a0_1, .slice A0_2 l0_2.length c0_2, .int .i64 a0_3, .int .i64 a0_4, .slice A0_5 l0_5.length c0_5] 28 (0, 0)) (oK BK580) hb); have n1_ := Aside0.mk (below_step (oB HB) hb); clear BK580; clear HB; have BK580 := n0_; have HB := n1_; clear n0_ n1_; (try clear hb); (try clear hb2); (try clear hk); (try clear hi)))
    go_ret
    exact ⟨by first | rfl | (simp [errW_none, errW_some] <;> rfl) | (simp [*, errW_none, errW_some] <;> rfl), oB HB⟩
  · rw [if_neg c3] at H
    have c3b0 : decide (t581 < 0) = false := decide_eq_false c3
    clear c3
    replace H := Option.bind_eq_some_iff.mp H
    obtain ⟨⟨t582, t585, t586, t589, t590, t591⟩, A70, H⟩ := H
    (try dsimp only at H)
    have A7 := Aside0.mk A70
    clear A70
    replace H := Option.bind_eq_some_iff.mp H
    obtain ⟨t594, A80, H⟩ := H
    (try dsimp only at H)
    have A8 := Aside0.mk A80
    clear A80
    replace H := Option.bind_eq_some_iff.mp H
    obtain ⟨⟨t595, t598, t599, t602, t603, t604⟩, A90, H⟩ := H
    (try dsimp only at H)
    have A9 := Aside0.mk A90
    clear A90
    replace H := Option.bind_eq_some_iff.mp H
    obtain ⟨t608, A100, H⟩ := H
    (try dsimp only at H)
    have A10 := Aside0.mk A100
    clear A100
    by_cases c11 : t608 = t594
    · rw [if_pos c11] at H
      have c11b0 : (t608 == t594) = true := beq_iff_eq.mpr c11
      have c11b1 : (t608 != t594) = false := bne_eq_false_iff_eq.mpr c11
      clear c11
      replace H := Option.bind_eq_some_iff.mp H
      obtain ⟨⟨t609, t612, t613, t616, t617, t618⟩, A120, H⟩ := H
      (try dsimp only at H)
      have A12 := Aside0.mk A120
      clear A120
      replace H := Option.bind_eq_some_iff.mp H
      obtain ⟨t621, A130, H⟩ := H
      (try dsimp only at H)
      have A13 := Aside0.mk A130
      clear A130
      by_cases c14 : t621 = true
      · subst c14
        rw [if_pos rfl] at H
        obtain rfl := Option.some.inj H
        go_enter Try.func6, Try.ntmps6
        try go_wp2_with (first | ((with_reducible refine gate_dst (N := 1) rfl ?_); refine box_event ?hg (N := 1) ?hd (cs := #[.slice A0_0 l0_0.length c0_0, .int .i64 a0_1, .slice A0_2 l0_2.length c0_2, .int .i64 a0_3, .int .i64 a0_4, .slice A0_5 l0_5.length c0_5]) (t := 28) ?hr ?_; (case hd => rfl); (case hg => rfl); (case hr => first | (go_simp; done) | (go_simp; rfl)); intro gb580 hg w15 hbox hb; have n0_ := Aside0.mk (below_step (oB HB) hb); have n1_ := Aside0.mk (hbox); have n2_ := Aside0.mk ((by rw [hg]; exact (below_size (oB HB)) : w.heap.size ≤ gb580)); have n3_ := Aside0.mk ((by rw [hg]; exact (below_size (oB HB)) : w.heap.size ≤ gb580)); clear HB; have HB := n0_; have BK580 := n1_; have GW580 := n2_; have GE580 := n3_; clear n0_ n1_ n2_ n3_; clear hb hbox hg; have hcz16_0 : w15.cell? ⟨gb580, 0, none⟩ = some (.slice A0_0 l0_0.length c0_0) := (blk_cell BK580.out 0).trans rfl; have hcz16_1 : w15.cell? ⟨gb580, 1, none⟩ = some (.int .i64 a0_1) := (blk_cell BK580.out 1).trans rfl; have hcz16_2 : w15.cell? ⟨gb580, 2, none⟩ = some (.slice A0_2 l0_2.length c0_2) := (blk_cell BK580.out 2).trans rfl; have hcz16_3 : w15.cell? ⟨gb580, 3, none⟩ = some (.int .i64 a0_3) := (blk_cell BK580.out 3).trans rfl; have hcz16_4 : w15.cell? ⟨gb580, 4, none⟩ = some (.int .i64 a0_4) := (blk_cell BK580.out 4).trans rfl; have hcz16_5 : w15.cell? ⟨gb580, 5, none⟩ = some (.slice A0_5 l0_5.length c0_5) := (blk_cell BK580.out 5).trans rfl; have hfz16_0 := blk_frozen BK580.out 0; have hfz16_1 := blk_frozen BK580.out 1; have hfz16_2 := blk_frozen BK580.out 2; have hfz16_3 := blk_frozen BK580.out 3; have hfz16_4 := blk_frozen BK580.out 4; have hfz16_5 := blk_frozen BK580.out 5) | ((with_reducible refine gate_callee (f := 15) rfl ?_); refine goesL_ (some 9) rfl rfl Try.func15 (by kernel_rfl) rfl #[.agg #[.slice A0_0 l0_0.length c0_0, .int .i64 a0_1, .slice A0_2 l0_2.length c0_2, .int .i64 a0_3, .int .i64 a0_4, .slice A0_5 l0_5.length c0_5], .int .i64 1048576] rfl (by (try simp only [List.map_toArray, List.map_cons, List.map_nil]); first | done | rfl | (simp only [List.length_drop, List.length_take]; rfl)) ?_; (with_reducible refine (laws_szShop.calls _ _ l0_0 a0_1 _ _ l0_2 a0_3 a0_4 _ _ l0_5 1048576 t581 _ ?side1 ?side2 ?side3 ?side4 ?side5 ?side6 A2.out).mono ?_); (case side1 => exact oc_ HR0_0.out); (case side2 => exact HC0_0.out); (case side3 => exact oc_ HR0_2.out); (case side4 => exact HC0_2.out); (case side5 => exact oc_ HR0_5.out); (case side6 => exact HC0_5.out); rintro e w17 ⟨rfl, hb⟩; refine ⟨_, rfl, ?_⟩; have n0_ := Aside0.mk (blk_below (g := gb580) (o := .cells #[.slice A0_0 l0_0.length c0_0, .int .i64 a0_1, .slice A0_2 l0_2.length c0_2, .int .i64 a0_3, .int .i64 a0_4, .slice A0_5 l0_5.length c0_5] 28 (0, 0)) (oK BK580) hb); have n1_ := Aside0.mk (below_step (oB HB) hb); clear BK580; clear HB; have BK580 := n0_; have HB := n1_; clear n0_ n1_; (try clear hb); (try clear hb2); (try clear hk); (try clear hi); have hcz18_0 : w17.cell? ⟨gb580, 0, none⟩ = some (.slice A0_0 l0_0.length c0_0) := (blk_cell BK580.out 0).trans rfl; have hcz18_1 : w17.cell? ⟨gb580, 1, none⟩ = some (.int .i64 a0_1) := (blk_cell BK580.out 1).trans rfl; have hcz18_2 : w17.cell? ⟨gb580, 2, none⟩ = some (.slice A0_2 l0_2.length c0_2) := (blk_cell BK580.out 2).trans rfl; have hcz18_3 : w17.cell? ⟨gb580, 3, none⟩ = some (.int .i64 a0_3) := (blk_cell BK580.out 3).trans rfl; have hcz18_4 : w17.cell? ⟨gb580, 4, none⟩ = some (.int .i64 a0_4) := (blk_cell BK580.out 4).trans rfl; have hcz18_5 : w17.cell? ⟨gb580, 5, none⟩ = some (.slice A0_5 l0_5.length c0_5) := (blk_cell BK580.out 5).trans rfl; have hfz18_0 := blk_frozen BK580.out 0; have hfz18_1 := blk_frozen BK580.out 1; have hfz18_2 := blk_frozen BK580.out 2; have hfz18_3 := blk_frozen BK580.out 3; have hfz18_4 := blk_frozen BK580.out 4; have hfz18_5 := blk_frozen BK580.out 5) | ((with_reducible refine gate_callee (f := 17) rfl ?_); refine goesL_ (some 13) rfl rfl Try.func17 (by kernel_rfl) rfl #[.agg #[.slice A0_0 l0_0.length c0_0, .int .i64 a0_1, .slice A0_2 l0_2.length c0_2, .int .i64 a0_3, .int .i64 a0_4, .slice A0_5 l0_5.length c0_5]] rfl (by (try simp only [List.map_toArray, List.map_cons, List.map_nil]); first | done | rfl | (simp only [List.length_drop, List.length_take]; rfl)) ?_; (with_reducible refine (laws_toShop.calls k _ _ l0_0 a0_1 _ _ l0_2 a0_3 a0_4 _ _ l0_5 t582 t585 t586 t589 t590 t591 _ ?side1 ?side2 ?side3 ?side4 ?side5 ?side6 A7.out).mono ?_); (case side1 => exact oc_ HR0_0.out); (case side2 => exact HC0_0.out); (case side3 => exact oc_ HR0_2.out); (case side4 => exact HC0_2.out); (case side5 => exact oc_ HR0_5.out); (case side6 => exact HC0_5.out); rintro e w19 ⟨v583, v587, v592, rfl, ho0, ho1, ho2, hb⟩; refine ⟨_, rfl, ?_⟩; have n0_ := Aside0.mk (Kd.R_lower ho0 (below_size (oB HB))); have n1_ := Aside0.mk (Kd.R_lower ho1 (below_size (oB HB))); have n2_ := Aside0.mk (Kd.R_lower ho2 (below_size (oB HB))); have n3_ := Aside0.mk (blk_below (g := gb580) (o := .cells #[.slice A0_0 l0_0.length c0_0, .int .i64 a0_1, .slice A0_2 l0_2.length c0_2, .int .i64 a0_3, .int .i64 a0_4, .slice A0_5 l0_5.length c0_5] 28 (0, 0)) (oK BK580) hb); have n4_ := Aside0.mk (below_step (oB HB) hb); clear BK580; clear HB; have HO584 := n0_; have HO588 := n1_; have HO593 := n2_; have BK580 := n3_; have HB := n4_; clear n0_ n1_ n2_ n3_ n4_; (try clear hb); (try clear hb2); (try clear hk); (try clear hi); (try clear ho0); (try clear ho1); (try clear ho2); obtain ⟨Ao20, co20, eo20⟩ := Kd.R_slice HO584.out; subst eo20; obtain ⟨Ao21, co21, eo21⟩ := Kd.R_slice HO588.out; subst eo21; obtain ⟨Ao22, co22, eo22⟩ := Kd.R_slice HO593.out; subst eo22) | ((with_reducible refine gate_callee (f := 30) rfl ?_); refine goesL_ (some 14) rfl rfl Try.func30 (by kernel_rfl) rfl #[.agg #[.slice Ao20 t582.length co20, .int .i64 t585, .slice Ao21 t586.length co21, .int .i64 t589, .int .i64 t590, .slice Ao22 t591.length co22]] rfl (by (try simp only [List.map_toArray, List.map_cons, List.map_nil]); first | done | rfl | (simp only [List.length_drop, List.length_take]; rfl)) ?_; (with_reducible refine (spec_StepsLeft.calls k _ _ t582 t585 _ _ t586 t589 t590 _ _ t591 t594 _ ?side1 ?side2 ?side3 ?side4 ?side5 ?side6 A8.out).mono ?_); (case side1 => repeat (first | exact (Kd.R_reads' HO584.out).2.2 | (with_reducible refine Kd.C_alloc ?_ _) | (with_reducible refine Kd.C_drewN ?_ _) | (with_reducible refine Kd.C_drew ?_))); (case side2 => exact (Kd.R_reads' HO584.out).2.1); (case side3 => repeat (first | exact (Kd.R_reads' HO588.out).2.2 | (with_reducible refine Kd.C_alloc ?_ _) | (with_reducible refine Kd.C_drewN ?_ _) | (with_reducible refine Kd.C_drew ?_))); (case side4 => exact (Kd.R_reads' HO588.out).2.1); (case side5 => repeat (first | exact (Kd.R_reads' HO593.out).2.2 | (with_reducible refine Kd.C_alloc ?_ _) | (with_reducible refine Kd.C_drewN ?_ _) | (with_reducible refine Kd.C_drew ?_))); (case side6 => exact (Kd.R_reads' HO593.out).2.1); rintro e w23 ⟨rfl, hb⟩; refine ⟨_, rfl, ?_⟩; have n0_ := Aside0.mk (Kd.R_below (oR HO584) hb); have n1_ := Aside0.mk (Kd.R_below (oR HO588) hb); have n2_ := Aside0.mk (Kd.R_below (oR HO593) hb); have n3_ := Aside0.mk (blk_below (g := gb580) (o := .cells #[.slice A0_0 l0_0.length c0_0, .int .i64 a0_1, .slice A0_2 l0_2.length c0_2, .int .i64 a0_3, .int .i64 a0_4, .slice A0_5 l0_5.length c0_5] 28 (0, 0)) (oK BK580) hb); have n4_ := Aside0.mk (below_step (oB HB) hb); clear HO584; clear HO588; clear HO593; clear BK580; clear HB; have HO584 := n0_; have HO588 := n1_; have HO593 := n2_; have BK580 := n3_; have HB := n4_; clear n0_ n1_ n2_ n3_ n4_; (try clear hb); (try clear hb2); (try clear hk); (try clear hi); have hcz24_0 : w23.cell? ⟨gb580, 0, none⟩ = some (.slice A0_0 l0_0.length c0_0) := (blk_cell BK580.out 0).trans rfl; have hcz24_1 : w23.cell? ⟨gb580, 1, none⟩ = some (.int .i64 a0_1) := (blk_cell BK580.out 1).trans rfl; have hcz24_2 : w23.cell? ⟨gb580, 2, none⟩ = some (.slice A0_2 l0_2.length c0_2) := (blk_cell BK580.out 2).trans rfl; have hcz24_3 : w23.cell? ⟨gb580, 3, none⟩ = some (.int .i64 a0_3) := (blk_cell BK580.out 3).trans rfl; have hcz24_4 : w23.cell? ⟨gb580, 4, none⟩ = some (.int .i64 a0_4) := (blk_cell BK580.out 4).trans rfl; have hcz24_5 : w23.cell? ⟨gb580, 5, none⟩ = some (.slice A0_5 l0_5.length c0_5) := (blk_cell BK580.out 5).trans rfl; have hfz24_0 := blk_frozen BK580.out 0; have hfz24_1 := blk_frozen BK580.out 1; have hfz24_2 := blk_frozen BK580.out 2; have hfz24_3 := blk_frozen BK580.out 3; have hfz24_4 := blk_frozen BK580.out 4; have hfz24_5 := blk_frozen BK580.out 5) | ((with_reducible refine gate_callee (f := 17) rfl ?_); refine goesL_ (some 16) rfl rfl Try.func17 (by kernel_rfl) rfl #[.agg #[.slice A0_0 l0_0.length c0_0, .int .i64 a0_1, .slice A0_2 l0_2.length c0_2, .int .i64 a0_3, .int .i64 a0_4, .slice A0_5 l0_5.length c0_5]] rfl (by (try simp only [List.map_toArray, List.map_cons, List.map_nil]); first | done | rfl | (simp only [List.length_drop, List.length_take]; rfl)) ?_; (with_reducible refine (laws_toShop.calls k _ _ l0_0 a0_1 _ _ l0_2 a0_3 a0_4 _ _ l0_5 t595 t598 t599 t602 t603 t604 _ ?side1 ?side2 ?side3 ?side4 ?side5 ?side6 A9.out).mono ?_); (case side1 => exact oc_ HR0_0.out); (case side2 => exact HC0_0.out); (case side3 => exact oc_ HR0_2.out); (case side4 => exact HC0_2.out); (case side5 => exact oc_ HR0_5.out); (case side6 => exact HC0_5.out); rintro e w25 ⟨v596, v600, v605, rfl, ho0, ho1, ho2, hb⟩; refine ⟨_, rfl, ?_⟩; have n0_ := Aside0.mk (Kd.R_elder' (oR HO584) (Kd.R_base ho0) hb); have n1_ := Aside0.mk (Kd.R_elder' (oR HO588) (Kd.R_base ho1) hb); have n2_ := Aside0.mk (Kd.R_elder' (oR HO593) (Kd.R_base ho2) hb); have n3_ := Aside0.mk (Kd.R_lower (Kd.R_new' ho0 (Kd.R_lt (oR HO584))) (below_size (oB HB))); have n4_ := Aside0.mk (Kd.R_lower (Kd.R_new' ho1 (Kd.R_lt (oR HO588))) (below_size (oB HB))); have n5_ := Aside0.mk (Kd.R_lower (Kd.R_new' ho2 (Kd.R_lt (oR HO593))) (below_size (oB HB))); have n6_ := Aside0.mk (blk_below (g := gb580) (o := .cells #[.slice A0_0 l0_0.length c0_0, .int .i64 a0_1, .slice A0_2 l0_2.length c0_2, .int .i64 a0_3, .int .i64 a0_4, .slice A0_5 l0_5.length c0_5] 28 (0, 0)) (oK BK580) hb); have n7_ := Aside0.mk (below_step (oB HB) hb); clear HO584; clear HO588; clear HO593; clear BK580; clear HB; have HO584 := n0_; have HO588 := n1_; have HO593 := n2_; have HO597 := n3_; have HO601 := n4_; have HO606 := n5_; have BK580 := n6_; have HB := n7_; clear n0_ n1_ n2_ n3_ n4_ n5_ n6_ n7_; (try clear hb); (try clear hb2); (try clear hk); (try clear hi); (try clear ho0); (try clear ho1); (try clear ho2)) | ((with_reducible refine gate_dst (N := 5) rfl ?_); refine box_event ?hg (N := 5) ?hd (cs := #[.slice none 0 0, .int .i64 0, .slice none 0 0, .int .i64 0, .int .i64 0, .slice none 0 0]) (t := 36) ?hr ?_; (case hd => rfl); (case hg => rfl); (case hr => first | (go_simp; done) | (go_simp; rfl)); intro gb607 hg w26 hbox hb; have n0_ := Aside0.mk (Kd.R_below (oR HO584) hb); have n1_ := Aside0.mk (Kd.R_below (oR HO588) hb); have n2_ := Aside0.mk (Kd.R_below (oR HO593) hb); have n3_ := Aside0.mk (Kd.R_below (oR HO597) hb); have n4_ := Aside0.mk (Kd.R_below (oR HO601) hb); have n5_ := Aside0.mk (Kd.R_below (oR HO606) hb); have n6_ := Aside0.mk (blk_below (g := gb580) (o := .cells #[.slice A0_0 l0_0.length c0_0, .int .i64 a0_1, .slice A0_2 l0_2.length c0_2, .int .i64 a0_3, .int .i64 a0_4, .slice A0_5 l0_5.length c0_5] 28 (0, 0)) (oK BK580) hb); have n7_ := Aside0.mk (below_step (oB HB) hb); have n8_ := Aside0.mk (hbox); have n9_ := Aside0.mk ((by rw [hg]; exact (below_size (oB HB)) : w.heap.size ≤ gb607)); have n10_ := Aside0.mk ((by rw [hg]; exact (below_size (oB HB)) : w.heap.size ≤ gb607)); have n11_ := Aside0.mk ((by rw [hg]; exact Nat.ne_of_lt (blk_lt (g := gb580) (o := .cells #[.slice A0_0 l0_0.length c0_0, .int .i64 a0_1, .slice A0_2 l0_2.length c0_2, .int .i64 a0_3, .int .i64 a0_4, .slice A0_5 l0_5.length c0_5] 28 (0, 0)) (oK BK580)) : gb580 ≠ gb607)); have n12_ := Aside0.mk ((by rw [hg]; exact Nat.ne_of_gt (blk_lt (g := gb580) (o := .cells #[.slice A0_0 l0_0.length c0_0, .int .i64 a0_1, .slice A0_2 l0_2.length c0_2, .int .i64 a0_3, .int .i64 a0_4, .slice A0_5 l0_5.length c0_5] 28 (0, 0)) (oK BK580)) : gb607 ≠ gb580)); clear HO584; clear HO588; clear HO593; clear HO597; clear HO601; clear HO606; clear BK580; clear HB; have HO584 := n0_; have HO588 := n1_; have HO593 := n2_; have HO597 := n3_; have HO601 := n4_; have HO606 := n5_; have BK580 := n6_; have HB := n7_; have BK607 := n8_; have GW607 := n9_; have GE607 := n10_; have NB580_607 := n11_; have NB607_580 := n12_; clear n0_ n1_ n2_ n3_ n4_ n5_ n6_ n7_ n8_ n9_ n10_ n11_ n12_; clear hb hbox hg; obtain ⟨Ao27, co27, eo27⟩ := Kd.R_slice HO597.out; subst eo27; have hnb28 := NB607_580.out; have hnc28 := NB580_607.out; have hcz29_0 : w26.cell? ⟨gb607, 0, none⟩ = some (.slice none 0 0) := (blk_cell BK607.out 0).trans rfl; have hcz29_1 : w26.cell? ⟨gb607, 1, none⟩ = some (.int .i64 0) := (blk_cell BK607.out 1).trans rfl; have hcz29_2 : w26.cell? ⟨gb607, 2, none⟩ = some (.slice none 0 0) := (blk_cell BK607.out 2).trans rfl; have hcz29_3 : w26.cell? ⟨gb607, 3, none⟩ = some (.int .i64 0) := (blk_cell BK607.out 3).trans rfl; have hcz29_4 : w26.cell? ⟨gb607, 4, none⟩ = some (.int .i64 0) := (blk_cell BK607.out 4).trans rfl; have hcz29_5 : w26.cell? ⟨gb607, 5, none⟩ = some (.slice none 0 0) := (blk_cell BK607.out 5).trans rfl; have hfz29_0 := blk_frozen BK607.out 0; have hfz29_1 := blk_frozen BK607.out 1; have hfz29_2 := blk_frozen BK607.out 2; have hfz29_3 := blk_frozen BK607.out 3; have hfz29_4 := blk_frozen BK607.out 4; have hfz29_5 := blk_frozen BK607.out 5; obtain ⟨Ao30, co30, eo30⟩ := Kd.R_slice HO601.out; subst eo30; obtain ⟨Ao31, co31, eo31⟩ := Kd.R_slice HO606.out; subst eo31) | ((with_reducible refine gate_callee (f := 31) rfl ?_); refine goesL_ (some 18) rfl rfl Try.func31 (by kernel_rfl) rfl #[.agg #[.slice Ao27 t595.length co27, .int .i64 t598, .slice Ao30 t599.length co30, .int .i64 t602, .int .i64 t603, .slice Ao31 t604.length co31]] rfl (by (try simp only [List.map_toArray, List.map_cons, List.map_nil]); first | done | rfl | (simp only [List.length_drop, List.length_take]; rfl)) ?_; (with_reducible refine (impl_StepsLeft.calls k _ _ t595 t598 _ _ t599 t602 t603 _ _ t604 t608 _ ?side1 ?side2 ?side3 ?side4 ?side5 ?side6 A10.out).mono ?_); (case side1 => refine (Kd.R_reads' (e := 96) (base := w.heap.size) (ok := fun k_ => (True ∧ some k_ ≠ (.slice Ao20 t582.length co20 : Value).ownBlock)) (n := t595.length) (c := co27) ?_).2.2; exact (by (with_reducible repeat (first | apply Kd.R_alloc | apply Kd.R_drewN | apply Kd.R_drew)); exact (Kd.R_mono (Kd.R_far (p := ⟨gb607, 5, none⟩) (Kd.R_far (p := ⟨gb607, 4, none⟩) (Kd.R_far (p := ⟨gb607, 3, none⟩) (Kd.R_far (p := ⟨gb607, 2, none⟩) (Kd.R_far (p := ⟨gb607, 1, none⟩) (Kd.R_far (p := ⟨gb607, 0, none⟩) (Kd.R_types HO597.out BK607.out (by decide)) (fun _ hk => hk.2) (.slice Ao27 t595.length co27)) (fun _ hk => hk.2) (.int .i64 t598)) (fun _ hk => hk.2) (.slice Ao30 t599.length co30)) (fun _ hk => hk.2) (.int .i64 t602)) (fun _ hk => hk.2) (.int .i64 t603)) (fun _ hk => hk.2) (.slice Ao31 t604.length co31)) (fun _ h_ => h_.1)))); (case side2 => exact (Kd.R_reads' HO597.out).2.1); (case side3 => refine (Kd.R_reads' (e := 3) (base := w.heap.size) (ok := fun k_ => (True ∧ some k_ ≠ (.slice Ao21 t586.length co21 : Value).ownBlock)) (n := t599.length) (c := co30) ?_).2.2; exact (by (with_reducible repeat (first | apply Kd.R_alloc | apply Kd.R_drewN | apply Kd.R_drew)); exact (Kd.R_mono (Kd.R_far (p := ⟨gb607, 5, none⟩) (Kd.R_far (p := ⟨gb607, 4, none⟩) (Kd.R_far (p := ⟨gb607, 3, none⟩) (Kd.R_far (p := ⟨gb607, 2, none⟩) (Kd.R_far (p := ⟨gb607, 1, none⟩) (Kd.R_far (p := ⟨gb607, 0, none⟩) (Kd.R_types HO601.out BK607.out (by decide)) (fun _ hk => hk.2) (.slice Ao27 t595.length co27)) (fun _ hk => hk.2) (.int .i64 t598)) (fun _ hk => hk.2) (.slice Ao30 t599.length co30)) (fun _ hk => hk.2) (.int .i64 t602)) (fun _ hk => hk.2) (.int .i64 t603)) (fun _ hk => hk.2) (.slice Ao31 t604.length co31)) (fun _ h_ => h_.1)))); (case side4 => exact (Kd.R_reads' HO601.out).2.1); (case side5 => refine (Kd.R_reads' (e := 74) (base := w.heap.size) (ok := fun k_ => (True ∧ some k_ ≠ (.slice Ao22 t591.length co22 : Value).ownBlock)) (n := t604.length) (c := co31) ?_).2.2; exact (by (with_reducible repeat (first | apply Kd.R_alloc | apply Kd.R_drewN | apply Kd.R_drew)); exact (Kd.R_mono (Kd.R_far (p := ⟨gb607, 5, none⟩) (Kd.R_far (p := ⟨gb607, 4, none⟩) (Kd.R_far (p := ⟨gb607, 3, none⟩) (Kd.R_far (p := ⟨gb607, 2, none⟩) (Kd.R_far (p := ⟨gb607, 1, none⟩) (Kd.R_far (p := ⟨gb607, 0, none⟩) (Kd.R_types HO606.out BK607.out (by decide)) (fun _ hk => hk.2) (.slice Ao27 t595.length co27)) (fun _ hk => hk.2) (.int .i64 t598)) (fun _ hk => hk.2) (.slice Ao30 t599.length co30)) (fun _ hk => hk.2) (.int .i64 t602)) (fun _ hk => hk.2) (.int .i64 t603)) (fun _ hk => hk.2) (.slice Ao31 t604.length co31)) (fun _ h_ => h_.1)))); (case side6 => exact (Kd.R_reads' HO606.out).2.1); rintro e w32 ⟨rfl, hb⟩; refine ⟨_, rfl, ?_⟩; have n0_ := Aside0.mk (Kd.R_below (by (with_reducible repeat (first | apply Kd.R_alloc | apply Kd.R_drewN | apply Kd.R_drew)); exact (Kd.R_mono (Kd.R_far (p := ⟨gb607, 5, none⟩) (Kd.R_far (p := ⟨gb607, 4, none⟩) (Kd.R_far (p := ⟨gb607, 3, none⟩) (Kd.R_far (p := ⟨gb607, 2, none⟩) (Kd.R_far (p := ⟨gb607, 1, none⟩) (Kd.R_far (p := ⟨gb607, 0, none⟩) (Kd.R_types HO584.out BK607.out (by decide)) (fun _ hk => hk.2) (.slice Ao27 t595.length co27)) (fun _ hk => hk.2) (.int .i64 t598)) (fun _ hk => hk.2) (.slice Ao30 t599.length co30)) (fun _ hk => hk.2) (.int .i64 t602)) (fun _ hk => hk.2) (.int .i64 t603)) (fun _ hk => hk.2) (.slice Ao31 t604.length co31)) (fun _ h_ => h_.1))) hb); have n1_ := Aside0.mk (Kd.R_below (by (with_reducible repeat (first | apply Kd.R_alloc | apply Kd.R_drewN | apply Kd.R_drew)); exact (Kd.R_mono (Kd.R_far (p := ⟨gb607, 5, none⟩) (Kd.R_far (p := ⟨gb607, 4, none⟩) (Kd.R_far (p := ⟨gb607, 3, none⟩) (Kd.R_far (p := ⟨gb607, 2, none⟩) (Kd.R_far (p := ⟨gb607, 1, none⟩) (Kd.R_far (p := ⟨gb607, 0, none⟩) (Kd.R_types HO588.out BK607.out (by decide)) (fun _ hk => hk.2) (.slice Ao27 t595.length co27)) (fun _ hk => hk.2) (.int .i64 t598)) (fun _ hk => hk.2) (.slice Ao30 t599.length co30)) (fun _ hk => hk.2) (.int .i64 t602)) (fun _ hk => hk.2) (.int .i64 t603)) (fun _ hk => hk.2) (.slice Ao31 t604.length co31)) (fun _ h_ => h_.1))) hb); have n2_ := Aside0.mk (Kd.R_below (by (with_reducible repeat (first | apply Kd.R_alloc | apply Kd.R_drewN | apply Kd.R_drew)); exact (Kd.R_mono (Kd.R_far (p := ⟨gb607, 5, none⟩) (Kd.R_far (p := ⟨gb607, 4, none⟩) (Kd.R_far (p := ⟨gb607, 3, none⟩) (Kd.R_far (p := ⟨gb607, 2, none⟩) (Kd.R_far (p := ⟨gb607, 1, none⟩) (Kd.R_far (p := ⟨gb607, 0, none⟩) (Kd.R_types HO593.out BK607.out (by decide)) (fun _ hk => hk.2) (.slice Ao27 t595.length co27)) (fun _ hk => hk.2) (.int .i64 t598)) (fun _ hk => hk.2) (.slice Ao30 t599.length co30)) (fun _ hk => hk.2) (.int .i64 t602)) (fun _ hk => hk.2) (.int .i64 t603)) (fun _ hk => hk.2) (.slice Ao31 t604.length co31)) (fun _ h_ => h_.1))) hb); have n3_ := Aside0.mk (Kd.R_below (by (with_reducible repeat (first | apply Kd.R_alloc | apply Kd.R_drewN | apply Kd.R_drew)); exact (Kd.R_mono (Kd.R_far (p := ⟨gb607, 5, none⟩) (Kd.R_far (p := ⟨gb607, 4, none⟩) (Kd.R_far (p := ⟨gb607, 3, none⟩) (Kd.R_far (p := ⟨gb607, 2, none⟩) (Kd.R_far (p := ⟨gb607, 1, none⟩) (Kd.R_far (p := ⟨gb607, 0, none⟩) (Kd.R_types HO597.out BK607.out (by decide)) (fun _ hk => hk.2) (.slice Ao27 t595.length co27)) (fun _ hk => hk.2) (.int .i64 t598)) (fun _ hk => hk.2) (.slice Ao30 t599.length co30)) (fun _ hk => hk.2) (.int .i64 t602)) (fun _ hk => hk.2) (.int .i64 t603)) (fun _ hk => hk.2) (.slice Ao31 t604.length co31)) (fun _ h_ => h_.1))) hb); have n4_ := Aside0.mk (Kd.R_below (by (with_reducible repeat (first | apply Kd.R_alloc | apply Kd.R_drewN | apply Kd.R_drew)); exact (Kd.R_mono (Kd.R_far (p := ⟨gb607, 5, none⟩) (Kd.R_far (p := ⟨gb607, 4, none⟩) (Kd.R_far (p := ⟨gb607, 3, none⟩) (Kd.R_far (p := ⟨gb607, 2, none⟩) (Kd.R_far (p := ⟨gb607, 1, none⟩) (Kd.R_far (p := ⟨gb607, 0, none⟩) (Kd.R_types HO601.out BK607.out (by decide)) (fun _ hk => hk.2) (.slice Ao27 t595.length co27)) (fun _ hk => hk.2) (.int .i64 t598)) (fun _ hk => hk.2) (.slice Ao30 t599.length co30)) (fun _ hk => hk.2) (.int .i64 t602)) (fun _ hk => hk.2) (.int .i64 t603)) (fun _ hk => hk.2) (.slice Ao31 t604.length co31)) (fun _ h_ => h_.1))) hb); have n5_ := Aside0.mk (Kd.R_below (by (with_reducible repeat (first | apply Kd.R_alloc | apply Kd.R_drewN | apply Kd.R_drew)); exact (Kd.R_mono (Kd.R_far (p := ⟨gb607, 5, none⟩) (Kd.R_far (p := ⟨gb607, 4, none⟩) (Kd.R_far (p := ⟨gb607, 3, none⟩) (Kd.R_far (p := ⟨gb607, 2, none⟩) (Kd.R_far (p := ⟨gb607, 1, none⟩) (Kd.R_far (p := ⟨gb607, 0, none⟩) (Kd.R_types HO606.out BK607.out (by decide)) (fun _ hk => hk.2) (.slice Ao27 t595.length co27)) (fun _ hk => hk.2) (.int .i64 t598)) (fun _ hk => hk.2) (.slice Ao30 t599.length co30)) (fun _ hk => hk.2) (.int .i64 t602)) (fun _ hk => hk.2) (.int .i64 t603)) (fun _ hk => hk.2) (.slice Ao31 t604.length co31)) (fun _ h_ => h_.1))) hb); have n6_ := Aside0.mk (blk_below (g := gb580) (o := .cells #[.slice A0_0 l0_0.length c0_0, .int .i64 a0_1, .slice A0_2 l0_2.length c0_2, .int .i64 a0_3, .int .i64 a0_4, .slice A0_5 l0_5.length c0_5] 28 (0, 0)) (by (with_reducible repeat (first | refine blk_drewN ?_ _ | refine blk_drew ?_ | refine blk_alloc ?_ _)); refine blk_far ?_ NB580_607.out _; (with_reducible repeat (first | refine blk_drewN ?_ _ | refine blk_drew ?_ | refine blk_alloc ?_ _)); refine blk_far ?_ NB580_607.out _; (with_reducible repeat (first | refine blk_drewN ?_ _ | refine blk_drew ?_ | refine blk_alloc ?_ _)); refine blk_far ?_ NB580_607.out _; (with_reducible repeat (first | refine blk_drewN ?_ _ | refine blk_drew ?_ | refine blk_alloc ?_ _)); refine blk_far ?_ NB580_607.out _; (with_reducible repeat (first | refine blk_drewN ?_ _ | refine blk_drew ?_ | refine blk_alloc ?_ _)); refine blk_far ?_ NB580_607.out _; (with_reducible repeat (first | refine blk_drewN ?_ _ | refine blk_drew ?_ | refine blk_alloc ?_ _)); refine blk_far ?_ NB580_607.out _; (with_reducible repeat (first | refine blk_drewN ?_ _ | refine blk_drew ?_ | refine blk_alloc ?_ _)); exact BK580.out) hb); have n7_ := Aside0.mk (blk_below (g := gb607) (o := .cells #[.slice Ao27 t595.length co27, .int .i64 t598, .slice Ao30 t599.length co30, .int .i64 t602, .int .i64 t603, .slice Ao31 t604.length co31] 36 (0, 0)) (by (with_reducible repeat (first | refine blk_drewN ?_ _ | refine blk_drew ?_ | refine blk_alloc ?_ _)); refine blk_put (cs := #[.slice Ao27 t595.length co27, .int .i64 t598, .slice Ao30 t599.length co30, .int .i64 t602, .int .i64 t603, .slice none 0 0]) ?_ 5 _ rfl; (with_reducible repeat (first | refine blk_drewN ?_ _ | refine blk_drew ?_ | refine blk_alloc ?_ _)); refine blk_put (cs := #[.slice Ao27 t595.length co27, .int .i64 t598, .slice Ao30 t599.length co30, .int .i64 t602, .int .i64 0, .slice none 0 0]) ?_ 4 _ rfl; (with_reducible repeat (first | refine blk_drewN ?_ _ | refine blk_drew ?_ | refine blk_alloc ?_ _)); refine blk_put (cs := #[.slice Ao27 t595.length co27, .int .i64 t598, .slice Ao30 t599.length co30, .int .i64 0, .int .i64 0, .slice none 0 0]) ?_ 3 _ rfl; (with_reducible repeat (first | refine blk_drewN ?_ _ | refine blk_drew ?_ | refine blk_alloc ?_ _)); refine blk_put (cs := #[.slice Ao27 t595.length co27, .int .i64 t598, .slice none 0 0, .int .i64 0, .int .i64 0, .slice none 0 0]) ?_ 2 _ rfl; (with_reducible repeat (first | refine blk_drewN ?_ _ | refine blk_drew ?_ | refine blk_alloc ?_ _)); refine blk_put (cs := #[.slice Ao27 t595.length co27, .int .i64 0, .slice none 0 0, .int .i64 0, .int .i64 0, .slice none 0 0]) ?_ 1 _ rfl; (with_reducible repeat (first | refine blk_drewN ?_ _ | refine blk_drew ?_ | refine blk_alloc ?_ _)); refine blk_put (cs := #[.slice none 0 0, .int .i64 0, .slice none 0 0, .int .i64 0, .int .i64 0, .slice none 0 0]) ?_ 0 _ rfl; (with_reducible repeat (first | refine blk_drewN ?_ _ | refine blk_drew ?_ | refine blk_alloc ?_ _)); exact BK607.out) hb); have n8_ := Aside0.mk (below_step (oB HB) hb); clear HO584; clear HO588; clear HO593; clear HO597; clear HO601; clear HO606; clear BK580; clear BK607; clear HB; have HO584 := n0_; have HO588 := n1_; have HO593 := n2_; have HO597 := n3_; have HO601 := n4_; have HO606 := n5_; have BK580 := n6_; have BK607 := n7_; have HB := n8_; clear n0_ n1_ n2_ n3_ n4_ n5_ n6_ n7_ n8_; (try clear hb); (try clear hb2); (try clear hk); (try clear hi)))
        have n0_ := Aside0.mk (Kd.R_drew HO584.out)
        have n1_ := Aside0.mk (Kd.R_drew HO588.out)
        have n2_ := Aside0.mk (Kd.R_drew HO593.out)
        have n3_ := Aside0.mk (Kd.R_drew HO597.out)
        have n4_ := Aside0.mk (Kd.R_drew HO601.out)
        have n5_ := Aside0.mk (Kd.R_drew HO606.out)
        have n6_ := Aside0.mk (blk_drew BK580.out)
        have n7_ := Aside0.mk (blk_drew BK607.out)
        have n8_ := Aside0.mk (below_drew1 HB.out)
        clear HO584
        clear HO588
        clear HO593
        clear HO597
        clear HO601
        clear HO606
        clear BK580
        clear BK607
        clear HB
        have HO584 := n0_
        have HO588 := n1_
        have HO593 := n2_
        have HO597 := n3_
        have HO601 := n4_
        have HO606 := n5_
        have BK580 := n6_
        have BK607 := n7_
        have HB := n8_
        clear n0_ n1_ n2_ n3_ n4_ n5_ n6_ n7_ n8_
        refine start_ (n := 5) (S := fun w' => w'.cell? ⟨gb607, 0, none⟩ = some (.slice Ao27 t595.length co27) ∧ w'.cell? ⟨gb607, 1, none⟩ = some (.int .i64 t598) ∧ w'.cell? ⟨gb607, 2, none⟩ = some (.slice Ao30 t599.length co30) ∧ w'.cell? ⟨gb607, 3, none⟩ = some (.int .i64 t602) ∧ w'.cell? ⟨gb607, 4, none⟩ = some (.int .i64 t603) ∧ w'.cell? ⟨gb607, 5, none⟩ = some (.slice Ao31 t604.length co31) ∧ w'.cell? ⟨gb580, 0, none⟩ = some (.slice A0_0 l0_0.length c0_0) ∧ w'.cell? ⟨gb580, 1, none⟩ = some (.int .i64 a0_1) ∧ w'.cell? ⟨gb580, 2, none⟩ = some (.slice A0_2 l0_2.length c0_2) ∧ w'.cell? ⟨gb580, 3, none⟩ = some (.int .i64 a0_3) ∧ w'.cell? ⟨gb580, 4, none⟩ = some (.int .i64 a0_4) ∧ w'.cell? ⟨gb580, 5, none⟩ = some (.slice A0_5 l0_5.length c0_5)) (ds := []) #[false, false, false, false, false] (by kernel_rfl) rfl rfl ⟨(blk_cell BK607.out 0).trans rfl, (blk_cell BK607.out 1).trans rfl, (blk_cell BK607.out 2).trans rfl, (blk_cell BK607.out 3).trans rfl, (blk_cell BK607.out 4).trans rfl, (blk_cell BK607.out 5).trans rfl, (blk_cell BK580.out 0).trans rfl, (blk_cell BK580.out 1).trans rfl, (blk_cell BK580.out 2).trans rfl, (blk_cell BK580.out 3).trans rfl, (blk_cell BK580.out 4).trans rfl, (blk_cell BK580.out 5).trans rfl⟩ (fun hHeld => ?_)
        generalize w32.drew = w33 at HO584 HO588 HO593 HO597 HO601 HO606 BK580 BK607 HB hHeld ⊢
        refine take_ (i := 0) (N := some 22) (v := ?_) (a' := ?_) #[true, false, false, false, false] rfl rfl (by kernel_rfl) (fun _ _ _ h => h) (Or.inl ⟨by rfl, ?_⟩) hHeld ?_ ?_
        rotate_left
        · rintro w' ⟨s0, s1, s2, s3, s4, s5, s6, s7, s8, s9, s10, s11⟩
          go_simp
          with_reducible rfl
        rotate_left
        · simp only [Act.put, List.setIfInBounds_toArray, List.set_cons_zero, List.set_cons_succ, i64_w, i32_w]
          rfl
        refine take_ (i := 1) (N := some 23) (v := ?_) (a' := ?_) #[true, true, false, false, false] rfl rfl (by kernel_rfl) (fun _ _ _ h => h) (Or.inl ⟨by rfl, ?_⟩) hHeld ?_ ?_
        rotate_left
        · rintro w' ⟨s0, s1, s2, s3, s4, s5, s6, s7, s8, s9, s10, s11⟩
          go_simp
          with_reducible rfl
        rotate_left
        · simp only [Act.put, List.setIfInBounds_toArray, List.set_cons_zero, List.set_cons_succ, i64_w, i32_w]
          rfl
        refine one_ (i := 2) (N := some 24) #[true, true, true, false, false] rfl rfl (by kernel_rfl) (by decide) (fun K hK => ?_)
        refine goes_ Try.func17 (by kernel_rfl) rfl #[.agg #[.slice A0_0 l0_0.length c0_0, .int .i64 a0_1, .slice A0_2 l0_2.length c0_2, .int .i64 a0_3, .int .i64 a0_4, .slice A0_5 l0_5.length c0_5]] (by rfl) rfl rfl (by (try simp only [List.map_toArray, List.map_cons, List.map_nil]); first | done | rfl | (simp only [List.length_drop, List.length_take]; rfl)) ?_
        with_reducible refine (laws_toShop.calls k _ _ l0_0 a0_1 _ _ l0_2 a0_3 a0_4 _ _ l0_5 t609 t612 t613 t616 t617 t618 _ ?side1 ?side2 ?side3 ?side4 ?side5 ?side6 A12.out).mono ?_
        (case side1 => exact oc_ HR0_0.out)
        (case side2 => exact HC0_0.out)
        (case side3 => exact oc_ HR0_2.out)
        (case side4 => exact HC0_2.out)
        (case side5 => exact oc_ HR0_5.out)
        (case side6 => exact HC0_5.out)
        rintro e w34 ⟨v610, v614, v619, rfl, ho0, ho1, ho2, hb⟩
        refine ⟨_, rfl, ?_⟩
        have n0_ := Aside0.mk (Kd.R_elder' (oR HO584) (Kd.R_base ho0) hb)
        have n1_ := Aside0.mk (Kd.R_elder' (oR HO588) (Kd.R_base ho1) hb)
        have n2_ := Aside0.mk (Kd.R_elder' (oR HO593) (Kd.R_base ho2) hb)
        have n3_ := Aside0.mk (Kd.R_elder' (oR HO597) (Kd.R_base ho0) hb)
        have n4_ := Aside0.mk (Kd.R_elder' (oR HO601) (Kd.R_base ho1) hb)
        have n5_ := Aside0.mk (Kd.R_elder' (oR HO606) (Kd.R_base ho2) hb)
        have n6_ := Aside0.mk (Kd.R_lower (Kd.R_new' (Kd.R_new' ho0 (Kd.R_lt (oR HO584))) (Kd.R_lt (oR HO597))) (below_size (oB HB)))
        have n7_ := Aside0.mk (Kd.R_lower (Kd.R_new' (Kd.R_new' ho1 (Kd.R_lt (oR HO588))) (Kd.R_lt (oR HO601))) (below_size (oB HB)))
        have n8_ := Aside0.mk (Kd.R_lower (Kd.R_new' (Kd.R_new' ho2 (Kd.R_lt (oR HO593))) (Kd.R_lt (oR HO606))) (below_size (oB HB)))
        have n9_ := Aside0.mk (blk_below (g := gb580) (o := .cells #[.slice A0_0 l0_0.length c0_0, .int .i64 a0_1, .slice A0_2 l0_2.length c0_2, .int .i64 a0_3, .int .i64 a0_4, .slice A0_5 l0_5.length c0_5] 28 (0, 0)) (oK BK580) hb)
        have n10_ := Aside0.mk (blk_below (g := gb607) (o := .cells #[.slice Ao27 t595.length co27, .int .i64 t598, .slice Ao30 t599.length co30, .int .i64 t602, .int .i64 t603, .slice Ao31 t604.length co31] 36 (0, 0)) (oK BK607) hb)
        have n11_ := Aside0.mk (below_step (oB HB) hb)
        clear HO584
        clear HO588
        clear HO593
        clear HO597
        clear HO601
        clear HO606
        clear BK580
        clear BK607
        clear HB
        have HO584 := n0_
        have HO588 := n1_
        have HO593 := n2_
        have HO597 := n3_
        have HO601 := n4_
        have HO606 := n5_
        have HO611 := n6_
        have HO615 := n7_
        have HO620 := n8_
        have BK580 := n9_
        have BK607 := n10_
        have HB := n11_
        clear n0_ n1_ n2_ n3_ n4_ n5_ n6_ n7_ n8_ n9_ n10_ n11_
        (try clear hb)
        (try clear hb2)
        (try clear hk)
        (try clear hi)
        (try clear ho0)
        (try clear ho1)
        (try clear ho2)
        obtain ⟨Ao35, co35, eo35⟩ := Kd.R_slice HO611.out
        (first | subst eo35 | (injection eo35 with f1_ f2_ f3_; have f4_ := f1_.symm; have f5_ := f3_.symm; clear f1_ f2_ f3_; subst f4_; subst f5_))
        obtain ⟨Ao36, co36, eo36⟩ := Kd.R_slice HO615.out
        (first | subst eo36 | (injection eo36 with f1_ f2_ f3_; have f4_ := f1_.symm; have f5_ := f3_.symm; clear f1_ f2_ f3_; subst f4_; subst f5_))
        obtain ⟨Ao37, co37, eo37⟩ := Kd.R_slice HO620.out
        (first | subst eo37 | (injection eo37 with f1_ f2_ f3_; have f4_ := f1_.symm; have f5_ := f3_.symm; clear f1_ f2_ f3_; subst f4_; subst f5_))
        refine hK.out _ _ ⟨(blk_cell BK607.out 0).trans rfl, (blk_cell BK607.out 1).trans rfl, (blk_cell BK607.out 2).trans rfl, (blk_cell BK607.out 3).trans rfl, (blk_cell BK607.out 4).trans rfl, (blk_cell BK607.out 5).trans rfl, (blk_cell BK580.out 0).trans rfl, (blk_cell BK580.out 1).trans rfl, (blk_cell BK580.out 2).trans rfl, (blk_cell BK580.out 3).trans rfl, (blk_cell BK580.out 4).trans rfl, (blk_cell BK580.out 5).trans rfl⟩ (fun hHeld => ?_)
        clear hK K
        refine norm_ (a' := ?_) ?_ ?_
        rotate_left
        · show Act.put _ (some 24) _ = _
          simp only [Act.put, List.setIfInBounds_toArray, List.set_cons_zero, List.set_cons_succ, i64_w, i32_w]
          rfl
        refine one_ (i := 3) (N := some 25) #[true, true, true, true, false] rfl rfl (by kernel_rfl) (by decide) (fun K hK => ?_)
        refine goes_ Try.func19 (by kernel_rfl) rfl #[.agg #[.slice Ao27 t595.length co27, .int .i64 t598, .slice Ao30 t599.length co30, .int .i64 t602, .int .i64 t603, .slice Ao31 t604.length co31], .agg #[.slice Ao35 t609.length co35, .int .i64 t612, .slice Ao36 t613.length co36, .int .i64 t616, .int .i64 t617, .slice Ao37 t618.length co37]] (by rfl) rfl rfl (by (try simp only [List.map_toArray, List.map_cons, List.map_nil]); first | done | rfl | (simp only [List.length_drop, List.length_take]; rfl)) ?_
        with_reducible refine (laws_eqShop.calls k _ _ t595 t598 _ _ t599 t602 t603 _ _ t604 _ _ t609 t612 _ _ t613 t616 t617 _ _ t618 true _ ?side1 ?side2 ?side3 ?side4 ?side5 ?side6 ?side7 ?side8 ?side9 ?side10 ?side11 ?side12 A13.out).mono ?_
        (case side1 => repeat (first | exact (Kd.R_reads' HO597.out).2.2 | (with_reducible refine Kd.C_alloc ?_ _) | (with_reducible refine Kd.C_drewN ?_ _) | (with_reducible refine Kd.C_drew ?_)))
        (case side2 => exact (Kd.R_reads' HO597.out).2.1)
        (case side3 => repeat (first | exact (Kd.R_reads' HO601.out).2.2 | (with_reducible refine Kd.C_alloc ?_ _) | (with_reducible refine Kd.C_drewN ?_ _) | (with_reducible refine Kd.C_drew ?_)))
        (case side4 => exact (Kd.R_reads' HO601.out).2.1)
        (case side5 => repeat (first | exact (Kd.R_reads' HO606.out).2.2 | (with_reducible refine Kd.C_alloc ?_ _) | (with_reducible refine Kd.C_drewN ?_ _) | (with_reducible refine Kd.C_drew ?_)))
        (case side6 => exact (Kd.R_reads' HO606.out).2.1)
        (case side7 => repeat (first | exact (Kd.R_reads' HO611.out).2.2 | (with_reducible refine Kd.C_alloc ?_ _) | (with_reducible refine Kd.C_drewN ?_ _) | (with_reducible refine Kd.C_drew ?_)))
        (case side8 => exact (Kd.R_reads' HO611.out).2.1)
        (case side9 => repeat (first | exact (Kd.R_reads' HO615.out).2.2 | (with_reducible refine Kd.C_alloc ?_ _) | (with_reducible refine Kd.C_drewN ?_ _) | (with_reducible refine Kd.C_drew ?_)))
        (case side10 => exact (Kd.R_reads' HO615.out).2.1)
        (case side11 => repeat (first | exact (Kd.R_reads' HO620.out).2.2 | (with_reducible refine Kd.C_alloc ?_ _) | (with_reducible refine Kd.C_drewN ?_ _) | (with_reducible refine Kd.C_drew ?_)))
        (case side12 => exact (Kd.R_reads' HO620.out).2.1)
        rintro e w38 ⟨rfl, hb⟩
        refine ⟨_, rfl, ?_⟩
        have n0_ := Aside0.mk (Kd.R_below (oR HO584) hb)
        have n1_ := Aside0.mk (Kd.R_below (oR HO588) hb)
        have n2_ := Aside0.mk (Kd.R_below (oR HO593) hb)
        have n3_ := Aside0.mk (Kd.R_below (oR HO597) hb)
        have n4_ := Aside0.mk (Kd.R_below (oR HO601) hb)
        have n5_ := Aside0.mk (Kd.R_below (oR HO606) hb)
        have n6_ := Aside0.mk (Kd.R_below (oR HO611) hb)
        have n7_ := Aside0.mk (Kd.R_below (oR HO615) hb)
        have n8_ := Aside0.mk (Kd.R_below (oR HO620) hb)
        have n9_ := Aside0.mk (blk_below (g := gb580) (o := .cells #[.slice A0_0 l0_0.length c0_0, .int .i64 a0_1, .slice A0_2 l0_2.length c0_2, .int .i64 a0_3, .int .i64 a0_4, .slice A0_5 l0_5.length c0_5] 28 (0, 0)) (oK BK580) hb)
        have n10_ := Aside0.mk (blk_below (g := gb607) (o := .cells #[.slice Ao27 t595.length co27, .int .i64 t598, .slice Ao30 t599.length co30, .int .i64 t602, .int .i64 t603, .slice Ao31 t604.length co31] 36 (0, 0)) (oK BK607) hb)
        have n11_ := Aside0.mk (below_step (oB HB) hb)
        clear HO584
        clear HO588
        clear HO593
        clear HO597
        clear HO601
        clear HO606
        clear HO611
        clear HO615
        clear HO620
        clear BK580
        clear BK607
        clear HB
        have HO584 := n0_
        have HO588 := n1_
        have HO593 := n2_
        have HO597 := n3_
        have HO601 := n4_
        have HO606 := n5_
        have HO611 := n6_
        have HO615 := n7_
        have HO620 := n8_
        have BK580 := n9_
        have BK607 := n10_
        have HB := n11_
        clear n0_ n1_ n2_ n3_ n4_ n5_ n6_ n7_ n8_ n9_ n10_ n11_
        (try clear hb)
        (try clear hb2)
        (try clear hk)
        (try clear hi)
        refine hK.out _ _ ⟨(blk_cell BK607.out 0).trans rfl, (blk_cell BK607.out 1).trans rfl, (blk_cell BK607.out 2).trans rfl, (blk_cell BK607.out 3).trans rfl, (blk_cell BK607.out 4).trans rfl, (blk_cell BK607.out 5).trans rfl, (blk_cell BK580.out 0).trans rfl, (blk_cell BK580.out 1).trans rfl, (blk_cell BK580.out 2).trans rfl, (blk_cell BK580.out 3).trans rfl, (blk_cell BK580.out 4).trans rfl, (blk_cell BK580.out 5).trans rfl⟩ (fun hHeld => ?_)
        clear hK K
        refine norm_ (a' := ?_) ?_ ?_
        rotate_left
        · show Act.put _ (some 25) _ = _
          simp only [Act.put, List.setIfInBounds_toArray, List.set_cons_zero, List.set_cons_succ, i64_w, i32_w]
          rfl
        refine pure_ (i := 4) (N := some 26) (v := ?_) (a' := ?_) #[true, true, true, true, true] rfl rfl (by kernel_rfl) (fun _ _ _ h => h) (Or.inl ⟨by rfl, ?_⟩) ?_ ?_
        rotate_left
        · intro w'
          go_simp
          with_reducible rfl
        rotate_left
        · simp only [Act.put, List.setIfInBounds_toArray, List.set_cons_zero, List.set_cons_succ, i64_w, i32_w]
          rfl
        refine done_ (by kernel_rfl) ?_
        try go_wp2
        go_ret
        exact ⟨by first | rfl | (simp [errW_none, errW_some] <;> rfl) | (simp [*, errW_none, errW_some] <;> rfl), oB HB⟩
      · replace c14 := Bool.eq_false_iff.mpr c14
        subst c14
        rw [if_neg (show ¬ (false = true) by decide)] at H
        exact absurd ((Option.some.inj H).trans hrt_.out) (by decide)
    · rw [if_neg c11] at H
      have c11b0 : (t608 == t594) = false := beq_eq_false_iff_ne.mpr c11
      have c11b1 : (t608 != t594) = true := bne_iff_ne.mpr c11
      exact absurd ((Option.some.inj H).trans hrt_.out) (by decide)
end Go.Proofs.Ytbkkpllejgedcaa.P


namespace Go.Proofs.Ytbkkpllejgedcaa.Q
set_option linter.unusedVariables false
set_option linter.unusedSimpArgs false
open Go.RowKit Go.Proofs.YtbkkpllejgedcaaW.PrintWords
theorem evp {α : Type} {c : Prop} [Decidable c] (h : c) {f g : Nat → Option α} {r : α} (k : Ev f r) : Ev (fun n => if c then f n else g n) r := by
  simp only [if_pos h]; exact k
theorem evn {α : Type} {c : Prop} [Decidable c] (h : ¬ c) {f g : Nat → Option α} {r : α} (k : Ev g r) : Ev (fun n => if c then f n else g n) r := by
  simp only [if_neg h]; exact k
theorem evb {α β : Type} {x : Option α} {f : Nat → α → Option β} {a : α} {r : β} (h : x = some a) (k : Ev (fun n => f n a) r) : Ev (fun n => x.bind (f n)) r := by
  simp only [h, Option.bind_some]; exact k
theorem evs {α : Type} {a b : α} (h : a = b) : Ev (fun _ => some a) b := h ▸ Ev.now a
theorem rpos {α : Type} {c : Prop} [Decidable c] (h : c) {f : Nat → Option α} {r s : α} (k : Ev f r) : Ev f (if c then r else s) := by rw [if_pos h]; exact k
theorem rneg {α : Type} {c : Prop} [Decidable c] (h : ¬ c) {f : Nat → Option α} {r s : α} (k : Ev f s) : Ev f (if c then r else s) := by rw [if_neg h]; exact k
theorem down {P : Nat → Prop} {n : Nat} (he : P n) (hs : ∀ i, i < n → P (i + 1) → P i) (i : Nat) (h : i ≤ n) : P i := by
  obtain ⟨d, rfl⟩ : ∃ d, n = i + d := ⟨n - i, by omega⟩
  clear h
  induction d generalizing i with
  | zero => exact he
  | succ d ih =>
    refine hs i (by omega) (ih (i + 1) ?_ ?_)
    · rw [show i + 1 + d = i + (d + 1) by omega]; exact he
    · intro j hj; exact hs j (by omega)
theorem w64 {n : Int} (h1 : -9223372036854775808 ≤ n) (h2 : n ≤ 9223372036854775807) : wrap64 n = n := by unfold wrap64; omega
theorem rd_nat (l : List Int) (i : Nat) (h : i < l.length) : rd l (i : Int) = l[i] := by
  unfold rd; simp [List.getD_eq_getElem?_getD, h]
theorem drop_cons {α : Type} (l : List α) (i : Nat) (h : i < l.length) : l.drop i = l[i] :: l.drop (i + 1) := List.drop_eq_getElem_cons h
theorem drop_end {α : Type} (l : List α) : l.drop l.length = [] := List.drop_eq_nil_of_le (Nat.le_refl _)
theorem set_take {α : Type} (l : List α) (i : Nat) (v : α) (h : i < l.length) : (l.set i v).take (i + 1) = l.take i ++ [v] := by
  rw [List.take_set, List.take_succ_eq_append_getElem h, List.set_append_right _ _ (by simp; omega)]
  simp [Nat.min_eq_left (Nat.le_of_lt h)]
end Go.Proofs.Ytbkkpllejgedcaa.Q


namespace Go.Proofs.Ytbkkpllejgedcaa.Q
set_option linter.unusedVariables false
set_option linter.unusedSimpArgs false
open Go.RowKit Go.Proofs.Ytbkkpllejgedcaa.P Go.Proofs.YtbkkpllejgedcaaW.PrintWords
theorem within_eq (a b c : Int) : impl_within.f a b c = some (decide (b ≤ a ∧ a ≤ c)) := by
  unfold impl_within.f; by_cases h : b ≤ a <;> simp [h]
theorem l01In_eq (a b c : Int) : spec_l01In.f a b c = some (decide (b ≤ a ∧ a ≤ c)) := by
  unfold spec_l01In.f; by_cases h : a ≥ b
  · rw [if_pos h]; simp [show b ≤ a from h]
  · rw [if_neg h]; simp [show ¬ b ≤ a from h]
end Go.Proofs.Ytbkkpllejgedcaa.Q


namespace Go.Proofs.Ytbkkpllejgedcaa.Q
set_option linter.unusedVariables false
set_option linter.unusedSimpArgs false
open Go.RowKit Go.Proofs.Ytbkkpllejgedcaa.P Go.Proofs.YtbkkpllejgedcaaW.PrintWords Go.Proofs.YtbkkpllejgedcaaW.PrintMore
def fine (n : Int) : Bool := decide (1 ≤ n ∧ n ≤ 10000000)
theorem pitch_eq (n : Int) : spec_l18Pitch.f n = some (fine n) := by unfold spec_l18Pitch.f; rw [l01In_eq]; rfl
theorem isFine_eq (n : Int) : impl_isFine.f n = some (fine n) := by unfold impl_isFine.f; rw [within_eq]; rfl
def orZero (n : Int) : Int := if fine n = true then n else 0
def tunedPitch (a k b : Int) : Int :=
  if fine a = true then
    if 0 ≤ b ∧ b ≤ 100000 then
      if k = 1 then orZero (wrap64 (Int.tdiv (mx (wrap64 ((wrap64 (3 * a)) - b)) 0) 2))
      else if k = 2 then orZero (wrap64 (Int.tdiv (mx (wrap64 ((wrap64 (3 * a)) - b)) 0) 4))
      else if k = 3 then if b = 0 then orZero (wrap64 (2 * a)) else 0
      else if k = 4 then if b = 0 then orZero (wrap64 (Int.tdiv a 2)) else 0
      else 0
    else 0
  else 0
theorem mx_comm (a b : Int) : mx a b = mx b a := by unfold mx; split <;> split <;> omega
theorem evz {n : Int} {x : Option Bool} (h : x = some (fine n)) : Ev (fun _ => x.bind fun t => if t = true then some n else some 0) (orZero n) := by
  subst h; simp only [Option.bind_some]; unfold orZero; by_cases h : fine n = true
  · rw [if_pos h, if_pos h]; exact Ev.now _
  · rw [if_neg h, if_neg h]; exact Ev.now _
theorem tuned_impl (a k b : Int) : Ev (fun n => impl_TunedPitch.f n a k b) (tunedPitch a k b) := by
  have jt : Ev (fun n => impl_TunedPitch.j0 n a k b true) 0 := Ev.step (fun n => by rw [impl_TunedPitch.j0]) (evp rfl (Ev.now _))
  unfold impl_TunedPitch.f
  refine evb (isFine_eq a) ?_
  unfold tunedPitch
  by_cases ha : fine a = true
  rotate_left
  · exact rneg ha <| evn ha jt
  refine rpos ha <| evp ha (evb (within_eq _ _ _) ?_)
  by_cases hb : 0 ≤ b ∧ b ≤ 100000
  rotate_left
  · exact rneg hb <| evn (by simpa using hb) jt
  refine rpos hb <| evp (by simpa using hb) ?_
  have jf : (k = 3 ∨ k = 4 → b = 0) → Ev (fun n => impl_TunedPitch.j0 n a k b false) (if k = 1 then orZero (wrap64 (Int.tdiv (mx (wrap64 ((wrap64 (3 * a)) - b)) 0) 2))
      else if k = 2 then orZero (wrap64 (Int.tdiv (mx (wrap64 ((wrap64 (3 * a)) - b)) 0) 4))
      else if k = 3 then if b = 0 then orZero (wrap64 (2 * a)) else 0
      else if k = 4 then if b = 0 then orZero (wrap64 (Int.tdiv a 2)) else 0
      else 0) := by
    intro h0
    refine Ev.step (fun n => by rw [impl_TunedPitch.j0]) (evn (by decide) ?_)
    by_cases h1 : k = 1
    · exact rpos h1 <| evp h1 (evz (isFine_eq _))
    refine rneg h1 <| evn h1 ?_
    by_cases h2 : k = 2
    · exact rpos h2 <| evp h2 (evz (isFine_eq _))
    refine rneg h2 <| evn h2 ?_
    by_cases h3 : k = 3
    · exact rpos h3 <| rpos (h0 (.inl h3)) <| evp h3 (evz (isFine_eq _))
    refine rneg h3 <| evn h3 ?_
    by_cases h4 : k = 4
    · exact rpos h4 <| rpos (h0 (.inr h4)) <| evp h4 (evz (isFine_eq _))
    refine rneg h4 <| evn h4 ?_
    refine evb (isFine_eq _) (evn (by decide) (Ev.now _))
  by_cases b0 : b = 0
  · exact evp b0 (jf fun _ => b0)
  refine evn b0 ?_
  by_cases h3 : k = 3
  · refine evp h3 ?_
    exact rneg (by omega) <| rneg (by omega) <| rpos h3 <| rneg b0 jt
  refine evn h3 ?_
  by_cases h4 : k = 4
  · rw [show (k == 4) = true by simp [h4]]; exact rneg (by omega) <| rneg (by omega) <| rneg (by omega) <| rpos h4 <| rneg b0 jt
  · rw [show (k == 4) = false by simp [h4]]; exact jf (by omega)
theorem tuned_spec (a k b : Int) : Ev (fun n => spec_TunedPitch.f n a k b) (tunedPitch a k b) := by
  have jt : Ev (fun n => spec_TunedPitch.j0 n a k b true) 0 := Ev.step (fun n => by rw [spec_TunedPitch.j0]) (evp rfl (Ev.now _))
  unfold spec_TunedPitch.f
  refine evb (pitch_eq a) ?_
  unfold tunedPitch
  by_cases ha : fine a = true
  rotate_left
  · exact rneg ha <| evn ha jt
  refine rpos ha <| evp ha (evb (l01In_eq _ _ _) ?_)
  by_cases hb : 0 ≤ b ∧ b ≤ 100000
  rotate_left
  · rw [show (!decide (0 ≤ b ∧ b ≤ 100000)) = true by rw [decide_eq_false hb]; rfl]; exact rneg hb jt
  rw [show (!decide (0 ≤ b ∧ b ≤ 100000)) = false by rw [decide_eq_true hb]; rfl]
  refine rpos hb ?_
  have j2t : Ev (fun n => spec_TunedPitch.j2 n a 0 true) (orZero (wrap64 (Int.tdiv a 2))) := Ev.step (fun n => by rw [spec_TunedPitch.j2]) (evp rfl (evz (pitch_eq _)))
  have j2f : Ev (fun n => spec_TunedPitch.j2 n a 0 false) 0 := Ev.step (fun n => by rw [spec_TunedPitch.j2]) (evn (by decide) (evz (pitch_eq 0)))
  refine Ev.step (fun n => by rw [spec_TunedPitch.j0]) (evn (by decide) ?_)
  by_cases h1 : k = 1
  · rw [mx_comm 0]; exact rpos h1 <| evp h1 (evz (pitch_eq _))
  refine rneg h1 <| evn h1 ?_
  by_cases h2 : k = 2
  · rw [mx_comm 0]; exact rpos h2 <| evp h2 (evz (pitch_eq _))
  refine rneg h2 <| evn h2 ?_
  have j1f : Ev (fun n => spec_TunedPitch.j1 n a k b 0 false) (if k = 4 then if b = 0 then orZero (wrap64 (Int.tdiv a 2)) else 0 else 0) := by
    refine Ev.step (fun n => by rw [spec_TunedPitch.j1]) (evn (by decide) ?_)
    by_cases h4 : k = 4
    · refine rpos h4 <| evp h4 ?_
      by_cases b0 : b = 0
      · rw [show (b == 0) = true by simp [b0]]; exact rpos b0 j2t
      · rw [show (b == 0) = false by simp [b0]]; exact rneg b0 j2f
    · exact rneg h4 <| evn h4 j2f
  by_cases h3 : k = 3
  · refine rpos h3 <| evp h3 ?_
    by_cases b0 : b = 0
    · rw [show (b == 0) = true by simp [b0]]
      exact rpos b0 <| Ev.step (fun n => by rw [spec_TunedPitch.j1]) (evp rfl (evz (pitch_eq _)))
    · rw [show (b == 0) = false by simp [b0]]
      rw [if_neg (by omega)] at j1f
      exact rneg b0 j1f
  exact rneg h3 <| evn h3 j1f
end Go.Proofs.Ytbkkpllejgedcaa.Q


namespace Go.Proofs.Ytbkkpllejgedcaa.Q
set_option linter.unusedVariables false
set_option linter.unusedSimpArgs false
open Go.RowKit Go.Proofs.Ytbkkpllejgedcaa.P Go.Proofs.YtbkkpllejgedcaaW.PrintWords Go.Proofs.YtbkkpllejgedcaaW.PrintMore
def cStep (x : S98) : S96 := ⟨x.f0, x.f1, x.f2, x.f3⟩
theorem rdS (l : List S96) (i : Nat) (h : i < l.length) : rd_T96 l (i : Int) = l[i] := by
  unfold rd_T96; simp [List.getD_eq_getElem?_getD, h]
theorem rdLS (l : List S98) (i : Nat) (h : i < l.length) : rd_T98 l (i : Int) = l[i] := by
  unfold rd_T98; simp [List.getD_eq_getElem?_getD, h]
theorem toStepS_ev (l : List S98) (hl : l.length ≤ 1048576) : Ev (fun k => laws_toStepS.f k l) (l.map cStep) := by
  have key : ∀ i, i ≤ l.length → ∀ acc : List S96, acc.length = l.length → Ev (fun k => laws_toStepS.l0 k l acc (i : Int)) (acc.take i ++ (l.drop i).map cStep) := by
    refine down (n := l.length) ?_ ?_
    · intro acc ha
      refine Ev.step (fun k => by rw [laws_toStepS.l0]) (evn (by omega) (evs ?_))
      rw [drop_end, List.map_nil, List.append_nil, List.take_of_length_le (by omega)]
    · intro i hi ih acc ha
      refine Ev.step (fun k => by rw [laws_toStepS.l0]) (evp (by omega) (evp (by omega) ?_))
      rw [rdLS l i hi]
      refine evb (a := (l[i].f0, l[i].f1, l[i].f2, l[i].f3)) rfl (evp (by omega) ?_)
      rw [w64 (by omega) (by omega), Int.toNat_natCast]
      have := ih (acc.set i (cStep l[i])) (by simpa using ha)
      rw [set_take _ _ _ (by omega), List.append_assoc] at this
      rw [drop_cons l i hi, List.map_cons]
      exact this
  have := key 0 (Nat.zero_le _) (List.replicate l.length z96) (by simp)
  unfold laws_toStepS.f
  refine evp (by omega) (evp (by omega) ?_)
  simpa using this
theorem eqStep_self (a b c d : Int) : laws_eqStep.f a b c d a b c d = some true := by unfold laws_eqStep.f; simp
theorem eqStepS_ev (l : List S96) (hl : l.length ≤ 9000000000000000000) : Ev (fun k => laws_eqStepS.f k l l) true := by
  have key : ∀ i, i ≤ l.length → Ev (fun k => laws_eqStepS.l0 k l l (i : Int)) true := by
    refine down (n := l.length) ?_ ?_
    · refine Ev.step (fun k => by rw [laws_eqStepS.l0]) (evn (by omega) ?_)
      exact Ev.now _
    · intro i hi ih
      refine Ev.step (fun k => by rw [laws_eqStepS.l0]) (evp (by omega) (evp (by omega) (evp (by omega) ?_)))
      refine evb (eqStep_self _ _ _ _) (evp rfl ?_)
      rw [w64 (by omega) (by omega)]
      exact ih
  unfold laws_eqStepS.f
  refine evp rfl ?_
  exact key 0 (Nat.zero_le _)
theorem szStepS_eq (l : List S98) (m : Int) (h0 : 0 ≤ m) (hm : m ≤ 1048576) (hl : l.length ≤ 9223372036854775807) : laws_szStepS.f l m = some (if m < l.length then -1 else m - l.length) := by
  unfold laws_szStepS.f
  rw [w64 (by omega) (by omega)]
  by_cases h : m < l.length
  · rw [if_pos (by omega), if_pos h]
  · rw [if_neg (by omega), if_neg h]
end Go.Proofs.Ytbkkpllejgedcaa.Q


namespace Go.Proofs.Ytbkkpllejgedcaa.Q
set_option linter.unusedVariables false
set_option linter.unusedSimpArgs false
open Go.RowKit Go.Proofs.Ytbkkpllejgedcaa.P Go.Proofs.YtbkkpllejgedcaaW.PrintWords Go.Proofs.YtbkkpllejgedcaaW.PrintMore
theorem planGoS_eq (l : List S96) (t : List Bool) : planGoS l t = planGo l t := by
  induction l generalizing t with
  | nil => rfl
  | cons x r ih => simp only [planGoS, planGo, ih]; rfl
theorem planSpec_eq (l : List S96) : spec_PlanOk.f l = some (planOk l) := by
  show some (planOkS l) = some (planOk l)
  unfold planOkS planOk
  rw [planGoS_eq, Bool.and_comm]; rfl
def inKeys (x : S96) : Prop := 0 ≤ x.f0 ∧ x.f0 ≤ 11 ∧ 0 ≤ x.f1 ∧ x.f1 ≤ 11 ∧ x.f1 = (x.f0 + 1) % 12
theorem stepOk_in {x : S96} {t : List Bool} (h : stepOk x t = true) : inKeys x := by
  simp [stepOk] at h; unfold inKeys; omega
theorem planGo_in {l : List S96} {t : List Bool} (h : planGo l t = true) : ∀ x ∈ l, inKeys x := by
  induction l generalizing t with
  | nil => simp
  | cons y r ih =>
    simp only [planGo, Bool.and_eq_true] at h
    intro x hx
    rcases List.mem_cons.1 hx with rfl | hx
    · exact stepOk_in h.1
    · exact ih h.2 x hx
theorem planOk_in {l : List S96} (h : planOk l = true) : ∀ x ∈ l, inKeys x := by
  simp only [planOk, Bool.and_eq_true] at h; exact planGo_in h.2
theorem planOk_len {l : List S96} (h : planOk l = true) : l.length ≤ 11 := by
  simp only [planOk, Bool.and_eq_true, decide_eq_true_eq] at h; exact h.1
theorem rd_get (l : List Int) (i : Int) : rd l i = l.getD i.toNat 0 := rfl
end Go.Proofs.Ytbkkpllejgedcaa.Q


namespace Go.Proofs.Ytbkkpllejgedcaa.Q
set_option linter.unusedVariables false
set_option linter.unusedSimpArgs false
open Go.RowKit Go.Proofs.Ytbkkpllejgedcaa.P Go.Proofs.YtbkkpllejgedcaaW.PrintWords Go.Proofs.YtbkkpllejgedcaaW.PrintMore
def stepTo (c : Int) : List S96 → Nat → Int
  | [], _ => -1
  | x :: r, j => if x.f1 = c then (j : Int) else stepTo c r (j + 1)
theorem stepTo_ev (l : List S96) (c : Int) (hl : l.length ≤ 4000000) : Ev (fun n => spec_l20Step.f n l c) (stepTo c l 0) := by
  have key : ∀ i, i ≤ l.length → Ev (fun n => spec_l20Step.l0 n l c (i : Int)) (stepTo c (l.drop i) i) := by
    refine down (n := l.length) ?_ ?_
    · refine Ev.step (fun n => by rw [spec_l20Step.l0]) (evn (by omega) (evs ?_))
      rw [drop_end]; rfl
    · intro i hi ih
      refine Ev.step (fun n => by rw [spec_l20Step.l0]) ?_
      refine evp (by omega) (evp (by omega) ?_)
      rw [rdS l i hi, drop_cons l i hi, stepTo]
      by_cases h : l[i].f1 = c
      · exact rpos h <| evp h (Ev.now _)
      · refine rneg h <| evn h ?_
        rw [w64 (by omega) (by omega)]
        exact ih
  exact key 0 (Nat.zero_le _)
theorem stepTo_lt (c : Int) (l : List S96) (j d : Nat) : (0 ≤ stepTo c l j ∧ stepTo c l j < ((j + d : Nat) : Int)) ↔ ∃ x ∈ l.take d, x.f1 = c := by
  induction l generalizing j d with
  | nil => simp [stepTo]
  | cons x r ih =>
    unfold stepTo
    cases d with
    | zero =>
      simp only [List.take_zero, List.not_mem_nil, false_and, exists_false, iff_false]
      by_cases h : x.f1 = c
      · rw [if_pos h]; omega
      · rw [if_neg h]
        have := ih (j + 1) 0
        simp at this
        have h1 := this
        intro h2
        have : ∀ (l : List S96) (j : Nat), stepTo c l j = -1 ∨ (j : Int) ≤ stepTo c l j := by
          intro l
          induction l with
          | nil => intro j; exact .inl rfl
          | cons y s ih2 =>
            intro j; unfold stepTo; split
            · exact .inr (Int.le_refl _)
            · rcases ih2 (j + 1) with h | h
              · exact .inl h
              · exact .inr (by omega)
        rcases this r (j + 1) with h3 | h3 <;> omega
    | succ d =>
      rw [List.take_succ_cons]
      by_cases h : x.f1 = c
      · rw [if_pos h]
        exact ⟨fun _ => ⟨x, List.mem_cons_self, h⟩, fun _ => ⟨by omega, by omega⟩⟩
      · rw [if_neg h]
        have := ih (j + 1) d
        rw [show j + 1 + d = j + (d + 1) by omega] at this
        rw [this]
        constructor
        · rintro ⟨y, hy, e⟩; exact ⟨y, List.mem_cons_of_mem _ hy, e⟩
        · rintro ⟨y, hy, e⟩
          rcases List.mem_cons.1 hy with rfl | hy
          · exact absurd e h
          · exact ⟨y, hy, e⟩
theorem tunedBy_len (l : List S96) (t : List Bool) : (P.tunedBy l t).length = t.length := by
  unfold P.tunedBy
  induction l generalizing t with
  | nil => rfl
  | cons x r ih => rw [List.foldl_cons, ih, List.length_set]
theorem tunedBy_get (l : List S96) (t : List Bool) (hin : ∀ x ∈ l, 0 ≤ x.f1) (c : Nat) (hc : c < t.length) : (P.tunedBy l t)[c]? = some (t[c] || l.any (fun x => decide (x.f1 = (c : Int)))) := by
  unfold P.tunedBy
  induction l generalizing t with
  | nil => simp [hc]
  | cons x r ih =>
    rw [List.foldl_cons, ih _ (fun y hy => hin y (List.mem_cons_of_mem _ hy)) (by simpa using hc)]
    have := hin x List.mem_cons_self
    simp only [List.any_cons, List.getElem_set]
    by_cases h : x.f1 = (c : Int)
    · rw [if_pos (by omega)]; simp [h]
    · rw [if_neg (by omega)]; simp [h]
theorem workOk_spec (p : List S96) (d : Int) (q : List Int) : Ev (fun n => spec_WorkOk.f n p d q) (workOk p d q) := by
  have jt : Ev (fun n => spec_WorkOk.j0 n true p d q) false := Ev.step (fun n => by rw [spec_WorkOk.j0]) (evp rfl (Ev.now _))
  unfold spec_WorkOk.f workOk
  refine evb (planSpec_eq p) ?_
  by_cases hp : planOk p = true
  rotate_left
  · rw [show planOk p = false by simpa using hp, Bool.false_and]; exact evn (by simp) jt
  refine evp hp (evb (l01In_eq _ _ _) ?_)
  rw [hp, Bool.true_and]
  by_cases hd : 0 ≤ d ∧ d ≤ (p.length : Int)
  rotate_left
  · rw [decide_eq_false hd, Bool.false_and]; exact evn (by simp) jt
  rw [decide_eq_true hd, Bool.true_and]
  refine evp rfl ?_
  by_cases hq : q.length = 12
  rotate_left
  · rw [decide_eq_false hq, Bool.false_and, show ((q.length : Int) != 12) = true by simpa using (show ¬ (q.length : Int) = 12 by omega)]; exact jt
  rw [decide_eq_true hq, Bool.true_and, show ((q.length : Int) != 12) = false by simpa using (show (q.length : Int) = 12 by omega)]
  have hl := planOk_len hp
  have hin := planOk_in hp
  obtain ⟨T, hT⟩ : ∃ T, P.tunedBy (p.take d.toNat) tuned0 = T := ⟨_, rfl⟩
  have hTl : T.length = 12 := by rw [← hT, tunedBy_len]; rfl
  have hTi : ∀ c : Nat, (hc : c < T.length) → T[c] = (decide (c = 0) || decide (0 ≤ stepTo (c : Int) p 0 ∧ stepTo (c : Int) p 0 < d)) := by
    intro c hc
    have h1 := tunedBy_get (p.take d.toNat) tuned0 (fun x hx => (hin x (List.mem_of_mem_take hx)).2.2.1) c (show c < 12 by omega)
    rw [hT, List.getElem?_eq_getElem hc] at h1
    rw [Option.some.inj h1]
    congr 1
    · have : ∀ c, (h : c < tuned0.length) → tuned0[c] = decide (c = 0) := by decide
      exact this c _
    · have h2 := stepTo_lt (c : Int) p 0 d.toNat
      rw [Nat.zero_add, Int.toNat_of_nonneg hd.1] at h2
      rw [Bool.eq_iff_iff, decide_eq_true_iff, h2]
      simp
  rw [hT]
  have key : ∀ i : Nat, i ≤ 12 → Ev (fun n => spec_WorkOk.l0 n (i : Int) p d q) (keyGo (T.drop i) (q.drop i)) := by
    refine down (n := 12) ?_ ?_
    · refine Ev.step (fun n => by rw [spec_WorkOk.l0]) (evn (by omega) (evs ?_))
      rw [List.drop_eq_nil_of_le (by omega)]; rfl
    · intro i hi ih
      refine Ev.step (fun n => by rw [spec_WorkOk.l0]) ?_
      refine evp (by omega) (Ev.bind (stepTo_ev p _ (by omega)) ?_)
      rw [rd_nat q i (by omega), drop_cons T i (by omega), drop_cons q i (by omega), keyGo, hTi i (by omega), w64 (n := (i : Int) + 1) (by omega) (by omega)]
      have fin : ∀ v : Bool, Ev (fun n => (spec_l18Pitch.f q[i]).bind fun t => if t = true then spec_WorkOk.l0 n (((i + 1 : Nat)) : Int) p d q else some false) (decide (1 ≤ q[i] ∧ q[i] ≤ 10000000) && keyGo (T.drop (i + 1)) (q.drop (i + 1))) := by
        intro v
        refine evb (pitch_eq _) ?_
        by_cases hf : fine q[i] = true
        · rw [show decide (1 ≤ q[i] ∧ q[i] ≤ 10000000) = true from hf, Bool.true_and]; exact evp hf ih
        · rw [show decide (1 ≤ q[i] ∧ q[i] ≤ 10000000) = false by simpa [fine] using hf, Bool.false_and]; exact evn hf (Ev.now _)
      have zer : Ev (fun n => if 0 ≤ (i : Int) then (if (i : Int) < (q.length : Int) then (if q[i] = 0 then spec_WorkOk.l0 n (((i + 1 : Nat)) : Int) p d q else some false) else none) else none) (decide (q[i] = 0) && keyGo (T.drop (i + 1)) (q.drop (i + 1))) := by
        refine evp (by omega) (evp (by omega) ?_)
        by_cases hz : q[i] = 0
        · rw [decide_eq_true hz, Bool.true_and]; exact evp hz ih
        · rw [decide_eq_false hz, Bool.false_and]; exact evn hz (Ev.now _)
      by_cases h0 : i = 0
      · refine evp (by omega) (evp (by omega) (evp (by omega) ?_))
        rw [decide_eq_true h0, Bool.true_or, if_pos rfl]
        exact fin true
      refine evn (by omega) ?_
      rw [decide_eq_false h0, Bool.false_or]
      by_cases h1 : 0 ≤ stepTo (i : Int) p 0
      rotate_left
      · rw [decide_eq_false (fun h => h1 h.1), if_neg (by simp)]; exact evn (by omega) zer
      refine evp (by omega) ?_
      by_cases h2 : stepTo (i : Int) p 0 < d
      · rw [decide_eq_true ⟨h1, h2⟩, if_pos rfl]; exact evp h2 (evp (by omega) (evp (by omega) (fin true)))
      · rw [decide_eq_false (fun h => h2 h.2), if_neg (by simp)]; exact evn h2 zer
  refine Ev.step (fun n => by rw [spec_WorkOk.j0]) (evn (by decide) ?_)
  exact key 0 (by omega)
theorem workImpl_eq (p : List S96) (d : Int) (q : List Int) : impl_WorkOk.f p d q = some (workOk p d q) := rfl
theorem workOk_plan {p : List S96} {d : Int} {q : List Int} (h : workOk p d q = true) : planOk p = true := by
  simp only [workOk, Bool.and_eq_true] at h; exact h.1
theorem workOk_done {p : List S96} {d : Int} {q : List Int} (h : workOk p d q = true) : 0 ≤ d ∧ d ≤ p.length := by
  simp only [workOk, Bool.and_eq_true, decide_eq_true_eq] at h; exact h.2.1
theorem workOk_len {p : List S96} {d : Int} {q : List Int} (h : workOk p d q = true) : q.length = 12 := by
  simp only [workOk, Bool.and_eq_true, decide_eq_true_eq] at h; exact h.2.2.1
end Go.Proofs.Ytbkkpllejgedcaa.Q


namespace Go.Proofs.Ytbkkpllejgedcaa.Q
set_option linter.unusedVariables false
set_option linter.unusedSimpArgs false
open Go.RowKit Go.Proofs.Ytbkkpllejgedcaa.P Go.Proofs.YtbkkpllejgedcaaW.PrintWords Go.Proofs.YtbkkpllejgedcaaW.PrintMore
def cEntry (x : S68) : S74 := ⟨⟨x.f0.f0, x.f0.f1⟩, x.f1, x.f2⟩
theorem rdE (l : List S74) (i : Nat) (h : i < l.length) : rd_T74 l (i : Int) = l[i] := by
  unfold rd_T74; simp [List.getD_eq_getElem?_getD, h]
theorem rdLE (l : List S68) (i : Nat) (h : i < l.length) : rd_T68 l (i : Int) = l[i] := by
  unfold rd_T68; simp [List.getD_eq_getElem?_getD, h]
theorem toEntryS_ev (l : List S68) (hl : l.length ≤ 1048576) : Ev (fun k => laws_toEntryS.f k l) (l.map cEntry) := by
  have key : ∀ i, i ≤ l.length → ∀ acc : List S74, acc.length = l.length → Ev (fun k => laws_toEntryS.l0 k l acc (i : Int)) (acc.take i ++ (l.drop i).map cEntry) := by
    refine down (n := l.length) ?_ ?_
    · intro acc ha
      refine Ev.step (fun k => by rw [laws_toEntryS.l0]) (evn (by omega) (evs ?_))
      rw [drop_end, List.map_nil, List.append_nil, List.take_of_length_le (by omega)]
    · intro i hi ih acc ha
      refine Ev.step (fun k => by rw [laws_toEntryS.l0]) (evp (by omega) (evp (by omega) ?_))
      rw [rdLE l i hi]
      refine evb (a := (l[i].f0.f0, l[i].f0.f1, l[i].f1, l[i].f2)) rfl (evp (by omega) ?_)
      rw [w64 (by omega) (by omega), Int.toNat_natCast]
      have := ih (acc.set i (cEntry l[i])) (by simpa using ha)
      rw [set_take _ _ _ (by omega), List.append_assoc] at this
      rw [drop_cons l i hi, List.map_cons]
      exact this
  have := key 0 (Nat.zero_le _) (List.replicate l.length z74) (by simp)
  unfold laws_toEntryS.f
  refine evp (by omega) (evp (by omega) ?_)
  simpa using this
theorem eqPipe_self (a b : Int) : laws_eqPipe.f a b a b = some true := by unfold laws_eqPipe.f; simp
theorem eqEntry_self (a b c d : Int) : laws_eqEntry.f a b c d a b c d = some true := by unfold laws_eqEntry.f; simp [eqPipe_self]
theorem eqEntryS_ev (l : List S74) (hl : l.length ≤ 9000000000000000000) : Ev (fun k => laws_eqEntryS.f k l l) true := by
  have key : ∀ i, i ≤ l.length → Ev (fun k => laws_eqEntryS.l0 k l l (i : Int)) true := by
    refine down (n := l.length) ?_ ?_
    · refine Ev.step (fun k => by rw [laws_eqEntryS.l0]) (evn (by omega) ?_)
      exact Ev.now _
    · intro i hi ih
      refine Ev.step (fun k => by rw [laws_eqEntryS.l0]) (evp (by omega) (evp (by omega) (evp (by omega) ?_)))
      refine evb (eqEntry_self _ _ _ _) (evp rfl ?_)
      rw [w64 (by omega) (by omega)]
      exact ih
  unfold laws_eqEntryS.f
  refine evp rfl ?_
  exact key 0 (Nat.zero_le _)
theorem szEntryS_eq (l : List S68) (m : Int) (h0 : 0 ≤ m) (hm : m ≤ 1048576) (hl : l.length ≤ 9223372036854775807) : laws_szEntryS.f l m = some (if m < l.length then -1 else m - l.length) := by
  unfold laws_szEntryS.f
  rw [w64 (by omega) (by omega)]
  by_cases h : m < l.length
  · rw [if_pos (by omega), if_pos h]
  · rw [if_neg (by omega), if_neg h]
end Go.Proofs.Ytbkkpllejgedcaa.Q


namespace Go.Proofs.Ytbkkpllejgedcaa.Q
set_option linter.unusedVariables false
set_option linter.unusedSimpArgs false
open Go.RowKit Go.Proofs.Ytbkkpllejgedcaa.P Go.Proofs.YtbkkpllejgedcaaW.PrintWords Go.Proofs.YtbkkpllejgedcaaW.PrintMore
def entOk (e : S74) : Bool := decide (0 ≤ e.f0.f0 ∧ e.f0.f0 ≤ 3) && (decide (0 ≤ e.f0.f1 ∧ e.f0.f1 ≤ 39) && (decide (0 ≤ e.f1 ∧ e.f1 ≤ 2) && decide (0 ≤ e.f2 ∧ e.f2 ≤ 100000)))
def logGo : Int → List S74 → Bool
  | _, [] => true
  | p, e :: r => entOk e && (decide (p ≤ e.f2) && logGo e.f2 r)
def logOk (l : List S74) : Bool := logGo 0 l && decide (l.length ≤ 30)
def prevM (l : List S74) (i : Nat) : Int := if i = 0 then 0 else (l.getD (i - 1) z74).f2
theorem prevM_succ (l : List S74) (i : Nat) (h : i < l.length) : prevM l (i + 1) = l[i].f2 := by simp [prevM, List.getD_eq_getElem?_getD, h]
theorem prevM_pos (l : List S74) (i : Nat) (h0 : 0 < i) (h : i < l.length) : prevM l i = l[i - 1].f2 := by
  simp [prevM, List.getD_eq_getElem?_getD, show i ≠ 0 by omega, show i - 1 < l.length by omega]
theorem logOk_spec (l : List S74) (hl : l.length ≤ 1048577) : Ev (fun k => spec_LogOk.f k l) (logOk l) := by
  have key : ∀ i, i ≤ l.length → Ev (fun k => spec_LogOk.l0 k l (i : Int)) (logGo (prevM l i) (l.drop i) && decide (l.length ≤ 30)) := by
    refine down (n := l.length) ?_ ?_
    · refine Ev.step (fun k => by rw [spec_LogOk.l0]) (evn (by omega) (evs ?_))
      rw [drop_end]
      simp [logGo]; omega
    · intro i hi ih
      refine Ev.step (fun k => by rw [spec_LogOk.l0]) (evp (by omega) (evp (by omega) ?_))
      rw [rdE l i hi, drop_cons l i hi, logGo]
      refine evb (l01In_eq _ _ _) ?_
      by_cases h1 : 0 ≤ l[i].f0.f0 ∧ l[i].f0.f0 ≤ 3
      rotate_left
      · exact evn (by simpa using h1) (evs (by simp [entOk, h1]))
      refine evp (by simpa using h1) (evb (l01In_eq _ _ _) ?_)
      by_cases h2 : 0 ≤ l[i].f0.f1 ∧ l[i].f0.f1 ≤ 39
      rotate_left
      · exact evn (by simpa using h2) (evs (by simp [entOk, h2]))
      refine evp (by simpa using h2) (evb (l01In_eq _ _ _) ?_)
      by_cases h3 : 0 ≤ l[i].f1 ∧ l[i].f1 ≤ 2
      rotate_left
      · exact evn (by simpa using h3) (evs (by simp [entOk, h3]))
      refine evp (by simpa using h3) (evb (l01In_eq _ _ _) ?_)
      by_cases h4 : 0 ≤ l[i].f2 ∧ l[i].f2 ≤ 100000
      rotate_left
      · exact evn (by simpa using h4) (evs (by simp [entOk, h4]))
      refine evp (by simpa using h4) ?_
      have hE : entOk l[i] = true := by simp [entOk, h1, h2, h3, h4]
      rw [hE, Bool.true_and]
      have hp : prevM l (i + 1) = l[i].f2 := prevM_succ l i hi
      rw [hp] at ih
      rw [w64 (n := (i : Int) + 1) (by omega) (by omega)]
      by_cases h0 : 0 < i
      · refine evp (by omega) ?_
        rw [w64 (n := (i : Int) - 1) (by omega) (by omega)]
        refine evp (by omega) (evp (by omega) ?_)
        have e1 : (i : Int) - 1 = ((i - 1 : Nat) : Int) := by omega
        rw [e1, rdE l (i - 1) (by omega)]
        have e2 : prevM l i = l[i - 1].f2 := prevM_pos l i h0 hi
        by_cases h5 : l[i - 1].f2 ≤ l[i].f2
        · refine evn (by omega) ?_
          rw [e2]; simp only [h5, decide_true, Bool.true_and]
          exact ih
        · refine evp (by omega) (evs ?_)
          rw [e2]; simp [h5]
      · refine evn (by omega) ?_
        have e2 : prevM l i = 0 := by obtain rfl : i = 0 := by omega
                                      rfl
        rw [e2]; simp only [h4.1, decide_true, Bool.true_and]
        exact ih
  exact key 0 (Nat.zero_le _)
theorem logOk_impl (l : List S74) (hl : l.length ≤ 1048577) : Ev (fun k => impl_LogOk.f k l) (logOk l) := by
  have key : ∀ i, i ≤ l.length → Ev (fun k => impl_LogOk.l0 k l l (l.length : Int) (i : Int)) (logGo (prevM l i) (l.drop i) && decide (l.length ≤ 30)) := by
    refine down (n := l.length) ?_ ?_
    · refine Ev.step (fun k => by rw [impl_LogOk.l0]) (evn (by omega) (evs ?_))
      rw [drop_end]
      simp [logGo]; omega
    · intro i hi ih
      refine Ev.step (fun k => by rw [impl_LogOk.l0]) (evp (by omega) (evp (by omega) (evp (by omega) ?_)))
      rw [rdE l i hi, drop_cons l i hi, logGo]
      refine evb (within_eq _ _ _) ?_
      by_cases h1 : 0 ≤ l[i].f0.f0 ∧ l[i].f0.f0 ≤ 3
      rotate_left
      · exact evn (by simpa using h1) (evs (by simp [entOk, h1]))
      refine evp (by simpa using h1) (evb (within_eq _ _ _) ?_)
      by_cases h2 : 0 ≤ l[i].f0.f1 ∧ l[i].f0.f1 ≤ 39
      rotate_left
      · exact evn (by simpa using h2) (evs (by simp [entOk, h2]))
      refine evp (by simpa using h2) (evb (within_eq _ _ _) ?_)
      by_cases h3 : 0 ≤ l[i].f1 ∧ l[i].f1 ≤ 2
      rotate_left
      · exact evn (by simpa using h3) (evs (by simp [entOk, h3]))
      refine evp (by simpa using h3) (evb (within_eq _ _ _) ?_)
      by_cases h4 : 0 ≤ l[i].f2 ∧ l[i].f2 ≤ 100000
      rotate_left
      · exact evn (by simpa using h4) (evs (by simp [entOk, h4]))
      refine evp (by simpa using h4) ?_
      have hE : entOk l[i] = true := by simp [entOk, h1, h2, h3, h4]
      rw [hE, Bool.true_and]
      have hp : prevM l (i + 1) = l[i].f2 := prevM_succ l i hi
      rw [hp] at ih
      rw [w64 (n := (i : Int) + 1) (by omega) (by omega)]
      by_cases h0 : 0 < i
      · refine evp (by omega) ?_
        rw [w64 (n := (i : Int) - 1) (by omega) (by omega)]
        refine evp (by omega) (evp (by omega) ?_)
        have e1 : (i : Int) - 1 = ((i - 1 : Nat) : Int) := by omega
        rw [e1, rdE l (i - 1) (by omega)]
        have e2 : prevM l i = l[i - 1].f2 := prevM_pos l i h0 hi
        by_cases h5 : l[i - 1].f2 ≤ l[i].f2
        · refine evn (by omega) ?_
          rw [e2]; simp only [h5, decide_true, Bool.true_and]
          exact ih
        · refine evp (by omega) (evs ?_)
          rw [e2]; simp [h5]
      · refine evn (by omega) ?_
        have e2 : prevM l i = 0 := by obtain rfl : i = 0 := by omega
                                      rfl
        rw [e2]; simp only [h4.1, decide_true, Bool.true_and]
        exact ih
  exact key 0 (Nat.zero_le _)
end Go.Proofs.Ytbkkpllejgedcaa.Q


namespace Go.Proofs.Ytbkkpllejgedcaa.Q
set_option linter.unusedVariables false
set_option linter.unusedSimpArgs false
open Go.RowKit Go.Proofs.Ytbkkpllejgedcaa.P Go.Proofs.YtbkkpllejgedcaaW.PrintWords Go.Proofs.YtbkkpllejgedcaaW.PrintMore
theorem isWarmth_eq (a : Int) : impl_isWarmth.f a = some (decide (-10 ≤ a ∧ a ≤ 40)) := by unfold impl_isWarmth.f; rw [within_eq]; rfl
def lastOk (l : List S74) (m : Int) : Prop := l.length = 0 ∨ (l.getD (l.length - 1) z74).f2 ≤ m
instance (l : List S74) (m : Int) : Decidable (lastOk l m) := by unfold lastOk; exact inferInstance
def shopOk (p : List S96) (d : Int) (q : List Int) (a m : Int) (l : List S74) : Bool := workOk p d q && (logOk l && (decide (-10 ≤ a ∧ a ≤ 40) && (decide (0 ≤ m ∧ m ≤ 100000) && decide (lastOk l m))))
theorem shopOk_impl (p : List S96) (d : Int) (q : List Int) (a m : Int) (l : List S74) (hl : l.length ≤ 1048577) : Ev (fun k => impl_ShopOk.f k p d q a m l) (shopOk p d q a m l) := by
  unfold impl_ShopOk.f shopOk
  refine evb (workImpl_eq p d q) ?_
  by_cases h : workOk p d q = true
  rotate_left
  · rw [show workOk p d q = false by simpa using h, Bool.false_and]; exact evn (by simp) (Ev.now _)
  rw [h, Bool.true_and]
  refine evp rfl (Ev.bind (logOk_impl l hl) ?_)
  by_cases h2 : logOk l = true
  rotate_left
  · rw [show logOk l = false by simpa using h2, Bool.false_and]; exact evn (by simp) (Ev.now _)
  rw [h2, Bool.true_and]
  refine evp rfl (evb (isWarmth_eq a) ?_)
  by_cases h3 : -10 ≤ a ∧ a ≤ 40
  rotate_left
  · rw [decide_eq_false h3, Bool.false_and]; exact evn (by simp) (Ev.now _)
  rw [decide_eq_true h3, Bool.true_and]
  refine evp rfl (evb (within_eq _ _ _) ?_)
  by_cases h4 : 0 ≤ m ∧ m ≤ 100000
  rotate_left
  · rw [decide_eq_false h4, Bool.false_and]; exact evn (by simp) (Ev.now _)
  rw [decide_eq_true h4, Bool.true_and]
  refine evp rfl ?_
  by_cases h5 : l.length = 0
  · exact evp (by omega) (evs (by rw [decide_eq_true (show lastOk l m from .inl h5)]))
  refine evn (by omega) ?_
  rw [w64 (n := (l.length : Int) - 1) (by omega) (by omega)]
  refine evp (by omega) (evp (by omega) (evs ?_))
  rw [show (l.length : Int) - 1 = ((l.length - 1 : Nat) : Int) by omega, rdE l (l.length - 1) (by omega)]
  rw [Bool.eq_iff_iff, decide_eq_true_iff, decide_eq_true_iff]
  unfold lastOk
  simp [List.getD_eq_getElem?_getD, show l.length - 1 < l.length by omega, h5]
theorem shopOk_spec (p : List S96) (d : Int) (q : List Int) (a m : Int) (l : List S74) (hl : l.length ≤ 1048577) : Ev (fun k => spec_ShopOk.f k p d q a m l) (shopOk p d q a m l) := by
  unfold spec_ShopOk.f shopOk
  refine Ev.bind (workOk_spec p d q) ?_
  by_cases h : workOk p d q = true
  rotate_left
  · rw [show workOk p d q = false by simpa using h, Bool.false_and]; exact evn (by simp) (Ev.now _)
  rw [h, Bool.true_and]
  refine evp rfl (Ev.bind (logOk_spec l hl) ?_)
  by_cases h2 : logOk l = true
  rotate_left
  · rw [show logOk l = false by simpa using h2, Bool.false_and]; exact evn (by simp) (Ev.now _)
  rw [h2, Bool.true_and]
  refine evp rfl (evb (l01In_eq _ _ _) ?_)
  by_cases h3 : -10 ≤ a ∧ a ≤ 40
  rotate_left
  · rw [decide_eq_false h3, Bool.false_and]; exact evn (by simp) (Ev.now _)
  rw [decide_eq_true h3, Bool.true_and]
  refine evp rfl (evb (l01In_eq _ _ _) ?_)
  by_cases h4 : 0 ≤ m ∧ m ≤ 100000
  rotate_left
  · rw [decide_eq_false h4, Bool.false_and]; exact evn (by simp) (Ev.now _)
  rw [decide_eq_true h4, Bool.true_and]
  refine evp rfl ?_
  by_cases h5 : l.length = 0
  · exact evp (by omega) (evs (by rw [decide_eq_true (show lastOk l m from .inl h5)]))
  refine evn (by omega) ?_
  rw [w64 (n := (l.length : Int) - 1) (by omega) (by omega)]
  refine evp (by omega) (evp (by omega) (evs ?_))
  rw [show (l.length : Int) - 1 = ((l.length - 1 : Nat) : Int) by omega, rdE l (l.length - 1) (by omega)]
  rw [Bool.eq_iff_iff, decide_eq_true_iff, decide_eq_true_iff]
  unfold lastOk
  simp [List.getD_eq_getElem?_getD, show l.length - 1 < l.length by omega, h5]
end Go.Proofs.Ytbkkpllejgedcaa.Q


namespace Go.Proofs.Ytbkkpllejgedcaa.Q
set_option linter.unusedVariables false
set_option linter.unusedSimpArgs false
open Go.RowKit Go.Proofs.Ytbkkpllejgedcaa.P Go.Proofs.YtbkkpllejgedcaaW.PrintWords Go.Proofs.YtbkkpllejgedcaaW.PrintMore
def tuneAt (p : List S96) (q : List Int) (i : Nat) : Int := tunedPitch (q.getD (p.getD i z96).f0.toNat 0) (p.getD i z96).f2 (p.getD i z96).f3
theorem getS (p : List S96) (i : Nat) (hi : i < p.length) : p.getD i z96 = p[i] := by simp [List.getD_eq_getElem?_getD, hi]
theorem tunedBy_ev (p : List S96) (d : Int) (q : List Int) (i : Nat) (hp : planOk p = true) (hq : q.length = 12) (hi : i < p.length) : Ev (fun n => impl_tunedBy.f n p d q (i : Int)) (tuneAt p q i) := by
  obtain ⟨k0, k1, k2, k3, k4⟩ := planOk_in hp p[i] (List.getElem_mem hi)
  unfold impl_tunedBy.f tuneAt
  rw [getS p i hi, rdS p i hi]
  refine evp (by omega) (evp (by omega) (evp k0 (evp (by omega) (Ev.bind (tuned_impl _ _ _) (Ev.now _)))))
end Go.Proofs.Ytbkkpllejgedcaa.Q


namespace Go.Proofs.Ytbkkpllejgedcaa.Q
set_option linter.unusedVariables false
set_option linter.unusedSimpArgs false
open Go.RowKit Go.Proofs.Ytbkkpllejgedcaa.P Go.Proofs.YtbkkpllejgedcaaW.PrintWords Go.Proofs.YtbkkpllejgedcaaW.PrintMore
def isBad (p : List S96) (q : List Int) (i : Nat) : Bool := decide (q.getD (p.getD i z96).f1.toNat 0 ≠ tuneAt p q i)
def wrongs (p : List S96) (q : List Int) (l : List Nat) : List Int := (l.filter (isBad p q)).map (fun (i : Nat) => (i : Int))
def wrongSteps (p : List S96) (d : Int) (q : List Int) : List Int := if workOk p d q = true then wrongs p q (List.range d.toNat) else []
theorem wrongs_cons (p : List S96) (q : List Int) (i : Nat) (l : List Nat) : wrongs p q (i :: l) = if isBad p q i = true then (i : Int) :: wrongs p q l else wrongs p q l := by
  unfold wrongs; rw [List.filter_cons]; split <;> rfl
theorem wrong_impl (p : List S96) (d : Int) (q : List Int) : Ev (fun n => impl_WrongSteps.f n p d q) (wrongSteps p d q) := by
  unfold impl_WrongSteps.f wrongSteps
  refine evb (workImpl_eq p d q) ?_
  by_cases h : workOk p d q = true
  rotate_left
  · exact rneg h <| evn h (Ev.now _)
  have hp := workOk_plan h; have hd := workOk_done h; have hq := workOk_len h; have hl := planOk_len hp
  obtain ⟨m, rfl⟩ := Int.eq_ofNat_of_zero_le hd.1
  refine rpos h <| evp h (evp hd.1 (evp hd.2 ?_))
  simp only [Option.bind_some, Int.toNat_natCast]
  have key : ∀ i, i ≤ m → ∀ acc : List Int, acc.length ≤ i → Ev (fun n => impl_WrongSteps.l0 n acc (p.take m) ((p.take m).length : Int) (i : Int) p m q) (acc ++ wrongs p q ((List.range m).drop i)) := by
    refine down (n := m) ?_ ?_
    · intro acc ha
      refine Ev.step (fun n => by rw [impl_WrongSteps.l0]) (evn (by rw [List.length_take]; omega) (evs ?_))
      rw [List.drop_eq_nil_of_le (by simp)]; simp [wrongs]
    · intro i hi ih acc ha
      obtain ⟨k0, k1, k2, k3, k4⟩ := planOk_in hp p[i] (List.getElem_mem (by omega))
      have e : (p.take m)[i]'(by rw [List.length_take]; omega) = p[i] := by simp
      refine Ev.step (fun n => by rw [impl_WrongSteps.l0]) ?_
      refine evp (by rw [List.length_take]; omega) (evp (by omega) (evp (by rw [List.length_take]; omega) ?_))
      rw [rdS (p.take m) i (by rw [List.length_take]; omega), e]
      refine evp k2 (evp (by omega) (Ev.bind (tunedBy_ev p _ q i hp hq (by omega)) ?_))
      rw [drop_cons _ i (by simpa using hi), List.getElem_range, rd_get, w64 (n := (i : Int) + 1) (by omega) (by omega)]
      have g := getS p i (by omega)
      have eb : isBad p q i = decide (q.getD p[i].f1.toNat 0 ≠ tuneAt p q i) := by unfold isBad; rw [g]
      by_cases hb : q.getD p[i].f1.toNat 0 = tuneAt p q i
      · rw [show wrongs p q (i :: (List.range m).drop (i + 1)) = wrongs p q ((List.range m).drop (i + 1)) by rw [wrongs_cons, eb, if_neg (by simp only [decide_eq_true_eq]; exact fun h => h hb)]]
        refine evp hb ?_
        exact ih acc (by omega)
      · rw [show wrongs p q (i :: (List.range m).drop (i + 1)) = (i : Int) :: wrongs p q ((List.range m).drop (i + 1)) by rw [wrongs_cons, eb, if_pos (by simp only [decide_eq_true_eq]; exact hb)]]
        refine evn hb (evp (by omega) ?_)
        have := ih (acc ++ [(i : Int)]) (by simp; omega)
        rw [List.append_assoc] at this
        exact this
  have := key 0 (Nat.zero_le _) [] (Nat.le_refl _)
  simpa using this
theorem wrong_spec (p : List S96) (d : Int) (q : List Int) : Ev (fun n => spec_WrongSteps.f n p d q) (wrongSteps p d q) := by
  unfold spec_WrongSteps.f wrongSteps
  simp only [Option.bind_some]
  refine Ev.bind (workOk_spec p d q) ?_
  by_cases h : workOk p d q = true
  rotate_left
  · exact rneg h <| evn h (Ev.now _)
  have hp := workOk_plan h; have hd := workOk_done h; have hq := workOk_len h; have hl := planOk_len hp
  obtain ⟨m, rfl⟩ := Int.eq_ofNat_of_zero_le hd.1
  refine rpos h <| evp h ?_
  simp only [Int.toNat_natCast]
  have key : ∀ i, i ≤ m → ∀ acc : List Int, acc.length ≤ i → Ev (fun n => spec_WrongSteps.l0 n acc (i : Int) p m q) (acc ++ wrongs p q ((List.range m).drop i)) := by
    refine down (n := m) ?_ ?_
    · intro acc ha
      refine Ev.step (fun n => by rw [spec_WrongSteps.l0]) (evn (by omega) (evs ?_))
      rw [List.drop_eq_nil_of_le (by simp)]; simp [wrongs]
    · intro i hi ih acc ha
      obtain ⟨k0, k1, k2, k3, k4⟩ := planOk_in hp p[i] (List.getElem_mem (by omega))
      refine Ev.step (fun n => by rw [spec_WrongSteps.l0]) ?_
      refine evp (by omega) (evp (by omega) (evp (by omega) ?_))
      rw [rdS p i (by omega)]
      refine evp k2 (evp (by omega) (evp k0 (evp (by omega) (Ev.bind (tuned_spec _ _ _) ?_))))
      rw [drop_cons _ i (by simpa using hi), List.getElem_range, rd_get, rd_get, w64 (n := (i : Int) + 1) (by omega) (by omega)]
      have g := getS p i (by omega)
      have eb : isBad p q i = decide (q.getD p[i].f1.toNat 0 ≠ tuneAt p q i) := by unfold isBad; rw [g]
      by_cases hb : q.getD p[i].f1.toNat 0 = tuneAt p q i
      · rw [show wrongs p q (i :: (List.range m).drop (i + 1)) = wrongs p q ((List.range m).drop (i + 1)) by rw [wrongs_cons, eb, if_neg (by simp only [decide_eq_true_eq]; exact fun h => h hb)]]
        refine evp (by rw [hb]; unfold tuneAt; rw [g]) ?_
        exact ih acc (by omega)
      · rw [show wrongs p q (i :: (List.range m).drop (i + 1)) = (i : Int) :: wrongs p q ((List.range m).drop (i + 1)) by rw [wrongs_cons, eb, if_pos (by simp only [decide_eq_true_eq]; exact hb)]]
        refine evn (by unfold tuneAt at hb; rw [g] at hb; exact hb) (evp (by omega) ?_)
        have := ih (acc ++ [(i : Int)]) (by simp; omega)
        rw [List.append_assoc] at this
        exact this
  have := key 0 (Nat.zero_le _) [] (Nat.le_refl _)
  simpa using this
end Go.Proofs.Ytbkkpllejgedcaa.Q


namespace Go.Proofs.Ytbkkpllejgedcaa.Q
set_option linter.unusedVariables false
set_option linter.unusedSimpArgs false
open Go.RowKit Go.Proofs.Ytbkkpllejgedcaa.P Go.Proofs.YtbkkpllejgedcaaW.PrintWords Go.Proofs.YtbkkpllejgedcaaW.PrintMore
def stepsLeft (p : List S96) (d : Int) (q : List Int) (a m : Int) (l : List S74) : Int :=
  if shopOk p d q a m l = true then wrap64 ((wrap64 ((p.length : Int) - d)) + ((wrongSteps p d q).length : Int)) else 0
theorem left_impl (p : List S96) (d : Int) (q : List Int) (a m : Int) (l : List S74) (hl : l.length ≤ 1048577) : Ev (fun k => impl_StepsLeft.f k p d q a m l) (stepsLeft p d q a m l) := by
  unfold impl_StepsLeft.f stepsLeft
  refine Ev.bind (shopOk_impl p d q a m l hl) ?_
  by_cases h : shopOk p d q a m l = true
  · exact rpos h <| evp h (Ev.bind (wrong_impl p d q) (Ev.now _))
  · exact rneg h <| evn h (Ev.now _)
theorem left_spec (p : List S96) (d : Int) (q : List Int) (a m : Int) (l : List S74) (hl : l.length ≤ 1048577) : Ev (fun k => spec_StepsLeft.f k p d q a m l) (stepsLeft p d q a m l) := by
  unfold spec_StepsLeft.f stepsLeft
  refine Ev.bind (shopOk_spec p d q a m l hl) ?_
  by_cases h : shopOk p d q a m l = true
  · exact rpos h <| evp h (Ev.bind (wrong_spec p d q) (Ev.now _))
  · exact rneg h <| evn h (Ev.now _)
end Go.Proofs.Ytbkkpllejgedcaa.Q


namespace Go.Proofs.Ytbkkpllejgedcaa.Q
set_option linter.unusedVariables false
set_option linter.unusedSimpArgs false
open Go.RowKit Go.Proofs.Ytbkkpllejgedcaa.P Go.Proofs.YtbkkpllejgedcaaW.PrintWords Go.Proofs.YtbkkpllejgedcaaW.PrintMore
theorem toIntS_ev (l : List Int) (hl : l.length ≤ 1048576) : Ev (fun k => laws_toIntS.f k l) l := by
  have key : ∀ i, i ≤ l.length → ∀ acc : List Int, acc.length = l.length → Ev (fun k => laws_toIntS.l0 k l acc (i : Int)) (acc.take i ++ l.drop i) := by
    refine down (n := l.length) ?_ ?_
    · intro acc ha
      refine Ev.step (fun k => by rw [laws_toIntS.l0]) (evn (by omega) (evs ?_))
      rw [drop_end, List.append_nil, List.take_of_length_le (by omega)]
    · intro i hi ih acc ha
      refine Ev.step (fun k => by rw [laws_toIntS.l0]) (evp (by omega) (evp (by omega) (evp (by omega) ?_)))
      rw [w64 (by omega) (by omega), rd_nat l i hi, Int.toNat_natCast]
      have := ih (acc.set i l[i]) (by simpa using ha)
      rw [set_take _ _ _ (by omega), List.append_assoc] at this
      rw [drop_cons l i hi]
      exact this
  have := key 0 (Nat.zero_le _) (List.replicate l.length 0) (by simp)
  unfold laws_toIntS.f
  refine evp (by omega) (evp (by omega) ?_)
  simpa using this
theorem eqIntS_ev (l : List Int) (hl : l.length ≤ 9000000000000000000) : Ev (fun k => laws_eqIntS.f k l l) true := by
  have key : ∀ i, i ≤ l.length → Ev (fun k => laws_eqIntS.l0 k l l (i : Int)) true := by
    refine down (n := l.length) ?_ ?_
    · exact Ev.step (fun k => by rw [laws_eqIntS.l0]) (evn (by omega) (evs rfl))
    · intro i hi ih
      refine Ev.step (fun k => by rw [laws_eqIntS.l0]) (evp (by omega) (evp (by omega) (evp (by omega) (evp rfl ?_))))
      rw [w64 (by omega) (by omega)]
      exact ih
  unfold laws_eqIntS.f
  exact evp rfl (key 0 (Nat.zero_le _))
end Go.Proofs.Ytbkkpllejgedcaa.Q


namespace Go.Proofs.Ytbkkpllejgedcaa.Q
set_option linter.unusedVariables false
set_option linter.unusedSimpArgs false
open Go.RowKit Go.Proofs.Ytbkkpllejgedcaa.P Go.Proofs.YtbkkpllejgedcaaW.PrintWords Go.Proofs.YtbkkpllejgedcaaW.PrintMore
theorem szIntS_eq (l : List Int) (m : Int) (h0 : 0 ≤ m) (hm : m ≤ 1048576) (hl : l.length ≤ 9223372036854775807) : laws_szIntS.f l m = some (if m < l.length then -1 else m - l.length) := by
  unfold laws_szIntS.f
  rw [w64 (by omega) (by omega)]
  by_cases h : m < l.length
  · rw [if_pos (by omega), if_pos h]
  · rw [if_neg (by omega), if_neg h]
theorem szWork_eq (p : List S98) (d : Int) (q : List Int) (m : Int) (h0 : 0 ≤ m) (hm : m ≤ 1048576) (hp : p.length ≤ 9223372036854775807) (hq : q.length ≤ 9223372036854775807) :
    laws_szWork.f p d q m = some (if m < p.length + q.length then -1 else m - p.length - q.length) := by
  unfold laws_szWork.f
  rw [szStepS_eq p m h0 hm hp, Option.bind_some]
  by_cases h : m < p.length
  · rw [if_pos h, if_pos (by omega), if_pos (by omega)]
  rw [if_neg h, if_neg (by omega), szIntS_eq q _ (by omega) (by omega) hq, Option.bind_some]
  by_cases h2 : m - p.length < q.length
  · rw [if_pos h2, if_pos (by omega), if_pos (by omega)]
  · rw [if_neg h2, if_neg (by omega), if_neg (by omega)]
theorem toWork_ev (p : List S98) (d : Int) (q : List Int) (hp : p.length ≤ 1048576) (hq : q.length ≤ 1048576) : Ev (fun k => laws_toWork.f k p d q) (p.map cStep, d, q) := by
  unfold laws_toWork.f
  exact Ev.bind (toStepS_ev p hp) (Ev.bind (toIntS_ev q hq) (Ev.now _))
theorem eqWork_ev (p : List S96) (d : Int) (q : List Int) (hp : p.length ≤ 9000000000000000000) (hq : q.length ≤ 9000000000000000000) : Ev (fun k => laws_eqWork.f k p d q p d q) true := by
  unfold laws_eqWork.f
  exact Ev.bind (eqStepS_ev p hp) (evp rfl (evp rfl (Ev.bind (eqIntS_ev q hq) (evp rfl (Ev.now _)))))
end Go.Proofs.Ytbkkpllejgedcaa.Q


namespace Go.Proofs.Ytbkkpllejgedcaa.Q
set_option linter.unusedVariables false
set_option linter.unusedSimpArgs false
open Go.RowKit Go.Proofs.Ytbkkpllejgedcaa.P Go.Proofs.YtbkkpllejgedcaaW.PrintWords Go.Proofs.YtbkkpllejgedcaaW.PrintMore
theorem szShop_eq (p : List S98) (d : Int) (q : List Int) (a m : Int) (l : List S68) (n : Int) (h0 : 0 ≤ n) (hm : n ≤ 1048576) (hp : p.length ≤ 9223372036854775807) (hq : q.length ≤ 9223372036854775807) (hl : l.length ≤ 9223372036854775807) :
    laws_szShop.f p d q a m l n = some (if n < p.length + q.length + l.length then -1 else n - p.length - q.length - l.length) := by
  unfold laws_szShop.f
  rw [szWork_eq p d q n h0 hm hp hq, Option.bind_some]
  by_cases h : n < p.length + q.length
  · rw [if_pos h, if_pos (by omega), if_pos (by omega)]
  rw [if_neg h, if_neg (by omega), szEntryS_eq l _ (by omega) (by omega) hl, Option.bind_some]
  by_cases h2 : n - p.length - q.length < l.length
  · rw [if_pos h2, if_pos (by omega), if_pos (by omega)]
  · rw [if_neg h2, if_neg (by omega), if_neg (by omega)]
theorem toShop_ev (p : List S98) (d : Int) (q : List Int) (a m : Int) (l : List S68) (hp : p.length ≤ 1048576) (hq : q.length ≤ 1048576) (hl : l.length ≤ 1048576) : Ev (fun k => laws_toShop.f k p d q a m l) (p.map cStep, d, q, a, m, l.map cEntry) := by
  unfold laws_toShop.f
  exact Ev.bind (toWork_ev p d q hp hq) (Ev.bind (toEntryS_ev l hl) (Ev.now _))
theorem eqShop_ev (p : List S96) (d : Int) (q : List Int) (a m : Int) (l : List S74) (hp : p.length ≤ 9000000000000000000) (hq : q.length ≤ 9000000000000000000) (hl : l.length ≤ 9000000000000000000) : Ev (fun k => laws_eqShop.f k p d q a m l p d q a m l) true := by
  unfold laws_eqShop.f
  exact Ev.bind (eqWork_ev p d q hp hq) (evp rfl (evp rfl (evp rfl (Ev.bind (eqEntryS_ev l hl) (evp rfl (Ev.now _))))))
end Go.Proofs.Ytbkkpllejgedcaa.Q


namespace Go.Proofs.Ytbkkpllejgedcaa.Q
set_option linter.unusedVariables false
set_option linter.unusedSimpArgs false
open Go.RowKit Go.Deep Go.ChangeShapes Go.WideShapes Go.Proofs.YtbkkpllejgedcaaW.PrintWords
def Opens {α : Type} (P : Program) (w : World) (d : Kd α) (T : TypeId) (G : α → Prop) : Prop :=
  ∀ (H : Type) (enc : TypeId × Value → H) (base : Nat) (spare : Nat → Bool) (held : Bool) (fuel : Nat) (cs : List Value) (x : DataW H × List MemPlace),
    DataW.trod enc P w base spare held fuel T cs = some x → ∃ v, d.K w v cs ∧ G v
def OpensFs {α : Type} (P : Program) (w : World) (d : Kd α) (off : Nat) (fs : Array Field) (i : Nat) (G : α → Prop) : Prop :=
  ∀ (H : Type) (enc : TypeId × Value → H) (base : Nat) (spare : Nat → Bool) (held : Bool) (fuel : Nat) (cs : List Value), cs.length = off + d.sz →
    (∀ j f, i ≤ j → fs[j]? = some f → ∃ y : DataW H × List MemPlace, DataW.trod enc P w base spare held fuel f.type ((cs.drop f.offset).take (P.cellsOf f.type)) = some y) → ∃ v, d.K w v (cs.drop off) ∧ G v
section
variable {P : Program} {w : World}
theorem Opens.int {k : IntKind} {T : TypeId} (ht : P.underlying T = some (.int k)) : Opens P w (Kd.int k) T (fun n => (Lit.int k n).wf = true) := by
  intro H enc base spare held fuel cs x hx
  obtain ⟨n, rfl, _, hw⟩ := DataW.trod_int ht hx
  exact ⟨n, rfl, hw⟩
theorem Opens.slice {α : Type} (z : α) {d : Kd α} {E T : TypeId} {G : α → Prop} (ht : P.underlying T = some (.slice E)) (hC : P.cellsOf E = d.sz) (h : Opens P w d E G) :
    Opens P w (Kd.slice E d) T (fun l => l.length ≤ 9223372036854775807 ∧ ∀ x ∈ l, G x) := by
  haveI : Inhabited α := ⟨z⟩
  intro H enc base spare held fuel cs x hx
  rcases open_slice ht hx with ⟨rfl, _⟩ | ⟨a, len, cap, m, n, D, Pl, rfl, hb, hl, hm, hmm, _, hi⟩
  · exact ⟨[], ⟨none, 0, rfl, Nat.le_refl _, rfl, by simp, fun h => absurd h (by simp)⟩, by simp, by simp⟩
  · have hlm : len ≤ m := by rw [hmm]; split <;> omega
    obtain ⟨V, hV⟩ := choose_lt (α := α) (n := len) (p := fun i v => G v ∧ ∃ c, c.length = d.sz ∧ d.K w v c ∧ ∀ j u, c[j]? = some u → w.cell? (a.add (i * d.sz + j)) = some u) (fun i hil => by
      obtain ⟨cs', h1, h2⟩ := hi i (by omega)
      obtain ⟨v, hv, g⟩ := h H enc base spare held n cs' _ h2
      obtain ⟨_, hcl, hat⟩ := World.cells?_some h1
      refine ⟨v, g, cs', by rw [hcl, hC], hv, fun j u hu => ?_⟩
      have hj : j < P.cellsOf E := by rw [← hcl]; exact (List.getElem?_eq_some_iff.1 hu).1
      have := hat j hj
      rw [hC, Go.Deep.add_add] at this
      rw [this, hu])
    refine ⟨(List.range len).map V, ⟨some a, cap, by simp, by simpa using hl, by simp, by have := hm; unfold maxLen at this; simp; omega, fun _ => ⟨a, rfl, fun j p hj => ?_⟩⟩, ?_⟩
    · have hj' : j < len := by have := (List.getElem?_eq_some_iff.1 hj).1; simpa using this
      obtain rfl : V j = p := by simpa [hj'] using hj
      exact (hV j hj').2
    · refine ⟨by have := hm; unfold maxLen at this; simp; omega, fun x hx => ?_⟩
      obtain ⟨i, hi, rfl⟩ := List.mem_map.1 hx
      exact (hV i (List.mem_range.1 hi)).1
theorem OpensFs.one {α : Type} {d : Kd α} {off i : Nat} {fs : Array Field} {f : Field} {G : α → Prop} (hf : fs[i]? = some f) (h : Opens P w d f.type G) (ho : f.offset = off) (hc : P.cellsOf f.type = d.sz) : OpensFs P w d off fs i G := by
  intro H enc base spare held fuel cs hlen hfs
  obtain ⟨y, hy⟩ := hfs i f (Nat.le_refl _) hf
  rw [ho, hc, List.take_of_length_le (by simp [hlen])] at hy
  exact h H enc base spare held fuel _ _ hy
theorem OpensFs.more {α β : Type} {d : Kd α} {d2 : Kd β} {off i : Nat} {fs : Array Field} {f : Field} {G : α → Prop} {G2 : β → Prop} (hf : fs[i]? = some f) (h : Opens P w d f.type G) (ho : f.offset = off) (hc : P.cellsOf f.type = d.sz)
    (h2 : OpensFs P w d2 (off + d.sz) fs (i + 1) G2) : OpensFs P w (Kd.pair d d2) off fs i (fun x => G x.1 ∧ G2 x.2) := by
  intro H enc base spare held fuel cs hlen hfs
  have hlen' : cs.length = off + (d.sz + d2.sz) := hlen
  obtain ⟨y, hy⟩ := hfs i f (Nat.le_refl _) hf
  rw [ho, hc] at hy
  obtain ⟨v, hv, g⟩ := h H enc base spare held fuel _ _ hy
  obtain ⟨v2, hv2, g2⟩ := h2 H enc base spare held fuel cs (by omega) (fun j f' hj hf' => hfs j f' (by omega) hf')
  refine ⟨(v, v2), ⟨_, _, ?_, hv, hv2⟩, g, g2⟩
  rw [← List.drop_drop, List.take_append_drop]
theorem Opens.pairs {α : Type} {d : Kd α} {T : TypeId} {fs : Array Field} {G : α → Prop} (ht : P.underlying T = some (.struct fs)) (hC : P.cellsOf T = d.sz) (h : OpensFs P w d 0 fs 0 G) : Opens P w d T G := by
  intro H enc base spare held fuel cs x hx
  obtain ⟨xs, n, _, _, hlen, hxl, hat⟩ := DataW.trod_struct ht hx
  exact h H enc base spare held n cs (by rw [hlen, hC, Nat.zero_add]) (fun j f' _ hf' => by
    have hi' : j < fs.size := (Array.getElem?_eq_some_iff.1 hf').1
    have e := hat j f' hf'
    rw [List.getElem?_eq_getElem (by omega)] at e
    exact ⟨_, e⟩)
theorem Opens.struct {α β : Type} {d : Kd α} {T : TypeId} {fs : Array Field} {f : β → α} {G0 : α → Prop} {G : β → Prop} (g : α → β) (ht : P.underlying T = some (.struct fs)) (hC : P.cellsOf T = d.sz) (hfg : ∀ x, f (g x) = x)
    (h : OpensFs P w d 0 fs 0 G0) (hg : ∀ x, G0 x → G (g x)) : Opens P w (Kd.iso d f) T G := by
  intro H enc base spare held fuel cs x hx
  obtain ⟨v, hv, g0⟩ := Opens.pairs ht hC h H enc base spare held fuel cs x hx
  refine ⟨g v, ?_, hg v g0⟩
  show d.K w (f (g v)) cs
  rw [hfg]
  exact hv
end
end Go.Proofs.Ytbkkpllejgedcaa.Q


namespace Go.Proofs.Ytbkkpllejgedcaa.Q
open Go.RowKit Go.Proofs.Ytbkkpllejgedcaa.P Go.Proofs.YtbkkpllejgedcaaW.PrintWords
def good98 (x : S98) : Prop := ((Lit.int .i64 x.f0).wf = true ∧ (Lit.int .i64 x.f1).wf = true ∧ (Lit.int .i64 x.f2).wf = true ∧ (Lit.int .i64 x.f3).wf = true)
theorem op98 {w : World} : Opens Try.prog w k98 98 good98 := (Opens.struct (fun x => (⟨x.1, x.2.1, x.2.2.1, x.2.2.2⟩ : S98)) (G := good98) Try.underlying98 (by kernel_rfl) (fun _ => rfl) (OpensFs.more rfl (Opens.int Try.underlying3) rfl (by kernel_rfl) (OpensFs.more rfl (Opens.int Try.underlying3) rfl (by kernel_rfl) (OpensFs.more rfl (Opens.int Try.underlying3) rfl (by kernel_rfl) (OpensFs.one rfl (Opens.int Try.underlying3) rfl (by kernel_rfl))))) (fun _ h => h))
def good3 (x : Int) : Prop := (Lit.int .i64 x).wf = true
theorem op3 {w : World} : Opens Try.prog w (Kd.int .i64) 3 good3 := (Opens.int Try.underlying3)
def good54 (x : S54) : Prop := ((Lit.int .i64 x.f0).wf = true ∧ (Lit.int .i64 x.f1).wf = true)
theorem op54 {w : World} : Opens Try.prog w k54 54 good54 := (Opens.struct (fun x => (⟨x.1, x.2⟩ : S54)) (G := good54) Try.underlying54 (by kernel_rfl) (fun _ => rfl) (OpensFs.more rfl (Opens.int Try.underlying3) rfl (by kernel_rfl) (OpensFs.one rfl (Opens.int Try.underlying3) rfl (by kernel_rfl))) (fun _ h => h))
def good68 (x : S68) : Prop := (((Lit.int .i64 x.f0.f0).wf = true ∧ (Lit.int .i64 x.f0.f1).wf = true) ∧ (Lit.int .i64 x.f1).wf = true ∧ (Lit.int .i64 x.f2).wf = true)
theorem op68 {w : World} : Opens Try.prog w k68 68 good68 := (Opens.struct (fun x => (⟨x.1, x.2.1, x.2.2⟩ : S68)) (G := good68) Try.underlying68 (by kernel_rfl) (fun _ => rfl) (OpensFs.more rfl op54 rfl (by kernel_rfl) (OpensFs.more rfl (Opens.int Try.underlying3) rfl (by kernel_rfl) (OpensFs.one rfl (Opens.int Try.underlying3) rfl (by kernel_rfl)))) (fun _ h => h))
end Go.Proofs.Ytbkkpllejgedcaa.Q


namespace Go.Proofs.Ytbkkpllejgedcaa.Pure
set_option linter.unusedVariables false
set_option linter.unusedSimpArgs false
open Go.RowKit Go.Proofs.Ytbkkpllejgedcaa.P Go.Proofs.Ytbkkpllejgedcaa.Q Go.Proofs.YtbkkpllejgedcaaW.PrintWords Go.Proofs.YtbkkpllejgedcaaW.PrintLast
theorem FnExactStepsLeft (p : List S98) (d : Int) (q : List Int) (a m : Int) (l : List S68) (h0 : ((p.length ≤ 9223372036854775807 ∧ ∀ y ∈ p, good98 y) ∧ (Lit.int .i64 d).wf = true ∧ (q.length ≤ 9223372036854775807 ∧ ∀ y ∈ q, good3 y)) ∧ (Lit.int .i64 a).wf = true ∧ (Lit.int .i64 m).wf = true ∧ (l.length ≤ 9223372036854775807 ∧ ∀ y ∈ l, good68 y)) : ∃ k, laws_FnExactStepsLeft.f k p d q a m l = some true := by
  refine Ev.rounds ?_
  unfold laws_FnExactStepsLeft.f
  refine evb (szShop_eq p d q a m l 1048576 (by omega) (by omega) h0.1.1.1 h0.1.2.2.1 h0.2.2.2.1) ?_
  by_cases h : (1048576 : Int) < p.length + q.length + l.length
  · rw [if_pos h]; exact evp (by omega) (Ev.now _)
  rw [if_neg h]
  refine evn (by omega) ?_
  have lp : (p.map cStep).length ≤ 1048576 := by simp; omega
  have ll : (l.map cEntry).length ≤ 1048576 := by simp; omega
  have T := toShop_ev p d q a m l (by omega) (by omega) (by omega)
  have E := eqShop_ev (p.map cStep) d q a m (l.map cEntry) (by omega) (by omega) (by omega)
  obtain ⟨R, hR⟩ : ∃ R, stepsLeft (p.map cStep) d q a m (l.map cEntry) = R := ⟨_, rfl⟩
  have A := left_spec (p.map cStep) d q a m (l.map cEntry) (by omega)
  have B := left_impl (p.map cStep) d q a m (l.map cEntry) (by omega)
  rw [hR] at A B
  repeat' first
    | exact Ev.now _
    | refine Ev.bind T ?_
    | refine Ev.bind E ?_
    | refine Ev.bind A ?_
    | refine Ev.bind B ?_
    | refine evp rfl ?_
    | refine evn (by first | decide | (dsimp only; omega) | simp) ?_
end Go.Proofs.Ytbkkpllejgedcaa.Pure


namespace Go.Proofs.Ytbkkpllejgedcaa.fnExactStepsLeft
open Go.ChangeShapes Go.WideShapes Go.ChangeAt Go.RowKit Go.Proofs.Ytbkkpllejgedcaa.P Go.Proofs.Ytbkkpllejgedcaa.Q Go.Proofs.YtbkkpllejgedcaaW.PrintWords
open Go.ChangeMaps (open_string shut_string)
set_option linter.unusedVariables false
set_option linter.unusedSimpArgs false
theorem own : ownKnob Try.prog.godebug = none := by kernel_rfl
theorem laidOut : laidOutB Try.prog = true := by kernel_rfl
set_option maxRecDepth 100000 in
theorem lifted (os : Os) (started : os.Started) (H : Type) (enc : TypeId × Value → H) :
    ReturnsInHanded {} Try.checked os 6 .any (Rows.fnExactStepsLeftSpec.pre6 enc Try.prog Try.f6 Rows.fnExactStepsLeftRow.domain false) (Rows.fnExactStepsLeftSpec.post enc Try.prog Try.f6 false true false false) := by
  refine returnsInHanded_of_change_sized (C := Try.checked) own started (by kernel_rfl) Try.func6
    (ChangeSpec.witness6 (enc := enc) (C := Try.checked) false ⟨#[], #[.agg #[.slice none 0 0, .int .i64 0, .slice none 0 0, .int .i64 0, .int .i64 0, .slice none 0 0]], []⟩ 8 (by kernel_rfl) (by kernel_rfl) (by kernel_rfl) (by kernel_rfl)) ?_
  intro W base args ds gs before hval0 hW hcnd hsz0 _
  have hval : ∀ (j : Nat) t v, Try.f6.params[j]? = some t → args[j]? = some v → Value.okWide Try.prog W .any base t v := hval0
  have hW' := hW
  obtain ⟨p, q, hA0, hV, rfl, hfz, hnd⟩ := hW
  have hA : DataW.TrodAll enc Try.prog W 0 (fun _ => true) true Try.f6.params.toList args.toList ds p := hA0
  rw [Try.params6] at hA hval
  obtain ⟨v0, vs0, d0, ds0, p0, q0, hargs, rfl, rfl, h0, r0⟩ := trodAll_cons hA
  obtain ⟨rfl, rfl, rfl⟩ := trodAll_nil r0
  obtain rfl : args = #[v0] := by cases args; simp_all
  obtain ⟨rfl, rfl⟩ := trodVars_none hV
  have k0 := h0
  have lt0 : ∀ x ∈ p0, x.block < W.heap.size := by obtain ⟨m, hm⟩ := k0; exact DataW.trod_lt m _ _ _ hm
  obtain ⟨fuel0, f0⟩ := h0
  obtain ⟨x0, K0, G0⟩ := (show Opens Try.prog W (Kd.pair (Kd.pair (Kd.slice 98 k98) (Kd.pair (Kd.int .i64) (Kd.slice 3 (Kd.int .i64)))) (Kd.pair (Kd.int .i64) (Kd.pair (Kd.int .i64) (Kd.slice 68 k68)))) 28 _ from Opens.pairs Try.underlying28 (by kernel_rfl) (OpensFs.more rfl (Opens.pairs Try.underlying25 (by kernel_rfl) (OpensFs.more rfl (Opens.slice z98 Try.underlying22 (by kernel_rfl) op98) rfl (by kernel_rfl) (OpensFs.more rfl (Opens.int Try.underlying3) rfl (by kernel_rfl) (OpensFs.one rfl (Opens.slice 0 Try.underlying23 (by kernel_rfl) op3) rfl (by kernel_rfl))))) rfl (by kernel_rfl) (OpensFs.more rfl (Opens.int Try.underlying3) rfl (by kernel_rfl) (OpensFs.more rfl (Opens.int Try.underlying3) rfl (by kernel_rfl) (OpensFs.one rfl (Opens.slice z68 Try.underlying26 (by kernel_rfl) op68) rfl (by kernel_rfl)))))) H enc 0 _ _ fuel0 _ _ f0
  obtain ⟨cs0, rfl, _⟩ := okWide_struct Try.underlying28 (hval 0 28 v0 rfl rfl)
  obtain ⟨_, _, e0, ⟨_, _, rfl, ⟨A0_0, c0_0, rfl, hc0_0, hr0_0⟩, ⟨_, _, rfl, rfl, ⟨A0_1, c0_1, rfl, hc0_1, hr0_1⟩⟩⟩, ⟨_, _, rfl, rfl, ⟨_, _, rfl, rfl, ⟨A0_2, c0_2, rfl, hc0_2, hr0_2⟩⟩⟩⟩ := K0
  obtain rfl : cs0 = #[.slice A0_0 x0.1.1.length c0_0, .int .i64 x0.1.2.1, .slice A0_1 x0.1.2.2.length c0_1, .int .i64 x0.2.1, .int .i64 x0.2.2.1, .slice A0_2 x0.2.2.2.length c0_2] := Array.ext' e0
  obtain ⟨k, hP⟩ := Pure.FnExactStepsLeft x0.1.1 x0.1.2.1 x0.1.2.2 x0.2.1 x0.2.2.1 x0.2.2.2 G0
  refine (P.laws_FnExactStepsLeft.calls k _ _ x0.1.1 x0.1.2.1 _ _ x0.1.2.2 x0.2.1 x0.2.2.1 _ _ x0.2.2.2 true W hr0_0 hc0_0 hr0_1 hc0_1 hr0_2 hc0_2 hP ⟨rfl⟩).mono fun e W' ⟨he, bel0⟩ => ?_
  have bel : Below W.heap.size W W' := bel0
  subst he
  exact ⟨_, rfl, _, _, _, [], _, [], hW', trodAll_mk1 (shut_bool Try.underlying4 _), (trodAll_cons_mk (Below.trod laidOut (by kernel_rfl) (of_decide_eq_true (by kernel_rfl)) k0 bel lt0) trodAll_mk0), rfl, bel.frame _, fun h => by cases h⟩
theorem over : Rows.fnExactStepsLeftRow.holds Try.pinned (OpenSpec.ofChange Rows.fnExactStepsLeftSpec) :=
  OpenClaim.holds_of_wide 6 Try.f6 rfl rfl rfl rfl rfl rfl rfl ⟨rfl, rfl, rfl, rfl, rfl⟩ rfl rfl rfl rfl rfl (by kernel_rfl) Try.func6 (by kernel_rfl)
    (of_decide_eq_true (by kernel_rfl)) (by unfold Func.isWrapper; first | (rw [if_pos (by decide +kernel)]; kernel_rfl) | (rw [if_neg (by decide +kernel)]; exact ⟨rfl, rfl⟩))
    (fun os started H enc _ => lifted os started H enc)
theorem proved : Rows.FnExactStepsLeftSaid := over
#print axioms proved
end Go.Proofs.Ytbkkpllejgedcaa.fnExactStepsLeft
namespace Go.Proofs.Ytbkkpllejgedcaa
theorem fnExactStepsLeft_holds : Rows.FnExactStepsLeftSaid := fnExactStepsLeft.proved
end Go.Proofs.Ytbkkpllejgedcaa

