/- What functions of the program come to (f), that their calls come to just this (calls), and the plain laws over lists and numbers, and the law FnExactSampleShop: for every argument it answers true. No condition but those of the given row. -/
import Derived.Test.YtbkkpllejgedcaaRows
import Derived.Test.YtbkkpllejgedcaaC2
import Derived.WalkKit
import Derived.ProofKit
import Derived.OpenShut
import Derived.ShutString
import Derived.ChangeOld
import Derived.Below
import Derived.SizedLaws
namespace Go.Proofs.Ytbkkpllejgedcaa.P
open Go.RowKit Go.Proofs.YtbkkpllejgedcaaW.PrintWords Go.Proofs.YtbkkpllejgedcaaW.PrintLast Go.Proofs.YtbkkpllejgedcaaW.PrintMore
attribute [local go_sem] max2_int min2_int max_two min_two max_three min_three max_four min_four
set_option linter.unusedVariables false
set_option linter.unusedSimpArgs false
def impl_NewWork.f (k : Nat) (a0 : Int) (l1 : List (S96)) : Option ((List (S96)) × Int × List Int × Bool) := (impl_RunPlan.f k a0 l1).bind fun bt412 => (if bt412.2 = true then ((impl_copyPlan.f l1).bind fun t416 => (if 12 ≤ 35184372088832 then ((some (List.replicate 12 0 : List Int)).bind fun y419 => (if 0 < (y419.length : Int) then (some (t416, 0, (y419.set (0 : Int).toNat a0), true)) else (none))) else (none))) else (some (([] : List (S96)), 0, ([] : List Int), false)))
set_option maxHeartbeats 8000000 in
set_option maxRecDepth 100000 in
theorem impl_NewWork.calls (k : Nat) (a0 : Int) (A1 : Option Addr) (c1 : Nat) (l1 : List (S96)) (r1 : List (S96)) (r2 : Int) (r3 : List Int) (r4 : Bool) (w : World) (hr1 : Kd.C k96 w A1 l1.length l1) (hc1 : l1.length ≤ c1) (h : impl_NewWork.f k a0 l1 = some (r1, r2, r3, r4)) :
    Calls Try.prog 75 #[.int .i64 a0, .slice A1 l1.length c1] w fun e w' => ∃ v0_ v2_ : Value, e = .returned (.tuple #[.agg #[v0_, .int .i64 r2, v2_], .bool r4]) ∧ Kd.R k96 96 w' w.heap.size (fun _ => True) v0_ r1 ∧ Kd.R (Kd.int .i64) 3 w' w.heap.size (fun _ => True) v2_ r3 ∧ Below w.heap.size w w' := by
  have hu33 := Try.underlying33
  have HR1 := Aside0.mk hr1
  have HC1 := Aside0.mk hc1
  clear hr1 hc1
  have HB := Aside0.mk (Below.refl w.heap.size w)
  have H : ((impl_RunPlan.f k a0 l1).bind fun bt412 => (if bt412.2 = true then ((impl_copyPlan.f l1).bind fun t416 => (if 12 ≤ 35184372088832 then ((some (List.replicate 12 0 : List Int)).bind fun y419 => (if 0 < (y419.length : Int) then (some (t416, 0, (y419.set (0 : Int).toNat a0), true)) else (none))) else (none))) else (some (([] : List (S96)), 0, ([] : List Int), false)))) = some (r1, r2, r3, r4) := h
  clear h
  replace H := Option.bind_eq_some_iff.mp H
  obtain ⟨⟨t412, t413⟩, A30, H⟩ := H
  (try dsimp only at H)
  have A3 := Aside0.mk A30
  clear A30
  by_cases c4 : t413 = true
  · subst c4
    rw [if_pos rfl] at H
    replace H := Option.bind_eq_some_iff.mp H
    obtain ⟨t416, A50, H⟩ := H
    (try dsimp only at H)
    have A5 := Aside0.mk A50
    clear A50
    by_cases c6 : 12 ≤ 35184372088832
    · rw [if_pos c6] at H
      have c6b0 := eq_true c6
      have c6b1 : decide (12 ≤ 35184372088832) = true := decide_eq_true c6
      clear c6
      obtain ⟨y419, hy419⟩ : ∃ y_ : List Int, y_ = (List.replicate 12 0) := ⟨_, rfl⟩
      replace H : (if 0 < (y419.length : Int) then (some (t416, 0, (y419.set (0 : Int).toNat a0), true)) else (none)) = some (r1, r2, r3, r4) := by first | (rw [hy419]; with_reducible exact H) | (have H2_ := (Option.bind_some _ _).symm.trans H; rw [hy419]; with_reducible exact H2_) | (have H2_ := (Option.bind_some _ _).symm.trans H; with_reducible exact H2_) | with_reducible exact H | (rw [hy419]; exact H) | exact H
      have Ny419 := Aside0.mk hy419
      clear hy419
      by_cases c7 : 0 < (y419.length : Int)
      · rw [if_pos c7] at H
        have c7b0 : decide (0 < (y419.length : Int)) = true := decide_eq_true c7
        have c7b1 : decide (0 < y419.length) = true := decide_eq_true (by omega)
        clear c7
        obtain ⟨y423, hy423⟩ : ∃ y_ : List Int, y_ = (y419.set (0 : Int).toNat a0) := ⟨_, rfl⟩
        replace H : (some (t416, 0, y423, true)) = some (r1, r2, r3, r4) := by first | (rw [hy423]; with_reducible exact H) | (have H2_ := (Option.bind_some _ _).symm.trans H; rw [hy423]; with_reducible exact H2_) | (have H2_ := (Option.bind_some _ _).symm.trans H; with_reducible exact H2_) | with_reducible exact H | (rw [hy423]; exact H) | exact H
        have Ny423 := Aside0.mk hy423
        clear hy423
        simp only [Option.some.injEq, Prod.mk.injEq] at H
        obtain ⟨rfl, rfl, rfl, rfl⟩ := H
        go_enter Try.func75, Try.ntmps75
        try go_wp2_with (first | ((with_reducible refine gate_dst (N := 4) rfl ?_); refine box_event ?hg (N := 4) ?hd (cs := #[.slice none 0 0, .int .i64 0, .slice none 0 0]) (t := 33) ?hr ?_; (case hd => rfl); (case hg => rfl); (case hr => first | (go_simp; done) | (go_simp; rfl)); intro gb411 hg w9 hbox hb; have n0_ := Aside0.mk (below_step (oB HB) hb); have n1_ := Aside0.mk (hbox); have n2_ := Aside0.mk ((by rw [hg]; exact (below_size (oB HB)) : w.heap.size ≤ gb411)); have n3_ := Aside0.mk ((by rw [hg]; exact (below_size (oB HB)) : w.heap.size ≤ gb411)); clear HB; have HB := n0_; have BK411 := n1_; have GW411 := n2_; have GE411 := n3_; clear n0_ n1_ n2_ n3_; clear hb hbox hg) | ((with_reducible refine gate_callee (f := 111) rfl ?_); refine goesL_ (some 12) rfl rfl Try.func111 (by kernel_rfl) rfl #[.int .i64 a0, .slice A1 l1.length c1] rfl (by (try simp only [List.map_toArray, List.map_cons, List.map_nil]); first | done | rfl | (simp only [List.length_drop, List.length_take]; rfl)) ?_; (with_reducible refine (impl_RunPlan.calls k a0 _ _ l1 t412 true _ ?side1 ?side2 A3.out).mono ?_); (case side1 => exact oc_ HR1.out); (case side2 => exact HC1.out); rintro e w10 ⟨v414, rfl, ho0, hb⟩; refine ⟨_, rfl, ?_⟩; have n0_ := Aside0.mk (Kd.R_lower ho0 (below_size (oB HB))); have n1_ := Aside0.mk (blk_below (g := gb411) (o := .cells #[.slice none 0 0, .int .i64 0, .slice none 0 0] 33 (0, 0)) (oK BK411) hb); have n2_ := Aside0.mk (below_step (oB HB) hb); clear BK411; clear HB; have HO415 := n0_; have BK411 := n1_; have HB := n2_; clear n0_ n1_ n2_; (try clear hb); (try clear hb2); (try clear hk); (try clear hi); (try clear ho0)))
        have n0_ := Aside0.mk (Kd.R_drew HO415.out)
        have n1_ := Aside0.mk (blk_drew BK411.out)
        have n2_ := Aside0.mk (below_drew1 HB.out)
        clear HO415
        clear BK411
        clear HB
        have HO415 := n0_
        have BK411 := n1_
        have HB := n2_
        clear n0_ n1_ n2_
        refine start_ (n := 6) (S := fun w' => True) (ds := []) #[false, false, false, false, false, false] (by kernel_rfl) rfl rfl trivial (fun hHeld => ?_)
        generalize w10.drew = w11 at HO415 BK411 HB hHeld ⊢
        refine pure_ (i := 0) (N := some 18) (v := ?_) (a' := ?_) #[true, false, false, false, false, false] rfl rfl (by kernel_rfl) (fun _ _ _ h => h) (Or.inl ⟨by rfl, ?_⟩) ?_ ?_
        rotate_left
        · intro w'
          go_simp
          with_reducible rfl
        rotate_left
        · simp only [Act.put, List.setIfInBounds_toArray, List.set_cons_zero, List.set_cons_succ, i64_w, i32_w]
          rfl
        refine join_ (σ := Value × Value × Nat) 1 #[true, true, true, true, true, false] (fun s_ => [(19, s_.1), (20, s_.2.1), (8, .pointer (some ⟨s_.2.2, 0, none⟩)), (21, .agg #[s_.1, .int .i64 0, s_.2.1])]) (fun s_ w' => (Kd.R (Kd.int .i64) 3 w' w.heap.size (fun k_ => some k_ ≠ (s_.2.1 : Value).ownBlock) v414 t412) ∧ (Kd.R k96 96 w' w.heap.size (fun _ => True) s_.1 t416) ∧ (Kd.R (Kd.int .i64) 3 w' w.heap.size (fun k_ => some k_ ≠ (v414 : Value).ownBlock) s_.2.1 y419) ∧ (w'.heap[gb411]? = some (.cells #[.slice none 0 0, .int .i64 0, .slice none 0 0] 33 (0, 0))) ∧ (w'.heap[s_.2.2]? = some (.cells #[.slice none 0 0, .int .i64 0, .slice none 0 0] 33 (0, 0))) ∧ (w.heap.size ≤ s_.2.2) ∧ (w.heap.size ≤ s_.2.2) ∧ (gb411 ≠ s_.2.2) ∧ (s_.2.2 ≠ gb411) ∧ (Below w.heap.size w w')) ?_ ?_
        rotate_left
        · intro hJ1_2_4
          refine join_ (σ := Value × Value) 2 #[true, true, true, true, false, false] (fun s_ => [(19, s_.1), (20, s_.2), (21, .agg #[s_.1, .int .i64 0, s_.2])]) (fun s_ w' => (Kd.R (Kd.int .i64) 3 w' w.heap.size (fun k_ => some k_ ≠ (s_.2 : Value).ownBlock) v414 t412) ∧ (Kd.R k96 96 w' w.heap.size (fun _ => True) s_.1 t416) ∧ (Kd.R (Kd.int .i64) 3 w' w.heap.size (fun k_ => some k_ ≠ (v414 : Value).ownBlock) s_.2 y419) ∧ (w'.heap[gb411]? = some (.cells #[.slice none 0 0, .int .i64 0, .slice none 0 0] 33 (0, 0))) ∧ (Below w.heap.size w w')) ?_ ?_
          rotate_left
          · intro hJ1_2
            refine join_ (σ := Value × Nat) 3 #[true, true, false, false, true, false] (fun s_ => [(19, s_.1), (8, .pointer (some ⟨s_.2, 0, none⟩))]) (fun s_ w' => (Kd.R (Kd.int .i64) 3 w' w.heap.size (fun _ => True) v414 t412) ∧ (Kd.R k96 96 w' w.heap.size (fun _ => True) s_.1 t416) ∧ (w'.heap[gb411]? = some (.cells #[.slice none 0 0, .int .i64 0, .slice none 0 0] 33 (0, 0))) ∧ (w'.heap[s_.2]? = some (.cells #[.slice none 0 0, .int .i64 0, .slice none 0 0] 33 (0, 0))) ∧ (w.heap.size ≤ s_.2) ∧ (w.heap.size ≤ s_.2) ∧ (gb411 ≠ s_.2) ∧ (s_.2 ≠ gb411) ∧ (Below w.heap.size w w')) ?_ ?_
            rotate_left
            · intro hJ1_4
              refine join_ (σ := Value × Nat) 3 #[true, false, true, false, true, false] (fun s_ => [(20, s_.1), (8, .pointer (some ⟨s_.2, 0, none⟩))]) (fun s_ w' => (Kd.R (Kd.int .i64) 3 w' w.heap.size (fun k_ => some k_ ≠ (s_.1 : Value).ownBlock) v414 t412) ∧ (Kd.R (Kd.int .i64) 3 w' w.heap.size (fun k_ => some k_ ≠ (v414 : Value).ownBlock) s_.1 y419) ∧ (w'.heap[gb411]? = some (.cells #[.slice none 0 0, .int .i64 0, .slice none 0 0] 33 (0, 0))) ∧ (w'.heap[s_.2]? = some (.cells #[.slice none 0 0, .int .i64 0, .slice none 0 0] 33 (0, 0))) ∧ (w.heap.size ≤ s_.2) ∧ (w.heap.size ≤ s_.2) ∧ (gb411 ≠ s_.2) ∧ (s_.2 ≠ gb411) ∧ (Below w.heap.size w w')) ?_ ?_
              rotate_left
              · intro hJ2_4
                refine join_ (σ := Value) 4 #[true, true, false, false, false, false] (fun s_ => [(19, s_)]) (fun s_ w' => (Kd.R (Kd.int .i64) 3 w' w.heap.size (fun _ => True) v414 t412) ∧ (Kd.R k96 96 w' w.heap.size (fun _ => True) s_ t416) ∧ (w'.heap[gb411]? = some (.cells #[.slice none 0 0, .int .i64 0, .slice none 0 0] 33 (0, 0))) ∧ (Below w.heap.size w w')) ?_ ?_
                rotate_left
                · intro hJ1
                  refine join_ (σ := Value) 4 #[true, false, true, false, false, false] (fun s_ => [(20, s_)]) (fun s_ w' => (Kd.R (Kd.int .i64) 3 w' w.heap.size (fun k_ => some k_ ≠ (s_ : Value).ownBlock) v414 t412) ∧ (Kd.R (Kd.int .i64) 3 w' w.heap.size (fun k_ => some k_ ≠ (v414 : Value).ownBlock) s_ y419) ∧ (w'.heap[gb411]? = some (.cells #[.slice none 0 0, .int .i64 0, .slice none 0 0] 33 (0, 0))) ∧ (Below w.heap.size w w')) ?_ ?_
                  rotate_left
                  · intro hJ2
                    refine join_ (σ := Nat) 4 #[true, false, false, false, true, false] (fun s_ => [(8, .pointer (some ⟨s_, 0, none⟩))]) (fun s_ w' => (Kd.R (Kd.int .i64) 3 w' w.heap.size (fun _ => True) v414 t412) ∧ (w'.heap[gb411]? = some (.cells #[.slice none 0 0, .int .i64 0, .slice none 0 0] 33 (0, 0))) ∧ (w'.heap[s_]? = some (.cells #[.slice none 0 0, .int .i64 0, .slice none 0 0] 33 (0, 0))) ∧ (w.heap.size ≤ s_) ∧ (w.heap.size ≤ s_) ∧ (gb411 ≠ s_) ∧ (s_ ≠ gb411) ∧ (Below w.heap.size w w')) ?_ ?_
                    rotate_left
                    · intro hJ4
                      refine three_ (i := 1) (j := 2) (k := 4) (Ni := some 19) (Nj := some 20) (Nk := some 8) #[true, true, false, false, false, false] #[true, false, true, false, false, false] #[true, false, false, false, true, false] rfl rfl rfl rfl rfl rfl (by kernel_rfl) (by decide) (by decide) (by decide) (fun K hK => ?_) (fun K hK => ?_) (fun K hK => ?_)
                      · skip
                        refine goes_ Try.func112 (by kernel_rfl) rfl #[.slice A1 l1.length c1] (by rfl) rfl rfl (by (try simp only [List.map_toArray, List.map_cons, List.map_nil]); first | done | rfl | (simp only [List.length_drop, List.length_take]; rfl)) ?_
                        with_reducible refine (impl_copyPlan.calls _ _ l1 t416 _ ?side1 ?side2 A5.out).mono ?_
                        (case side1 => exact oc_ HR1.out)
                        (case side2 => exact HC1.out)
                        rintro e w12 ⟨v417, rfl, ho0, hb⟩
                        refine ⟨_, rfl, ?_⟩
                        have n0_ := Aside0.mk (Kd.R_below (oR HO415) hb)
                        have n1_ := Aside0.mk (Kd.R_lower ho0 (below_size (oB HB)))
                        have n2_ := Aside0.mk (blk_below (g := gb411) (o := .cells #[.slice none 0 0, .int .i64 0, .slice none 0 0] 33 (0, 0)) (oK BK411) hb)
                        have n3_ := Aside0.mk (below_step (oB HB) hb)
                        clear HO415
                        clear BK411
                        clear HB
                        have HO415 := n0_
                        have HO418 := n1_
                        have BK411 := n2_
                        have HB := n3_
                        clear n0_ n1_ n2_ n3_
                        (try clear hb)
                        (try clear hb2)
                        (try clear hk)
                        (try clear hi)
                        (try clear ho0)
                        refine hK.out _ _ trivial (fun hHeld => ?_)
                        clear hK K
                        refine norm_ (a' := ?_) ?_ ?_
                        rotate_left
                        · show Act.put _ (some 19) _ = _
                          simp only [Act.put, List.setIfInBounds_toArray, List.set_cons_zero, List.set_cons_succ, i64_w, i32_w]
                          rfl
                        exact norm_ (by first | (simp only [putAll, Act.put, List.setIfInBounds_toArray, List.set_cons_zero, List.set_cons_succ]; done) | (simp only [putAll, Act.put, List.setIfInBounds_toArray, List.set_cons_zero, List.set_cons_succ]; rfl)) (hJ1 (v417) _ ⟨(oR HO415), (oR HO418), (oK BK411), (oB HB)⟩)
                      · skip
                        refine Kd.R_make_step (Kd.int .i64) _ 3 (by rfl) (N := 20) rfl 23 _ _ rfl 12 rfl rfl Try.underlying23 (.int .i64 0) 8 info3 rfl (by decide) (by omega) 0 (ok := fun _ => True) (okp := fun _ => True) rfl (fun _ hk => hk) trivial (by omega) (by omega) (Below.refl _ _) (Nat.le_refl _) ?_
                        intro v420 w12 ho13 hb hg_ hnew_
                        clear hg_ hnew_
                        (first | rw [← Ny419.out] at ho13 | (simp only [Int.reduceToNat] at ho13; rw [← Ny419.out] at ho13))
                        have n0_ := Aside0.mk (Kd.R_elder' (oR HO415) (Kd.R_base ho13) hb)
                        have n1_ := Aside0.mk (Kd.R_lower (Kd.R_new' ho13 (Kd.R_lt (oR HO415))) (below_size (oB HB)))
                        have n2_ := Aside0.mk (blk_below (g := gb411) (o := .cells #[.slice none 0 0, .int .i64 0, .slice none 0 0] 33 (0, 0)) (oK BK411) hb)
                        have n3_ := Aside0.mk (below_step (oB HB) hb)
                        clear HO415
                        clear BK411
                        clear HB
                        have HO415 := n0_
                        have HO421 := n1_
                        have BK411 := n2_
                        have HB := n3_
                        clear n0_ n1_ n2_ n3_
                        clear hb ho13
                        refine hK.out _ _ trivial (fun hHeld => ?_)
                        clear hK K
                        refine norm_ (a' := ?_) ?_ ?_
                        rotate_left
                        · show Act.put _ (some 20) _ = _
                          simp only [Act.put, List.setIfInBounds_toArray, List.set_cons_zero, List.set_cons_succ, i64_w, i32_w]
                          rfl
                        exact norm_ (by first | (simp only [putAll, Act.put, List.setIfInBounds_toArray, List.set_cons_zero, List.set_cons_succ]; done) | (simp only [putAll, Act.put, List.setIfInBounds_toArray, List.set_cons_zero, List.set_cons_succ]; rfl)) (hJ2 (v420) _ ⟨(by (with_reducible repeat (first | apply Kd.R_alloc | apply Kd.R_drewN | apply Kd.R_drew)); exact Kd.R_mono HO415.out (fun _ hk => hk.2)), (by (with_reducible repeat (first | apply Kd.R_alloc | apply Kd.R_drewN | apply Kd.R_drew)); exact Kd.R_mono HO421.out (fun _ hk => hk.2)), (oK BK411), (oB HB)⟩)
                      · skip
                        refine box_step ?hg (N := 8) ?hd (cs := #[.slice none 0 0, .int .i64 0, .slice none 0 0]) (t := 33) ?hr ?_; (case hd => rfl); (case hg => rfl); (case hr => first | (go_simp; done) | (go_simp; rfl))
                        intro gb422 hg w12 hbox hb
                        have n0_ := Aside0.mk (Kd.R_below (oR HO415) hb)
                        have n1_ := Aside0.mk (blk_below (g := gb411) (o := .cells #[.slice none 0 0, .int .i64 0, .slice none 0 0] 33 (0, 0)) (oK BK411) hb)
                        have n2_ := Aside0.mk (below_step (oB HB) hb)
                        have n3_ := Aside0.mk (hbox)
                        have n4_ := Aside0.mk ((by rw [hg]; exact (below_size (oB HB)) : w.heap.size ≤ gb422))
                        have n5_ := Aside0.mk ((by rw [hg]; exact (below_size (oB HB)) : w.heap.size ≤ gb422))
                        have n6_ := Aside0.mk ((by rw [hg]; exact Nat.ne_of_lt (blk_lt (g := gb411) (o := .cells #[.slice none 0 0, .int .i64 0, .slice none 0 0] 33 (0, 0)) (oK BK411)) : gb411 ≠ gb422))
                        have n7_ := Aside0.mk ((by rw [hg]; exact Nat.ne_of_gt (blk_lt (g := gb411) (o := .cells #[.slice none 0 0, .int .i64 0, .slice none 0 0] 33 (0, 0)) (oK BK411)) : gb422 ≠ gb411))
                        clear HO415
                        clear BK411
                        clear HB
                        have HO415 := n0_
                        have BK411 := n1_
                        have HB := n2_
                        have BK422 := n3_
                        have GW422 := n4_
                        have GE422 := n5_
                        have NB411_422 := n6_
                        have NB422_411 := n7_
                        clear n0_ n1_ n2_ n3_ n4_ n5_ n6_ n7_
                        clear hb hbox hg
                        refine hK.out _ _ trivial (fun hHeld => ?_)
                        clear hK K
                        refine norm_ (a' := ?_) ?_ ?_
                        rotate_left
                        · show Act.put _ (some 8) _ = _
                          simp only [Act.put, List.setIfInBounds_toArray, List.set_cons_zero, List.set_cons_succ, i64_w, i32_w]
                          rfl
                        exact norm_ (by first | (simp only [putAll, Act.put, List.setIfInBounds_toArray, List.set_cons_zero, List.set_cons_succ]; done) | (simp only [putAll, Act.put, List.setIfInBounds_toArray, List.set_cons_zero, List.set_cons_succ]; rfl)) (hJ4 (gb422) _ ⟨(oR HO415), (oK BK411), (oK BK422), GW422.out, GE422.out, NB411_422.out, NB422_411.out, (oB HB)⟩)
                    · skip
                      rintro gb422 w13 ⟨h0_, h1_, h2_, h3_, h4_, h5_, h6_, h7_⟩
                      have n0_ : Aside0 (Kd.R (Kd.int .i64) 3 w13 w.heap.size (fun _ => True) v414 t412) := ⟨h0_⟩
                      have n1_ : Aside0 (w13.heap[gb411]? = some (.cells #[.slice none 0 0, .int .i64 0, .slice none 0 0] 33 (0, 0))) := ⟨h1_⟩
                      have n2_ : Aside0 (w13.heap[gb422]? = some (.cells #[.slice none 0 0, .int .i64 0, .slice none 0 0] 33 (0, 0))) := ⟨h2_⟩
                      have n3_ : Aside0 (w.heap.size ≤ gb422) := ⟨h3_⟩
                      have n4_ : Aside0 (w.heap.size ≤ gb422) := ⟨h4_⟩
                      have n5_ : Aside0 (gb411 ≠ gb422) := ⟨h5_⟩
                      have n6_ : Aside0 (gb422 ≠ gb411) := ⟨h6_⟩
                      have n7_ : Aside0 (Below w.heap.size w w13) := ⟨h7_⟩
                      clear HO415
                      clear BK411
                      clear HB
                      clear h0_ h1_ h2_ h3_ h4_ h5_ h6_ h7_
                      have HO415 := n0_
                      have BK411 := n1_
                      have BK422 := n2_
                      have GW422 := n3_
                      have GE422 := n4_
                      have NB411_422 := n5_
                      have NB422_411 := n6_
                      have HB := n7_
                      clear n0_ n1_ n2_ n3_ n4_ n5_ n6_ n7_
                      have hHeld := trivial
                      refine norm_ (a' := ?_) ?_ ?_
                      rotate_left
                      · simp only [putAll, Act.put, List.setIfInBounds_toArray, List.set_cons_zero, List.set_cons_succ]
                        rfl
                      refine two_ (i := 1) (j := 2) (Ni := some 19) (Nj := some 20) #[true, true, false, false, true, false] #[true, false, true, false, true, false] rfl rfl rfl rfl (by kernel_rfl) (by decide) (by decide) (fun K hK => ?_) (fun K hK => ?_)
                      · skip
                        refine goes_ Try.func112 (by kernel_rfl) rfl #[.slice A1 l1.length c1] (by rfl) rfl rfl (by (try simp only [List.map_toArray, List.map_cons, List.map_nil]); first | done | rfl | (simp only [List.length_drop, List.length_take]; rfl)) ?_
                        with_reducible refine (impl_copyPlan.calls _ _ l1 t416 _ ?side1 ?side2 A5.out).mono ?_
                        (case side1 => exact oc_ HR1.out)
                        (case side2 => exact HC1.out)
                        rintro e w14 ⟨v417, rfl, ho0, hb⟩
                        refine ⟨_, rfl, ?_⟩
                        have n0_ := Aside0.mk (Kd.R_below (oR HO415) hb)
                        have n1_ := Aside0.mk (Kd.R_lower ho0 (below_size (oB HB)))
                        have n2_ := Aside0.mk (blk_below (g := gb411) (o := .cells #[.slice none 0 0, .int .i64 0, .slice none 0 0] 33 (0, 0)) (oK BK411) hb)
                        have n3_ := Aside0.mk (blk_below (g := gb422) (o := .cells #[.slice none 0 0, .int .i64 0, .slice none 0 0] 33 (0, 0)) (oK BK422) hb)
                        have n4_ := Aside0.mk (below_step (oB HB) hb)
                        clear HO415
                        clear BK411
                        clear BK422
                        clear HB
                        have HO415 := n0_
                        have HO418 := n1_
                        have BK411 := n2_
                        have BK422 := n3_
                        have HB := n4_
                        clear n0_ n1_ n2_ n3_ n4_
                        (try clear hb)
                        (try clear hb2)
                        (try clear hk)
                        (try clear hi)
                        (try clear ho0)
                        refine hK.out _ _ trivial (fun hHeld => ?_)
                        clear hK K
                        refine norm_ (a' := ?_) ?_ ?_
                        rotate_left
                        · show Act.put _ (some 19) _ = _
                          simp only [Act.put, List.setIfInBounds_toArray, List.set_cons_zero, List.set_cons_succ, i64_w, i32_w]
                          rfl
                        exact norm_ (by first | (simp only [putAll, Act.put, List.setIfInBounds_toArray, List.set_cons_zero, List.set_cons_succ]; done) | (simp only [putAll, Act.put, List.setIfInBounds_toArray, List.set_cons_zero, List.set_cons_succ]; rfl)) (hJ1_4 (v417, gb422) _ ⟨(oR HO415), (oR HO418), (oK BK411), (oK BK422), GW422.out, GE422.out, NB411_422.out, NB422_411.out, (oB HB)⟩)
                      · skip
                        refine Kd.R_make_step (Kd.int .i64) _ 3 (by rfl) (N := 20) rfl 23 _ _ rfl 12 rfl rfl Try.underlying23 (.int .i64 0) 8 info3 rfl (by decide) (by omega) 0 (ok := fun _ => True) (okp := fun _ => True) rfl (fun _ hk => hk) trivial (by omega) (by omega) (Below.refl _ _) (Nat.le_refl _) ?_
                        intro v420 w14 ho15 hb hg_ hnew_
                        clear hg_ hnew_
                        (first | rw [← Ny419.out] at ho15 | (simp only [Int.reduceToNat] at ho15; rw [← Ny419.out] at ho15))
                        have n0_ := Aside0.mk (Kd.R_elder' (oR HO415) (Kd.R_base ho15) hb)
                        have n1_ := Aside0.mk (Kd.R_lower (Kd.R_new' ho15 (Kd.R_lt (oR HO415))) (below_size (oB HB)))
                        have n2_ := Aside0.mk (blk_below (g := gb411) (o := .cells #[.slice none 0 0, .int .i64 0, .slice none 0 0] 33 (0, 0)) (oK BK411) hb)
                        have n3_ := Aside0.mk (blk_below (g := gb422) (o := .cells #[.slice none 0 0, .int .i64 0, .slice none 0 0] 33 (0, 0)) (oK BK422) hb)
                        have n4_ := Aside0.mk (below_step (oB HB) hb)
                        clear HO415
                        clear BK411
                        clear BK422
                        clear HB
                        have HO415 := n0_
                        have HO421 := n1_
                        have BK411 := n2_
                        have BK422 := n3_
                        have HB := n4_
                        clear n0_ n1_ n2_ n3_ n4_
                        clear hb ho15
                        refine hK.out _ _ trivial (fun hHeld => ?_)
                        clear hK K
                        refine norm_ (a' := ?_) ?_ ?_
                        rotate_left
                        · show Act.put _ (some 20) _ = _
                          simp only [Act.put, List.setIfInBounds_toArray, List.set_cons_zero, List.set_cons_succ, i64_w, i32_w]
                          rfl
                        exact norm_ (by first | (simp only [putAll, Act.put, List.setIfInBounds_toArray, List.set_cons_zero, List.set_cons_succ]; done) | (simp only [putAll, Act.put, List.setIfInBounds_toArray, List.set_cons_zero, List.set_cons_succ]; rfl)) (hJ2_4 (v420, gb422) _ ⟨(by (with_reducible repeat (first | apply Kd.R_alloc | apply Kd.R_drewN | apply Kd.R_drew)); exact Kd.R_mono HO415.out (fun _ hk => hk.2)), (by (with_reducible repeat (first | apply Kd.R_alloc | apply Kd.R_drewN | apply Kd.R_drew)); exact Kd.R_mono HO421.out (fun _ hk => hk.2)), (oK BK411), (oK BK422), GW422.out, GE422.out, NB411_422.out, NB422_411.out, (oB HB)⟩)
                  · skip
                    rintro v420 w14 ⟨h0_, h1_, h2_, h3_⟩
                    have n0_ : Aside0 (Kd.R (Kd.int .i64) 3 w14 w.heap.size (fun k_ => some k_ ≠ (v420 : Value).ownBlock) v414 t412) := ⟨h0_⟩
                    have n1_ : Aside0 (Kd.R (Kd.int .i64) 3 w14 w.heap.size (fun k_ => some k_ ≠ (v414 : Value).ownBlock) v420 y419) := ⟨h1_⟩
                    have n2_ : Aside0 (w14.heap[gb411]? = some (.cells #[.slice none 0 0, .int .i64 0, .slice none 0 0] 33 (0, 0))) := ⟨h2_⟩
                    have n3_ : Aside0 (Below w.heap.size w w14) := ⟨h3_⟩
                    clear HO415
                    clear BK411
                    clear HB
                    clear h0_ h1_ h2_ h3_
                    have HO415 := n0_
                    have HO421 := n1_
                    have BK411 := n2_
                    have HB := n3_
                    clear n0_ n1_ n2_ n3_
                    have hHeld := trivial
                    refine norm_ (a' := ?_) ?_ ?_
                    rotate_left
                    · simp only [putAll, Act.put, List.setIfInBounds_toArray, List.set_cons_zero, List.set_cons_succ]
                      rfl
                    refine two_ (i := 1) (j := 4) (Ni := some 19) (Nj := some 8) #[true, true, true, false, false, false] #[true, false, true, false, true, false] rfl rfl rfl rfl (by kernel_rfl) (by decide) (by decide) (fun K hK => ?_) (fun K hK => ?_)
                    · skip
                      refine goes_ Try.func112 (by kernel_rfl) rfl #[.slice A1 l1.length c1] (by rfl) rfl rfl (by (try simp only [List.map_toArray, List.map_cons, List.map_nil]); first | done | rfl | (simp only [List.length_drop, List.length_take]; rfl)) ?_
                      with_reducible refine (impl_copyPlan.calls _ _ l1 t416 _ ?side1 ?side2 A5.out).mono ?_
                      (case side1 => exact oc_ HR1.out)
                      (case side2 => exact HC1.out)
                      rintro e w15 ⟨v417, rfl, ho0, hb⟩
                      refine ⟨_, rfl, ?_⟩
                      have n0_ := Aside0.mk (Kd.R_below (oR HO415) hb)
                      have n1_ := Aside0.mk (Kd.R_below (oR HO421) hb)
                      have n2_ := Aside0.mk (Kd.R_lower ho0 (below_size (oB HB)))
                      have n3_ := Aside0.mk (blk_below (g := gb411) (o := .cells #[.slice none 0 0, .int .i64 0, .slice none 0 0] 33 (0, 0)) (oK BK411) hb)
                      have n4_ := Aside0.mk (below_step (oB HB) hb)
                      clear HO415
                      clear HO421
                      clear BK411
                      clear HB
                      have HO415 := n0_
                      have HO421 := n1_
                      have HO418 := n2_
                      have BK411 := n3_
                      have HB := n4_
                      clear n0_ n1_ n2_ n3_ n4_
                      (try clear hb)
                      (try clear hb2)
                      (try clear hk)
                      (try clear hi)
                      (try clear ho0)
                      obtain ⟨Ao16, co16, eo16⟩ := Kd.R_slice HO421.out
                      (first | subst eo16 | (injection eo16 with f1_ f2_ f3_; have f4_ := f1_.symm; have f5_ := f3_.symm; clear f1_ f2_ f3_; subst f4_; subst f5_))
                      obtain ⟨Ao17, co17, eo17⟩ := Kd.R_slice HO418.out
                      (first | subst eo17 | (injection eo17 with f1_ f2_ f3_; have f4_ := f1_.symm; have f5_ := f3_.symm; clear f1_ f2_ f3_; subst f4_; subst f5_))
                      refine hK.out _ _ trivial (fun hHeld => ?_)
                      clear hK K
                      refine norm_ (a' := ?_) ?_ ?_
                      rotate_left
                      · show Act.put _ (some 19) _ = _
                        simp only [Act.put, List.setIfInBounds_toArray, List.set_cons_zero, List.set_cons_succ, i64_w, i32_w]
                        rfl
                      refine pure_ (i := 3) (N := some 21) (v := ?_) (a' := ?_) #[true, true, true, true, false, false] rfl rfl (by kernel_rfl) (fun _ _ _ h => h) (Or.inl ⟨by rfl, ?_⟩) ?_ ?_
                      rotate_left
                      · intro w'
                        go_simp
                        with_reducible rfl
                      rotate_left
                      · simp only [Act.put, List.setIfInBounds_toArray, List.set_cons_zero, List.set_cons_succ, i64_w, i32_w]
                        rfl
                      exact norm_ (by first | (simp only [putAll, Act.put, List.setIfInBounds_toArray, List.set_cons_zero, List.set_cons_succ]; done) | (simp only [putAll, Act.put, List.setIfInBounds_toArray, List.set_cons_zero, List.set_cons_succ]; rfl)) (hJ1_2 (.slice Ao17 t416.length co17, .slice Ao16 y419.length co16) _ ⟨(oR HO415), (oR HO418), (oR HO421), (oK BK411), (oB HB)⟩)
                    · skip
                      refine box_step ?hg (N := 8) ?hd (cs := #[.slice none 0 0, .int .i64 0, .slice none 0 0]) (t := 33) ?hr ?_; (case hd => rfl); (case hg => rfl); (case hr => first | (go_simp; done) | (go_simp; rfl))
                      intro gb422 hg w15 hbox hb
                      have n0_ := Aside0.mk (Kd.R_below (oR HO415) hb)
                      have n1_ := Aside0.mk (Kd.R_below (oR HO421) hb)
                      have n2_ := Aside0.mk (blk_below (g := gb411) (o := .cells #[.slice none 0 0, .int .i64 0, .slice none 0 0] 33 (0, 0)) (oK BK411) hb)
                      have n3_ := Aside0.mk (below_step (oB HB) hb)
                      have n4_ := Aside0.mk (hbox)
                      have n5_ := Aside0.mk ((by rw [hg]; exact (below_size (oB HB)) : w.heap.size ≤ gb422))
                      have n6_ := Aside0.mk ((by rw [hg]; exact (below_size (oB HB)) : w.heap.size ≤ gb422))
                      have n7_ := Aside0.mk ((by rw [hg]; exact Nat.ne_of_lt (blk_lt (g := gb411) (o := .cells #[.slice none 0 0, .int .i64 0, .slice none 0 0] 33 (0, 0)) (oK BK411)) : gb411 ≠ gb422))
                      have n8_ := Aside0.mk ((by rw [hg]; exact Nat.ne_of_gt (blk_lt (g := gb411) (o := .cells #[.slice none 0 0, .int .i64 0, .slice none 0 0] 33 (0, 0)) (oK BK411)) : gb422 ≠ gb411))
                      clear HO415
                      clear HO421
                      clear BK411
                      clear HB
                      have HO415 := n0_
                      have HO421 := n1_
                      have BK411 := n2_
                      have HB := n3_
                      have BK422 := n4_
                      have GW422 := n5_
                      have GE422 := n6_
                      have NB411_422 := n7_
                      have NB422_411 := n8_
                      clear n0_ n1_ n2_ n3_ n4_ n5_ n6_ n7_ n8_
                      clear hb hbox hg
                      refine hK.out _ _ trivial (fun hHeld => ?_)
                      clear hK K
                      refine norm_ (a' := ?_) ?_ ?_
                      rotate_left
                      · show Act.put _ (some 8) _ = _
                        simp only [Act.put, List.setIfInBounds_toArray, List.set_cons_zero, List.set_cons_succ, i64_w, i32_w]
                        rfl
                      exact norm_ (by first | (simp only [putAll, Act.put, List.setIfInBounds_toArray, List.set_cons_zero, List.set_cons_succ]; done) | (simp only [putAll, Act.put, List.setIfInBounds_toArray, List.set_cons_zero, List.set_cons_succ]; rfl)) (hJ2_4 (v420, gb422) _ ⟨(oR HO415), (oR HO421), (oK BK411), (oK BK422), GW422.out, GE422.out, NB411_422.out, NB422_411.out, (oB HB)⟩)
                · skip
                  rintro v417 w13 ⟨h0_, h1_, h2_, h3_⟩
                  have n0_ : Aside0 (Kd.R (Kd.int .i64) 3 w13 w.heap.size (fun _ => True) v414 t412) := ⟨h0_⟩
                  have n1_ : Aside0 (Kd.R k96 96 w13 w.heap.size (fun _ => True) v417 t416) := ⟨h1_⟩
                  have n2_ : Aside0 (w13.heap[gb411]? = some (.cells #[.slice none 0 0, .int .i64 0, .slice none 0 0] 33 (0, 0))) := ⟨h2_⟩
                  have n3_ : Aside0 (Below w.heap.size w w13) := ⟨h3_⟩
                  clear HO415
                  clear BK411
                  clear HB
                  clear h0_ h1_ h2_ h3_
                  have HO415 := n0_
                  have HO418 := n1_
                  have BK411 := n2_
                  have HB := n3_
                  clear n0_ n1_ n2_ n3_
                  have hHeld := trivial
                  refine norm_ (a' := ?_) ?_ ?_
                  rotate_left
                  · simp only [putAll, Act.put, List.setIfInBounds_toArray, List.set_cons_zero, List.set_cons_succ]
                    rfl
                  refine two_ (i := 2) (j := 4) (Ni := some 20) (Nj := some 8) #[true, true, true, false, false, false] #[true, true, false, false, true, false] rfl rfl rfl rfl (by kernel_rfl) (by decide) (by decide) (fun K hK => ?_) (fun K hK => ?_)
                  · skip
                    refine Kd.R_make_step (Kd.int .i64) _ 3 (by rfl) (N := 20) rfl 23 _ _ rfl 12 rfl rfl Try.underlying23 (.int .i64 0) 8 info3 rfl (by decide) (by omega) 0 (ok := fun _ => True) (okp := fun _ => True) rfl (fun _ hk => hk) trivial (by omega) (by omega) (Below.refl _ _) (Nat.le_refl _) ?_
                    intro v420 w14 ho15 hb hg_ hnew_
                    clear hg_ hnew_
                    (first | rw [← Ny419.out] at ho15 | (simp only [Int.reduceToNat] at ho15; rw [← Ny419.out] at ho15))
                    have n0_ := Aside0.mk (Kd.R_elder' (oR HO415) (Kd.R_base ho15) hb)
                    have n1_ := Aside0.mk (Kd.R_below (oR HO418) hb)
                    have n2_ := Aside0.mk (Kd.R_lower (Kd.R_new' ho15 (Kd.R_lt (oR HO415))) (below_size (oB HB)))
                    have n3_ := Aside0.mk (blk_below (g := gb411) (o := .cells #[.slice none 0 0, .int .i64 0, .slice none 0 0] 33 (0, 0)) (oK BK411) hb)
                    have n4_ := Aside0.mk (below_step (oB HB) hb)
                    clear HO415
                    clear HO418
                    clear BK411
                    clear HB
                    have HO415 := n0_
                    have HO418 := n1_
                    have HO421 := n2_
                    have BK411 := n3_
                    have HB := n4_
                    clear n0_ n1_ n2_ n3_ n4_
                    clear hb ho15
                    obtain ⟨Ao16, co16, eo16⟩ := Kd.R_slice HO421.out
                    (first | subst eo16 | (injection eo16 with f1_ f2_ f3_; have f4_ := f1_.symm; have f5_ := f3_.symm; clear f1_ f2_ f3_; subst f4_; subst f5_))
                    obtain ⟨Ao17, co17, eo17⟩ := Kd.R_slice HO418.out
                    (first | subst eo17 | (injection eo17 with f1_ f2_ f3_; have f4_ := f1_.symm; have f5_ := f3_.symm; clear f1_ f2_ f3_; subst f4_; subst f5_))
                    refine hK.out _ _ trivial (fun hHeld => ?_)
                    clear hK K
                    refine norm_ (a' := ?_) ?_ ?_
                    rotate_left
                    · show Act.put _ (some 20) _ = _
                      simp only [Act.put, List.setIfInBounds_toArray, List.set_cons_zero, List.set_cons_succ, i64_w, i32_w]
                      rfl
                    refine pure_ (i := 3) (N := some 21) (v := ?_) (a' := ?_) #[true, true, true, true, false, false] rfl rfl (by kernel_rfl) (fun _ _ _ h => h) (Or.inl ⟨by rfl, ?_⟩) ?_ ?_
                    rotate_left
                    · intro w'
                      go_simp
                      with_reducible rfl
                    rotate_left
                    · simp only [Act.put, List.setIfInBounds_toArray, List.set_cons_zero, List.set_cons_succ, i64_w, i32_w]
                      rfl
                    exact norm_ (by first | (simp only [putAll, Act.put, List.setIfInBounds_toArray, List.set_cons_zero, List.set_cons_succ]; done) | (simp only [putAll, Act.put, List.setIfInBounds_toArray, List.set_cons_zero, List.set_cons_succ]; rfl)) (hJ1_2 (.slice Ao17 t416.length co17, .slice Ao16 y419.length co16) _ ⟨(by (with_reducible repeat (first | apply Kd.R_alloc | apply Kd.R_drewN | apply Kd.R_drew)); exact Kd.R_mono HO415.out (fun _ hk => hk.2)), (oR HO418), (by (with_reducible repeat (first | apply Kd.R_alloc | apply Kd.R_drewN | apply Kd.R_drew)); exact Kd.R_mono HO421.out (fun _ hk => hk.2)), (oK BK411), (oB HB)⟩)
                  · skip
                    refine box_step ?hg (N := 8) ?hd (cs := #[.slice none 0 0, .int .i64 0, .slice none 0 0]) (t := 33) ?hr ?_; (case hd => rfl); (case hg => rfl); (case hr => first | (go_simp; done) | (go_simp; rfl))
                    intro gb422 hg w14 hbox hb
                    have n0_ := Aside0.mk (Kd.R_below (oR HO415) hb)
                    have n1_ := Aside0.mk (Kd.R_below (oR HO418) hb)
                    have n2_ := Aside0.mk (blk_below (g := gb411) (o := .cells #[.slice none 0 0, .int .i64 0, .slice none 0 0] 33 (0, 0)) (oK BK411) hb)
                    have n3_ := Aside0.mk (below_step (oB HB) hb)
                    have n4_ := Aside0.mk (hbox)
                    have n5_ := Aside0.mk ((by rw [hg]; exact (below_size (oB HB)) : w.heap.size ≤ gb422))
                    have n6_ := Aside0.mk ((by rw [hg]; exact (below_size (oB HB)) : w.heap.size ≤ gb422))
                    have n7_ := Aside0.mk ((by rw [hg]; exact Nat.ne_of_lt (blk_lt (g := gb411) (o := .cells #[.slice none 0 0, .int .i64 0, .slice none 0 0] 33 (0, 0)) (oK BK411)) : gb411 ≠ gb422))
                    have n8_ := Aside0.mk ((by rw [hg]; exact Nat.ne_of_gt (blk_lt (g := gb411) (o := .cells #[.slice none 0 0, .int .i64 0, .slice none 0 0] 33 (0, 0)) (oK BK411)) : gb422 ≠ gb411))
                    clear HO415
                    clear HO418
                    clear BK411
                    clear HB
                    have HO415 := n0_
                    have HO418 := n1_
                    have BK411 := n2_
                    have HB := n3_
                    have BK422 := n4_
                    have GW422 := n5_
                    have GE422 := n6_
                    have NB411_422 := n7_
                    have NB422_411 := n8_
                    clear n0_ n1_ n2_ n3_ n4_ n5_ n6_ n7_ n8_
                    clear hb hbox hg
                    refine hK.out _ _ trivial (fun hHeld => ?_)
                    clear hK K
                    refine norm_ (a' := ?_) ?_ ?_
                    rotate_left
                    · show Act.put _ (some 8) _ = _
                      simp only [Act.put, List.setIfInBounds_toArray, List.set_cons_zero, List.set_cons_succ, i64_w, i32_w]
                      rfl
                    exact norm_ (by first | (simp only [putAll, Act.put, List.setIfInBounds_toArray, List.set_cons_zero, List.set_cons_succ]; done) | (simp only [putAll, Act.put, List.setIfInBounds_toArray, List.set_cons_zero, List.set_cons_succ]; rfl)) (hJ1_4 (v417, gb422) _ ⟨(oR HO415), (oR HO418), (oK BK411), (oK BK422), GW422.out, GE422.out, NB411_422.out, NB422_411.out, (oB HB)⟩)
              · skip
                rintro ⟨v420, gb422⟩ w15 ⟨h0_, h1_, h2_, h3_, h4_, h5_, h6_, h7_, h8_⟩
                have n0_ : Aside0 (Kd.R (Kd.int .i64) 3 w15 w.heap.size (fun k_ => some k_ ≠ (v420 : Value).ownBlock) v414 t412) := ⟨h0_⟩
                have n1_ : Aside0 (Kd.R (Kd.int .i64) 3 w15 w.heap.size (fun k_ => some k_ ≠ (v414 : Value).ownBlock) v420 y419) := ⟨h1_⟩
                have n2_ : Aside0 (w15.heap[gb411]? = some (.cells #[.slice none 0 0, .int .i64 0, .slice none 0 0] 33 (0, 0))) := ⟨h2_⟩
                have n3_ : Aside0 (w15.heap[gb422]? = some (.cells #[.slice none 0 0, .int .i64 0, .slice none 0 0] 33 (0, 0))) := ⟨h3_⟩
                have n4_ : Aside0 (w.heap.size ≤ gb422) := ⟨h4_⟩
                have n5_ : Aside0 (w.heap.size ≤ gb422) := ⟨h5_⟩
                have n6_ : Aside0 (gb411 ≠ gb422) := ⟨h6_⟩
                have n7_ : Aside0 (gb422 ≠ gb411) := ⟨h7_⟩
                have n8_ : Aside0 (Below w.heap.size w w15) := ⟨h8_⟩
                clear HO415
                clear BK411
                clear HB
                clear h0_ h1_ h2_ h3_ h4_ h5_ h6_ h7_ h8_
                have HO415 := n0_
                have HO421 := n1_
                have BK411 := n2_
                have BK422 := n3_
                have GW422 := n4_
                have GE422 := n5_
                have NB411_422 := n6_
                have NB422_411 := n7_
                have HB := n8_
                clear n0_ n1_ n2_ n3_ n4_ n5_ n6_ n7_ n8_
                have hHeld := trivial
                refine norm_ (a' := ?_) ?_ ?_
                rotate_left
                · simp only [putAll, Act.put, List.setIfInBounds_toArray, List.set_cons_zero, List.set_cons_succ]
                  rfl
                refine one_ (i := 1) (N := some 19) #[true, true, true, false, true, false] rfl rfl (by kernel_rfl) (by decide) (fun K hK => ?_)
                refine goes_ Try.func112 (by kernel_rfl) rfl #[.slice A1 l1.length c1] (by rfl) rfl rfl (by (try simp only [List.map_toArray, List.map_cons, List.map_nil]); first | done | rfl | (simp only [List.length_drop, List.length_take]; rfl)) ?_
                with_reducible refine (impl_copyPlan.calls _ _ l1 t416 _ ?side1 ?side2 A5.out).mono ?_
                (case side1 => exact oc_ HR1.out)
                (case side2 => exact HC1.out)
                rintro e w16 ⟨v417, rfl, ho0, hb⟩
                refine ⟨_, rfl, ?_⟩
                have n0_ := Aside0.mk (Kd.R_below (oR HO415) hb)
                have n1_ := Aside0.mk (Kd.R_below (oR HO421) hb)
                have n2_ := Aside0.mk (Kd.R_lower ho0 (below_size (oB HB)))
                have n3_ := Aside0.mk (blk_below (g := gb411) (o := .cells #[.slice none 0 0, .int .i64 0, .slice none 0 0] 33 (0, 0)) (oK BK411) hb)
                have n4_ := Aside0.mk (blk_below (g := gb422) (o := .cells #[.slice none 0 0, .int .i64 0, .slice none 0 0] 33 (0, 0)) (oK BK422) hb)
                have n5_ := Aside0.mk (below_step (oB HB) hb)
                clear HO415
                clear HO421
                clear BK411
                clear BK422
                clear HB
                have HO415 := n0_
                have HO421 := n1_
                have HO418 := n2_
                have BK411 := n3_
                have BK422 := n4_
                have HB := n5_
                clear n0_ n1_ n2_ n3_ n4_ n5_
                (try clear hb)
                (try clear hb2)
                (try clear hk)
                (try clear hi)
                (try clear ho0)
                obtain ⟨Ao17, co17, eo17⟩ := Kd.R_slice HO421.out
                (first | subst eo17 | (injection eo17 with f1_ f2_ f3_; have f4_ := f1_.symm; have f5_ := f3_.symm; clear f1_ f2_ f3_; subst f4_; subst f5_))
                obtain ⟨Ao18, co18, eo18⟩ := Kd.R_slice HO418.out
                (first | subst eo18 | (injection eo18 with f1_ f2_ f3_; have f4_ := f1_.symm; have f5_ := f3_.symm; clear f1_ f2_ f3_; subst f4_; subst f5_))
                refine hK.out _ _ trivial (fun hHeld => ?_)
                clear hK K
                refine norm_ (a' := ?_) ?_ ?_
                rotate_left
                · show Act.put _ (some 19) _ = _
                  simp only [Act.put, List.setIfInBounds_toArray, List.set_cons_zero, List.set_cons_succ, i64_w, i32_w]
                  rfl
                refine pure_ (i := 3) (N := some 21) (v := ?_) (a' := ?_) #[true, true, true, true, true, false] rfl rfl (by kernel_rfl) (fun _ _ _ h => h) (Or.inl ⟨by rfl, ?_⟩) ?_ ?_
                rotate_left
                · intro w'
                  go_simp
                  with_reducible rfl
                rotate_left
                · simp only [Act.put, List.setIfInBounds_toArray, List.set_cons_zero, List.set_cons_succ, i64_w, i32_w]
                  rfl
                exact norm_ (by first | (simp only [putAll, Act.put, List.setIfInBounds_toArray, List.set_cons_zero, List.set_cons_succ]; done) | (simp only [putAll, Act.put, List.setIfInBounds_toArray, List.set_cons_zero, List.set_cons_succ]; rfl)) (hJ1_2_4 (.slice Ao18 t416.length co18, .slice Ao17 y419.length co17, gb422) _ ⟨(oR HO415), (oR HO418), (oR HO421), (oK BK411), (oK BK422), GW422.out, GE422.out, NB411_422.out, NB422_411.out, (oB HB)⟩)
            · skip
              rintro ⟨v417, gb422⟩ w14 ⟨h0_, h1_, h2_, h3_, h4_, h5_, h6_, h7_, h8_⟩
              have n0_ : Aside0 (Kd.R (Kd.int .i64) 3 w14 w.heap.size (fun _ => True) v414 t412) := ⟨h0_⟩
              have n1_ : Aside0 (Kd.R k96 96 w14 w.heap.size (fun _ => True) v417 t416) := ⟨h1_⟩
              have n2_ : Aside0 (w14.heap[gb411]? = some (.cells #[.slice none 0 0, .int .i64 0, .slice none 0 0] 33 (0, 0))) := ⟨h2_⟩
              have n3_ : Aside0 (w14.heap[gb422]? = some (.cells #[.slice none 0 0, .int .i64 0, .slice none 0 0] 33 (0, 0))) := ⟨h3_⟩
              have n4_ : Aside0 (w.heap.size ≤ gb422) := ⟨h4_⟩
              have n5_ : Aside0 (w.heap.size ≤ gb422) := ⟨h5_⟩
              have n6_ : Aside0 (gb411 ≠ gb422) := ⟨h6_⟩
              have n7_ : Aside0 (gb422 ≠ gb411) := ⟨h7_⟩
              have n8_ : Aside0 (Below w.heap.size w w14) := ⟨h8_⟩
              clear HO415
              clear BK411
              clear HB
              clear h0_ h1_ h2_ h3_ h4_ h5_ h6_ h7_ h8_
              have HO415 := n0_
              have HO418 := n1_
              have BK411 := n2_
              have BK422 := n3_
              have GW422 := n4_
              have GE422 := n5_
              have NB411_422 := n6_
              have NB422_411 := n7_
              have HB := n8_
              clear n0_ n1_ n2_ n3_ n4_ n5_ n6_ n7_ n8_
              have hHeld := trivial
              refine norm_ (a' := ?_) ?_ ?_
              rotate_left
              · simp only [putAll, Act.put, List.setIfInBounds_toArray, List.set_cons_zero, List.set_cons_succ]
                rfl
              refine one_ (i := 2) (N := some 20) #[true, true, true, false, true, false] rfl rfl (by kernel_rfl) (by decide) (fun K hK => ?_)
              refine Kd.R_make_step (Kd.int .i64) _ 3 (by rfl) (N := 20) rfl 23 _ _ rfl 12 rfl rfl Try.underlying23 (.int .i64 0) 8 info3 rfl (by decide) (by omega) 0 (ok := fun _ => True) (okp := fun _ => True) rfl (fun _ hk => hk) trivial (by omega) (by omega) (Below.refl _ _) (Nat.le_refl _) ?_
              intro v420 w15 ho16 hb hg_ hnew_
              clear hg_ hnew_
              (first | rw [← Ny419.out] at ho16 | (simp only [Int.reduceToNat] at ho16; rw [← Ny419.out] at ho16))
              have n0_ := Aside0.mk (Kd.R_elder' (oR HO415) (Kd.R_base ho16) hb)
              have n1_ := Aside0.mk (Kd.R_below (oR HO418) hb)
              have n2_ := Aside0.mk (Kd.R_lower (Kd.R_new' ho16 (Kd.R_lt (oR HO415))) (below_size (oB HB)))
              have n3_ := Aside0.mk (blk_below (g := gb411) (o := .cells #[.slice none 0 0, .int .i64 0, .slice none 0 0] 33 (0, 0)) (oK BK411) hb)
              have n4_ := Aside0.mk (blk_below (g := gb422) (o := .cells #[.slice none 0 0, .int .i64 0, .slice none 0 0] 33 (0, 0)) (oK BK422) hb)
              have n5_ := Aside0.mk (below_step (oB HB) hb)
              clear HO415
              clear HO418
              clear BK411
              clear BK422
              clear HB
              have HO415 := n0_
              have HO418 := n1_
              have HO421 := n2_
              have BK411 := n3_
              have BK422 := n4_
              have HB := n5_
              clear n0_ n1_ n2_ n3_ n4_ n5_
              clear hb ho16
              obtain ⟨Ao17, co17, eo17⟩ := Kd.R_slice HO421.out
              (first | subst eo17 | (injection eo17 with f1_ f2_ f3_; have f4_ := f1_.symm; have f5_ := f3_.symm; clear f1_ f2_ f3_; subst f4_; subst f5_))
              obtain ⟨Ao18, co18, eo18⟩ := Kd.R_slice HO418.out
              (first | subst eo18 | (injection eo18 with f1_ f2_ f3_; have f4_ := f1_.symm; have f5_ := f3_.symm; clear f1_ f2_ f3_; subst f4_; subst f5_))
              refine hK.out _ _ trivial (fun hHeld => ?_)
              clear hK K
              refine norm_ (a' := ?_) ?_ ?_
              rotate_left
              · show Act.put _ (some 20) _ = _
                simp only [Act.put, List.setIfInBounds_toArray, List.set_cons_zero, List.set_cons_succ, i64_w, i32_w]
                rfl
              refine pure_ (i := 3) (N := some 21) (v := ?_) (a' := ?_) #[true, true, true, true, true, false] rfl rfl (by kernel_rfl) (fun _ _ _ h => h) (Or.inl ⟨by rfl, ?_⟩) ?_ ?_
              rotate_left
              · intro w'
                go_simp
                with_reducible rfl
              rotate_left
              · simp only [Act.put, List.setIfInBounds_toArray, List.set_cons_zero, List.set_cons_succ, i64_w, i32_w]
                rfl
              exact norm_ (by first | (simp only [putAll, Act.put, List.setIfInBounds_toArray, List.set_cons_zero, List.set_cons_succ]; done) | (simp only [putAll, Act.put, List.setIfInBounds_toArray, List.set_cons_zero, List.set_cons_succ]; rfl)) (hJ1_2_4 (.slice Ao18 t416.length co18, .slice Ao17 y419.length co17, gb422) _ ⟨(by (with_reducible repeat (first | apply Kd.R_alloc | apply Kd.R_drewN | apply Kd.R_drew)); exact Kd.R_mono HO415.out (fun _ hk => hk.2)), (oR HO418), (by (with_reducible repeat (first | apply Kd.R_alloc | apply Kd.R_drewN | apply Kd.R_drew)); exact Kd.R_mono HO421.out (fun _ hk => hk.2)), (oK BK411), (oK BK422), GW422.out, GE422.out, NB411_422.out, NB422_411.out, (oB HB)⟩)
          · skip
            rintro ⟨v417, v420⟩ w17 ⟨h0_, h1_, h2_, h3_, h4_⟩
            have n0_ : Aside0 (Kd.R (Kd.int .i64) 3 w17 w.heap.size (fun k_ => some k_ ≠ (v420 : Value).ownBlock) v414 t412) := ⟨h0_⟩
            have n1_ : Aside0 (Kd.R k96 96 w17 w.heap.size (fun _ => True) v417 t416) := ⟨h1_⟩
            have n2_ : Aside0 (Kd.R (Kd.int .i64) 3 w17 w.heap.size (fun k_ => some k_ ≠ (v414 : Value).ownBlock) v420 y419) := ⟨h2_⟩
            have n3_ : Aside0 (w17.heap[gb411]? = some (.cells #[.slice none 0 0, .int .i64 0, .slice none 0 0] 33 (0, 0))) := ⟨h3_⟩
            have n4_ : Aside0 (Below w.heap.size w w17) := ⟨h4_⟩
            clear HO415
            clear BK411
            clear HB
            clear h0_ h1_ h2_ h3_ h4_
            have HO415 := n0_
            have HO418 := n1_
            have HO421 := n2_
            have BK411 := n3_
            have HB := n4_
            clear n0_ n1_ n2_ n3_ n4_
            have hHeld := trivial
            obtain ⟨Ao18, co18, eo18⟩ := Kd.R_slice HO421.out
            (first | subst eo18 | (injection eo18 with f1_ f2_ f3_; have f4_ := f1_.symm; have f5_ := f3_.symm; clear f1_ f2_ f3_; subst f4_; subst f5_))
            obtain ⟨Ao19, co19, eo19⟩ := Kd.R_slice HO418.out
            (first | subst eo19 | (injection eo19 with f1_ f2_ f3_; have f4_ := f1_.symm; have f5_ := f3_.symm; clear f1_ f2_ f3_; subst f4_; subst f5_))
            refine norm_ (a' := ?_) ?_ ?_
            rotate_left
            · simp only [putAll, Act.put, List.setIfInBounds_toArray, List.set_cons_zero, List.set_cons_succ]
              rfl
            refine one_ (i := 4) (N := some 8) #[true, true, true, true, true, false] rfl rfl (by kernel_rfl) (by decide) (fun K hK => ?_)
            refine box_step ?hg (N := 8) ?hd (cs := #[.slice none 0 0, .int .i64 0, .slice none 0 0]) (t := 33) ?hr ?_; (case hd => rfl); (case hg => rfl); (case hr => first | (go_simp; done) | (go_simp; rfl))
            intro gb422 hg w20 hbox hb
            have n0_ := Aside0.mk (Kd.R_below (oR HO415) hb)
            have n1_ := Aside0.mk (Kd.R_below (oR HO418) hb)
            have n2_ := Aside0.mk (Kd.R_below (oR HO421) hb)
            have n3_ := Aside0.mk (blk_below (g := gb411) (o := .cells #[.slice none 0 0, .int .i64 0, .slice none 0 0] 33 (0, 0)) (oK BK411) hb)
            have n4_ := Aside0.mk (below_step (oB HB) hb)
            have n5_ := Aside0.mk (hbox)
            have n6_ := Aside0.mk ((by rw [hg]; exact (below_size (oB HB)) : w.heap.size ≤ gb422))
            have n7_ := Aside0.mk ((by rw [hg]; exact (below_size (oB HB)) : w.heap.size ≤ gb422))
            have n8_ := Aside0.mk ((by rw [hg]; exact Nat.ne_of_lt (blk_lt (g := gb411) (o := .cells #[.slice none 0 0, .int .i64 0, .slice none 0 0] 33 (0, 0)) (oK BK411)) : gb411 ≠ gb422))
            have n9_ := Aside0.mk ((by rw [hg]; exact Nat.ne_of_gt (blk_lt (g := gb411) (o := .cells #[.slice none 0 0, .int .i64 0, .slice none 0 0] 33 (0, 0)) (oK BK411)) : gb422 ≠ gb411))
            clear HO415
            clear HO418
            clear HO421
            clear BK411
            clear HB
            have HO415 := n0_
            have HO418 := n1_
            have HO421 := n2_
            have BK411 := n3_
            have HB := n4_
            have BK422 := n5_
            have GW422 := n6_
            have GE422 := n7_
            have NB411_422 := n8_
            have NB422_411 := n9_
            clear n0_ n1_ n2_ n3_ n4_ n5_ n6_ n7_ n8_ n9_
            clear hb hbox hg
            refine hK.out _ _ trivial (fun hHeld => ?_)
            clear hK K
            refine norm_ (a' := ?_) ?_ ?_
            rotate_left
            · show Act.put _ (some 8) _ = _
              simp only [Act.put, List.setIfInBounds_toArray, List.set_cons_zero, List.set_cons_succ, i64_w, i32_w]
              rfl
            exact norm_ (by first | (simp only [putAll, Act.put, List.setIfInBounds_toArray, List.set_cons_zero, List.set_cons_succ]; done) | (simp only [putAll, Act.put, List.setIfInBounds_toArray, List.set_cons_zero, List.set_cons_succ]; rfl)) (hJ1_2_4 (.slice Ao19 t416.length co19, .slice Ao18 y419.length co18, gb422) _ ⟨(oR HO415), (oR HO418), (oR HO421), (oK BK411), (oK BK422), GW422.out, GE422.out, NB411_422.out, NB422_411.out, (oB HB)⟩)
        rintro ⟨v417, v420, gb422⟩ w18 ⟨h0_, h1_, h2_, h3_, h4_, h5_, h6_, h7_, h8_, h9_⟩
        have n0_ : Aside0 (Kd.R (Kd.int .i64) 3 w18 w.heap.size (fun k_ => some k_ ≠ (v420 : Value).ownBlock) v414 t412) := ⟨h0_⟩
        have n1_ : Aside0 (Kd.R k96 96 w18 w.heap.size (fun _ => True) v417 t416) := ⟨h1_⟩
        have n2_ : Aside0 (Kd.R (Kd.int .i64) 3 w18 w.heap.size (fun k_ => some k_ ≠ (v414 : Value).ownBlock) v420 y419) := ⟨h2_⟩
        have n3_ : Aside0 (w18.heap[gb411]? = some (.cells #[.slice none 0 0, .int .i64 0, .slice none 0 0] 33 (0, 0))) := ⟨h3_⟩
        have n4_ : Aside0 (w18.heap[gb422]? = some (.cells #[.slice none 0 0, .int .i64 0, .slice none 0 0] 33 (0, 0))) := ⟨h4_⟩
        have n5_ : Aside0 (w.heap.size ≤ gb422) := ⟨h5_⟩
        have n6_ : Aside0 (w.heap.size ≤ gb422) := ⟨h6_⟩
        have n7_ : Aside0 (gb411 ≠ gb422) := ⟨h7_⟩
        have n8_ : Aside0 (gb422 ≠ gb411) := ⟨h8_⟩
        have n9_ : Aside0 (Below w.heap.size w w18) := ⟨h9_⟩
        clear HO415
        clear BK411
        clear HB
        clear h0_ h1_ h2_ h3_ h4_ h5_ h6_ h7_ h8_ h9_
        have HO415 := n0_
        have HO418 := n1_
        have HO421 := n2_
        have BK411 := n3_
        have BK422 := n4_
        have GW422 := n5_
        have GE422 := n6_
        have NB411_422 := n7_
        have NB422_411 := n8_
        have HB := n9_
        clear n0_ n1_ n2_ n3_ n4_ n5_ n6_ n7_ n8_ n9_
        have hHeld := trivial
        obtain ⟨Ao19, co19, eo19⟩ := Kd.R_slice HO421.out
        (first | subst eo19 | (injection eo19 with f1_ f2_ f3_; have f4_ := f1_.symm; have f5_ := f3_.symm; clear f1_ f2_ f3_; subst f4_; subst f5_))
        obtain ⟨Ao20, co20, eo20⟩ := Kd.R_slice HO418.out
        (first | subst eo20 | (injection eo20 with f1_ f2_ f3_; have f4_ := f1_.symm; have f5_ := f3_.symm; clear f1_ f2_ f3_; subst f4_; subst f5_))
        refine norm_ (a' := ?_) ?_ ?_
        rotate_left
        · simp only [putAll, Act.put, List.setIfInBounds_toArray, List.set_cons_zero, List.set_cons_succ]
          rfl
        refine one_ (i := 5) (N := none) #[true, true, true, true, true, true] rfl rfl (by kernel_rfl) (by decide) (fun K hK => ?_)
        have hs21 : w18.cell? ⟨gb422, 0, none⟩ = some (.slice none 0 0) := (blk_cell BK422.out 0).trans rfl
        have hfs21 := blk_frozen BK422.out 0
        have hns21_0 := NB411_422.out
        have hms21_0 := NB422_411.out
        have hs22 : w18.cell? ⟨gb422, 1, none⟩ = some (.int .i64 0) := (blk_cell BK422.out 1).trans rfl
        have hfs22 := blk_frozen BK422.out 1
        have hns22_0 := NB411_422.out
        have hms22_0 := NB422_411.out
        have hs23 : w18.cell? ⟨gb422, 2, none⟩ = some (.slice none 0 0) := (blk_cell BK422.out 2).trans rfl
        have hfs23 := blk_frozen BK422.out 2
        have hns23_0 := NB411_422.out
        have hms23_0 := NB422_411.out
        refine skip_ (w1 := ?_) (by rfl) rfl ?_ ?_
        rotate_left
        · go_simp
          rfl
        refine hK.out _ _ trivial (fun hHeld => ?_)
        clear hK K
        refine done_ (by kernel_rfl) ?_
        have n0_ : Aside0 (Kd.R (Kd.int .i64) 3 (((w18.setCell ⟨gb422, 0, none⟩ (.slice Ao20 t416.length co20)).setCell ⟨gb422, 1, none⟩ (.int .i64 0)).setCell ⟨gb422, 2, none⟩ (.slice Ao19 y419.length co19)) w.heap.size (fun k_ => some k_ ≠ (.slice Ao19 y419.length co19 : Value).ownBlock) v414 t412) := ⟨by (with_reducible repeat (first | apply Kd.R_alloc | apply Kd.R_drewN | apply Kd.R_drew)); exact Kd.R_mono (Kd.R_far (p := ⟨gb422, 2, none⟩) (Kd.R_far (p := ⟨gb422, 1, none⟩) (Kd.R_far (p := ⟨gb422, 0, none⟩) (Kd.R_types HO415.out BK422.out (by decide)) (fun _ hk => hk.2) (.slice Ao20 t416.length co20)) (fun _ hk => hk.2) (.int .i64 0)) (fun _ hk => hk.2) (.slice Ao19 y419.length co19)) (fun _ hk => hk.1)⟩
        have n1_ : Aside0 (Kd.R k96 96 (((w18.setCell ⟨gb422, 0, none⟩ (.slice Ao20 t416.length co20)).setCell ⟨gb422, 1, none⟩ (.int .i64 0)).setCell ⟨gb422, 2, none⟩ (.slice Ao19 y419.length co19)) w.heap.size (fun _ => True) (.slice Ao20 t416.length co20) t416) := ⟨by (with_reducible repeat (first | apply Kd.R_alloc | apply Kd.R_drewN | apply Kd.R_drew)); exact Kd.R_mono (Kd.R_far (p := ⟨gb422, 2, none⟩) (Kd.R_far (p := ⟨gb422, 1, none⟩) (Kd.R_far (p := ⟨gb422, 0, none⟩) (Kd.R_types HO418.out BK422.out (by decide)) (fun _ hk => hk.2) (.slice Ao20 t416.length co20)) (fun _ hk => hk.2) (.int .i64 0)) (fun _ hk => hk.2) (.slice Ao19 y419.length co19)) (fun _ hk => trivial)⟩
        have n2_ : Aside0 (Kd.R (Kd.int .i64) 3 (((w18.setCell ⟨gb422, 0, none⟩ (.slice Ao20 t416.length co20)).setCell ⟨gb422, 1, none⟩ (.int .i64 0)).setCell ⟨gb422, 2, none⟩ (.slice Ao19 y419.length co19)) w.heap.size (fun k_ => some k_ ≠ (v414 : Value).ownBlock) (.slice Ao19 y419.length co19) y419) := ⟨by (with_reducible repeat (first | apply Kd.R_alloc | apply Kd.R_drewN | apply Kd.R_drew)); exact Kd.R_mono (Kd.R_far (p := ⟨gb422, 2, none⟩) (Kd.R_far (p := ⟨gb422, 1, none⟩) (Kd.R_far (p := ⟨gb422, 0, none⟩) (Kd.R_types HO421.out BK422.out (by decide)) (fun _ hk => hk.2) (.slice Ao20 t416.length co20)) (fun _ hk => hk.2) (.int .i64 0)) (fun _ hk => hk.2) (.slice Ao19 y419.length co19)) (fun _ hk => hk.1)⟩
        have n3_ : Aside0 ((((w18.setCell ⟨gb422, 0, none⟩ (.slice Ao20 t416.length co20)).setCell ⟨gb422, 1, none⟩ (.int .i64 0)).setCell ⟨gb422, 2, none⟩ (.slice Ao19 y419.length co19)).heap[gb411]? = some (.cells #[.slice none 0 0, .int .i64 0, .slice none 0 0] 33 (0, 0))) := ⟨by (with_reducible repeat (first | refine blk_drewN ?_ _ | refine blk_drew ?_ | refine blk_alloc ?_ _)); refine blk_far ?_ NB411_422.out _; (with_reducible repeat (first | refine blk_drewN ?_ _ | refine blk_drew ?_ | refine blk_alloc ?_ _)); refine blk_far ?_ NB411_422.out _; (with_reducible repeat (first | refine blk_drewN ?_ _ | refine blk_drew ?_ | refine blk_alloc ?_ _)); refine blk_far ?_ NB411_422.out _; (with_reducible repeat (first | refine blk_drewN ?_ _ | refine blk_drew ?_ | refine blk_alloc ?_ _)); exact BK411.out⟩
        have n4_ : Aside0 ((((w18.setCell ⟨gb422, 0, none⟩ (.slice Ao20 t416.length co20)).setCell ⟨gb422, 1, none⟩ (.int .i64 0)).setCell ⟨gb422, 2, none⟩ (.slice Ao19 y419.length co19)).heap[gb422]? = some (.cells #[.slice Ao20 t416.length co20, .int .i64 0, .slice Ao19 y419.length co19] 33 (0, 0))) := ⟨by (with_reducible repeat (first | refine blk_drewN ?_ _ | refine blk_drew ?_ | refine blk_alloc ?_ _)); refine blk_put (cs := #[.slice Ao20 t416.length co20, .int .i64 0, .slice none 0 0]) ?_ 2 _ rfl; (with_reducible repeat (first | refine blk_drewN ?_ _ | refine blk_drew ?_ | refine blk_alloc ?_ _)); refine blk_put (cs := #[.slice Ao20 t416.length co20, .int .i64 0, .slice none 0 0]) ?_ 1 _ rfl; (with_reducible repeat (first | refine blk_drewN ?_ _ | refine blk_drew ?_ | refine blk_alloc ?_ _)); refine blk_put (cs := #[.slice none 0 0, .int .i64 0, .slice none 0 0]) ?_ 0 _ rfl; (with_reducible repeat (first | refine blk_drewN ?_ _ | refine blk_drew ?_ | refine blk_alloc ?_ _)); exact BK422.out⟩
        have n5_ : Aside0 (Below w.heap.size w (((w18.setCell ⟨gb422, 0, none⟩ (.slice Ao20 t416.length co20)).setCell ⟨gb422, 1, none⟩ (.int .i64 0)).setCell ⟨gb422, 2, none⟩ (.slice Ao19 y419.length co19))) := ⟨oB HB⟩
        (try clear HO415)
        (try clear HO418)
        (try clear HO421)
        (try clear BK411)
        (try clear BK422)
        (try clear HB)
        generalize (((w18.setCell ⟨gb422, 0, none⟩ (.slice Ao20 t416.length co20)).setCell ⟨gb422, 1, none⟩ (.int .i64 0)).setCell ⟨gb422, 2, none⟩ (.slice Ao19 y419.length co19)) = w24 at n0_ n1_ n2_ n3_ n4_ n5_ ⊢
        have HO415 := n0_
        have HO418 := n1_
        have HO421 := n2_
        have BK411 := n3_
        have BK422 := n4_
        have HB := n5_
        clear n0_ n1_ n2_ n3_ n4_ n5_
        have hnb25 := NB422_411.out
        have hnc25 := NB411_422.out
        have hcz26_0 : w24.cell? ⟨gb422, 0, none⟩ = some (.slice Ao20 t416.length co20) := (blk_cell BK422.out 0).trans rfl
        have hcz26_1 : w24.cell? ⟨gb422, 1, none⟩ = some (.int .i64 0) := (blk_cell BK422.out 1).trans rfl
        have hcz26_2 : w24.cell? ⟨gb422, 2, none⟩ = some (.slice Ao19 y419.length co19) := (blk_cell BK422.out 2).trans rfl
        have hfz26_0 := blk_frozen BK422.out 0
        have hfz26_1 := blk_frozen BK422.out 1
        have hfz26_2 := blk_frozen BK422.out 2
        have p8 : 0 ≤ (0 : Int) := (by omega)
        have q8 : (0 : Int) < ((y419.length : Int) : Int) := of_decide_eq_true (by first | (with_reducible assumption) | assumption)
        have qi8 : (0 < y419.length) = True := eq_true (by omega)
        obtain ⟨go8, co8, eo8, gb8, gl8, cl8, HG8⟩ := Kd.R_form HO421.out (by omega)
        (first | cases eo8 | (injection eo8 with ea_ en_ ec_; (first | subst ea_ | (injection ea_ with ea_; subst ea_)); subst ec_; clear en_))
        have GB8 := Aside0.mk gb8
        have GG8 := Aside0.mk HG8
        clear gb8 gl8 HG8
        obtain ⟨hx8_0, hf8_0⟩ := Kd.R_celln 0 HO421.out (0 : Int) p8 q8
        (try rw [show ((0 : Int)).toNat = 0 from rfl] at hx8_0)
        (try simp only [Nat.reduceMul, Nat.zero_mul, Nat.zero_add, Nat.reduceAdd] at hx8_0)
        (try rw [show ((0 : Int)).toNat = 0 from rfl] at hf8_0)
        (try simp only [Nat.reduceMul, Nat.zero_mul, Nat.zero_add, Nat.reduceAdd] at hf8_0)
        replace p8 := eq_true p8
        replace q8 := eq_true q8
        obtain ⟨hy27_, hz27_⟩ := Kd.R_celln 0 HO421.out (0 : Int) (by omega) (of_decide_eq_true (by first | (with_reducible assumption) | assumption))
        (try simp only [Int.reduceToNat, Int.toNat_zero, Int.toNat_ofNat, Nat.reduceMul, Nat.zero_mul, Nat.zero_add] at hy27_ hz27_)
        (try rw [show ((0 : Int)).toNat = 0 from rfl] at hy27_)
        (try rw [show ((0 : Int)).toNat = 0 from rfl] at hz27_)
        have HP27 := Kd.R_putg HO421.out (0 : Int) a0
        try go_wp2_with (first | ((with_reducible refine gate_store (t := 3) (p := 25) rfl ?_); refine store_event (t := 3) (p := 25) (v := ?vo_w28) (w1 := (w24.setCell ⟨go8, (0 : Int).toNat, none⟩ (.int .i64 a0))) ?hg ?ho ?hn ?hr ?_; (case ho => rfl); (case hg => rfl); (case hn => rfl); (case hr => first | (go_simp; done) | (go_simp; rfl)); intro w28 hw; have hg : w24.grownBy w28 (some go8) := (by rw [hw]; exact HP27.2); have hp_ : Kd.R (Kd.int .i64) 3 w28 w.heap.size (fun k_ => some k_ ≠ (v414 : Value).ownBlock) (.slice (some ⟨go8, 0, none⟩) y419.length co19) y423 := (by rw [hw, Ny423.out]; exact HP27.1); clear HP27; have n0_ := Aside0.mk (blk_grown (g := gb411) (o := .cells #[.slice none 0 0, .int .i64 0, .slice none 0 0] 33 (0, 0)) (oK BK411) hg (Kd.R_ne HO421.out BK411.out (by decide))); have n1_ := Aside0.mk (Kd.R_after (v := (.slice (some ⟨go8, 0, none⟩) y419.length co19)) (v1 := (.slice (some ⟨go8, 0, none⟩) y419.length co19)) (ok := (fun _ => True)) (by (with_reducible repeat (first | apply Kd.R_alloc | apply Kd.R_drewN | apply Kd.R_drew)); exact Kd.R_mono HO415.out (fun _ hk => ⟨trivial, hk⟩)) hg (.inl rfl)); have n2_ := Aside0.mk (Kd.R_over' (v := (.slice (some ⟨go8, 0, none⟩) y419.length co19)) (oR HO418) (Kd.R_typed HO421.out) (by decide) hg); have n3_ := Aside0.mk (hp_); have n4_ := Aside0.mk (blk_grown (g := gb422) (o := .cells #[.slice Ao20 t416.length co20, .int .i64 0, .slice (some ⟨go8, 0, none⟩) y419.length co19] 33 (0, 0)) (oK BK422) hg (Kd.R_ne HO421.out BK422.out (by decide))); have n5_ := Aside0.mk ((by rw [hw]; exact below_set (HB.out) GB8.out : Below w.heap.size w w28)); clear BK411; clear HO415; clear HO418; clear HO421; clear BK422; clear HB; have BK411 := n0_; have HO415 := n1_; have HO418 := n2_; have HO421 := n3_; have BK422 := n4_; have HB := n5_; clear n0_ n1_ n2_ n3_ n4_ n5_; clear hg hw hp_; have hcz29_0 : w28.cell? ⟨gb422, 0, none⟩ = some (.slice Ao20 t416.length co20) := (blk_cell BK422.out 0).trans rfl; have hcz29_1 : w28.cell? ⟨gb422, 1, none⟩ = some (.int .i64 0) := (blk_cell BK422.out 1).trans rfl; have hcz29_2 : w28.cell? ⟨gb422, 2, none⟩ = some (.slice (some ⟨go8, 0, none⟩) y419.length co19) := (blk_cell BK422.out 2).trans rfl; have hfz29_0 := blk_frozen BK422.out 0; have hfz29_1 := blk_frozen BK422.out 1; have hfz29_2 := blk_frozen BK422.out 2; have hcz30_0 : w28.cell? ⟨gb411, 0, none⟩ = some (.slice none 0 0) := (blk_cell BK411.out 0).trans rfl; have hcz30_1 : w28.cell? ⟨gb411, 1, none⟩ = some (.int .i64 0) := (blk_cell BK411.out 1).trans rfl; have hcz30_2 : w28.cell? ⟨gb411, 2, none⟩ = some (.slice none 0 0) := (blk_cell BK411.out 2).trans rfl; have hfz30_0 := blk_frozen BK411.out 0; have hfz30_1 := blk_frozen BK411.out 1; have hfz30_2 := blk_frozen BK411.out 2))
        refine bodyPost_ret (results_ct rfl _ _ gb411 33 #[.slice Ao20 t416.length co20, .int .i64 0, .slice (some ⟨go8, 0, none⟩) y419.length co19] (0, 0) _ rfl (by (with_reducible repeat (first | refine blk_drewN ?_ _ | refine blk_drew ?_ | refine blk_alloc ?_ _)); refine blk_put (cs := #[.slice Ao20 t416.length co20, .int .i64 0, .slice none 0 0]) ?_ 2 _ rfl; (with_reducible repeat (first | refine blk_drewN ?_ _ | refine blk_drew ?_ | refine blk_alloc ?_ _)); refine blk_put (cs := #[.slice Ao20 t416.length co20, .int .i64 0, .slice none 0 0]) ?_ 1 _ rfl; (with_reducible repeat (first | refine blk_drewN ?_ _ | refine blk_drew ?_ | refine blk_alloc ?_ _)); refine blk_put (cs := #[.slice none 0 0, .int .i64 0, .slice none 0 0]) ?_ 0 _ rfl; (with_reducible repeat (first | refine blk_drewN ?_ _ | refine blk_drew ?_ | refine blk_alloc ?_ _)); exact BK411.out) Try.underlying33 rfl (by kernel_rfl)) rfl ?_
        exact ⟨_, _, by first | rfl | (simp [errW_none, errW_some] <;> rfl) | (simp [*, errW_none, errW_some] <;> rfl), by (with_reducible repeat (first | apply Kd.R_alloc | apply Kd.R_drewN | apply Kd.R_drew)); exact Kd.R_mono (Kd.R_far (p := ⟨gb411, 2, none⟩) (Kd.R_far (p := ⟨gb411, 1, none⟩) (Kd.R_far (p := ⟨gb411, 0, none⟩) (Kd.R_types HO418.out BK411.out (by decide)) (fun _ hk => hk.2) (.slice Ao20 t416.length co20)) (fun _ hk => hk.2) (.int .i64 0)) (fun _ hk => hk.2) (.slice (some ⟨go8, 0, none⟩) y419.length co19)) (fun _ hk => trivial), by (with_reducible repeat (first | apply Kd.R_alloc | apply Kd.R_drewN | apply Kd.R_drew)); exact Kd.R_mono (Kd.R_far (p := ⟨gb411, 2, none⟩) (Kd.R_far (p := ⟨gb411, 1, none⟩) (Kd.R_far (p := ⟨gb411, 0, none⟩) (Kd.R_types HO421.out BK411.out (by decide)) (fun _ hk => hk.2) (.slice Ao20 t416.length co20)) (fun _ hk => hk.2) (.int .i64 0)) (fun _ hk => hk.2) (.slice (some ⟨go8, 0, none⟩) y419.length co19)) (fun _ hk => trivial), oB HB⟩
      · rw [if_neg c7] at H
        exact absurd H (by simp)
    · rw [if_neg c6] at H
      exact absurd H (by simp)
  · replace c4 := Bool.eq_false_iff.mpr c4
    subst c4
    rw [if_neg (show ¬ (false = true) by decide)] at H
    simp only [Option.some.injEq, Prod.mk.injEq] at H
    obtain ⟨rfl, rfl, rfl, rfl⟩ := H
    go_enter Try.func75, Try.ntmps75
    go_wp2_with (first | ((with_reducible refine gate_dst (N := 4) rfl ?_); refine box_event ?hg (N := 4) ?hd (cs := #[.slice none 0 0, .int .i64 0, .slice none 0 0]) (t := 33) ?hr ?_; (case hd => rfl); (case hg => rfl); (case hr => first | (go_simp; done) | (go_simp; rfl)); intro gb411 hg w31 hbox hb; have n0_ := Aside0.mk (below_step (oB HB) hb); have n1_ := Aside0.mk (hbox); have n2_ := Aside0.mk ((by rw [hg]; exact (below_size (oB HB)) : w.heap.size ≤ gb411)); have n3_ := Aside0.mk ((by rw [hg]; exact (below_size (oB HB)) : w.heap.size ≤ gb411)); clear HB; have HB := n0_; have BK411 := n1_; have GW411 := n2_; have GE411 := n3_; clear n0_ n1_ n2_ n3_; clear hb hbox hg) | ((with_reducible refine gate_callee (f := 111) rfl ?_); refine goesL_ (some 12) rfl rfl Try.func111 (by kernel_rfl) rfl #[.int .i64 a0, .slice A1 l1.length c1] rfl (by (try simp only [List.map_toArray, List.map_cons, List.map_nil]); first | done | rfl | (simp only [List.length_drop, List.length_take]; rfl)) ?_; (with_reducible refine (impl_RunPlan.calls k a0 _ _ l1 t412 false _ ?side1 ?side2 A3.out).mono ?_); (case side1 => exact oc_ HR1.out); (case side2 => exact HC1.out); rintro e w32 ⟨v414, rfl, ho0, hb⟩; refine ⟨_, rfl, ?_⟩; have n0_ := Aside0.mk (Kd.R_lower ho0 (below_size (oB HB))); have n1_ := Aside0.mk (blk_below (g := gb411) (o := .cells #[.slice none 0 0, .int .i64 0, .slice none 0 0] 33 (0, 0)) (oK BK411) hb); have n2_ := Aside0.mk (below_step (oB HB) hb); clear BK411; clear HB; have HO415 := n0_; have BK411 := n1_; have HB := n2_; clear n0_ n1_ n2_; (try clear hb); (try clear hb2); (try clear hk); (try clear hi); (try clear ho0); have hcz33_0 : w32.cell? ⟨gb411, 0, none⟩ = some (.slice none 0 0) := (blk_cell BK411.out 0).trans rfl; have hcz33_1 : w32.cell? ⟨gb411, 1, none⟩ = some (.int .i64 0) := (blk_cell BK411.out 1).trans rfl; have hcz33_2 : w32.cell? ⟨gb411, 2, none⟩ = some (.slice none 0 0) := (blk_cell BK411.out 2).trans rfl; have hfz33_0 := blk_frozen BK411.out 0; have hfz33_1 := blk_frozen BK411.out 1; have hfz33_2 := blk_frozen BK411.out 2))
    refine bodyPost_ret (results_ct rfl _ _ gb411 33 #[.slice none 0 0, .int .i64 0, .slice none 0 0] (0, 0) _ rfl (by (with_reducible repeat (first | refine blk_drewN ?_ _ | refine blk_drew ?_ | refine blk_alloc ?_ _)); refine blk_put (cs := #[.slice none 0 0, .int .i64 0, .slice none 0 0]) ?_ 2 _ rfl; (with_reducible repeat (first | refine blk_drewN ?_ _ | refine blk_drew ?_ | refine blk_alloc ?_ _)); refine blk_put (cs := #[.slice none 0 0, .int .i64 0, .slice none 0 0]) ?_ 1 _ rfl; (with_reducible repeat (first | refine blk_drewN ?_ _ | refine blk_drew ?_ | refine blk_alloc ?_ _)); refine blk_put (cs := #[.slice none 0 0, .int .i64 0, .slice none 0 0]) ?_ 0 _ rfl; (with_reducible repeat (first | refine blk_drewN ?_ _ | refine blk_drew ?_ | refine blk_alloc ?_ _)); exact BK411.out) Try.underlying33 rfl (by kernel_rfl)) rfl ?_
    exact ⟨_, _, by first | rfl | (simp [errW_none, errW_some] <;> rfl) | (simp [*, errW_none, errW_some] <;> rfl), by first | exact Kd.R_nil _ _ _ _ _ | exact Kd.N_nil _ _ _ _ _ | exact Kd.V_nil _ _ _ _ _ | exact Kd.Q_nil _ _ _ _ _ | exact Kd.S_nil _ _ _ _ _, by first | exact Kd.R_nil _ _ _ _ _ | exact Kd.N_nil _ _ _ _ _ | exact Kd.V_nil _ _ _ _ _ | exact Kd.Q_nil _ _ _ _ _ | exact Kd.S_nil _ _ _ _ _, oB HB⟩
end Go.Proofs.Ytbkkpllejgedcaa.P


namespace Go.Proofs.Ytbkkpllejgedcaa.P
open Go.RowKit Go.Proofs.YtbkkpllejgedcaaW.PrintWords Go.Proofs.YtbkkpllejgedcaaW.PrintLast Go.Proofs.YtbkkpllejgedcaaW.PrintMore Go.Proofs.Ytbkkpllejgedcaa.V
attribute [local go_sem] cell_b frozen_b
attribute [local go_sem] max2_int min2_int max_two min_two max_three min_three max_four min_four
set_option linter.unusedVariables false
set_option linter.unusedSimpArgs false
def impl_NewShop.f (k : Nat) (a0 : Int) (l1 : List (S96)) : Option ((List (S96)) × Int × List Int × Int × Int × (List (S74)) × Bool) := (impl_NewWork.f k a0 l1).bind fun bt425 => (if bt425.2.2.2 = true then (some (bt425.1, bt425.2.1, bt425.2.2.1, 15, 0, ([] : List (S74)), true)) else (some (([] : List (S96)), 0, ([] : List Int), 0, 0, ([] : List (S74)), false)))
set_option maxHeartbeats 8000000 in
set_option maxRecDepth 100000 in
set_option synthInstance.maxHeartbeats 400000 in
set_option synthInstance.maxSize 100000 in
theorem impl_NewShop.calls (k : Nat) (a0 : Int) (A1 : Option Addr) (c1 : Nat) (l1 : List (S96)) (r1 : List (S96)) (r2 : Int) (r3 : List Int) (r4 : Int) (r5 : Int) (r6 : List (S74)) (r7 : Bool) (w : World) (hr1 : Kd.C k96 w A1 l1.length l1) (hc1 : l1.length ≤ c1) (h : impl_NewShop.f k a0 l1 = some (r1, r2, r3, r4, r5, r6, r7)) :
    Calls Try.prog 25 #[.int .i64 a0, .slice A1 l1.length c1] w fun e w' => ∃ v0_ v2_ v5_ : Value, e = .returned (.tuple #[.agg #[v0_, .int .i64 r2, v2_, .int .i64 r4, .int .i64 r5, v5_], .bool r7]) ∧ Kd.R k96 96 w' w.heap.size (fun _ => True) v0_ r1 ∧ Kd.R (Kd.int .i64) 3 w' w.heap.size (fun _ => True) v2_ r3 ∧ Kd.R k74 74 w' w.heap.size (fun _ => True) v5_ r6 ∧ Below w.heap.size w w' := by
  have ihr1 := RdE.mk hr1
  have ihc1 := LeI.mk hc1
  clear hr1 hc1
  unfold impl_NewShop.f at h
  have hu33 := Try.underlying33
  have hu36 := Try.underlying36
  (repeat' first | ((with_reducible replace h := ite_some h); rcases h with ⟨hc, h⟩ | ⟨hc, h⟩ <;> first | exact (none_some h).elim | exact absurd hc (by decide) | subst hc | (replace hc := Bool.eq_false_iff.mpr hc; subst hc) | (have hd := beq_iff_eq.mpr hc; have he := bne_eq_false_iff_eq.mpr hc; clear hc) | (have hd := beq_eq_false_iff_ne.mpr hc; have he := bne_iff_ne.mpr hc) | (have hd := decide_eq_false hc) | (have hd := decide_eq_true hc) | skip))
  all_goals go_enter Try.func25, Try.ntmps25
  all_goals go_wp2_with (first
    | ((with_reducible refine gate_dst (N := 4) rfl ?_); refine box_event rfl (N := 4) rfl (cs := #[.slice none 0 0, .int .i64 0, .slice none 0 0, .int .i64 0, .int .i64 0, .slice none 0 0]) (t := 36) (by first | (go_simp; done) | (go_simp; rfl)) ?_; intro g hg w1 hk hb; have j1 := Born.mk hg; have j2 := Bel.mk hb; have j3 := Blk.mk hk; clear hg hb hk)
    | ((with_reducible refine gate_dst (N := 6) rfl ?_); refine box_event rfl (N := 6) rfl (cs := #[.slice none 0 0, .int .i64 0, .slice none 0 0]) (t := 33) (by first | (go_simp; done) | (go_simp; rfl)) ?_; intro g hg w1 hk hb; have j1 := Born.mk hg; have j2 := Bel.mk hb; have j3 := Blk.mk hk; clear hg hb hk)
    | (go_at_call 75; replace h := Option.bind_eq_some_iff.mp h; obtain ⟨⟨t1, t2, t3, t4⟩, A, h⟩ := h; (try dsimp only at h); refine (impl_NewWork.calls _ _ _ _ _ _ _ _ _ _ Rd.out LeI.out A).mono ?_; rintro e w2 ⟨v0, v1, rfl, ho0, ho1, hb⟩; obtain ⟨B0, b0, rfl⟩ := Kd.R_slice ho0; have j0 := RowE.mk ho0; have q0 := LeI.mk (rowLe j0); obtain ⟨B1, b1, rfl⟩ := Kd.R_slice ho1; have j1 := RowE.mk ho1; have q1 := LeI.mk (rowLe j1); have jb := Bel.mk hb; clear A ho0 ho1 hb; (repeat' first | ((with_reducible replace h := ite_some h); rcases h with ⟨hc, h⟩ | ⟨hc, h⟩ <;> first | exact (none_some h).elim | exact absurd hc (by decide) | subst hc | (replace hc := Bool.eq_false_iff.mpr hc; subst hc) | (have hd := beq_iff_eq.mpr hc; have he := bne_eq_false_iff_eq.mpr hc; clear hc) | (have hd := beq_eq_false_iff_ne.mpr hc; have he := bne_iff_ne.mpr hc) | (have hd := decide_eq_false hc) | (have hd := decide_eq_true hc) | skip))))
  all_goals (repeat' first | ((with_reducible replace h := ite_some h); rcases h with ⟨hc, h⟩ | ⟨hc, h⟩ <;> first | exact (none_some h).elim | exact absurd hc (by decide) | subst hc | (replace hc := Bool.eq_false_iff.mpr hc; subst hc) | (have hd := beq_iff_eq.mpr hc; have he := bne_eq_false_iff_eq.mpr hc; clear hc) | (have hd := beq_eq_false_iff_ne.mpr hc; have he := bne_iff_ne.mpr hc) | (have hd := decide_eq_false hc) | (have hd := decide_eq_true hc) | skip))
  all_goals simp only [Option.some.injEq, Prod.mk.injEq] at h
  all_goals obtain ⟨rfl, rfl, rfl, rfl, rfl, rfl, rfl⟩ := h
  all_goals refine bodyPost_ret (results_ct rfl _ _ _ _ _ (0, 0) _ rfl Blk.out Try.underlying36 rfl (by kernel_rfl)) rfl ?_
  all_goals exact ⟨_, _, _, rfl, (by first | exact rowFin | exact Kd.R_nil _ _ _ _ _), (by first | exact rowFin | exact Kd.R_nil _ _ _ _ _), (by first | exact rowFin | exact Kd.R_nil _ _ _ _ _), From.out⟩
end Go.Proofs.Ytbkkpllejgedcaa.P


namespace Go.Proofs.Ytbkkpllejgedcaa.P
open Go.RowKit Go.Proofs.YtbkkpllejgedcaaW.PrintWords Go.Proofs.YtbkkpllejgedcaaW.PrintLast Go.Proofs.YtbkkpllejgedcaaW.PrintMore
attribute [local go_sem] max2_int min2_int max_two min_two max_three min_three max_four min_four
set_option linter.unusedVariables false
set_option linter.unusedSimpArgs false
def impl_UsualPlan.l0 : Nat → Int → List (S96) → Int → Option ((List (S96)))
  | 0, _, _, _ => none
  | k + 1, x0, x3, x4 => if x4 < 11 then (if x4 = 0 then (if x3.length < 4398046511104 then (impl_UsualPlan.l0 k x0 (x3 ++ [(⟨x4, wrap64 (x4 + 1), 1, x0⟩ : S96)]) (wrap64 (x4 + 1))) else (none)) else (if x4 = 2 then (if x3.length < 4398046511104 then (impl_UsualPlan.l0 k x0 (x3 ++ [(⟨x4, wrap64 (x4 + 1), 1, x0⟩ : S96)]) (wrap64 (x4 + 1))) else (none)) else (if x4 = 4 then (if x3.length < 4398046511104 then (impl_UsualPlan.l0 k x0 (x3 ++ [(⟨x4, wrap64 (x4 + 1), 1, x0⟩ : S96)]) (wrap64 (x4 + 1))) else (none)) else (if x4 = 7 then (if x3.length < 4398046511104 then (impl_UsualPlan.l0 k x0 (x3 ++ [(⟨x4, wrap64 (x4 + 1), 1, x0⟩ : S96)]) (wrap64 (x4 + 1))) else (none)) else (if x4 = 9 then (if x3.length < 4398046511104 then (impl_UsualPlan.l0 k x0 (x3 ++ [(⟨x4, wrap64 (x4 + 1), 1, x0⟩ : S96)]) (wrap64 (x4 + 1))) else (none)) else (if x3.length < 4398046511104 then (impl_UsualPlan.l0 k x0 (x3 ++ [(⟨x4, wrap64 (x4 + 1), 2, x0⟩ : S96)]) (wrap64 (x4 + 1))) else (none))))))) else (some x3)
def impl_UsualPlan.f (k : Nat) (a0 : Int) : Option ((List (S96))) := (impl_within.f a0 0 5000).bind fun t651 => (if t651 = true then (impl_UsualPlan.l0 k a0 (([] : List (S96))) 0) else (some ([] : List (S96))))
set_option maxHeartbeats 8000000 in
set_option maxRecDepth 100000 in
theorem impl_UsualPlan.calls (k : Nat) (a0 : Int) (r : List (S96)) (w : World) (h : impl_UsualPlan.f k a0 = some r) :
    Calls Try.prog 82 #[.int .i64 a0] w fun e w' => ∃ v0_ : Value, e = .returned (v0_) ∧ Kd.R k96 96 w' w.heap.size (fun _ => True) v0_ r ∧ Below w.heap.size w w' := by
  have hu96 := Try.underlying96
  have HB := Aside0.mk (Below.refl w.heap.size w)
  have H : ((impl_within.f a0 0 5000).bind fun t651 => (if t651 = true then (impl_UsualPlan.l0 k a0 (([] : List (S96))) 0) else (some ([] : List (S96))))) = some r := h
  clear h
  replace H := Option.bind_eq_some_iff.mp H
  obtain ⟨t651, A20, H⟩ := H
  (try dsimp only at H)
  have A2 := Aside0.mk A20
  clear A20
  by_cases c3 : t651 = true
  · subst c3
    rw [if_pos rfl] at H
    obtain ⟨y652, hy652⟩ : ∃ y_ : List (S96), y_ = (([] : List (S96))) := ⟨_, rfl⟩
    replace H : (impl_UsualPlan.l0 k a0 y652 0) = some r := by first | (rw [hy652]; with_reducible exact H) | (have H2_ := (Option.bind_some _ _).symm.trans H; rw [hy652]; with_reducible exact H2_) | (have H2_ := (Option.bind_some _ _).symm.trans H; with_reducible exact H2_) | with_reducible exact H | (rw [hy652]; exact H) | exact H
    have Ny652 := Aside0.mk hy652
    clear hy652
    have H' := Aside0.mk H
    clear H
    go_enter Try.func82, Try.ntmps82
    go_wp2_with (first | ((with_reducible refine gate_callee (f := 67) rfl ?_); refine goesL_ (some 7) rfl rfl Try.func67 (by kernel_rfl) rfl #[.int .i64 a0, .int .i64 0, .int .i64 5000] rfl (by (try simp only [List.map_toArray, List.map_cons, List.map_nil]); first | done | rfl | (simp only [List.length_drop, List.length_take]; rfl)) ?_; (with_reducible refine (impl_within.calls a0 0 5000 true _ A2.out).mono ?_); rintro e w' ⟨rfl, ⟨nd, rfl⟩⟩; refine ⟨_, rfl, ?_⟩) | ((with_reducible refine gate_dst (N := 9) rfl ?_); refine Kd.R_lit k96 _ 96 ?hg (N := 9) ?hd (xs := ([] : List (S96))) (inner := []) (ok := fun _ => True) (okp := fun _ => True) ?hr ?hp (fun _ hk => hk) trivial (Below.refl _ _) (Nat.le_refl _) (by simp) ?_; (case hd => rfl); (case hg => rfl); (case hr => first | (go_simp; done) | (go_simp; rfl)); (case hp => exact (Reps.none _ _)); intro v653 w4 ho5 hb hg_ hnew_; clear hg_ hnew_; (first | rw [← Ny652.out] at ho5 | (simp only [Int.reduceToNat] at ho5; rw [← Ny652.out] at ho5)); have n0_ := Aside0.mk (Kd.R_lower ho5 (below_size (oB HB))); have n1_ := Aside0.mk (below_step (oB HB) hb); clear HB; have HO654 := n0_; have HB := n1_; clear n0_ n1_; clear hb ho5))
    go_loopg [3, 4] k (fun kq v3 v4 w' => ∃ (x3_1 : List (S96)) (x4_1 : Int), v4 = .int .i64 x4_1 ∧ Aside0 (impl_UsualPlan.l0 kq a0 x3_1 x4_1 = some r) ∧ Aside0 (kq ≤ k) ∧ Aside0 (Kd.R k96 96 w' w.heap.size (fun _ => True) v3 x3_1) ∧ Aside0 (Below w.heap.size w w'))
    case atStart => exact ⟨(y652), (0), (by first | rfl | (simp; done) | (simp [*]; done)), H', ⟨Nat.le_refl _⟩, ⟨oR HO654⟩, ⟨oB HB⟩⟩
    case round =>
      clear H'
      try clear p2
      try clear c3
      obtain ⟨x3_1, x4_1, rfl, HA, HK1, HO_3, HB⟩ := hrel
      cases gk with
      | zero => exact absurd HA.out (by simp [impl_UsualPlan.l0])
      | succ k1 =>
        have H := HA.out
        clear HA
        simp only [impl_UsualPlan.l0] at H
        by_cases c6 : x4_1 < 11
        · rw [if_pos c6] at H
          have c6b0 : decide (x4_1 < 11) = true := decide_eq_true c6
          clear c6
          by_cases c7 : x4_1 = 0
          · rw [if_pos c7] at H
            have c7b0 : (x4_1 == 0) = true := beq_iff_eq.mpr c7
            have c7b1 : (x4_1 != 0) = false := bne_eq_false_iff_eq.mpr c7
            clear c7
            by_cases c8 : x3_1.length < 4398046511104
            · rw [if_pos c8] at H
              have LMc8 := Aside0.mk c8
              clear c8
              obtain ⟨y655, hy655⟩ : ∃ y_ : List (S96), y_ = (x3_1 ++ [(⟨x4_1, wrap64 (x4_1 + 1), 1, a0⟩ : S96)]) := ⟨_, rfl⟩
              replace H : (impl_UsualPlan.l0 k1 a0 y655 (wrap64 (x4_1 + 1))) = some r := by first | (rw [hy655]; with_reducible exact H) | (have H2_ := (Option.bind_some _ _).symm.trans H; rw [hy655]; with_reducible exact H2_) | (have H2_ := (Option.bind_some _ _).symm.trans H; with_reducible exact H2_) | with_reducible exact H | (rw [hy655]; exact H) | exact H
              have Ny655 := Aside0.mk hy655
              clear hy655
              have H' := Aside0.mk H
              clear H
              go_wp2_with (first | ((with_reducible refine gate_builtin (b := .append) (xs := #[.tmp 32, .tmp 39]) rfl ?_); at_builtin; refine Kd.R_append k96 (w0 := w) w.heap.size rfl (.tmp 32) (.tmp 39) 31 96 (.agg #[(.int .i64 0), (.int .i64 0), (.int .i64 0), (.int .i64 0)]) 32 rfl Try.underlying31 info96 rfl (by decide) (by omega) u3 x3_1 (⟨x4_1, wrap64 (x4_1 + 1), 1, a0⟩ : S96) [.int .i64 x4_1, .int .i64 (wrap64 (x4_1 + 1)), .int .i64 1, .int .i64 a0] (fun _ => True) (fun _ => False) rfl rfl ?aP (fun _ hk => hk.elim) ?aF ?aO ?aB ?aS ?aL ?_; (case aP => exact k96_mkM _ _ _ (⟨x4_1, wrap64 (x4_1 + 1), 1, a0⟩ : S96)); (case aB => exact (oB HB)); (case aF => exact (fun _ _ => trivial)); (case aO => exact (oR HO_3)); (case aS => exact (below_size (oB HB))); (case aL => have := LMc8.out; omega); intro v656 w9 ho hb hg hat; rw [← Ny655.out] at ho; have n0_ := Aside0.mk (hb); have n1_ := Aside0.mk (ho); clear HB; clear HO_3; have HB := n0_; have HO657 := n1_; clear n0_ n1_; clear ho hb hg hat))
              go_roundg k1
              case measure => have := HK1.out; omega
              case rel => exact ⟨(y655), (wrap64 (x4_1 + 1)), (by first | rfl | (simp; done) | (simp [*]; done)), H', ⟨by have := HK1.out; omega⟩, ⟨oR HO657⟩, ⟨oB HB⟩⟩
            · rw [if_neg c8] at H
              exact absurd H (by simp)
          · rw [if_neg c7] at H
            have c7b0 : (x4_1 == 0) = false := beq_eq_false_iff_ne.mpr c7
            have c7b1 : (x4_1 != 0) = true := bne_iff_ne.mpr c7
            by_cases c10 : x4_1 = 2
            · rw [if_pos c10] at H
              have c10b0 : (x4_1 == 2) = true := beq_iff_eq.mpr c10
              have c10b1 : (x4_1 != 2) = false := bne_eq_false_iff_eq.mpr c10
              clear c10
              by_cases c11 : x3_1.length < 4398046511104
              · rw [if_pos c11] at H
                have LMc11 := Aside0.mk c11
                clear c11
                obtain ⟨y658, hy658⟩ : ∃ y_ : List (S96), y_ = (x3_1 ++ [(⟨x4_1, wrap64 (x4_1 + 1), 1, a0⟩ : S96)]) := ⟨_, rfl⟩
                replace H : (impl_UsualPlan.l0 k1 a0 y658 (wrap64 (x4_1 + 1))) = some r := by first | (rw [hy658]; with_reducible exact H) | (have H2_ := (Option.bind_some _ _).symm.trans H; rw [hy658]; with_reducible exact H2_) | (have H2_ := (Option.bind_some _ _).symm.trans H; with_reducible exact H2_) | with_reducible exact H | (rw [hy658]; exact H) | exact H
                have Ny658 := Aside0.mk hy658
                clear hy658
                have H' := Aside0.mk H
                clear H
                go_wp2_with (first | ((with_reducible refine gate_builtin (b := .append) (xs := #[.tmp 32, .tmp 39]) rfl ?_); at_builtin; refine Kd.R_append k96 (w0 := w) w.heap.size rfl (.tmp 32) (.tmp 39) 31 96 (.agg #[(.int .i64 0), (.int .i64 0), (.int .i64 0), (.int .i64 0)]) 32 rfl Try.underlying31 info96 rfl (by decide) (by omega) u3 x3_1 (⟨x4_1, wrap64 (x4_1 + 1), 1, a0⟩ : S96) [.int .i64 x4_1, .int .i64 (wrap64 (x4_1 + 1)), .int .i64 1, .int .i64 a0] (fun _ => True) (fun _ => False) rfl rfl ?aP (fun _ hk => hk.elim) ?aF ?aO ?aB ?aS ?aL ?_; (case aP => exact k96_mkM _ _ _ (⟨x4_1, wrap64 (x4_1 + 1), 1, a0⟩ : S96)); (case aB => exact (oB HB)); (case aF => exact (fun _ _ => trivial)); (case aO => exact (oR HO_3)); (case aS => exact (below_size (oB HB))); (case aL => have := LMc11.out; omega); intro v659 w12 ho hb hg hat; rw [← Ny658.out] at ho; have n0_ := Aside0.mk (hb); have n1_ := Aside0.mk (ho); clear HB; clear HO_3; have HB := n0_; have HO660 := n1_; clear n0_ n1_; clear ho hb hg hat))
                go_roundg k1
                case measure => have := HK1.out; omega
                case rel => exact ⟨(y658), (wrap64 (x4_1 + 1)), (by first | rfl | (simp; done) | (simp [*]; done)), H', ⟨by have := HK1.out; omega⟩, ⟨oR HO660⟩, ⟨oB HB⟩⟩
              · rw [if_neg c11] at H
                exact absurd H (by simp)
            · rw [if_neg c10] at H
              have c10b0 : (x4_1 == 2) = false := beq_eq_false_iff_ne.mpr c10
              have c10b1 : (x4_1 != 2) = true := bne_iff_ne.mpr c10
              by_cases c13 : x4_1 = 4
              · rw [if_pos c13] at H
                have c13b0 : (x4_1 == 4) = true := beq_iff_eq.mpr c13
                have c13b1 : (x4_1 != 4) = false := bne_eq_false_iff_eq.mpr c13
                clear c13
                by_cases c14 : x3_1.length < 4398046511104
                · rw [if_pos c14] at H
                  have LMc14 := Aside0.mk c14
                  clear c14
                  obtain ⟨y661, hy661⟩ : ∃ y_ : List (S96), y_ = (x3_1 ++ [(⟨x4_1, wrap64 (x4_1 + 1), 1, a0⟩ : S96)]) := ⟨_, rfl⟩
                  replace H : (impl_UsualPlan.l0 k1 a0 y661 (wrap64 (x4_1 + 1))) = some r := by first | (rw [hy661]; with_reducible exact H) | (have H2_ := (Option.bind_some _ _).symm.trans H; rw [hy661]; with_reducible exact H2_) | (have H2_ := (Option.bind_some _ _).symm.trans H; with_reducible exact H2_) | with_reducible exact H | (rw [hy661]; exact H) | exact H
                  have Ny661 := Aside0.mk hy661
                  clear hy661
                  have H' := Aside0.mk H
                  clear H
                  go_wp2_with (first | ((with_reducible refine gate_builtin (b := .append) (xs := #[.tmp 32, .tmp 39]) rfl ?_); at_builtin; refine Kd.R_append k96 (w0 := w) w.heap.size rfl (.tmp 32) (.tmp 39) 31 96 (.agg #[(.int .i64 0), (.int .i64 0), (.int .i64 0), (.int .i64 0)]) 32 rfl Try.underlying31 info96 rfl (by decide) (by omega) u3 x3_1 (⟨x4_1, wrap64 (x4_1 + 1), 1, a0⟩ : S96) [.int .i64 x4_1, .int .i64 (wrap64 (x4_1 + 1)), .int .i64 1, .int .i64 a0] (fun _ => True) (fun _ => False) rfl rfl ?aP (fun _ hk => hk.elim) ?aF ?aO ?aB ?aS ?aL ?_; (case aP => exact k96_mkM _ _ _ (⟨x4_1, wrap64 (x4_1 + 1), 1, a0⟩ : S96)); (case aB => exact (oB HB)); (case aF => exact (fun _ _ => trivial)); (case aO => exact (oR HO_3)); (case aS => exact (below_size (oB HB))); (case aL => have := LMc14.out; omega); intro v662 w15 ho hb hg hat; rw [← Ny661.out] at ho; have n0_ := Aside0.mk (hb); have n1_ := Aside0.mk (ho); clear HB; clear HO_3; have HB := n0_; have HO663 := n1_; clear n0_ n1_; clear ho hb hg hat))
                  go_roundg k1
                  case measure => have := HK1.out; omega
                  case rel => exact ⟨(y661), (wrap64 (x4_1 + 1)), (by first | rfl | (simp; done) | (simp [*]; done)), H', ⟨by have := HK1.out; omega⟩, ⟨oR HO663⟩, ⟨oB HB⟩⟩
                · rw [if_neg c14] at H
                  exact absurd H (by simp)
              · rw [if_neg c13] at H
                have c13b0 : (x4_1 == 4) = false := beq_eq_false_iff_ne.mpr c13
                have c13b1 : (x4_1 != 4) = true := bne_iff_ne.mpr c13
                by_cases c16 : x4_1 = 7
                · rw [if_pos c16] at H
                  have c16b0 : (x4_1 == 7) = true := beq_iff_eq.mpr c16
                  have c16b1 : (x4_1 != 7) = false := bne_eq_false_iff_eq.mpr c16
                  clear c16
                  by_cases c17 : x3_1.length < 4398046511104
                  · rw [if_pos c17] at H
                    have LMc17 := Aside0.mk c17
                    clear c17
                    obtain ⟨y664, hy664⟩ : ∃ y_ : List (S96), y_ = (x3_1 ++ [(⟨x4_1, wrap64 (x4_1 + 1), 1, a0⟩ : S96)]) := ⟨_, rfl⟩
                    replace H : (impl_UsualPlan.l0 k1 a0 y664 (wrap64 (x4_1 + 1))) = some r := by first | (rw [hy664]; with_reducible exact H) | (have H2_ := (Option.bind_some _ _).symm.trans H; rw [hy664]; with_reducible exact H2_) | (have H2_ := (Option.bind_some _ _).symm.trans H; with_reducible exact H2_) | with_reducible exact H | (rw [hy664]; exact H) | exact H
                    have Ny664 := Aside0.mk hy664
                    clear hy664
                    have H' := Aside0.mk H
                    clear H
                    go_wp2_with (first | ((with_reducible refine gate_builtin (b := .append) (xs := #[.tmp 32, .tmp 39]) rfl ?_); at_builtin; refine Kd.R_append k96 (w0 := w) w.heap.size rfl (.tmp 32) (.tmp 39) 31 96 (.agg #[(.int .i64 0), (.int .i64 0), (.int .i64 0), (.int .i64 0)]) 32 rfl Try.underlying31 info96 rfl (by decide) (by omega) u3 x3_1 (⟨x4_1, wrap64 (x4_1 + 1), 1, a0⟩ : S96) [.int .i64 x4_1, .int .i64 (wrap64 (x4_1 + 1)), .int .i64 1, .int .i64 a0] (fun _ => True) (fun _ => False) rfl rfl ?aP (fun _ hk => hk.elim) ?aF ?aO ?aB ?aS ?aL ?_; (case aP => exact k96_mkM _ _ _ (⟨x4_1, wrap64 (x4_1 + 1), 1, a0⟩ : S96)); (case aB => exact (oB HB)); (case aF => exact (fun _ _ => trivial)); (case aO => exact (oR HO_3)); (case aS => exact (below_size (oB HB))); (case aL => have := LMc17.out; omega); intro v665 w18 ho hb hg hat; rw [← Ny664.out] at ho; have n0_ := Aside0.mk (hb); have n1_ := Aside0.mk (ho); clear HB; clear HO_3; have HB := n0_; have HO666 := n1_; clear n0_ n1_; clear ho hb hg hat))
                    go_roundg k1
                    case measure => have := HK1.out; omega
                    case rel => exact ⟨(y664), (wrap64 (x4_1 + 1)), (by first | rfl | (simp; done) | (simp [*]; done)), H', ⟨by have := HK1.out; omega⟩, ⟨oR HO666⟩, ⟨oB HB⟩⟩
                  · rw [if_neg c17] at H
                    exact absurd H (by simp)
                · rw [if_neg c16] at H
                  have c16b0 : (x4_1 == 7) = false := beq_eq_false_iff_ne.mpr c16
                  have c16b1 : (x4_1 != 7) = true := bne_iff_ne.mpr c16
                  by_cases c19 : x4_1 = 9
                  · rw [if_pos c19] at H
                    have c19b0 : (x4_1 == 9) = true := beq_iff_eq.mpr c19
                    have c19b1 : (x4_1 != 9) = false := bne_eq_false_iff_eq.mpr c19
                    clear c19
                    by_cases c20 : x3_1.length < 4398046511104
                    · rw [if_pos c20] at H
                      have LMc20 := Aside0.mk c20
                      clear c20
                      obtain ⟨y667, hy667⟩ : ∃ y_ : List (S96), y_ = (x3_1 ++ [(⟨x4_1, wrap64 (x4_1 + 1), 1, a0⟩ : S96)]) := ⟨_, rfl⟩
                      replace H : (impl_UsualPlan.l0 k1 a0 y667 (wrap64 (x4_1 + 1))) = some r := by first | (rw [hy667]; with_reducible exact H) | (have H2_ := (Option.bind_some _ _).symm.trans H; rw [hy667]; with_reducible exact H2_) | (have H2_ := (Option.bind_some _ _).symm.trans H; with_reducible exact H2_) | with_reducible exact H | (rw [hy667]; exact H) | exact H
                      have Ny667 := Aside0.mk hy667
                      clear hy667
                      have H' := Aside0.mk H
                      clear H
                      go_wp2_with (first | ((with_reducible refine gate_builtin (b := .append) (xs := #[.tmp 32, .tmp 39]) rfl ?_); at_builtin; refine Kd.R_append k96 (w0 := w) w.heap.size rfl (.tmp 32) (.tmp 39) 31 96 (.agg #[(.int .i64 0), (.int .i64 0), (.int .i64 0), (.int .i64 0)]) 32 rfl Try.underlying31 info96 rfl (by decide) (by omega) u3 x3_1 (⟨x4_1, wrap64 (x4_1 + 1), 1, a0⟩ : S96) [.int .i64 x4_1, .int .i64 (wrap64 (x4_1 + 1)), .int .i64 1, .int .i64 a0] (fun _ => True) (fun _ => False) rfl rfl ?aP (fun _ hk => hk.elim) ?aF ?aO ?aB ?aS ?aL ?_; (case aP => exact k96_mkM _ _ _ (⟨x4_1, wrap64 (x4_1 + 1), 1, a0⟩ : S96)); (case aB => exact (oB HB)); (case aF => exact (fun _ _ => trivial)); (case aO => exact (oR HO_3)); (case aS => exact (below_size (oB HB))); (case aL => have := LMc20.out; omega); intro v668 w21 ho hb hg hat; rw [← Ny667.out] at ho; have n0_ := Aside0.mk (hb); have n1_ := Aside0.mk (ho); clear HB; clear HO_3; have HB := n0_; have HO669 := n1_; clear n0_ n1_; clear ho hb hg hat))
                      go_roundg k1
                      case measure => have := HK1.out; omega
                      case rel => exact ⟨(y667), (wrap64 (x4_1 + 1)), (by first | rfl | (simp; done) | (simp [*]; done)), H', ⟨by have := HK1.out; omega⟩, ⟨oR HO669⟩, ⟨oB HB⟩⟩
                    · rw [if_neg c20] at H
                      exact absurd H (by simp)
                  · rw [if_neg c19] at H
                    have c19b0 : (x4_1 == 9) = false := beq_eq_false_iff_ne.mpr c19
                    have c19b1 : (x4_1 != 9) = true := bne_iff_ne.mpr c19
                    by_cases c22 : x3_1.length < 4398046511104
                    · rw [if_pos c22] at H
                      have LMc22 := Aside0.mk c22
                      clear c22
                      obtain ⟨y670, hy670⟩ : ∃ y_ : List (S96), y_ = (x3_1 ++ [(⟨x4_1, wrap64 (x4_1 + 1), 2, a0⟩ : S96)]) := ⟨_, rfl⟩
                      replace H : (impl_UsualPlan.l0 k1 a0 y670 (wrap64 (x4_1 + 1))) = some r := by first | (rw [hy670]; with_reducible exact H) | (have H2_ := (Option.bind_some _ _).symm.trans H; rw [hy670]; with_reducible exact H2_) | (have H2_ := (Option.bind_some _ _).symm.trans H; with_reducible exact H2_) | with_reducible exact H | (rw [hy670]; exact H) | exact H
                      have Ny670 := Aside0.mk hy670
                      clear hy670
                      have H' := Aside0.mk H
                      clear H
                      go_wp2_with (first | ((with_reducible refine gate_builtin (b := .append) (xs := #[.tmp 32, .tmp 39]) rfl ?_); at_builtin; refine Kd.R_append k96 (w0 := w) w.heap.size rfl (.tmp 32) (.tmp 39) 31 96 (.agg #[(.int .i64 0), (.int .i64 0), (.int .i64 0), (.int .i64 0)]) 32 rfl Try.underlying31 info96 rfl (by decide) (by omega) u3 x3_1 (⟨x4_1, wrap64 (x4_1 + 1), 2, a0⟩ : S96) [.int .i64 x4_1, .int .i64 (wrap64 (x4_1 + 1)), .int .i64 2, .int .i64 a0] (fun _ => True) (fun _ => False) rfl rfl ?aP (fun _ hk => hk.elim) ?aF ?aO ?aB ?aS ?aL ?_; (case aP => exact k96_mkM _ _ _ (⟨x4_1, wrap64 (x4_1 + 1), 2, a0⟩ : S96)); (case aB => exact (oB HB)); (case aF => exact (fun _ _ => trivial)); (case aO => exact (oR HO_3)); (case aS => exact (below_size (oB HB))); (case aL => have := LMc22.out; omega); intro v671 w23 ho hb hg hat; rw [← Ny670.out] at ho; have n0_ := Aside0.mk (hb); have n1_ := Aside0.mk (ho); clear HB; clear HO_3; have HB := n0_; have HO672 := n1_; clear n0_ n1_; clear ho hb hg hat))
                      go_roundg k1
                      case measure => have := HK1.out; omega
                      case rel => exact ⟨(y670), (wrap64 (x4_1 + 1)), (by first | rfl | (simp; done) | (simp [*]; done)), H', ⟨by have := HK1.out; omega⟩, ⟨oR HO672⟩, ⟨oB HB⟩⟩
                    · rw [if_neg c22] at H
                      exact absurd H (by simp)
        · rw [if_neg c6] at H
          have c6b0 : decide (x4_1 < 11) = false := decide_eq_false c6
          clear c6
          obtain rfl := Option.some.inj H
          go_wp2
          go_ret
          exact ⟨_, by first | rfl | (simp [errW_none, errW_some] <;> rfl) | (simp [*, errW_none, errW_some] <;> rfl), oR HO_3, oB HB⟩
  · replace c3 := Bool.eq_false_iff.mpr c3
    subst c3
    rw [if_neg (show ¬ (false = true) by decide)] at H
    obtain rfl := Option.some.inj H
    go_enter Try.func82, Try.ntmps82
    go_wp2_with (first | ((with_reducible refine gate_callee (f := 67) rfl ?_); refine goesL_ (some 7) rfl rfl Try.func67 (by kernel_rfl) rfl #[.int .i64 a0, .int .i64 0, .int .i64 5000] rfl (by (try simp only [List.map_toArray, List.map_cons, List.map_nil]); first | done | rfl | (simp only [List.length_drop, List.length_take]; rfl)) ?_; (with_reducible refine (impl_within.calls a0 0 5000 false _ A2.out).mono ?_); rintro e w' ⟨rfl, ⟨nd, rfl⟩⟩; refine ⟨_, rfl, ?_⟩))
    go_ret
    exact ⟨_, by first | rfl | (simp [errW_none, errW_some] <;> rfl) | (simp [*, errW_none, errW_some] <;> rfl), by first | exact Kd.R_nil _ _ _ _ _ | exact Kd.N_nil _ _ _ _ _ | exact Kd.V_nil _ _ _ _ _ | exact Kd.Q_nil _ _ _ _ _ | exact Kd.S_nil _ _ _ _ _, oB HB⟩
end Go.Proofs.Ytbkkpllejgedcaa.P


namespace Go.Proofs.Ytbkkpllejgedcaa.P
open Go.RowKit Go.Proofs.YtbkkpllejgedcaaW.PrintWords Go.Proofs.YtbkkpllejgedcaaW.PrintLast Go.Proofs.YtbkkpllejgedcaaW.PrintMore Go.Proofs.Ytbkkpllejgedcaa.V
attribute [local go_sem] cell_b frozen_b
attribute [local go_sem] max2_int min2_int max_two min_two max_three min_three max_four min_four
set_option linter.unusedVariables false
set_option linter.unusedSimpArgs false
def impl_SampleShop.f (k : Nat)  : Option ((List (S96)) × Int × List Int × Int × Int × (List (S74))) := (impl_UsualPlan.f k 700).bind fun t674 => ((impl_NewShop.f k 264000 t674).bind fun bt677 => (some (bt677.1, bt677.2.1, bt677.2.2.1, bt677.2.2.2.1, bt677.2.2.2.2.1, bt677.2.2.2.2.2.1)))
set_option maxHeartbeats 8000000 in
set_option maxRecDepth 100000 in
set_option synthInstance.maxHeartbeats 400000 in
set_option synthInstance.maxSize 100000 in
theorem impl_SampleShop.calls (k : Nat)  (r1 : List (S96)) (r2 : Int) (r3 : List Int) (r4 : Int) (r5 : Int) (r6 : List (S74)) (w : World) (h : impl_SampleShop.f k  = some (r1, r2, r3, r4, r5, r6)) :
    Calls Try.prog 33 #[] w fun e w' => ∃ v0_ v2_ v5_ : Value, e = .returned (.agg #[v0_, .int .i64 r2, v2_, .int .i64 r4, .int .i64 r5, v5_]) ∧ Kd.R k96 96 w' w.heap.size (fun _ => True) v0_ r1 ∧ Kd.R (Kd.int .i64) 3 w' w.heap.size (fun _ => True) v2_ r3 ∧ Kd.R k74 74 w' w.heap.size (fun _ => True) v5_ r6 ∧ Below w.heap.size w w' := by
  unfold impl_SampleShop.f at h
  have hu36 := Try.underlying36
  (repeat' first | ((with_reducible replace h := ite_some h); rcases h with ⟨hc, h⟩ | ⟨hc, h⟩ <;> first | exact (none_some h).elim | exact absurd hc (by decide) | subst hc | (replace hc := Bool.eq_false_iff.mpr hc; subst hc) | (have hd := beq_iff_eq.mpr hc; have he := bne_eq_false_iff_eq.mpr hc; clear hc) | (have hd := beq_eq_false_iff_ne.mpr hc; have he := bne_iff_ne.mpr hc) | (have hd := decide_eq_false hc) | (have hd := decide_eq_true hc) | skip))
  all_goals go_enter Try.func33, Try.ntmps33
  all_goals go_wp2_with (first
    | ((with_reducible refine gate_dst (N := 0) rfl ?_); refine box_event rfl (N := 0) rfl (cs := #[.slice none 0 0, .int .i64 0, .slice none 0 0, .int .i64 0, .int .i64 0, .slice none 0 0]) (t := 36) (by first | (go_simp; done) | (go_simp; rfl)) ?_; intro g hg w1 hk hb; have j1 := Born.mk hg; have j2 := Bel.mk hb; have j3 := Blk.mk hk; clear hg hb hk)
    | ((with_reducible refine gate_dst (N := 1) rfl ?_); refine box_event rfl (N := 1) rfl (cs := #[.slice none 0 0, .int .i64 0, .slice none 0 0, .int .i64 0, .int .i64 0, .slice none 0 0]) (t := 36) (by first | (go_simp; done) | (go_simp; rfl)) ?_; intro g hg w1 hk hb; have j1 := Born.mk hg; have j2 := Bel.mk hb; have j3 := Blk.mk hk; clear hg hb hk)
    | (go_at_call 82; replace h := Option.bind_eq_some_iff.mp h; obtain ⟨t, A, h⟩ := h; (try dsimp only at h); refine (impl_UsualPlan.calls _ _ _ _ A).mono ?_; rintro e w2 ⟨v0, rfl, ho0, hb⟩; obtain ⟨B0, b0, rfl⟩ := Kd.R_slice ho0; have j0 := RowE.mk ho0; have q0 := LeI.mk (rowLe j0); have jb := Bel.mk hb; clear A ho0 hb; (repeat' first | ((with_reducible replace h := ite_some h); rcases h with ⟨hc, h⟩ | ⟨hc, h⟩ <;> first | exact (none_some h).elim | exact absurd hc (by decide) | subst hc | (replace hc := Bool.eq_false_iff.mpr hc; subst hc) | (have hd := beq_iff_eq.mpr hc; have he := bne_eq_false_iff_eq.mpr hc; clear hc) | (have hd := beq_eq_false_iff_ne.mpr hc; have he := bne_iff_ne.mpr hc) | (have hd := decide_eq_false hc) | (have hd := decide_eq_true hc) | skip)); (try have hn : decide (0 < t.length) = true := decide_eq_true (by omega)); (try have hn : decide (0 < t.length) = false := decide_eq_false (by omega)))
    | (go_at_call 25; replace h := Option.bind_eq_some_iff.mp h; obtain ⟨⟨t1, t2, t3, t4, t5, t6, t7⟩, A, h⟩ := h; (try dsimp only at h); refine (impl_NewShop.calls _ _ _ _ _ _ _ _ _ _ _ _ _ Rd.out LeI.out A).mono ?_; rintro e w2 ⟨v0, v1, v2, rfl, ho0, ho1, ho2, hb⟩; obtain ⟨B0, b0, rfl⟩ := Kd.R_slice ho0; have j0 := RowE.mk ho0; have q0 := LeI.mk (rowLe j0); obtain ⟨B1, b1, rfl⟩ := Kd.R_slice ho1; have j1 := RowE.mk ho1; have q1 := LeI.mk (rowLe j1); obtain ⟨B2, b2, rfl⟩ := Kd.R_slice ho2; have j2 := RowE.mk ho2; have q2 := LeI.mk (rowLe j2); have jb := Bel.mk hb; clear A ho0 ho1 ho2 hb; (repeat' first | ((with_reducible replace h := ite_some h); rcases h with ⟨hc, h⟩ | ⟨hc, h⟩ <;> first | exact (none_some h).elim | exact absurd hc (by decide) | subst hc | (replace hc := Bool.eq_false_iff.mpr hc; subst hc) | (have hd := beq_iff_eq.mpr hc; have he := bne_eq_false_iff_eq.mpr hc; clear hc) | (have hd := beq_eq_false_iff_ne.mpr hc; have he := bne_iff_ne.mpr hc) | (have hd := decide_eq_false hc) | (have hd := decide_eq_true hc) | skip))))
  all_goals (repeat' first | ((with_reducible replace h := ite_some h); rcases h with ⟨hc, h⟩ | ⟨hc, h⟩ <;> first | exact (none_some h).elim | exact absurd hc (by decide) | subst hc | (replace hc := Bool.eq_false_iff.mpr hc; subst hc) | (have hd := beq_iff_eq.mpr hc; have he := bne_eq_false_iff_eq.mpr hc; clear hc) | (have hd := beq_eq_false_iff_ne.mpr hc; have he := bne_iff_ne.mpr hc) | (have hd := decide_eq_false hc) | (have hd := decide_eq_true hc) | skip))
  all_goals simp only [Option.some.injEq, Prod.mk.injEq] at h
  all_goals obtain ⟨rfl, rfl, rfl, rfl, rfl, rfl⟩ := h
  all_goals refine bodyPost_ret (results_cell_row rfl _ _ _ _ _ (0, 0) _ rfl Blk.out Try.underlying36 rfl (by kernel_rfl)) rfl ?_
  all_goals exact ⟨_, _, _, rfl, (by first | exact rowFin | exact Kd.R_nil _ _ _ _ _), (by first | exact rowFin | exact Kd.R_nil _ _ _ _ _), (by first | exact rowFin | exact Kd.R_nil _ _ _ _ _), From.out⟩
end Go.Proofs.Ytbkkpllejgedcaa.P


namespace Go.Proofs.Ytbkkpllejgedcaa.P
open Go.RowKit Go.Proofs.YtbkkpllejgedcaaW.PrintWords Go.Proofs.YtbkkpllejgedcaaW.PrintLast Go.Proofs.YtbkkpllejgedcaaW.PrintMore
attribute [local go_sem] max2_int min2_int max_two min_two max_three min_three max_four min_four
set_option linter.unusedVariables false
set_option linter.unusedSimpArgs false
def laws_FnExactSampleShop.f (k : Nat)  : Option (Bool) := (spec_SampleShop.f k).bind fun bt691 => ((impl_SampleShop.f k).bind fun bt704 => ((laws_eqShop.f k bt704.1 bt704.2.1 bt704.2.2.1 bt704.2.2.2.1 bt704.2.2.2.2.1 bt704.2.2.2.2.2 bt691.1 bt691.2.1 bt691.2.2.1 bt691.2.2.2.1 bt691.2.2.2.2.1 bt691.2.2.2.2.2).bind fun t717 => (if t717 = true then ((laws_markShop.f k bt704.1 bt704.2.1 bt704.2.2.1 bt704.2.2.2.1 bt704.2.2.2.2.1 bt704.2.2.2.2.2 1).bind fun bt718 => ((laws_heldShop.f k bt718.2.1 bt704.2.1 bt718.2.2.1 bt704.2.2.2.1 bt704.2.2.2.2.1 bt718.2.2.2 1).bind fun t722 => (if t722 < 0 then (some false) else (if t722 = bt718.1 then ((impl_SampleShop.f k).bind fun bt723 => ((laws_eqShop.f k bt723.1 bt723.2.1 bt723.2.2.1 bt723.2.2.2.1 bt723.2.2.2.2.1 bt723.2.2.2.2.2 bt691.1 bt691.2.1 bt691.2.2.1 bt691.2.2.2.1 bt691.2.2.2.2.1 bt691.2.2.2.2.2).bind fun t736 => (if t736 = true then ((laws_heldShop.f k bt718.2.1 bt704.2.1 bt718.2.2.1 bt704.2.2.2.1 bt704.2.2.2.2.1 bt718.2.2.2 1).bind fun t737 => (if t737 < 0 then (some false) else (if t737 = bt718.1 then (some true) else (some false)))) else (some false)))) else (some false))))) else (some false))))
set_option maxHeartbeats 8000000 in
set_option maxRecDepth 100000 in
theorem laws_FnExactSampleShop.calls (k : Nat)  (r : Bool) (w : World) (h : laws_FnExactSampleShop.f k  = some r) (hrt_ : Aside0 (r = true)) :
    Calls Try.prog 7 #[] w fun e w' => e = .returned (.bool r) ∧ Below w.heap.size w w' := by
  have hu36 := Try.underlying36
  have HB := Aside0.mk (Below.refl w.heap.size w)
  have H : ((spec_SampleShop.f k).bind fun bt691 => ((impl_SampleShop.f k).bind fun bt704 => ((laws_eqShop.f k bt704.1 bt704.2.1 bt704.2.2.1 bt704.2.2.2.1 bt704.2.2.2.2.1 bt704.2.2.2.2.2 bt691.1 bt691.2.1 bt691.2.2.1 bt691.2.2.2.1 bt691.2.2.2.2.1 bt691.2.2.2.2.2).bind fun t717 => (if t717 = true then ((laws_markShop.f k bt704.1 bt704.2.1 bt704.2.2.1 bt704.2.2.2.1 bt704.2.2.2.2.1 bt704.2.2.2.2.2 1).bind fun bt718 => ((laws_heldShop.f k bt718.2.1 bt704.2.1 bt718.2.2.1 bt704.2.2.2.1 bt704.2.2.2.2.1 bt718.2.2.2 1).bind fun t722 => (if t722 < 0 then (some false) else (if t722 = bt718.1 then ((impl_SampleShop.f k).bind fun bt723 => ((laws_eqShop.f k bt723.1 bt723.2.1 bt723.2.2.1 bt723.2.2.2.1 bt723.2.2.2.2.1 bt723.2.2.2.2.2 bt691.1 bt691.2.1 bt691.2.2.1 bt691.2.2.2.1 bt691.2.2.2.2.1 bt691.2.2.2.2.2).bind fun t736 => (if t736 = true then ((laws_heldShop.f k bt718.2.1 bt704.2.1 bt718.2.2.1 bt704.2.2.2.1 bt704.2.2.2.2.1 bt718.2.2.2 1).bind fun t737 => (if t737 < 0 then (some false) else (if t737 = bt718.1 then (some true) else (some false)))) else (some false)))) else (some false))))) else (some false))))) = some r := h
  clear h
  replace H := Option.bind_eq_some_iff.mp H
  obtain ⟨⟨t691, t694, t695, t698, t699, t700⟩, A10, H⟩ := H
  (try dsimp only at H)
  have A1 := Aside0.mk A10
  clear A10
  replace H := Option.bind_eq_some_iff.mp H
  obtain ⟨⟨t704, t707, t708, t711, t712, t713⟩, A20, H⟩ := H
  (try dsimp only at H)
  have A2 := Aside0.mk A20
  clear A20
  replace H := Option.bind_eq_some_iff.mp H
  obtain ⟨t717, A30, H⟩ := H
  (try dsimp only at H)
  have A3 := Aside0.mk A30
  clear A30
  by_cases c4 : t717 = true
  · subst c4
    rw [if_pos rfl] at H
    replace H := Option.bind_eq_some_iff.mp H
    obtain ⟨⟨t718, t719, t720, t721⟩, A50, H⟩ := H
    (try dsimp only at H)
    have A5 := Aside0.mk A50
    clear A50
    replace H := Option.bind_eq_some_iff.mp H
    obtain ⟨t722, A60, H⟩ := H
    (try dsimp only at H)
    have A6 := Aside0.mk A60
    clear A60
    by_cases c7 : t722 < 0
    · rw [if_pos c7] at H
      have c7b0 : decide (t722 < 0) = true := decide_eq_true c7
      clear c7
      exact absurd ((Option.some.inj H).trans hrt_.out) (by decide)
    · rw [if_neg c7] at H
      have c7b0 : decide (t722 < 0) = false := decide_eq_false c7
      clear c7
      by_cases c8 : t722 = t718
      · rw [if_pos c8] at H
        have c8b0 : (t722 == t718) = true := beq_iff_eq.mpr c8
        have c8b1 : (t722 != t718) = false := bne_eq_false_iff_eq.mpr c8
        clear c8
        replace H := Option.bind_eq_some_iff.mp H
        obtain ⟨⟨t723, t726, t727, t730, t731, t732⟩, A90, H⟩ := H
        (try dsimp only at H)
        have A9 := Aside0.mk A90
        clear A90
        replace H := Option.bind_eq_some_iff.mp H
        obtain ⟨t736, A100, H⟩ := H
        (try dsimp only at H)
        have A10 := Aside0.mk A100
        clear A100
        by_cases c11 : t736 = true
        · subst c11
          rw [if_pos rfl] at H
          replace H := Option.bind_eq_some_iff.mp H
          obtain ⟨t737, A120, H⟩ := H
          (try dsimp only at H)
          have A12 := Aside0.mk A120
          clear A120
          by_cases c13 : t737 < 0
          · rw [if_pos c13] at H
            have c13b0 : decide (t737 < 0) = true := decide_eq_true c13
            clear c13
            exact absurd ((Option.some.inj H).trans hrt_.out) (by decide)
          · rw [if_neg c13] at H
            have c13b0 : decide (t737 < 0) = false := decide_eq_false c13
            clear c13
            by_cases c14 : t737 = t718
            · rw [if_pos c14] at H
              have c14b0 : (t737 == t718) = true := beq_iff_eq.mpr c14
              have c14b1 : (t737 != t718) = false := bne_eq_false_iff_eq.mpr c14
              clear c14
              obtain rfl := Option.some.inj H
              go_enter Try.func7, Try.ntmps7
              go_wp2_with (first | ((with_reducible refine gate_callee (f := 32) rfl ?_); refine goesL_ (some 6) rfl rfl Try.func32 (by kernel_rfl) rfl #[] rfl (by (try simp only [List.map_toArray, List.map_cons, List.map_nil]); first | done | rfl | (simp only [List.length_drop, List.length_take]; rfl)) ?_; (with_reducible refine (spec_SampleShop.calls k  t691 t694 t695 t698 t699 t700 _ A1.out).mono ?_); rintro e w15 ⟨v692, v696, v701, rfl, ho0, ho1, ho2, hb⟩; refine ⟨_, rfl, ?_⟩; have n0_ := Aside0.mk (Kd.R_lower ho0 (below_size (oB HB))); have n1_ := Aside0.mk (Kd.R_lower ho1 (below_size (oB HB))); have n2_ := Aside0.mk (Kd.R_lower ho2 (below_size (oB HB))); have n3_ := Aside0.mk (below_step (oB HB) hb); clear HB; have HO693 := n0_; have HO697 := n1_; have HO702 := n2_; have HB := n3_; clear n0_ n1_ n2_ n3_; (try clear hb); (try clear hb2); (try clear hk); (try clear hi); (try clear ho0); (try clear ho1); (try clear ho2)) | ((with_reducible refine gate_dst (N := 1) rfl ?_); refine box_event ?hg (N := 1) ?hd (cs := #[.slice none 0 0, .int .i64 0, .slice none 0 0, .int .i64 0, .int .i64 0, .slice none 0 0]) (t := 36) ?hr ?_; (case hd => rfl); (case hg => rfl); (case hr => first | (go_simp; done) | (go_simp; rfl)); intro gb703 hg w16 hbox hb; have n0_ := Aside0.mk (Kd.R_below (oR HO693) hb); have n1_ := Aside0.mk (Kd.R_below (oR HO697) hb); have n2_ := Aside0.mk (Kd.R_below (oR HO702) hb); have n3_ := Aside0.mk (below_step (oB HB) hb); have n4_ := Aside0.mk (hbox); have n5_ := Aside0.mk ((by rw [hg]; exact (below_size (oB HB)) : w.heap.size ≤ gb703)); have n6_ := Aside0.mk ((by rw [hg]; exact (below_size (oB HB)) : w.heap.size ≤ gb703)); clear HO693; clear HO697; clear HO702; clear HB; have HO693 := n0_; have HO697 := n1_; have HO702 := n2_; have HB := n3_; have BK703 := n4_; have GW703 := n5_; have GE703 := n6_; clear n0_ n1_ n2_ n3_ n4_ n5_ n6_; clear hb hbox hg; obtain ⟨Ao17, co17, eo17⟩ := Kd.R_slice HO693.out; subst eo17; have hcz18_0 : w16.cell? ⟨gb703, 0, none⟩ = some (.slice none 0 0) := (blk_cell BK703.out 0).trans rfl; have hcz18_1 : w16.cell? ⟨gb703, 1, none⟩ = some (.int .i64 0) := (blk_cell BK703.out 1).trans rfl; have hcz18_2 : w16.cell? ⟨gb703, 2, none⟩ = some (.slice none 0 0) := (blk_cell BK703.out 2).trans rfl; have hcz18_3 : w16.cell? ⟨gb703, 3, none⟩ = some (.int .i64 0) := (blk_cell BK703.out 3).trans rfl; have hcz18_4 : w16.cell? ⟨gb703, 4, none⟩ = some (.int .i64 0) := (blk_cell BK703.out 4).trans rfl; have hcz18_5 : w16.cell? ⟨gb703, 5, none⟩ = some (.slice none 0 0) := (blk_cell BK703.out 5).trans rfl; have hfz18_0 := blk_frozen BK703.out 0; have hfz18_1 := blk_frozen BK703.out 1; have hfz18_2 := blk_frozen BK703.out 2; have hfz18_3 := blk_frozen BK703.out 3; have hfz18_4 := blk_frozen BK703.out 4; have hfz18_5 := blk_frozen BK703.out 5; obtain ⟨Ao19, co19, eo19⟩ := Kd.R_slice HO697.out; subst eo19; obtain ⟨Ao20, co20, eo20⟩ := Kd.R_slice HO702.out; subst eo20) | ((with_reducible refine gate_callee (f := 33) rfl ?_); refine goesL_ (some 7) rfl rfl Try.func33 (by kernel_rfl) rfl #[] rfl (by (try simp only [List.map_toArray, List.map_cons, List.map_nil]); first | done | rfl | (simp only [List.length_drop, List.length_take]; rfl)) ?_; (with_reducible refine (impl_SampleShop.calls k  t704 t707 t708 t711 t712 t713 _ A2.out).mono ?_); rintro e w21 ⟨v705, v709, v714, rfl, ho0, ho1, ho2, hb⟩; refine ⟨_, rfl, ?_⟩; have n0_ := Aside0.mk (Kd.R_elder' (by (with_reducible repeat (first | apply Kd.R_alloc | apply Kd.R_drewN | apply Kd.R_drew)); exact (Kd.R_mono (Kd.R_far (p := ⟨gb703, 5, none⟩) (Kd.R_far (p := ⟨gb703, 4, none⟩) (Kd.R_far (p := ⟨gb703, 3, none⟩) (Kd.R_far (p := ⟨gb703, 2, none⟩) (Kd.R_far (p := ⟨gb703, 1, none⟩) (Kd.R_far (p := ⟨gb703, 0, none⟩) (Kd.R_types HO693.out BK703.out (by decide)) (fun _ hk => hk.2) (.slice Ao17 t691.length co17)) (fun _ hk => hk.2) (.int .i64 t694)) (fun _ hk => hk.2) (.slice Ao19 t695.length co19)) (fun _ hk => hk.2) (.int .i64 t698)) (fun _ hk => hk.2) (.int .i64 t699)) (fun _ hk => hk.2) (.slice Ao20 t700.length co20)) (fun _ h_ => h_.1))) (Kd.R_base ho0) hb); have n1_ := Aside0.mk (Kd.R_elder' (by (with_reducible repeat (first | apply Kd.R_alloc | apply Kd.R_drewN | apply Kd.R_drew)); exact (Kd.R_mono (Kd.R_far (p := ⟨gb703, 5, none⟩) (Kd.R_far (p := ⟨gb703, 4, none⟩) (Kd.R_far (p := ⟨gb703, 3, none⟩) (Kd.R_far (p := ⟨gb703, 2, none⟩) (Kd.R_far (p := ⟨gb703, 1, none⟩) (Kd.R_far (p := ⟨gb703, 0, none⟩) (Kd.R_types HO697.out BK703.out (by decide)) (fun _ hk => hk.2) (.slice Ao17 t691.length co17)) (fun _ hk => hk.2) (.int .i64 t694)) (fun _ hk => hk.2) (.slice Ao19 t695.length co19)) (fun _ hk => hk.2) (.int .i64 t698)) (fun _ hk => hk.2) (.int .i64 t699)) (fun _ hk => hk.2) (.slice Ao20 t700.length co20)) (fun _ h_ => h_.1))) (Kd.R_base ho1) hb); have n2_ := Aside0.mk (Kd.R_elder' (by (with_reducible repeat (first | apply Kd.R_alloc | apply Kd.R_drewN | apply Kd.R_drew)); exact (Kd.R_mono (Kd.R_far (p := ⟨gb703, 5, none⟩) (Kd.R_far (p := ⟨gb703, 4, none⟩) (Kd.R_far (p := ⟨gb703, 3, none⟩) (Kd.R_far (p := ⟨gb703, 2, none⟩) (Kd.R_far (p := ⟨gb703, 1, none⟩) (Kd.R_far (p := ⟨gb703, 0, none⟩) (Kd.R_types HO702.out BK703.out (by decide)) (fun _ hk => hk.2) (.slice Ao17 t691.length co17)) (fun _ hk => hk.2) (.int .i64 t694)) (fun _ hk => hk.2) (.slice Ao19 t695.length co19)) (fun _ hk => hk.2) (.int .i64 t698)) (fun _ hk => hk.2) (.int .i64 t699)) (fun _ hk => hk.2) (.slice Ao20 t700.length co20)) (fun _ h_ => h_.1))) (Kd.R_base ho2) hb); have n3_ := Aside0.mk (Kd.R_lower (Kd.R_new' ho0 (Kd.R_lt (by (with_reducible repeat (first | apply Kd.R_alloc | apply Kd.R_drewN | apply Kd.R_drew)); exact (Kd.R_mono (Kd.R_far (p := ⟨gb703, 5, none⟩) (Kd.R_far (p := ⟨gb703, 4, none⟩) (Kd.R_far (p := ⟨gb703, 3, none⟩) (Kd.R_far (p := ⟨gb703, 2, none⟩) (Kd.R_far (p := ⟨gb703, 1, none⟩) (Kd.R_far (p := ⟨gb703, 0, none⟩) (Kd.R_types HO693.out BK703.out (by decide)) (fun _ hk => hk.2) (.slice Ao17 t691.length co17)) (fun _ hk => hk.2) (.int .i64 t694)) (fun _ hk => hk.2) (.slice Ao19 t695.length co19)) (fun _ hk => hk.2) (.int .i64 t698)) (fun _ hk => hk.2) (.int .i64 t699)) (fun _ hk => hk.2) (.slice Ao20 t700.length co20)) (fun _ h_ => h_.1))))) (below_size (oB HB))); have n4_ := Aside0.mk (Kd.R_lower (Kd.R_new' ho1 (Kd.R_lt (by (with_reducible repeat (first | apply Kd.R_alloc | apply Kd.R_drewN | apply Kd.R_drew)); exact (Kd.R_mono (Kd.R_far (p := ⟨gb703, 5, none⟩) (Kd.R_far (p := ⟨gb703, 4, none⟩) (Kd.R_far (p := ⟨gb703, 3, none⟩) (Kd.R_far (p := ⟨gb703, 2, none⟩) (Kd.R_far (p := ⟨gb703, 1, none⟩) (Kd.R_far (p := ⟨gb703, 0, none⟩) (Kd.R_types HO697.out BK703.out (by decide)) (fun _ hk => hk.2) (.slice Ao17 t691.length co17)) (fun _ hk => hk.2) (.int .i64 t694)) (fun _ hk => hk.2) (.slice Ao19 t695.length co19)) (fun _ hk => hk.2) (.int .i64 t698)) (fun _ hk => hk.2) (.int .i64 t699)) (fun _ hk => hk.2) (.slice Ao20 t700.length co20)) (fun _ h_ => h_.1))))) (below_size (oB HB))); have n5_ := Aside0.mk (Kd.R_lower (Kd.R_new' ho2 (Kd.R_lt (by (with_reducible repeat (first | apply Kd.R_alloc | apply Kd.R_drewN | apply Kd.R_drew)); exact (Kd.R_mono (Kd.R_far (p := ⟨gb703, 5, none⟩) (Kd.R_far (p := ⟨gb703, 4, none⟩) (Kd.R_far (p := ⟨gb703, 3, none⟩) (Kd.R_far (p := ⟨gb703, 2, none⟩) (Kd.R_far (p := ⟨gb703, 1, none⟩) (Kd.R_far (p := ⟨gb703, 0, none⟩) (Kd.R_types HO702.out BK703.out (by decide)) (fun _ hk => hk.2) (.slice Ao17 t691.length co17)) (fun _ hk => hk.2) (.int .i64 t694)) (fun _ hk => hk.2) (.slice Ao19 t695.length co19)) (fun _ hk => hk.2) (.int .i64 t698)) (fun _ hk => hk.2) (.int .i64 t699)) (fun _ hk => hk.2) (.slice Ao20 t700.length co20)) (fun _ h_ => h_.1))))) (below_size (oB HB))); have n6_ := Aside0.mk (blk_below (g := gb703) (o := .cells #[.slice Ao17 t691.length co17, .int .i64 t694, .slice Ao19 t695.length co19, .int .i64 t698, .int .i64 t699, .slice Ao20 t700.length co20] 36 (0, 0)) (by (with_reducible repeat (first | refine blk_drewN ?_ _ | refine blk_drew ?_ | refine blk_alloc ?_ _)); refine blk_put (cs := #[.slice Ao17 t691.length co17, .int .i64 t694, .slice Ao19 t695.length co19, .int .i64 t698, .int .i64 t699, .slice none 0 0]) ?_ 5 _ rfl; (with_reducible repeat (first | refine blk_drewN ?_ _ | refine blk_drew ?_ | refine blk_alloc ?_ _)); refine blk_put (cs := #[.slice Ao17 t691.length co17, .int .i64 t694, .slice Ao19 t695.length co19, .int .i64 t698, .int .i64 0, .slice none 0 0]) ?_ 4 _ rfl; (with_reducible repeat (first | refine blk_drewN ?_ _ | refine blk_drew ?_ | refine blk_alloc ?_ _)); refine blk_put (cs := #[.slice Ao17 t691.length co17, .int .i64 t694, .slice Ao19 t695.length co19, .int .i64 0, .int .i64 0, .slice none 0 0]) ?_ 3 _ rfl; (with_reducible repeat (first | refine blk_drewN ?_ _ | refine blk_drew ?_ | refine blk_alloc ?_ _)); refine blk_put (cs := #[.slice Ao17 t691.length co17, .int .i64 t694, .slice none 0 0, .int .i64 0, .int .i64 0, .slice none 0 0]) ?_ 2 _ rfl; (with_reducible repeat (first | refine blk_drewN ?_ _ | refine blk_drew ?_ | refine blk_alloc ?_ _)); refine blk_put (cs := #[.slice Ao17 t691.length co17, .int .i64 0, .slice none 0 0, .int .i64 0, .int .i64 0, .slice none 0 0]) ?_ 1 _ rfl; (with_reducible repeat (first | refine blk_drewN ?_ _ | refine blk_drew ?_ | refine blk_alloc ?_ _)); refine blk_put (cs := #[.slice none 0 0, .int .i64 0, .slice none 0 0, .int .i64 0, .int .i64 0, .slice none 0 0]) ?_ 0 _ rfl; (with_reducible repeat (first | refine blk_drewN ?_ _ | refine blk_drew ?_ | refine blk_alloc ?_ _)); exact BK703.out) hb); have n7_ := Aside0.mk (below_step (oB HB) hb); clear HO693; clear HO697; clear HO702; clear BK703; clear HB; have HO693 := n0_; have HO697 := n1_; have HO702 := n2_; have HO706 := n3_; have HO710 := n4_; have HO715 := n5_; have BK703 := n6_; have HB := n7_; clear n0_ n1_ n2_ n3_ n4_ n5_ n6_ n7_; (try clear hb); (try clear hb2); (try clear hk); (try clear hi); (try clear ho0); (try clear ho1); (try clear ho2)) | ((with_reducible refine gate_dst (N := 2) rfl ?_); refine box_event ?hg (N := 2) ?hd (cs := #[.slice none 0 0, .int .i64 0, .slice none 0 0, .int .i64 0, .int .i64 0, .slice none 0 0]) (t := 36) ?hr ?_; (case hd => rfl); (case hg => rfl); (case hr => first | (go_simp; done) | (go_simp; rfl)); intro gb716 hg w22 hbox hb; have n0_ := Aside0.mk (Kd.R_below (oR HO693) hb); have n1_ := Aside0.mk (Kd.R_below (oR HO697) hb); have n2_ := Aside0.mk (Kd.R_below (oR HO702) hb); have n3_ := Aside0.mk (Kd.R_below (oR HO706) hb); have n4_ := Aside0.mk (Kd.R_below (oR HO710) hb); have n5_ := Aside0.mk (Kd.R_below (oR HO715) hb); have n6_ := Aside0.mk (blk_below (g := gb703) (o := .cells #[.slice Ao17 t691.length co17, .int .i64 t694, .slice Ao19 t695.length co19, .int .i64 t698, .int .i64 t699, .slice Ao20 t700.length co20] 36 (0, 0)) (oK BK703) hb); have n7_ := Aside0.mk (below_step (oB HB) hb); have n8_ := Aside0.mk (hbox); have n9_ := Aside0.mk ((by rw [hg]; exact (below_size (oB HB)) : w.heap.size ≤ gb716)); have n10_ := Aside0.mk ((by rw [hg]; exact (below_size (oB HB)) : w.heap.size ≤ gb716)); have n11_ := Aside0.mk ((by rw [hg]; exact Nat.ne_of_lt (blk_lt (g := gb703) (o := .cells #[.slice Ao17 t691.length co17, .int .i64 t694, .slice Ao19 t695.length co19, .int .i64 t698, .int .i64 t699, .slice Ao20 t700.length co20] 36 (0, 0)) (oK BK703)) : gb703 ≠ gb716)); have n12_ := Aside0.mk ((by rw [hg]; exact Nat.ne_of_gt (blk_lt (g := gb703) (o := .cells #[.slice Ao17 t691.length co17, .int .i64 t694, .slice Ao19 t695.length co19, .int .i64 t698, .int .i64 t699, .slice Ao20 t700.length co20] 36 (0, 0)) (oK BK703)) : gb716 ≠ gb703)); clear HO693; clear HO697; clear HO702; clear HO706; clear HO710; clear HO715; clear BK703; clear HB; have HO693 := n0_; have HO697 := n1_; have HO702 := n2_; have HO706 := n3_; have HO710 := n4_; have HO715 := n5_; have BK703 := n6_; have HB := n7_; have BK716 := n8_; have GW716 := n9_; have GE716 := n10_; have NB703_716 := n11_; have NB716_703 := n12_; clear n0_ n1_ n2_ n3_ n4_ n5_ n6_ n7_ n8_ n9_ n10_ n11_ n12_; clear hb hbox hg; obtain ⟨Ao23, co23, eo23⟩ := Kd.R_slice HO706.out; subst eo23; have hnb24 := NB716_703.out; have hnc24 := NB703_716.out; have hcz25_0 : w22.cell? ⟨gb716, 0, none⟩ = some (.slice none 0 0) := (blk_cell BK716.out 0).trans rfl; have hcz25_1 : w22.cell? ⟨gb716, 1, none⟩ = some (.int .i64 0) := (blk_cell BK716.out 1).trans rfl; have hcz25_2 : w22.cell? ⟨gb716, 2, none⟩ = some (.slice none 0 0) := (blk_cell BK716.out 2).trans rfl; have hcz25_3 : w22.cell? ⟨gb716, 3, none⟩ = some (.int .i64 0) := (blk_cell BK716.out 3).trans rfl; have hcz25_4 : w22.cell? ⟨gb716, 4, none⟩ = some (.int .i64 0) := (blk_cell BK716.out 4).trans rfl; have hcz25_5 : w22.cell? ⟨gb716, 5, none⟩ = some (.slice none 0 0) := (blk_cell BK716.out 5).trans rfl; have hfz25_0 := blk_frozen BK716.out 0; have hfz25_1 := blk_frozen BK716.out 1; have hfz25_2 := blk_frozen BK716.out 2; have hfz25_3 := blk_frozen BK716.out 3; have hfz25_4 := blk_frozen BK716.out 4; have hfz25_5 := blk_frozen BK716.out 5; obtain ⟨Ao26, co26, eo26⟩ := Kd.R_slice HO710.out; subst eo26; obtain ⟨Ao27, co27, eo27⟩ := Kd.R_slice HO715.out; subst eo27; have hcz28_0 : w22.cell? ⟨gb703, 0, none⟩ = some (.slice Ao17 t691.length co17) := (blk_cell BK703.out 0).trans rfl; have hcz28_1 : w22.cell? ⟨gb703, 1, none⟩ = some (.int .i64 t694) := (blk_cell BK703.out 1).trans rfl; have hcz28_2 : w22.cell? ⟨gb703, 2, none⟩ = some (.slice Ao19 t695.length co19) := (blk_cell BK703.out 2).trans rfl; have hcz28_3 : w22.cell? ⟨gb703, 3, none⟩ = some (.int .i64 t698) := (blk_cell BK703.out 3).trans rfl; have hcz28_4 : w22.cell? ⟨gb703, 4, none⟩ = some (.int .i64 t699) := (blk_cell BK703.out 4).trans rfl; have hcz28_5 : w22.cell? ⟨gb703, 5, none⟩ = some (.slice Ao20 t700.length co20) := (blk_cell BK703.out 5).trans rfl; have hfz28_0 := blk_frozen BK703.out 0; have hfz28_1 := blk_frozen BK703.out 1; have hfz28_2 := blk_frozen BK703.out 2; have hfz28_3 := blk_frozen BK703.out 3; have hfz28_4 := blk_frozen BK703.out 4; have hfz28_5 := blk_frozen BK703.out 5) | ((with_reducible refine gate_callee (f := 19) rfl ?_); refine goesL_ (some 10) rfl rfl Try.func19 (by kernel_rfl) rfl #[.agg #[.slice Ao23 t704.length co23, .int .i64 t707, .slice Ao26 t708.length co26, .int .i64 t711, .int .i64 t712, .slice Ao27 t713.length co27], .agg #[.slice Ao17 t691.length co17, .int .i64 t694, .slice Ao19 t695.length co19, .int .i64 t698, .int .i64 t699, .slice Ao20 t700.length co20]] rfl (by (try simp only [List.map_toArray, List.map_cons, List.map_nil]); first | done | rfl | (simp only [List.length_drop, List.length_take]; rfl)) ?_; (with_reducible refine (laws_eqShop.calls k _ _ t704 t707 _ _ t708 t711 t712 _ _ t713 _ _ t691 t694 _ _ t695 t698 t699 _ _ t700 true _ ?side1 ?side2 ?side3 ?side4 ?side5 ?side6 ?side7 ?side8 ?side9 ?side10 ?side11 ?side12 A3.out).mono ?_); (case side1 => refine (Kd.R_reads' (e := 96) (base := w.heap.size) (ok := fun k_ => (True ∧ some k_ ≠ (.slice Ao17 t691.length co17 : Value).ownBlock)) (n := t704.length) (c := co23) ?_).2.2; exact (by (with_reducible repeat (first | apply Kd.R_alloc | apply Kd.R_drewN | apply Kd.R_drew)); exact (Kd.R_mono (Kd.R_far (p := ⟨gb716, 5, none⟩) (Kd.R_far (p := ⟨gb716, 4, none⟩) (Kd.R_far (p := ⟨gb716, 3, none⟩) (Kd.R_far (p := ⟨gb716, 2, none⟩) (Kd.R_far (p := ⟨gb716, 1, none⟩) (Kd.R_far (p := ⟨gb716, 0, none⟩) (Kd.R_types HO706.out BK716.out (by decide)) (fun _ hk => hk.2) (.slice Ao23 t704.length co23)) (fun _ hk => hk.2) (.int .i64 t707)) (fun _ hk => hk.2) (.slice Ao26 t708.length co26)) (fun _ hk => hk.2) (.int .i64 t711)) (fun _ hk => hk.2) (.int .i64 t712)) (fun _ hk => hk.2) (.slice Ao27 t713.length co27)) (fun _ h_ => h_.1)))); (case side2 => exact (Kd.R_reads' HO706.out).2.1); (case side3 => refine (Kd.R_reads' (e := 3) (base := w.heap.size) (ok := fun k_ => (True ∧ some k_ ≠ (.slice Ao19 t695.length co19 : Value).ownBlock)) (n := t708.length) (c := co26) ?_).2.2; exact (by (with_reducible repeat (first | apply Kd.R_alloc | apply Kd.R_drewN | apply Kd.R_drew)); exact (Kd.R_mono (Kd.R_far (p := ⟨gb716, 5, none⟩) (Kd.R_far (p := ⟨gb716, 4, none⟩) (Kd.R_far (p := ⟨gb716, 3, none⟩) (Kd.R_far (p := ⟨gb716, 2, none⟩) (Kd.R_far (p := ⟨gb716, 1, none⟩) (Kd.R_far (p := ⟨gb716, 0, none⟩) (Kd.R_types HO710.out BK716.out (by decide)) (fun _ hk => hk.2) (.slice Ao23 t704.length co23)) (fun _ hk => hk.2) (.int .i64 t707)) (fun _ hk => hk.2) (.slice Ao26 t708.length co26)) (fun _ hk => hk.2) (.int .i64 t711)) (fun _ hk => hk.2) (.int .i64 t712)) (fun _ hk => hk.2) (.slice Ao27 t713.length co27)) (fun _ h_ => h_.1)))); (case side4 => exact (Kd.R_reads' HO710.out).2.1); (case side5 => refine (Kd.R_reads' (e := 74) (base := w.heap.size) (ok := fun k_ => (True ∧ some k_ ≠ (.slice Ao20 t700.length co20 : Value).ownBlock)) (n := t713.length) (c := co27) ?_).2.2; exact (by (with_reducible repeat (first | apply Kd.R_alloc | apply Kd.R_drewN | apply Kd.R_drew)); exact (Kd.R_mono (Kd.R_far (p := ⟨gb716, 5, none⟩) (Kd.R_far (p := ⟨gb716, 4, none⟩) (Kd.R_far (p := ⟨gb716, 3, none⟩) (Kd.R_far (p := ⟨gb716, 2, none⟩) (Kd.R_far (p := ⟨gb716, 1, none⟩) (Kd.R_far (p := ⟨gb716, 0, none⟩) (Kd.R_types HO715.out BK716.out (by decide)) (fun _ hk => hk.2) (.slice Ao23 t704.length co23)) (fun _ hk => hk.2) (.int .i64 t707)) (fun _ hk => hk.2) (.slice Ao26 t708.length co26)) (fun _ hk => hk.2) (.int .i64 t711)) (fun _ hk => hk.2) (.int .i64 t712)) (fun _ hk => hk.2) (.slice Ao27 t713.length co27)) (fun _ h_ => h_.1)))); (case side6 => exact (Kd.R_reads' HO715.out).2.1); (case side7 => refine (Kd.R_reads' (e := 96) (base := w.heap.size) (ok := fun k_ => (True ∧ some k_ ≠ (.slice Ao23 t704.length co23 : Value).ownBlock)) (n := t691.length) (c := co17) ?_).2.2; exact (by (with_reducible repeat (first | apply Kd.R_alloc | apply Kd.R_drewN | apply Kd.R_drew)); exact (Kd.R_mono (Kd.R_far (p := ⟨gb716, 5, none⟩) (Kd.R_far (p := ⟨gb716, 4, none⟩) (Kd.R_far (p := ⟨gb716, 3, none⟩) (Kd.R_far (p := ⟨gb716, 2, none⟩) (Kd.R_far (p := ⟨gb716, 1, none⟩) (Kd.R_far (p := ⟨gb716, 0, none⟩) (Kd.R_types HO693.out BK716.out (by decide)) (fun _ hk => hk.2) (.slice Ao23 t704.length co23)) (fun _ hk => hk.2) (.int .i64 t707)) (fun _ hk => hk.2) (.slice Ao26 t708.length co26)) (fun _ hk => hk.2) (.int .i64 t711)) (fun _ hk => hk.2) (.int .i64 t712)) (fun _ hk => hk.2) (.slice Ao27 t713.length co27)) (fun _ h_ => h_.1)))); (case side8 => exact (Kd.R_reads' HO693.out).2.1); (case side9 => refine (Kd.R_reads' (e := 3) (base := w.heap.size) (ok := fun k_ => (True ∧ some k_ ≠ (.slice Ao26 t708.length co26 : Value).ownBlock)) (n := t695.length) (c := co19) ?_).2.2; exact (by (with_reducible repeat (first | apply Kd.R_alloc | apply Kd.R_drewN | apply Kd.R_drew)); exact (Kd.R_mono (Kd.R_far (p := ⟨gb716, 5, none⟩) (Kd.R_far (p := ⟨gb716, 4, none⟩) (Kd.R_far (p := ⟨gb716, 3, none⟩) (Kd.R_far (p := ⟨gb716, 2, none⟩) (Kd.R_far (p := ⟨gb716, 1, none⟩) (Kd.R_far (p := ⟨gb716, 0, none⟩) (Kd.R_types HO697.out BK716.out (by decide)) (fun _ hk => hk.2) (.slice Ao23 t704.length co23)) (fun _ hk => hk.2) (.int .i64 t707)) (fun _ hk => hk.2) (.slice Ao26 t708.length co26)) (fun _ hk => hk.2) (.int .i64 t711)) (fun _ hk => hk.2) (.int .i64 t712)) (fun _ hk => hk.2) (.slice Ao27 t713.length co27)) (fun _ h_ => h_.1)))); (case side10 => exact (Kd.R_reads' HO697.out).2.1); (case side11 => refine (Kd.R_reads' (e := 74) (base := w.heap.size) (ok := fun k_ => (True ∧ some k_ ≠ (.slice Ao27 t713.length co27 : Value).ownBlock)) (n := t700.length) (c := co20) ?_).2.2; exact (by (with_reducible repeat (first | apply Kd.R_alloc | apply Kd.R_drewN | apply Kd.R_drew)); exact (Kd.R_mono (Kd.R_far (p := ⟨gb716, 5, none⟩) (Kd.R_far (p := ⟨gb716, 4, none⟩) (Kd.R_far (p := ⟨gb716, 3, none⟩) (Kd.R_far (p := ⟨gb716, 2, none⟩) (Kd.R_far (p := ⟨gb716, 1, none⟩) (Kd.R_far (p := ⟨gb716, 0, none⟩) (Kd.R_types HO702.out BK716.out (by decide)) (fun _ hk => hk.2) (.slice Ao23 t704.length co23)) (fun _ hk => hk.2) (.int .i64 t707)) (fun _ hk => hk.2) (.slice Ao26 t708.length co26)) (fun _ hk => hk.2) (.int .i64 t711)) (fun _ hk => hk.2) (.int .i64 t712)) (fun _ hk => hk.2) (.slice Ao27 t713.length co27)) (fun _ h_ => h_.1)))); (case side12 => exact (Kd.R_reads' HO702.out).2.1); rintro e w29 ⟨rfl, hb⟩; refine ⟨_, rfl, ?_⟩; have n0_ := Aside0.mk (Kd.R_below (by (with_reducible repeat (first | apply Kd.R_alloc | apply Kd.R_drewN | apply Kd.R_drew)); exact (Kd.R_mono (Kd.R_far (p := ⟨gb716, 5, none⟩) (Kd.R_far (p := ⟨gb716, 4, none⟩) (Kd.R_far (p := ⟨gb716, 3, none⟩) (Kd.R_far (p := ⟨gb716, 2, none⟩) (Kd.R_far (p := ⟨gb716, 1, none⟩) (Kd.R_far (p := ⟨gb716, 0, none⟩) (Kd.R_types HO693.out BK716.out (by decide)) (fun _ hk => hk.2) (.slice Ao23 t704.length co23)) (fun _ hk => hk.2) (.int .i64 t707)) (fun _ hk => hk.2) (.slice Ao26 t708.length co26)) (fun _ hk => hk.2) (.int .i64 t711)) (fun _ hk => hk.2) (.int .i64 t712)) (fun _ hk => hk.2) (.slice Ao27 t713.length co27)) (fun _ h_ => h_.1))) hb); have n1_ := Aside0.mk (Kd.R_below (by (with_reducible repeat (first | apply Kd.R_alloc | apply Kd.R_drewN | apply Kd.R_drew)); exact (Kd.R_mono (Kd.R_far (p := ⟨gb716, 5, none⟩) (Kd.R_far (p := ⟨gb716, 4, none⟩) (Kd.R_far (p := ⟨gb716, 3, none⟩) (Kd.R_far (p := ⟨gb716, 2, none⟩) (Kd.R_far (p := ⟨gb716, 1, none⟩) (Kd.R_far (p := ⟨gb716, 0, none⟩) (Kd.R_types HO697.out BK716.out (by decide)) (fun _ hk => hk.2) (.slice Ao23 t704.length co23)) (fun _ hk => hk.2) (.int .i64 t707)) (fun _ hk => hk.2) (.slice Ao26 t708.length co26)) (fun _ hk => hk.2) (.int .i64 t711)) (fun _ hk => hk.2) (.int .i64 t712)) (fun _ hk => hk.2) (.slice Ao27 t713.length co27)) (fun _ h_ => h_.1))) hb); have n2_ := Aside0.mk (Kd.R_below (by (with_reducible repeat (first | apply Kd.R_alloc | apply Kd.R_drewN | apply Kd.R_drew)); exact (Kd.R_mono (Kd.R_far (p := ⟨gb716, 5, none⟩) (Kd.R_far (p := ⟨gb716, 4, none⟩) (Kd.R_far (p := ⟨gb716, 3, none⟩) (Kd.R_far (p := ⟨gb716, 2, none⟩) (Kd.R_far (p := ⟨gb716, 1, none⟩) (Kd.R_far (p := ⟨gb716, 0, none⟩) (Kd.R_types HO702.out BK716.out (by decide)) (fun _ hk => hk.2) (.slice Ao23 t704.length co23)) (fun _ hk => hk.2) (.int .i64 t707)) (fun _ hk => hk.2) (.slice Ao26 t708.length co26)) (fun _ hk => hk.2) (.int .i64 t711)) (fun _ hk => hk.2) (.int .i64 t712)) (fun _ hk => hk.2) (.slice Ao27 t713.length co27)) (fun _ h_ => h_.1))) hb); have n3_ := Aside0.mk (Kd.R_below (by (with_reducible repeat (first | apply Kd.R_alloc | apply Kd.R_drewN | apply Kd.R_drew)); exact (Kd.R_mono (Kd.R_far (p := ⟨gb716, 5, none⟩) (Kd.R_far (p := ⟨gb716, 4, none⟩) (Kd.R_far (p := ⟨gb716, 3, none⟩) (Kd.R_far (p := ⟨gb716, 2, none⟩) (Kd.R_far (p := ⟨gb716, 1, none⟩) (Kd.R_far (p := ⟨gb716, 0, none⟩) (Kd.R_types HO706.out BK716.out (by decide)) (fun _ hk => hk.2) (.slice Ao23 t704.length co23)) (fun _ hk => hk.2) (.int .i64 t707)) (fun _ hk => hk.2) (.slice Ao26 t708.length co26)) (fun _ hk => hk.2) (.int .i64 t711)) (fun _ hk => hk.2) (.int .i64 t712)) (fun _ hk => hk.2) (.slice Ao27 t713.length co27)) (fun _ h_ => h_.1))) hb); have n4_ := Aside0.mk (Kd.R_below (by (with_reducible repeat (first | apply Kd.R_alloc | apply Kd.R_drewN | apply Kd.R_drew)); exact (Kd.R_mono (Kd.R_far (p := ⟨gb716, 5, none⟩) (Kd.R_far (p := ⟨gb716, 4, none⟩) (Kd.R_far (p := ⟨gb716, 3, none⟩) (Kd.R_far (p := ⟨gb716, 2, none⟩) (Kd.R_far (p := ⟨gb716, 1, none⟩) (Kd.R_far (p := ⟨gb716, 0, none⟩) (Kd.R_types HO710.out BK716.out (by decide)) (fun _ hk => hk.2) (.slice Ao23 t704.length co23)) (fun _ hk => hk.2) (.int .i64 t707)) (fun _ hk => hk.2) (.slice Ao26 t708.length co26)) (fun _ hk => hk.2) (.int .i64 t711)) (fun _ hk => hk.2) (.int .i64 t712)) (fun _ hk => hk.2) (.slice Ao27 t713.length co27)) (fun _ h_ => h_.1))) hb); have n5_ := Aside0.mk (Kd.R_below (by (with_reducible repeat (first | apply Kd.R_alloc | apply Kd.R_drewN | apply Kd.R_drew)); exact (Kd.R_mono (Kd.R_far (p := ⟨gb716, 5, none⟩) (Kd.R_far (p := ⟨gb716, 4, none⟩) (Kd.R_far (p := ⟨gb716, 3, none⟩) (Kd.R_far (p := ⟨gb716, 2, none⟩) (Kd.R_far (p := ⟨gb716, 1, none⟩) (Kd.R_far (p := ⟨gb716, 0, none⟩) (Kd.R_types HO715.out BK716.out (by decide)) (fun _ hk => hk.2) (.slice Ao23 t704.length co23)) (fun _ hk => hk.2) (.int .i64 t707)) (fun _ hk => hk.2) (.slice Ao26 t708.length co26)) (fun _ hk => hk.2) (.int .i64 t711)) (fun _ hk => hk.2) (.int .i64 t712)) (fun _ hk => hk.2) (.slice Ao27 t713.length co27)) (fun _ h_ => h_.1))) hb); have n6_ := Aside0.mk (blk_below (g := gb703) (o := .cells #[.slice Ao17 t691.length co17, .int .i64 t694, .slice Ao19 t695.length co19, .int .i64 t698, .int .i64 t699, .slice Ao20 t700.length co20] 36 (0, 0)) (by (with_reducible repeat (first | refine blk_drewN ?_ _ | refine blk_drew ?_ | refine blk_alloc ?_ _)); refine blk_far ?_ NB703_716.out _; (with_reducible repeat (first | refine blk_drewN ?_ _ | refine blk_drew ?_ | refine blk_alloc ?_ _)); refine blk_far ?_ NB703_716.out _; (with_reducible repeat (first | refine blk_drewN ?_ _ | refine blk_drew ?_ | refine blk_alloc ?_ _)); refine blk_far ?_ NB703_716.out _; (with_reducible repeat (first | refine blk_drewN ?_ _ | refine blk_drew ?_ | refine blk_alloc ?_ _)); refine blk_far ?_ NB703_716.out _; (with_reducible repeat (first | refine blk_drewN ?_ _ | refine blk_drew ?_ | refine blk_alloc ?_ _)); refine blk_far ?_ NB703_716.out _; (with_reducible repeat (first | refine blk_drewN ?_ _ | refine blk_drew ?_ | refine blk_alloc ?_ _)); refine blk_far ?_ NB703_716.out _; (with_reducible repeat (first | refine blk_drewN ?_ _ | refine blk_drew ?_ | refine blk_alloc ?_ _)); exact BK703.out) hb); have n7_ := Aside0.mk (blk_below (g := gb716) (o := .cells #[.slice Ao23 t704.length co23, .int .i64 t707, .slice Ao26 t708.length co26, .int .i64 t711, .int .i64 t712, .slice Ao27 t713.length co27] 36 (0, 0)) (by (with_reducible repeat (first | refine blk_drewN ?_ _ | refine blk_drew ?_ | refine blk_alloc ?_ _)); refine blk_put (cs := #[.slice Ao23 t704.length co23, .int .i64 t707, .slice Ao26 t708.length co26, .int .i64 t711, .int .i64 t712, .slice none 0 0]) ?_ 5 _ rfl; (with_reducible repeat (first | refine blk_drewN ?_ _ | refine blk_drew ?_ | refine blk_alloc ?_ _)); refine blk_put (cs := #[.slice Ao23 t704.length co23, .int .i64 t707, .slice Ao26 t708.length co26, .int .i64 t711, .int .i64 0, .slice none 0 0]) ?_ 4 _ rfl; (with_reducible repeat (first | refine blk_drewN ?_ _ | refine blk_drew ?_ | refine blk_alloc ?_ _)); refine blk_put (cs := #[.slice Ao23 t704.length co23, .int .i64 t707, .slice Ao26 t708.length co26, .int .i64 0, .int .i64 0, .slice none 0 0]) ?_ 3 _ rfl; (with_reducible repeat (first | refine blk_drewN ?_ _ | refine blk_drew ?_ | refine blk_alloc ?_ _)); refine blk_put (cs := #[.slice Ao23 t704.length co23, .int .i64 t707, .slice none 0 0, .int .i64 0, .int .i64 0, .slice none 0 0]) ?_ 2 _ rfl; (with_reducible repeat (first | refine blk_drewN ?_ _ | refine blk_drew ?_ | refine blk_alloc ?_ _)); refine blk_put (cs := #[.slice Ao23 t704.length co23, .int .i64 0, .slice none 0 0, .int .i64 0, .int .i64 0, .slice none 0 0]) ?_ 1 _ rfl; (with_reducible repeat (first | refine blk_drewN ?_ _ | refine blk_drew ?_ | refine blk_alloc ?_ _)); refine blk_put (cs := #[.slice none 0 0, .int .i64 0, .slice none 0 0, .int .i64 0, .int .i64 0, .slice none 0 0]) ?_ 0 _ rfl; (with_reducible repeat (first | refine blk_drewN ?_ _ | refine blk_drew ?_ | refine blk_alloc ?_ _)); exact BK716.out) hb); have n8_ := Aside0.mk (below_step (oB HB) hb); clear HO693; clear HO697; clear HO702; clear HO706; clear HO710; clear HO715; clear BK703; clear BK716; clear HB; have HO693 := n0_; have HO697 := n1_; have HO702 := n2_; have HO706 := n3_; have HO710 := n4_; have HO715 := n5_; have BK703 := n6_; have BK716 := n7_; have HB := n8_; clear n0_ n1_ n2_ n3_ n4_ n5_ n6_ n7_ n8_; (try clear hb); (try clear hb2); (try clear hk); (try clear hi); have hcz30_0 : w29.cell? ⟨gb716, 0, none⟩ = some (.slice Ao23 t704.length co23) := (blk_cell BK716.out 0).trans rfl; have hcz30_1 : w29.cell? ⟨gb716, 1, none⟩ = some (.int .i64 t707) := (blk_cell BK716.out 1).trans rfl; have hcz30_2 : w29.cell? ⟨gb716, 2, none⟩ = some (.slice Ao26 t708.length co26) := (blk_cell BK716.out 2).trans rfl; have hcz30_3 : w29.cell? ⟨gb716, 3, none⟩ = some (.int .i64 t711) := (blk_cell BK716.out 3).trans rfl; have hcz30_4 : w29.cell? ⟨gb716, 4, none⟩ = some (.int .i64 t712) := (blk_cell BK716.out 4).trans rfl; have hcz30_5 : w29.cell? ⟨gb716, 5, none⟩ = some (.slice Ao27 t713.length co27) := (blk_cell BK716.out 5).trans rfl; have hfz30_0 := blk_frozen BK716.out 0; have hfz30_1 := blk_frozen BK716.out 1; have hfz30_2 := blk_frozen BK716.out 2; have hfz30_3 := blk_frozen BK716.out 3; have hfz30_4 := blk_frozen BK716.out 4; have hfz30_5 := blk_frozen BK716.out 5) | ((with_reducible refine gate_callee (f := 28) rfl ?_); refine goesL_ (some 14) rfl rfl Try.func28 (by kernel_rfl) rfl #[.agg #[.slice Ao23 t704.length co23, .int .i64 t707, .slice Ao26 t708.length co26, .int .i64 t711, .int .i64 t712, .slice Ao27 t713.length co27], .int .i64 1] rfl (by (try simp only [List.map_toArray, List.map_cons, List.map_nil]); first | done | rfl | (simp only [List.length_drop, List.length_take]; rfl)) ?_; (with_reducible refine (laws_markShop.calls k (fun k_ => some k_ = (.slice Ao23 t704.length co23 : Value).ownBlock) (.slice Ao23 t704.length co23) t704 t707 (fun k_ => some k_ = (.slice Ao26 t708.length co26 : Value).ownBlock) (.slice Ao26 t708.length co26) t708 t711 t712 (fun k_ => some k_ = (.slice Ao27 t713.length co27 : Value).ownBlock) (.slice Ao27 t713.length co27) t713 1 t718 t719 t720 t721 w _ ?side1 ?side2 ?side3 ?side4 A5.out).mono ?_); (case side1 => repeat (first | (with_reducible first | exact HB.out | apply below_alloc | apply pw_below_drewN | apply below_drew1 | refine below_set ?_ GE703.out | refine below_set ?_ GE716.out) | exact HB.out)); (case side2 => exact Kd.R_tight rfl HO706.out); (case side3 => exact Kd.R_tight rfl HO710.out); (case side4 => exact Kd.R_tight rfl HO715.out); rintro e w31 ⟨rfl, hy0, hy1, hy2, hb, hkp⟩; refine ⟨_, rfl, ?_⟩; have n0_ := Aside0.mk (Kd.R_mono (ok' := fun k_ => some k_ ≠ (.slice Ao23 t704.length co23 : Value).ownBlock) (Kd.R_keptB ((Kd.R_apart' (Kd.R_apart' HO693.out (Kd.R_typed HO710.out) (by decide)) (Kd.R_typed HO715.out) (by decide))) hkp (fun k_ hk_ hs_ => Or.elim hs_ (fun e_ => (hk_.1.1.2) e_) (fun e_ => Or.elim e_ (fun e_ => (hk_.1.2) e_) (fun e_ => (hk_.2) e_)))) (fun k_ hk_ => hk_.1.1.1.2)); have n1_ := Aside0.mk (Kd.R_mono (ok' := fun k_ => some k_ ≠ (.slice Ao26 t708.length co26 : Value).ownBlock) (Kd.R_keptB ((Kd.R_apart' (Kd.R_apart' HO697.out (Kd.R_typed HO706.out) (by decide)) (Kd.R_typed HO715.out) (by decide))) hkp (fun k_ hk_ hs_ => Or.elim hs_ (fun e_ => (hk_.1.2) e_) (fun e_ => Or.elim e_ (fun e_ => (hk_.1.1.2) e_) (fun e_ => (hk_.2) e_)))) (fun k_ hk_ => hk_.1.1.1.2)); have n2_ := Aside0.mk (Kd.R_mono (ok' := fun k_ => some k_ ≠ (.slice Ao27 t713.length co27 : Value).ownBlock) (Kd.R_keptB ((Kd.R_apart' (Kd.R_apart' HO702.out (Kd.R_typed HO706.out) (by decide)) (Kd.R_typed HO710.out) (by decide))) hkp (fun k_ hk_ hs_ => Or.elim hs_ (fun e_ => (hk_.1.2) e_) (fun e_ => Or.elim e_ (fun e_ => (hk_.2) e_) (fun e_ => (hk_.1.1.2) e_)))) (fun k_ hk_ => hk_.1.1.1.2)); have n3_ := Aside0.mk (blk_kept (oK BK703) hkp (fun hs_ => Or.elim hs_ (fun e_ => (fun e_ => (Kd.R_ne HO706.out BK703.out (by decide)) e_) e_) (fun e_ => Or.elim e_ (fun e_ => (fun e_ => (Kd.R_ne HO710.out BK703.out (by decide)) e_) e_) (fun e_ => (fun e_ => (Kd.R_ne HO715.out BK703.out (by decide)) e_) e_)))); have n4_ := Aside0.mk (Kd.R_reok rfl hy0 (fun k_ e_ => HO706.out.1 k_ e_)); have n5_ := Aside0.mk (Kd.R_reok rfl hy1 (fun k_ e_ => HO710.out.1 k_ e_)); have n6_ := Aside0.mk (Kd.R_reok rfl hy2 (fun k_ e_ => HO715.out.1 k_ e_)); have n7_ := Aside0.mk (blk_kept (oK BK716) hkp (fun hs_ => Or.elim hs_ (fun e_ => (fun e_ => (Kd.R_ne HO706.out BK716.out (by decide)) e_) e_) (fun e_ => Or.elim e_ (fun e_ => (fun e_ => (Kd.R_ne HO710.out BK716.out (by decide)) e_) e_) (fun e_ => (fun e_ => (Kd.R_ne HO715.out BK716.out (by decide)) e_) e_)))); have n8_ := Aside0.mk (hb); clear HO693; clear HO697; clear HO702; clear BK703; clear HO706; clear HO710; clear HO715; clear BK716; clear HB; have HO693 := n0_; have HO697 := n1_; have HO702 := n2_; have BK703 := n3_; have HO706 := n4_; have HO710 := n5_; have HO715 := n6_; have BK716 := n7_; have HB := n8_; clear n0_ n1_ n2_ n3_ n4_ n5_ n6_ n7_ n8_; (try clear hb); (try clear hkp); (try clear hy0); (try clear hy1); (try clear hy2); have hcz32_0 : w31.cell? ⟨gb716, 0, none⟩ = some (.slice Ao23 t704.length co23) := (blk_cell BK716.out 0).trans rfl; have hcz32_1 : w31.cell? ⟨gb716, 1, none⟩ = some (.int .i64 t707) := (blk_cell BK716.out 1).trans rfl; have hcz32_2 : w31.cell? ⟨gb716, 2, none⟩ = some (.slice Ao26 t708.length co26) := (blk_cell BK716.out 2).trans rfl; have hcz32_3 : w31.cell? ⟨gb716, 3, none⟩ = some (.int .i64 t711) := (blk_cell BK716.out 3).trans rfl; have hcz32_4 : w31.cell? ⟨gb716, 4, none⟩ = some (.int .i64 t712) := (blk_cell BK716.out 4).trans rfl; have hcz32_5 : w31.cell? ⟨gb716, 5, none⟩ = some (.slice Ao27 t713.length co27) := (blk_cell BK716.out 5).trans rfl; have hfz32_0 := blk_frozen BK716.out 0; have hfz32_1 := blk_frozen BK716.out 1; have hfz32_2 := blk_frozen BK716.out 2; have hfz32_3 := blk_frozen BK716.out 3; have hfz32_4 := blk_frozen BK716.out 4; have hfz32_5 := blk_frozen BK716.out 5) | ((with_reducible refine gate_callee (f := 29) rfl ?_); refine goesL_ (some 17) rfl rfl Try.func29 (by kernel_rfl) rfl #[.agg #[.slice Ao23 t719.length co23, .int .i64 t707, .slice Ao26 t720.length co26, .int .i64 t711, .int .i64 t712, .slice Ao27 t721.length co27], .int .i64 1] rfl (by (try simp only [List.map_toArray, List.map_cons, List.map_nil]); first | done | (rw [show t719.length = t704.length from (Kd.R_reads' HO706.out).1.symm, show t720.length = t708.length from (Kd.R_reads' HO710.out).1.symm, show t721.length = t713.length from (Kd.R_reads' HO715.out).1.symm] <;> rfl) | rfl | (simp only [List.length_drop, List.length_take]; rfl)) ?_; (with_reducible refine (laws_heldShop.calls k _ _ t719 t707 _ _ t720 t711 t712 _ _ t721 1 t722 _ ?side1 ?side2 ?side3 ?side4 ?side5 ?side6 A6.out).mono ?_); (case side1 => repeat (first | exact (Kd.R_reads' HO706.out).2.2 | (with_reducible refine Kd.C_alloc ?_ _) | (with_reducible refine Kd.C_drewN ?_ _) | (with_reducible refine Kd.C_drew ?_))); (case side2 => rw [show t719.length = t704.length from (Kd.R_reads' HO706.out).1.symm]; exact (Kd.R_reads' HO706.out).2.1); (case side3 => repeat (first | exact (Kd.R_reads' HO710.out).2.2 | (with_reducible refine Kd.C_alloc ?_ _) | (with_reducible refine Kd.C_drewN ?_ _) | (with_reducible refine Kd.C_drew ?_))); (case side4 => rw [show t720.length = t708.length from (Kd.R_reads' HO710.out).1.symm]; exact (Kd.R_reads' HO710.out).2.1); (case side5 => repeat (first | exact (Kd.R_reads' HO715.out).2.2 | (with_reducible refine Kd.C_alloc ?_ _) | (with_reducible refine Kd.C_drewN ?_ _) | (with_reducible refine Kd.C_drew ?_))); (case side6 => rw [show t721.length = t713.length from (Kd.R_reads' HO715.out).1.symm]; exact (Kd.R_reads' HO715.out).2.1); rintro e w33 ⟨rfl, hb⟩; refine ⟨_, rfl, ?_⟩; have n0_ := Aside0.mk (Kd.R_below (oR HO693) hb); have n1_ := Aside0.mk (Kd.R_below (oR HO697) hb); have n2_ := Aside0.mk (Kd.R_below (oR HO702) hb); have n3_ := Aside0.mk (Kd.R_below (oR HO706) hb); have n4_ := Aside0.mk (Kd.R_below (oR HO710) hb); have n5_ := Aside0.mk (Kd.R_below (oR HO715) hb); have n6_ := Aside0.mk (blk_below (g := gb703) (o := .cells #[.slice Ao17 t691.length co17, .int .i64 t694, .slice Ao19 t695.length co19, .int .i64 t698, .int .i64 t699, .slice Ao20 t700.length co20] 36 (0, 0)) (oK BK703) hb); have n7_ := Aside0.mk (blk_below (g := gb716) (o := .cells #[.slice Ao23 t704.length co23, .int .i64 t707, .slice Ao26 t708.length co26, .int .i64 t711, .int .i64 t712, .slice Ao27 t713.length co27] 36 (0, 0)) (oK BK716) hb); have n8_ := Aside0.mk (below_step (oB HB) hb); clear HO693; clear HO697; clear HO702; clear HO706; clear HO710; clear HO715; clear BK703; clear BK716; clear HB; have HO693 := n0_; have HO697 := n1_; have HO702 := n2_; have HO706 := n3_; have HO710 := n4_; have HO715 := n5_; have BK703 := n6_; have BK716 := n7_; have HB := n8_; clear n0_ n1_ n2_ n3_ n4_ n5_ n6_ n7_ n8_; (try clear hb); (try clear hb2); (try clear hk); (try clear hi)) | ((with_reducible refine gate_callee (f := 33) rfl ?_); refine goesL_ (some 23) rfl rfl Try.func33 (by kernel_rfl) rfl #[] rfl (by (try simp only [List.map_toArray, List.map_cons, List.map_nil]); first | done | rfl | (simp only [List.length_drop, List.length_take]; rfl)) ?_; (with_reducible refine (impl_SampleShop.calls k  t723 t726 t727 t730 t731 t732 _ A9.out).mono ?_); rintro e w34 ⟨v724, v728, v733, rfl, ho0, ho1, ho2, hb⟩; refine ⟨_, rfl, ?_⟩; have n0_ := Aside0.mk (Kd.R_elder' (oR HO693) (Kd.R_base ho0) hb); have n1_ := Aside0.mk (Kd.R_elder' (oR HO697) (Kd.R_base ho1) hb); have n2_ := Aside0.mk (Kd.R_elder' (oR HO702) (Kd.R_base ho2) hb); have n3_ := Aside0.mk (Kd.R_elder' (oR HO706) (Kd.R_base ho0) hb); have n4_ := Aside0.mk (Kd.R_elder' (oR HO710) (Kd.R_base ho1) hb); have n5_ := Aside0.mk (Kd.R_elder' (oR HO715) (Kd.R_base ho2) hb); have n6_ := Aside0.mk (Kd.R_lower (Kd.R_new' (Kd.R_new' ho0 (Kd.R_lt (oR HO693))) (Kd.R_lt (oR HO706))) (below_size (oB HB))); have n7_ := Aside0.mk (Kd.R_lower (Kd.R_new' (Kd.R_new' ho1 (Kd.R_lt (oR HO697))) (Kd.R_lt (oR HO710))) (below_size (oB HB))); have n8_ := Aside0.mk (Kd.R_lower (Kd.R_new' (Kd.R_new' ho2 (Kd.R_lt (oR HO702))) (Kd.R_lt (oR HO715))) (below_size (oB HB))); have n9_ := Aside0.mk (blk_below (g := gb703) (o := .cells #[.slice Ao17 t691.length co17, .int .i64 t694, .slice Ao19 t695.length co19, .int .i64 t698, .int .i64 t699, .slice Ao20 t700.length co20] 36 (0, 0)) (oK BK703) hb); have n10_ := Aside0.mk (blk_below (g := gb716) (o := .cells #[.slice Ao23 t704.length co23, .int .i64 t707, .slice Ao26 t708.length co26, .int .i64 t711, .int .i64 t712, .slice Ao27 t713.length co27] 36 (0, 0)) (oK BK716) hb); have n11_ := Aside0.mk (below_step (oB HB) hb); clear HO693; clear HO697; clear HO702; clear HO706; clear HO710; clear HO715; clear BK703; clear BK716; clear HB; have HO693 := n0_; have HO697 := n1_; have HO702 := n2_; have HO706 := n3_; have HO710 := n4_; have HO715 := n5_; have HO725 := n6_; have HO729 := n7_; have HO734 := n8_; have BK703 := n9_; have BK716 := n10_; have HB := n11_; clear n0_ n1_ n2_ n3_ n4_ n5_ n6_ n7_ n8_ n9_ n10_ n11_; (try clear hb); (try clear hb2); (try clear hk); (try clear hi); (try clear ho0); (try clear ho1); (try clear ho2)) | ((with_reducible refine gate_dst (N := 5) rfl ?_); refine box_event ?hg (N := 5) ?hd (cs := #[.slice none 0 0, .int .i64 0, .slice none 0 0, .int .i64 0, .int .i64 0, .slice none 0 0]) (t := 36) ?hr ?_; (case hd => rfl); (case hg => rfl); (case hr => first | (go_simp; done) | (go_simp; rfl)); intro gb735 hg w35 hbox hb; have n0_ := Aside0.mk (Kd.R_below (oR HO693) hb); have n1_ := Aside0.mk (Kd.R_below (oR HO697) hb); have n2_ := Aside0.mk (Kd.R_below (oR HO702) hb); have n3_ := Aside0.mk (Kd.R_below (oR HO706) hb); have n4_ := Aside0.mk (Kd.R_below (oR HO710) hb); have n5_ := Aside0.mk (Kd.R_below (oR HO715) hb); have n6_ := Aside0.mk (Kd.R_below (oR HO725) hb); have n7_ := Aside0.mk (Kd.R_below (oR HO729) hb); have n8_ := Aside0.mk (Kd.R_below (oR HO734) hb); have n9_ := Aside0.mk (blk_below (g := gb703) (o := .cells #[.slice Ao17 t691.length co17, .int .i64 t694, .slice Ao19 t695.length co19, .int .i64 t698, .int .i64 t699, .slice Ao20 t700.length co20] 36 (0, 0)) (oK BK703) hb); have n10_ := Aside0.mk (blk_below (g := gb716) (o := .cells #[.slice Ao23 t704.length co23, .int .i64 t707, .slice Ao26 t708.length co26, .int .i64 t711, .int .i64 t712, .slice Ao27 t713.length co27] 36 (0, 0)) (oK BK716) hb); have n11_ := Aside0.mk (below_step (oB HB) hb); have n12_ := Aside0.mk (hbox); have n13_ := Aside0.mk ((by rw [hg]; exact (below_size (oB HB)) : w.heap.size ≤ gb735)); have n14_ := Aside0.mk ((by rw [hg]; exact (below_size (oB HB)) : w.heap.size ≤ gb735)); have n15_ := Aside0.mk ((by rw [hg]; exact Nat.ne_of_lt (blk_lt (g := gb703) (o := .cells #[.slice Ao17 t691.length co17, .int .i64 t694, .slice Ao19 t695.length co19, .int .i64 t698, .int .i64 t699, .slice Ao20 t700.length co20] 36 (0, 0)) (oK BK703)) : gb703 ≠ gb735)); have n16_ := Aside0.mk ((by rw [hg]; exact Nat.ne_of_gt (blk_lt (g := gb703) (o := .cells #[.slice Ao17 t691.length co17, .int .i64 t694, .slice Ao19 t695.length co19, .int .i64 t698, .int .i64 t699, .slice Ao20 t700.length co20] 36 (0, 0)) (oK BK703)) : gb735 ≠ gb703)); have n17_ := Aside0.mk ((by rw [hg]; exact Nat.ne_of_lt (blk_lt (g := gb716) (o := .cells #[.slice Ao23 t704.length co23, .int .i64 t707, .slice Ao26 t708.length co26, .int .i64 t711, .int .i64 t712, .slice Ao27 t713.length co27] 36 (0, 0)) (oK BK716)) : gb716 ≠ gb735)); have n18_ := Aside0.mk ((by rw [hg]; exact Nat.ne_of_gt (blk_lt (g := gb716) (o := .cells #[.slice Ao23 t704.length co23, .int .i64 t707, .slice Ao26 t708.length co26, .int .i64 t711, .int .i64 t712, .slice Ao27 t713.length co27] 36 (0, 0)) (oK BK716)) : gb735 ≠ gb716)); clear HO693; clear HO697; clear HO702; clear HO706; clear HO710; clear HO715; clear HO725; clear HO729; clear HO734; clear BK703; clear BK716; clear HB; have HO693 := n0_; have HO697 := n1_; have HO702 := n2_; have HO706 := n3_; have HO710 := n4_; have HO715 := n5_; have HO725 := n6_; have HO729 := n7_; have HO734 := n8_; have BK703 := n9_; have BK716 := n10_; have HB := n11_; have BK735 := n12_; have GW735 := n13_; have GE735 := n14_; have NB703_735 := n15_; have NB735_703 := n16_; have NB716_735 := n17_; have NB735_716 := n18_; clear n0_ n1_ n2_ n3_ n4_ n5_ n6_ n7_ n8_ n9_ n10_ n11_ n12_ n13_ n14_ n15_ n16_ n17_ n18_; clear hb hbox hg; obtain ⟨Ao36, co36, eo36⟩ := Kd.R_slice HO725.out; subst eo36; have hnb37 := NB735_703.out; have hnc37 := NB703_735.out; have hnb38 := NB735_716.out; have hnc38 := NB716_735.out; have hcz39_0 : w35.cell? ⟨gb735, 0, none⟩ = some (.slice none 0 0) := (blk_cell BK735.out 0).trans rfl; have hcz39_1 : w35.cell? ⟨gb735, 1, none⟩ = some (.int .i64 0) := (blk_cell BK735.out 1).trans rfl; have hcz39_2 : w35.cell? ⟨gb735, 2, none⟩ = some (.slice none 0 0) := (blk_cell BK735.out 2).trans rfl; have hcz39_3 : w35.cell? ⟨gb735, 3, none⟩ = some (.int .i64 0) := (blk_cell BK735.out 3).trans rfl; have hcz39_4 : w35.cell? ⟨gb735, 4, none⟩ = some (.int .i64 0) := (blk_cell BK735.out 4).trans rfl; have hcz39_5 : w35.cell? ⟨gb735, 5, none⟩ = some (.slice none 0 0) := (blk_cell BK735.out 5).trans rfl; have hfz39_0 := blk_frozen BK735.out 0; have hfz39_1 := blk_frozen BK735.out 1; have hfz39_2 := blk_frozen BK735.out 2; have hfz39_3 := blk_frozen BK735.out 3; have hfz39_4 := blk_frozen BK735.out 4; have hfz39_5 := blk_frozen BK735.out 5; obtain ⟨Ao40, co40, eo40⟩ := Kd.R_slice HO729.out; subst eo40; obtain ⟨Ao41, co41, eo41⟩ := Kd.R_slice HO734.out; subst eo41; have hcz42_0 : w35.cell? ⟨gb703, 0, none⟩ = some (.slice Ao17 t691.length co17) := (blk_cell BK703.out 0).trans rfl; have hcz42_1 : w35.cell? ⟨gb703, 1, none⟩ = some (.int .i64 t694) := (blk_cell BK703.out 1).trans rfl; have hcz42_2 : w35.cell? ⟨gb703, 2, none⟩ = some (.slice Ao19 t695.length co19) := (blk_cell BK703.out 2).trans rfl; have hcz42_3 : w35.cell? ⟨gb703, 3, none⟩ = some (.int .i64 t698) := (blk_cell BK703.out 3).trans rfl; have hcz42_4 : w35.cell? ⟨gb703, 4, none⟩ = some (.int .i64 t699) := (blk_cell BK703.out 4).trans rfl; have hcz42_5 : w35.cell? ⟨gb703, 5, none⟩ = some (.slice Ao20 t700.length co20) := (blk_cell BK703.out 5).trans rfl; have hfz42_0 := blk_frozen BK703.out 0; have hfz42_1 := blk_frozen BK703.out 1; have hfz42_2 := blk_frozen BK703.out 2; have hfz42_3 := blk_frozen BK703.out 3; have hfz42_4 := blk_frozen BK703.out 4; have hfz42_5 := blk_frozen BK703.out 5) | ((with_reducible refine gate_callee (f := 19) rfl ?_); refine goesL_ (some 26) rfl rfl Try.func19 (by kernel_rfl) rfl #[.agg #[.slice Ao36 t723.length co36, .int .i64 t726, .slice Ao40 t727.length co40, .int .i64 t730, .int .i64 t731, .slice Ao41 t732.length co41], .agg #[.slice Ao17 t691.length co17, .int .i64 t694, .slice Ao19 t695.length co19, .int .i64 t698, .int .i64 t699, .slice Ao20 t700.length co20]] rfl (by (try simp only [List.map_toArray, List.map_cons, List.map_nil]); first | done | rfl | (simp only [List.length_drop, List.length_take]; rfl)) ?_; (with_reducible refine (laws_eqShop.calls k _ _ t723 t726 _ _ t727 t730 t731 _ _ t732 _ _ t691 t694 _ _ t695 t698 t699 _ _ t700 true _ ?side1 ?side2 ?side3 ?side4 ?side5 ?side6 ?side7 ?side8 ?side9 ?side10 ?side11 ?side12 A10.out).mono ?_); (case side1 => refine (Kd.R_reads' (e := 96) (base := w.heap.size) (ok := fun k_ => ((True ∧ some k_ ≠ (.slice Ao17 t691.length co17 : Value).ownBlock) ∧ some k_ ≠ (.slice Ao23 t704.length co23 : Value).ownBlock)) (n := t723.length) (c := co36) ?_).2.2; exact (by (with_reducible repeat (first | apply Kd.R_alloc | apply Kd.R_drewN | apply Kd.R_drew)); exact (Kd.R_mono (Kd.R_far (p := ⟨gb735, 5, none⟩) (Kd.R_far (p := ⟨gb735, 4, none⟩) (Kd.R_far (p := ⟨gb735, 3, none⟩) (Kd.R_far (p := ⟨gb735, 2, none⟩) (Kd.R_far (p := ⟨gb735, 1, none⟩) (Kd.R_far (p := ⟨gb735, 0, none⟩) (Kd.R_types HO725.out BK735.out (by decide)) (fun _ hk => hk.2) (.slice Ao36 t723.length co36)) (fun _ hk => hk.2) (.int .i64 t726)) (fun _ hk => hk.2) (.slice Ao40 t727.length co40)) (fun _ hk => hk.2) (.int .i64 t730)) (fun _ hk => hk.2) (.int .i64 t731)) (fun _ hk => hk.2) (.slice Ao41 t732.length co41)) (fun _ h_ => h_.1)))); (case side2 => exact (Kd.R_reads' HO725.out).2.1); (case side3 => refine (Kd.R_reads' (e := 3) (base := w.heap.size) (ok := fun k_ => ((True ∧ some k_ ≠ (.slice Ao19 t695.length co19 : Value).ownBlock) ∧ some k_ ≠ (.slice Ao26 t708.length co26 : Value).ownBlock)) (n := t727.length) (c := co40) ?_).2.2; exact (by (with_reducible repeat (first | apply Kd.R_alloc | apply Kd.R_drewN | apply Kd.R_drew)); exact (Kd.R_mono (Kd.R_far (p := ⟨gb735, 5, none⟩) (Kd.R_far (p := ⟨gb735, 4, none⟩) (Kd.R_far (p := ⟨gb735, 3, none⟩) (Kd.R_far (p := ⟨gb735, 2, none⟩) (Kd.R_far (p := ⟨gb735, 1, none⟩) (Kd.R_far (p := ⟨gb735, 0, none⟩) (Kd.R_types HO729.out BK735.out (by decide)) (fun _ hk => hk.2) (.slice Ao36 t723.length co36)) (fun _ hk => hk.2) (.int .i64 t726)) (fun _ hk => hk.2) (.slice Ao40 t727.length co40)) (fun _ hk => hk.2) (.int .i64 t730)) (fun _ hk => hk.2) (.int .i64 t731)) (fun _ hk => hk.2) (.slice Ao41 t732.length co41)) (fun _ h_ => h_.1)))); (case side4 => exact (Kd.R_reads' HO729.out).2.1); (case side5 => refine (Kd.R_reads' (e := 74) (base := w.heap.size) (ok := fun k_ => ((True ∧ some k_ ≠ (.slice Ao20 t700.length co20 : Value).ownBlock) ∧ some k_ ≠ (.slice Ao27 t713.length co27 : Value).ownBlock)) (n := t732.length) (c := co41) ?_).2.2; exact (by (with_reducible repeat (first | apply Kd.R_alloc | apply Kd.R_drewN | apply Kd.R_drew)); exact (Kd.R_mono (Kd.R_far (p := ⟨gb735, 5, none⟩) (Kd.R_far (p := ⟨gb735, 4, none⟩) (Kd.R_far (p := ⟨gb735, 3, none⟩) (Kd.R_far (p := ⟨gb735, 2, none⟩) (Kd.R_far (p := ⟨gb735, 1, none⟩) (Kd.R_far (p := ⟨gb735, 0, none⟩) (Kd.R_types HO734.out BK735.out (by decide)) (fun _ hk => hk.2) (.slice Ao36 t723.length co36)) (fun _ hk => hk.2) (.int .i64 t726)) (fun _ hk => hk.2) (.slice Ao40 t727.length co40)) (fun _ hk => hk.2) (.int .i64 t730)) (fun _ hk => hk.2) (.int .i64 t731)) (fun _ hk => hk.2) (.slice Ao41 t732.length co41)) (fun _ h_ => h_.1)))); (case side6 => exact (Kd.R_reads' HO734.out).2.1); (case side7 => refine (Kd.R_reads' (e := 96) (base := w.heap.size) (ok := fun k_ => (some k_ ≠ (.slice Ao23 t704.length co23 : Value).ownBlock ∧ some k_ ≠ (.slice Ao36 t723.length co36 : Value).ownBlock)) (n := t691.length) (c := co17) ?_).2.2; exact (by (with_reducible repeat (first | apply Kd.R_alloc | apply Kd.R_drewN | apply Kd.R_drew)); exact (Kd.R_mono (Kd.R_far (p := ⟨gb735, 5, none⟩) (Kd.R_far (p := ⟨gb735, 4, none⟩) (Kd.R_far (p := ⟨gb735, 3, none⟩) (Kd.R_far (p := ⟨gb735, 2, none⟩) (Kd.R_far (p := ⟨gb735, 1, none⟩) (Kd.R_far (p := ⟨gb735, 0, none⟩) (Kd.R_types HO693.out BK735.out (by decide)) (fun _ hk => hk.2) (.slice Ao36 t723.length co36)) (fun _ hk => hk.2) (.int .i64 t726)) (fun _ hk => hk.2) (.slice Ao40 t727.length co40)) (fun _ hk => hk.2) (.int .i64 t730)) (fun _ hk => hk.2) (.int .i64 t731)) (fun _ hk => hk.2) (.slice Ao41 t732.length co41)) (fun _ h_ => h_.1)))); (case side8 => exact (Kd.R_reads' HO693.out).2.1); (case side9 => refine (Kd.R_reads' (e := 3) (base := w.heap.size) (ok := fun k_ => (some k_ ≠ (.slice Ao26 t708.length co26 : Value).ownBlock ∧ some k_ ≠ (.slice Ao40 t727.length co40 : Value).ownBlock)) (n := t695.length) (c := co19) ?_).2.2; exact (by (with_reducible repeat (first | apply Kd.R_alloc | apply Kd.R_drewN | apply Kd.R_drew)); exact (Kd.R_mono (Kd.R_far (p := ⟨gb735, 5, none⟩) (Kd.R_far (p := ⟨gb735, 4, none⟩) (Kd.R_far (p := ⟨gb735, 3, none⟩) (Kd.R_far (p := ⟨gb735, 2, none⟩) (Kd.R_far (p := ⟨gb735, 1, none⟩) (Kd.R_far (p := ⟨gb735, 0, none⟩) (Kd.R_types HO697.out BK735.out (by decide)) (fun _ hk => hk.2) (.slice Ao36 t723.length co36)) (fun _ hk => hk.2) (.int .i64 t726)) (fun _ hk => hk.2) (.slice Ao40 t727.length co40)) (fun _ hk => hk.2) (.int .i64 t730)) (fun _ hk => hk.2) (.int .i64 t731)) (fun _ hk => hk.2) (.slice Ao41 t732.length co41)) (fun _ h_ => h_.1)))); (case side10 => exact (Kd.R_reads' HO697.out).2.1); (case side11 => refine (Kd.R_reads' (e := 74) (base := w.heap.size) (ok := fun k_ => (some k_ ≠ (.slice Ao27 t713.length co27 : Value).ownBlock ∧ some k_ ≠ (.slice Ao41 t732.length co41 : Value).ownBlock)) (n := t700.length) (c := co20) ?_).2.2; exact (by (with_reducible repeat (first | apply Kd.R_alloc | apply Kd.R_drewN | apply Kd.R_drew)); exact (Kd.R_mono (Kd.R_far (p := ⟨gb735, 5, none⟩) (Kd.R_far (p := ⟨gb735, 4, none⟩) (Kd.R_far (p := ⟨gb735, 3, none⟩) (Kd.R_far (p := ⟨gb735, 2, none⟩) (Kd.R_far (p := ⟨gb735, 1, none⟩) (Kd.R_far (p := ⟨gb735, 0, none⟩) (Kd.R_types HO702.out BK735.out (by decide)) (fun _ hk => hk.2) (.slice Ao36 t723.length co36)) (fun _ hk => hk.2) (.int .i64 t726)) (fun _ hk => hk.2) (.slice Ao40 t727.length co40)) (fun _ hk => hk.2) (.int .i64 t730)) (fun _ hk => hk.2) (.int .i64 t731)) (fun _ hk => hk.2) (.slice Ao41 t732.length co41)) (fun _ h_ => h_.1)))); (case side12 => exact (Kd.R_reads' HO702.out).2.1); rintro e w43 ⟨rfl, hb⟩; refine ⟨_, rfl, ?_⟩; have n0_ := Aside0.mk (Kd.R_below (by (with_reducible repeat (first | apply Kd.R_alloc | apply Kd.R_drewN | apply Kd.R_drew)); exact (Kd.R_mono (Kd.R_far (p := ⟨gb735, 5, none⟩) (Kd.R_far (p := ⟨gb735, 4, none⟩) (Kd.R_far (p := ⟨gb735, 3, none⟩) (Kd.R_far (p := ⟨gb735, 2, none⟩) (Kd.R_far (p := ⟨gb735, 1, none⟩) (Kd.R_far (p := ⟨gb735, 0, none⟩) (Kd.R_types HO693.out BK735.out (by decide)) (fun _ hk => hk.2) (.slice Ao36 t723.length co36)) (fun _ hk => hk.2) (.int .i64 t726)) (fun _ hk => hk.2) (.slice Ao40 t727.length co40)) (fun _ hk => hk.2) (.int .i64 t730)) (fun _ hk => hk.2) (.int .i64 t731)) (fun _ hk => hk.2) (.slice Ao41 t732.length co41)) (fun _ h_ => h_.1))) hb); have n1_ := Aside0.mk (Kd.R_below (by (with_reducible repeat (first | apply Kd.R_alloc | apply Kd.R_drewN | apply Kd.R_drew)); exact (Kd.R_mono (Kd.R_far (p := ⟨gb735, 5, none⟩) (Kd.R_far (p := ⟨gb735, 4, none⟩) (Kd.R_far (p := ⟨gb735, 3, none⟩) (Kd.R_far (p := ⟨gb735, 2, none⟩) (Kd.R_far (p := ⟨gb735, 1, none⟩) (Kd.R_far (p := ⟨gb735, 0, none⟩) (Kd.R_types HO697.out BK735.out (by decide)) (fun _ hk => hk.2) (.slice Ao36 t723.length co36)) (fun _ hk => hk.2) (.int .i64 t726)) (fun _ hk => hk.2) (.slice Ao40 t727.length co40)) (fun _ hk => hk.2) (.int .i64 t730)) (fun _ hk => hk.2) (.int .i64 t731)) (fun _ hk => hk.2) (.slice Ao41 t732.length co41)) (fun _ h_ => h_.1))) hb); have n2_ := Aside0.mk (Kd.R_below (by (with_reducible repeat (first | apply Kd.R_alloc | apply Kd.R_drewN | apply Kd.R_drew)); exact (Kd.R_mono (Kd.R_far (p := ⟨gb735, 5, none⟩) (Kd.R_far (p := ⟨gb735, 4, none⟩) (Kd.R_far (p := ⟨gb735, 3, none⟩) (Kd.R_far (p := ⟨gb735, 2, none⟩) (Kd.R_far (p := ⟨gb735, 1, none⟩) (Kd.R_far (p := ⟨gb735, 0, none⟩) (Kd.R_types HO702.out BK735.out (by decide)) (fun _ hk => hk.2) (.slice Ao36 t723.length co36)) (fun _ hk => hk.2) (.int .i64 t726)) (fun _ hk => hk.2) (.slice Ao40 t727.length co40)) (fun _ hk => hk.2) (.int .i64 t730)) (fun _ hk => hk.2) (.int .i64 t731)) (fun _ hk => hk.2) (.slice Ao41 t732.length co41)) (fun _ h_ => h_.1))) hb); have n3_ := Aside0.mk (Kd.R_below (by (with_reducible repeat (first | apply Kd.R_alloc | apply Kd.R_drewN | apply Kd.R_drew)); exact (Kd.R_mono (Kd.R_far (p := ⟨gb735, 5, none⟩) (Kd.R_far (p := ⟨gb735, 4, none⟩) (Kd.R_far (p := ⟨gb735, 3, none⟩) (Kd.R_far (p := ⟨gb735, 2, none⟩) (Kd.R_far (p := ⟨gb735, 1, none⟩) (Kd.R_far (p := ⟨gb735, 0, none⟩) (Kd.R_types HO706.out BK735.out (by decide)) (fun _ hk => hk.2) (.slice Ao36 t723.length co36)) (fun _ hk => hk.2) (.int .i64 t726)) (fun _ hk => hk.2) (.slice Ao40 t727.length co40)) (fun _ hk => hk.2) (.int .i64 t730)) (fun _ hk => hk.2) (.int .i64 t731)) (fun _ hk => hk.2) (.slice Ao41 t732.length co41)) (fun _ h_ => h_.1))) hb); have n4_ := Aside0.mk (Kd.R_below (by (with_reducible repeat (first | apply Kd.R_alloc | apply Kd.R_drewN | apply Kd.R_drew)); exact (Kd.R_mono (Kd.R_far (p := ⟨gb735, 5, none⟩) (Kd.R_far (p := ⟨gb735, 4, none⟩) (Kd.R_far (p := ⟨gb735, 3, none⟩) (Kd.R_far (p := ⟨gb735, 2, none⟩) (Kd.R_far (p := ⟨gb735, 1, none⟩) (Kd.R_far (p := ⟨gb735, 0, none⟩) (Kd.R_types HO710.out BK735.out (by decide)) (fun _ hk => hk.2) (.slice Ao36 t723.length co36)) (fun _ hk => hk.2) (.int .i64 t726)) (fun _ hk => hk.2) (.slice Ao40 t727.length co40)) (fun _ hk => hk.2) (.int .i64 t730)) (fun _ hk => hk.2) (.int .i64 t731)) (fun _ hk => hk.2) (.slice Ao41 t732.length co41)) (fun _ h_ => h_.1))) hb); have n5_ := Aside0.mk (Kd.R_below (by (with_reducible repeat (first | apply Kd.R_alloc | apply Kd.R_drewN | apply Kd.R_drew)); exact (Kd.R_mono (Kd.R_far (p := ⟨gb735, 5, none⟩) (Kd.R_far (p := ⟨gb735, 4, none⟩) (Kd.R_far (p := ⟨gb735, 3, none⟩) (Kd.R_far (p := ⟨gb735, 2, none⟩) (Kd.R_far (p := ⟨gb735, 1, none⟩) (Kd.R_far (p := ⟨gb735, 0, none⟩) (Kd.R_types HO715.out BK735.out (by decide)) (fun _ hk => hk.2) (.slice Ao36 t723.length co36)) (fun _ hk => hk.2) (.int .i64 t726)) (fun _ hk => hk.2) (.slice Ao40 t727.length co40)) (fun _ hk => hk.2) (.int .i64 t730)) (fun _ hk => hk.2) (.int .i64 t731)) (fun _ hk => hk.2) (.slice Ao41 t732.length co41)) (fun _ h_ => h_.1))) hb); have n6_ := Aside0.mk (Kd.R_below (by (with_reducible repeat (first | apply Kd.R_alloc | apply Kd.R_drewN | apply Kd.R_drew)); exact (Kd.R_mono (Kd.R_far (p := ⟨gb735, 5, none⟩) (Kd.R_far (p := ⟨gb735, 4, none⟩) (Kd.R_far (p := ⟨gb735, 3, none⟩) (Kd.R_far (p := ⟨gb735, 2, none⟩) (Kd.R_far (p := ⟨gb735, 1, none⟩) (Kd.R_far (p := ⟨gb735, 0, none⟩) (Kd.R_types HO725.out BK735.out (by decide)) (fun _ hk => hk.2) (.slice Ao36 t723.length co36)) (fun _ hk => hk.2) (.int .i64 t726)) (fun _ hk => hk.2) (.slice Ao40 t727.length co40)) (fun _ hk => hk.2) (.int .i64 t730)) (fun _ hk => hk.2) (.int .i64 t731)) (fun _ hk => hk.2) (.slice Ao41 t732.length co41)) (fun _ h_ => h_.1))) hb); have n7_ := Aside0.mk (Kd.R_below (by (with_reducible repeat (first | apply Kd.R_alloc | apply Kd.R_drewN | apply Kd.R_drew)); exact (Kd.R_mono (Kd.R_far (p := ⟨gb735, 5, none⟩) (Kd.R_far (p := ⟨gb735, 4, none⟩) (Kd.R_far (p := ⟨gb735, 3, none⟩) (Kd.R_far (p := ⟨gb735, 2, none⟩) (Kd.R_far (p := ⟨gb735, 1, none⟩) (Kd.R_far (p := ⟨gb735, 0, none⟩) (Kd.R_types HO729.out BK735.out (by decide)) (fun _ hk => hk.2) (.slice Ao36 t723.length co36)) (fun _ hk => hk.2) (.int .i64 t726)) (fun _ hk => hk.2) (.slice Ao40 t727.length co40)) (fun _ hk => hk.2) (.int .i64 t730)) (fun _ hk => hk.2) (.int .i64 t731)) (fun _ hk => hk.2) (.slice Ao41 t732.length co41)) (fun _ h_ => h_.1))) hb); have n8_ := Aside0.mk (Kd.R_below (by (with_reducible repeat (first | apply Kd.R_alloc | apply Kd.R_drewN | apply Kd.R_drew)); exact (Kd.R_mono (Kd.R_far (p := ⟨gb735, 5, none⟩) (Kd.R_far (p := ⟨gb735, 4, none⟩) (Kd.R_far (p := ⟨gb735, 3, none⟩) (Kd.R_far (p := ⟨gb735, 2, none⟩) (Kd.R_far (p := ⟨gb735, 1, none⟩) (Kd.R_far (p := ⟨gb735, 0, none⟩) (Kd.R_types HO734.out BK735.out (by decide)) (fun _ hk => hk.2) (.slice Ao36 t723.length co36)) (fun _ hk => hk.2) (.int .i64 t726)) (fun _ hk => hk.2) (.slice Ao40 t727.length co40)) (fun _ hk => hk.2) (.int .i64 t730)) (fun _ hk => hk.2) (.int .i64 t731)) (fun _ hk => hk.2) (.slice Ao41 t732.length co41)) (fun _ h_ => h_.1))) hb); have n9_ := Aside0.mk (blk_below (g := gb703) (o := .cells #[.slice Ao17 t691.length co17, .int .i64 t694, .slice Ao19 t695.length co19, .int .i64 t698, .int .i64 t699, .slice Ao20 t700.length co20] 36 (0, 0)) (by (with_reducible repeat (first | refine blk_drewN ?_ _ | refine blk_drew ?_ | refine blk_alloc ?_ _)); refine blk_far ?_ NB703_735.out _; (with_reducible repeat (first | refine blk_drewN ?_ _ | refine blk_drew ?_ | refine blk_alloc ?_ _)); refine blk_far ?_ NB703_735.out _; (with_reducible repeat (first | refine blk_drewN ?_ _ | refine blk_drew ?_ | refine blk_alloc ?_ _)); refine blk_far ?_ NB703_735.out _; (with_reducible repeat (first | refine blk_drewN ?_ _ | refine blk_drew ?_ | refine blk_alloc ?_ _)); refine blk_far ?_ NB703_735.out _; (with_reducible repeat (first | refine blk_drewN ?_ _ | refine blk_drew ?_ | refine blk_alloc ?_ _)); refine blk_far ?_ NB703_735.out _; (with_reducible repeat (first | refine blk_drewN ?_ _ | refine blk_drew ?_ | refine blk_alloc ?_ _)); refine blk_far ?_ NB703_735.out _; (with_reducible repeat (first | refine blk_drewN ?_ _ | refine blk_drew ?_ | refine blk_alloc ?_ _)); exact BK703.out) hb); have n10_ := Aside0.mk (blk_below (g := gb716) (o := .cells #[.slice Ao23 t704.length co23, .int .i64 t707, .slice Ao26 t708.length co26, .int .i64 t711, .int .i64 t712, .slice Ao27 t713.length co27] 36 (0, 0)) (by (with_reducible repeat (first | refine blk_drewN ?_ _ | refine blk_drew ?_ | refine blk_alloc ?_ _)); refine blk_far ?_ NB716_735.out _; (with_reducible repeat (first | refine blk_drewN ?_ _ | refine blk_drew ?_ | refine blk_alloc ?_ _)); refine blk_far ?_ NB716_735.out _; (with_reducible repeat (first | refine blk_drewN ?_ _ | refine blk_drew ?_ | refine blk_alloc ?_ _)); refine blk_far ?_ NB716_735.out _; (with_reducible repeat (first | refine blk_drewN ?_ _ | refine blk_drew ?_ | refine blk_alloc ?_ _)); refine blk_far ?_ NB716_735.out _; (with_reducible repeat (first | refine blk_drewN ?_ _ | refine blk_drew ?_ | refine blk_alloc ?_ _)); refine blk_far ?_ NB716_735.out _; (with_reducible repeat (first | refine blk_drewN ?_ _ | refine blk_drew ?_ | refine blk_alloc ?_ _)); refine blk_far ?_ NB716_735.out _; (with_reducible repeat (first | refine blk_drewN ?_ _ | refine blk_drew ?_ | refine blk_alloc ?_ _)); exact BK716.out) hb); have n11_ := Aside0.mk (blk_below (g := gb735) (o := .cells #[.slice Ao36 t723.length co36, .int .i64 t726, .slice Ao40 t727.length co40, .int .i64 t730, .int .i64 t731, .slice Ao41 t732.length co41] 36 (0, 0)) (by (with_reducible repeat (first | refine blk_drewN ?_ _ | refine blk_drew ?_ | refine blk_alloc ?_ _)); refine blk_put (cs := #[.slice Ao36 t723.length co36, .int .i64 t726, .slice Ao40 t727.length co40, .int .i64 t730, .int .i64 t731, .slice none 0 0]) ?_ 5 _ rfl; (with_reducible repeat (first | refine blk_drewN ?_ _ | refine blk_drew ?_ | refine blk_alloc ?_ _)); refine blk_put (cs := #[.slice Ao36 t723.length co36, .int .i64 t726, .slice Ao40 t727.length co40, .int .i64 t730, .int .i64 0, .slice none 0 0]) ?_ 4 _ rfl; (with_reducible repeat (first | refine blk_drewN ?_ _ | refine blk_drew ?_ | refine blk_alloc ?_ _)); refine blk_put (cs := #[.slice Ao36 t723.length co36, .int .i64 t726, .slice Ao40 t727.length co40, .int .i64 0, .int .i64 0, .slice none 0 0]) ?_ 3 _ rfl; (with_reducible repeat (first | refine blk_drewN ?_ _ | refine blk_drew ?_ | refine blk_alloc ?_ _)); refine blk_put (cs := #[.slice Ao36 t723.length co36, .int .i64 t726, .slice none 0 0, .int .i64 0, .int .i64 0, .slice none 0 0]) ?_ 2 _ rfl; (with_reducible repeat (first | refine blk_drewN ?_ _ | refine blk_drew ?_ | refine blk_alloc ?_ _)); refine blk_put (cs := #[.slice Ao36 t723.length co36, .int .i64 0, .slice none 0 0, .int .i64 0, .int .i64 0, .slice none 0 0]) ?_ 1 _ rfl; (with_reducible repeat (first | refine blk_drewN ?_ _ | refine blk_drew ?_ | refine blk_alloc ?_ _)); refine blk_put (cs := #[.slice none 0 0, .int .i64 0, .slice none 0 0, .int .i64 0, .int .i64 0, .slice none 0 0]) ?_ 0 _ rfl; (with_reducible repeat (first | refine blk_drewN ?_ _ | refine blk_drew ?_ | refine blk_alloc ?_ _)); exact BK735.out) hb); have n12_ := Aside0.mk (below_step (oB HB) hb); clear HO693; clear HO697; clear HO702; clear HO706; clear HO710; clear HO715; clear HO725; clear HO729; clear HO734; clear BK703; clear BK716; clear BK735; clear HB; have HO693 := n0_; have HO697 := n1_; have HO702 := n2_; have HO706 := n3_; have HO710 := n4_; have HO715 := n5_; have HO725 := n6_; have HO729 := n7_; have HO734 := n8_; have BK703 := n9_; have BK716 := n10_; have BK735 := n11_; have HB := n12_; clear n0_ n1_ n2_ n3_ n4_ n5_ n6_ n7_ n8_ n9_ n10_ n11_ n12_; (try clear hb); (try clear hb2); (try clear hk); (try clear hi); have hcz44_0 : w43.cell? ⟨gb716, 0, none⟩ = some (.slice Ao23 t704.length co23) := (blk_cell BK716.out 0).trans rfl; have hcz44_1 : w43.cell? ⟨gb716, 1, none⟩ = some (.int .i64 t707) := (blk_cell BK716.out 1).trans rfl; have hcz44_2 : w43.cell? ⟨gb716, 2, none⟩ = some (.slice Ao26 t708.length co26) := (blk_cell BK716.out 2).trans rfl; have hcz44_3 : w43.cell? ⟨gb716, 3, none⟩ = some (.int .i64 t711) := (blk_cell BK716.out 3).trans rfl; have hcz44_4 : w43.cell? ⟨gb716, 4, none⟩ = some (.int .i64 t712) := (blk_cell BK716.out 4).trans rfl; have hcz44_5 : w43.cell? ⟨gb716, 5, none⟩ = some (.slice Ao27 t713.length co27) := (blk_cell BK716.out 5).trans rfl; have hfz44_0 := blk_frozen BK716.out 0; have hfz44_1 := blk_frozen BK716.out 1; have hfz44_2 := blk_frozen BK716.out 2; have hfz44_3 := blk_frozen BK716.out 3; have hfz44_4 := blk_frozen BK716.out 4; have hfz44_5 := blk_frozen BK716.out 5) | ((with_reducible refine gate_callee (f := 29) rfl ?_); refine goesL_ (some 30) rfl rfl Try.func29 (by kernel_rfl) rfl #[.agg #[.slice Ao23 t719.length co23, .int .i64 t707, .slice Ao26 t720.length co26, .int .i64 t711, .int .i64 t712, .slice Ao27 t721.length co27], .int .i64 1] rfl (by (try simp only [List.map_toArray, List.map_cons, List.map_nil]); first | done | (rw [show t719.length = t704.length from (Kd.R_reads' HO706.out).1.symm, show t720.length = t708.length from (Kd.R_reads' HO710.out).1.symm, show t721.length = t713.length from (Kd.R_reads' HO715.out).1.symm] <;> rfl) | rfl | (simp only [List.length_drop, List.length_take]; rfl)) ?_; (with_reducible refine (laws_heldShop.calls k _ _ t719 t707 _ _ t720 t711 t712 _ _ t721 1 t737 _ ?side1 ?side2 ?side3 ?side4 ?side5 ?side6 A12.out).mono ?_); (case side1 => repeat (first | exact (Kd.R_reads' HO706.out).2.2 | (with_reducible refine Kd.C_alloc ?_ _) | (with_reducible refine Kd.C_drewN ?_ _) | (with_reducible refine Kd.C_drew ?_))); (case side2 => rw [show t719.length = t704.length from (Kd.R_reads' HO706.out).1.symm]; exact (Kd.R_reads' HO706.out).2.1); (case side3 => repeat (first | exact (Kd.R_reads' HO710.out).2.2 | (with_reducible refine Kd.C_alloc ?_ _) | (with_reducible refine Kd.C_drewN ?_ _) | (with_reducible refine Kd.C_drew ?_))); (case side4 => rw [show t720.length = t708.length from (Kd.R_reads' HO710.out).1.symm]; exact (Kd.R_reads' HO710.out).2.1); (case side5 => repeat (first | exact (Kd.R_reads' HO715.out).2.2 | (with_reducible refine Kd.C_alloc ?_ _) | (with_reducible refine Kd.C_drewN ?_ _) | (with_reducible refine Kd.C_drew ?_))); (case side6 => rw [show t721.length = t713.length from (Kd.R_reads' HO715.out).1.symm]; exact (Kd.R_reads' HO715.out).2.1); rintro e w45 ⟨rfl, hb⟩; refine ⟨_, rfl, ?_⟩; have n0_ := Aside0.mk (Kd.R_below (oR HO693) hb); have n1_ := Aside0.mk (Kd.R_below (oR HO697) hb); have n2_ := Aside0.mk (Kd.R_below (oR HO702) hb); have n3_ := Aside0.mk (Kd.R_below (oR HO706) hb); have n4_ := Aside0.mk (Kd.R_below (oR HO710) hb); have n5_ := Aside0.mk (Kd.R_below (oR HO715) hb); have n6_ := Aside0.mk (Kd.R_below (oR HO725) hb); have n7_ := Aside0.mk (Kd.R_below (oR HO729) hb); have n8_ := Aside0.mk (Kd.R_below (oR HO734) hb); have n9_ := Aside0.mk (blk_below (g := gb703) (o := .cells #[.slice Ao17 t691.length co17, .int .i64 t694, .slice Ao19 t695.length co19, .int .i64 t698, .int .i64 t699, .slice Ao20 t700.length co20] 36 (0, 0)) (oK BK703) hb); have n10_ := Aside0.mk (blk_below (g := gb716) (o := .cells #[.slice Ao23 t704.length co23, .int .i64 t707, .slice Ao26 t708.length co26, .int .i64 t711, .int .i64 t712, .slice Ao27 t713.length co27] 36 (0, 0)) (oK BK716) hb); have n11_ := Aside0.mk (blk_below (g := gb735) (o := .cells #[.slice Ao36 t723.length co36, .int .i64 t726, .slice Ao40 t727.length co40, .int .i64 t730, .int .i64 t731, .slice Ao41 t732.length co41] 36 (0, 0)) (oK BK735) hb); have n12_ := Aside0.mk (below_step (oB HB) hb); clear HO693; clear HO697; clear HO702; clear HO706; clear HO710; clear HO715; clear HO725; clear HO729; clear HO734; clear BK703; clear BK716; clear BK735; clear HB; have HO693 := n0_; have HO697 := n1_; have HO702 := n2_; have HO706 := n3_; have HO710 := n4_; have HO715 := n5_; have HO725 := n6_; have HO729 := n7_; have HO734 := n8_; have BK703 := n9_; have BK716 := n10_; have BK735 := n11_; have HB := n12_; clear n0_ n1_ n2_ n3_ n4_ n5_ n6_ n7_ n8_ n9_ n10_ n11_ n12_; (try clear hb); (try clear hb2); (try clear hk); (try clear hi)))
              go_ret
              exact ⟨by first | rfl | (simp [errW_none, errW_some] <;> rfl) | (simp [*, errW_none, errW_some] <;> rfl), oB HB⟩
            · rw [if_neg c14] at H
              have c14b0 : (t737 == t718) = false := beq_eq_false_iff_ne.mpr c14
              have c14b1 : (t737 != t718) = true := bne_iff_ne.mpr c14
              exact absurd ((Option.some.inj H).trans hrt_.out) (by decide)
        · replace c11 := Bool.eq_false_iff.mpr c11
          subst c11
          rw [if_neg (show ¬ (false = true) by decide)] at H
          exact absurd ((Option.some.inj H).trans hrt_.out) (by decide)
      · rw [if_neg c8] at H
        have c8b0 : (t722 == t718) = false := beq_eq_false_iff_ne.mpr c8
        have c8b1 : (t722 != t718) = true := bne_iff_ne.mpr c8
        exact absurd ((Option.some.inj H).trans hrt_.out) (by decide)
  · replace c4 := Bool.eq_false_iff.mpr c4
    subst c4
    rw [if_neg (show ¬ (false = true) by decide)] at H
    exact absurd ((Option.some.inj H).trans hrt_.out) (by decide)
def laws_FnExactSampleShop.Pure : Prop := ∃ k, laws_FnExactSampleShop.f k  = some true
theorem laws_FnExactSampleShop.walk (P : laws_FnExactSampleShop.Pure)  (w : World)  :
    Calls Try.prog 7 #[] w fun e w' => e = .returned (.bool true) ∧ Below w.heap.size w w' := by
  obtain ⟨k, h⟩ := P
  refine (laws_FnExactSampleShop.calls k  true w h ⟨rfl⟩).mono ?_
  rintro e w' ⟨rfl, hd⟩
  exact ⟨rfl, hd⟩
end Go.Proofs.Ytbkkpllejgedcaa.P


namespace Go.Proofs.Ytbkkpllejgedcaa.Q
set_option linter.unusedVariables false
set_option linter.unusedSimpArgs false
open Go.RowKit Go.Proofs.YtbkkpllejgedcaaW.PrintWords
theorem evp {α : Type} {c : Prop} [Decidable c] (h : c) {f g : Nat → Option α} {r : α} (k : Ev f r) : Ev (fun n => if c then f n else g n) r := by
  simp only [if_pos h]; exact k
theorem evn {α : Type} {c : Prop} [Decidable c] (h : ¬ c) {f g : Nat → Option α} {r : α} (k : Ev g r) : Ev (fun n => if c then f n else g n) r := by
  simp only [if_neg h]; exact k
theorem evb {α β : Type} {x : Option α} {f : Nat → α → Option β} {a : α} {r : β} (h : x = some a) (k : Ev (fun n => f n a) r) : Ev (fun n => x.bind (f n)) r := by
  simp only [h, Option.bind_some]; exact k
theorem evs {α : Type} {a b : α} (h : a = b) : Ev (fun _ => some a) b := h ▸ Ev.now a
theorem rpos {α : Type} {c : Prop} [Decidable c] (h : c) {f : Nat → Option α} {r s : α} (k : Ev f r) : Ev f (if c then r else s) := by rw [if_pos h]; exact k
theorem rneg {α : Type} {c : Prop} [Decidable c] (h : ¬ c) {f : Nat → Option α} {r s : α} (k : Ev f s) : Ev f (if c then r else s) := by rw [if_neg h]; exact k
theorem btrue {c : Prop} [Decidable c] (h : c) : decide c = true := decide_eq_true h
theorem bfalse {c : Prop} [Decidable c] (h : ¬ c) : ¬ decide c = true := by simpa using h
theorem down {P : Nat → Prop} {n : Nat} (he : P n) (hs : ∀ i, i < n → P (i + 1) → P i) (i : Nat) (h : i ≤ n) : P i := by
  obtain ⟨d, rfl⟩ : ∃ d, n = i + d := ⟨n - i, by omega⟩
  clear h
  induction d generalizing i with
  | zero => exact he
  | succ d ih =>
    refine hs i (by omega) (ih (i + 1) ?_ ?_)
    · rw [show i + 1 + d = i + (d + 1) by omega]; exact he
    · intro j hj; exact hs j (by omega)
theorem w64 {n : Int} (h1 : -9223372036854775808 ≤ n) (h2 : n ≤ 9223372036854775807) : wrap64 n = n := by unfold wrap64; omega
theorem rd_nat (l : List Int) (i : Nat) (h : i < l.length) : rd l (i : Int) = l[i] := by
  unfold rd; simp [List.getD_eq_getElem?_getD, h]
theorem drop_cons {α : Type} (l : List α) (i : Nat) (h : i < l.length) : l.drop i = l[i] :: l.drop (i + 1) := List.drop_eq_getElem_cons h
theorem drop_end {α : Type} (l : List α) : l.drop l.length = [] := List.drop_eq_nil_of_le (Nat.le_refl _)
theorem set_take {α : Type} (l : List α) (i : Nat) (v : α) (h : i < l.length) : (l.set i v).take (i + 1) = l.take i ++ [v] := by
  rw [List.take_set, List.take_succ_eq_append_getElem h, List.set_append_right _ _ (by simp; omega)]
  simp [Nat.min_eq_left (Nat.le_of_lt h)]
end Go.Proofs.Ytbkkpllejgedcaa.Q


namespace Go.Proofs.Ytbkkpllejgedcaa.Q
set_option linter.unusedVariables false
set_option linter.unusedSimpArgs false
open Go.RowKit Go.Proofs.Ytbkkpllejgedcaa.P Go.Proofs.YtbkkpllejgedcaaW.PrintWords
theorem within_eq (a b c : Int) : impl_within.f a b c = some (decide (b ≤ a ∧ a ≤ c)) := by
  unfold impl_within.f; by_cases h : b ≤ a <;> simp [h]
theorem l01In_eq (a b c : Int) : spec_l01In.f a b c = some (decide (b ≤ a ∧ a ≤ c)) := by
  unfold spec_l01In.f; by_cases h : a ≥ b
  · rw [if_pos h]; simp [show b ≤ a from h]
  · rw [if_neg h]; simp [show ¬ b ≤ a from h]
end Go.Proofs.Ytbkkpllejgedcaa.Q


namespace Go.Proofs.Ytbkkpllejgedcaa.Q
set_option linter.unusedVariables false
set_option linter.unusedSimpArgs false
open Go.RowKit Go.Proofs.Ytbkkpllejgedcaa.P Go.Proofs.YtbkkpllejgedcaaW.PrintWords Go.Proofs.YtbkkpllejgedcaaW.PrintMore
def fine (n : Int) : Bool := decide (1 ≤ n ∧ n ≤ 10000000)
theorem pitch_eq (n : Int) : spec_l18Pitch.f n = some (fine n) := by unfold spec_l18Pitch.f; rw [l01In_eq]; rfl
theorem isFine_eq (n : Int) : impl_isFine.f n = some (fine n) := by unfold impl_isFine.f; rw [within_eq]; rfl
def orZero (n : Int) : Int := if fine n = true then n else 0
def tunedPitch (a k b : Int) : Int :=
  if fine a = true then
    if 0 ≤ b ∧ b ≤ 100000 then
      if k = 1 then orZero (wrap64 (Int.tdiv (mx (wrap64 ((wrap64 (3 * a)) - b)) 0) 2))
      else if k = 2 then orZero (wrap64 (Int.tdiv (mx (wrap64 ((wrap64 (3 * a)) - b)) 0) 4))
      else if k = 3 then if b = 0 then orZero (wrap64 (2 * a)) else 0
      else if k = 4 then if b = 0 then orZero (wrap64 (Int.tdiv a 2)) else 0
      else 0
    else 0
  else 0
theorem mx_comm (a b : Int) : mx a b = mx b a := by unfold mx; split <;> split <;> omega
theorem evz {n : Int} {x : Option Bool} (h : x = some (fine n)) : Ev (fun _ => x.bind fun t => if t = true then some n else some 0) (orZero n) := by
  subst h; simp only [Option.bind_some]; unfold orZero; by_cases h : fine n = true
  · rw [if_pos h, if_pos h]; exact Ev.now _
  · rw [if_neg h, if_neg h]; exact Ev.now _
theorem tuned_impl (a k b : Int) : Ev (fun n => impl_TunedPitch.f n a k b) (tunedPitch a k b) := by
  have jt : Ev (fun n => impl_TunedPitch.j0 n a k b true) 0 := Ev.step (fun n => by rw [impl_TunedPitch.j0]) (evp rfl (Ev.now _))
  unfold impl_TunedPitch.f
  refine evb (isFine_eq a) ?_
  unfold tunedPitch
  by_cases ha : fine a = true
  rotate_left
  · exact rneg ha <| evn ha jt
  refine rpos ha <| evp ha (evb (within_eq _ _ _) ?_)
  by_cases hb : 0 ≤ b ∧ b ≤ 100000
  rotate_left
  · exact rneg hb <| evn (by simpa using hb) jt
  refine rpos hb <| evp (by simpa using hb) ?_
  have jf : (k = 3 ∨ k = 4 → b = 0) → Ev (fun n => impl_TunedPitch.j0 n a k b false) (if k = 1 then orZero (wrap64 (Int.tdiv (mx (wrap64 ((wrap64 (3 * a)) - b)) 0) 2))
      else if k = 2 then orZero (wrap64 (Int.tdiv (mx (wrap64 ((wrap64 (3 * a)) - b)) 0) 4))
      else if k = 3 then if b = 0 then orZero (wrap64 (2 * a)) else 0
      else if k = 4 then if b = 0 then orZero (wrap64 (Int.tdiv a 2)) else 0
      else 0) := by
    intro h0
    refine Ev.step (fun n => by rw [impl_TunedPitch.j0]) (evn (by decide) ?_)
    by_cases h1 : k = 1
    · exact rpos h1 <| evp h1 (evz (isFine_eq _))
    refine rneg h1 <| evn h1 ?_
    by_cases h2 : k = 2
    · exact rpos h2 <| evp h2 (evz (isFine_eq _))
    refine rneg h2 <| evn h2 ?_
    by_cases h3 : k = 3
    · exact rpos h3 <| rpos (h0 (.inl h3)) <| evp h3 (evz (isFine_eq _))
    refine rneg h3 <| evn h3 ?_
    by_cases h4 : k = 4
    · exact rpos h4 <| rpos (h0 (.inr h4)) <| evp h4 (evz (isFine_eq _))
    refine rneg h4 <| evn h4 ?_
    refine evb (isFine_eq _) (evn (by decide) (Ev.now _))
  by_cases b0 : b = 0
  · exact evp b0 (jf fun _ => b0)
  refine evn b0 ?_
  by_cases h3 : k = 3
  · refine evp h3 ?_
    exact rneg (by omega) <| rneg (by omega) <| rpos h3 <| rneg b0 jt
  refine evn h3 ?_
  by_cases h4 : k = 4
  · rw [show (k == 4) = true by simp [h4]]; exact rneg (by omega) <| rneg (by omega) <| rneg (by omega) <| rpos h4 <| rneg b0 jt
  · rw [show (k == 4) = false by simp [h4]]; exact jf (by omega)
theorem tuned_spec (a k b : Int) : Ev (fun n => spec_TunedPitch.f n a k b) (tunedPitch a k b) := by
  have jt : Ev (fun n => spec_TunedPitch.j0 n a k b true) 0 := Ev.step (fun n => by rw [spec_TunedPitch.j0]) (evp rfl (Ev.now _))
  unfold spec_TunedPitch.f
  refine evb (pitch_eq a) ?_
  unfold tunedPitch
  by_cases ha : fine a = true
  rotate_left
  · exact rneg ha <| evn ha jt
  refine rpos ha <| evp ha (evb (l01In_eq _ _ _) ?_)
  by_cases hb : 0 ≤ b ∧ b ≤ 100000
  rotate_left
  · rw [show (!decide (0 ≤ b ∧ b ≤ 100000)) = true by rw [decide_eq_false hb]; rfl]; exact rneg hb jt
  rw [show (!decide (0 ≤ b ∧ b ≤ 100000)) = false by rw [decide_eq_true hb]; rfl]
  refine rpos hb ?_
  have j2t : Ev (fun n => spec_TunedPitch.j2 n a 0 true) (orZero (wrap64 (Int.tdiv a 2))) := Ev.step (fun n => by rw [spec_TunedPitch.j2]) (evp rfl (evz (pitch_eq _)))
  have j2f : Ev (fun n => spec_TunedPitch.j2 n a 0 false) 0 := Ev.step (fun n => by rw [spec_TunedPitch.j2]) (evn (by decide) (evz (pitch_eq 0)))
  refine Ev.step (fun n => by rw [spec_TunedPitch.j0]) (evn (by decide) ?_)
  by_cases h1 : k = 1
  · rw [mx_comm 0]; exact rpos h1 <| evp h1 (evz (pitch_eq _))
  refine rneg h1 <| evn h1 ?_
  by_cases h2 : k = 2
  · rw [mx_comm 0]; exact rpos h2 <| evp h2 (evz (pitch_eq _))
  refine rneg h2 <| evn h2 ?_
  have j1f : Ev (fun n => spec_TunedPitch.j1 n a k b 0 false) (if k = 4 then if b = 0 then orZero (wrap64 (Int.tdiv a 2)) else 0 else 0) := by
    refine Ev.step (fun n => by rw [spec_TunedPitch.j1]) (evn (by decide) ?_)
    by_cases h4 : k = 4
    · refine rpos h4 <| evp h4 ?_
      by_cases b0 : b = 0
      · rw [show (b == 0) = true by simp [b0]]; exact rpos b0 j2t
      · rw [show (b == 0) = false by simp [b0]]; exact rneg b0 j2f
    · exact rneg h4 <| evn h4 j2f
  by_cases h3 : k = 3
  · refine rpos h3 <| evp h3 ?_
    by_cases b0 : b = 0
    · rw [show (b == 0) = true by simp [b0]]
      exact rpos b0 <| Ev.step (fun n => by rw [spec_TunedPitch.j1]) (evp rfl (evz (pitch_eq _)))
    · rw [show (b == 0) = false by simp [b0]]
      rw [if_neg (by omega)] at j1f
      exact rneg b0 j1f
  exact rneg h3 <| evn h3 j1f
end Go.Proofs.Ytbkkpllejgedcaa.Q


namespace Go.Proofs.Ytbkkpllejgedcaa.Q
set_option linter.unusedVariables false
set_option linter.unusedSimpArgs false
open Go.RowKit Go.Proofs.Ytbkkpllejgedcaa.P Go.Proofs.YtbkkpllejgedcaaW.PrintWords Go.Proofs.YtbkkpllejgedcaaW.PrintMore
theorem rdS (l : List S96) (i : Nat) (h : i < l.length) : rd_T96 l (i : Int) = l[i] := by
  unfold rd_T96; simp [List.getD_eq_getElem?_getD, h]
theorem eqStep_self (a b c d : Int) : laws_eqStep.f a b c d a b c d = some true := by unfold laws_eqStep.f; simp
theorem eqStepS_ev (l : List S96) (hl : l.length ≤ 9000000000000000000) : Ev (fun k => laws_eqStepS.f k l l) true := by
  have key : ∀ i, i ≤ l.length → Ev (fun k => laws_eqStepS.l0 k l l (i : Int)) true := by
    refine down (n := l.length) ?_ ?_
    · refine Ev.step (fun k => by rw [laws_eqStepS.l0]) (evn (by omega) ?_)
      exact Ev.now _
    · intro i hi ih
      refine Ev.step (fun k => by rw [laws_eqStepS.l0]) (evp (by omega) (evp (by omega) (evp (by omega) ?_)))
      refine evb (eqStep_self _ _ _ _) (evp rfl ?_)
      rw [w64 (by omega) (by omega)]
      exact ih
  unfold laws_eqStepS.f
  refine evp rfl ?_
  exact key 0 (Nat.zero_le _)
def runsS (m : Int) (n : Nat) : List S96 := (List.range n).map (fun (j : Nat) => ⟨m + 4 * j, m + 4 * j + 1, m + 4 * j + 2, m + 4 * j + 3⟩)
theorem runsS_len (m : Int) (n : Nat) : (runsS m n).length = n := by simp [runsS]
theorem rd_set_self (l : List S96) (i : Nat) (v : S96) (h : i < l.length) : rd_T96 (l.set i v) (i : Int) = v := by
  rw [rdS _ _ (by simpa using h)]; simp
theorem markStepS_ev (l : List S96) (m : Int) (h0 : 0 ≤ m) (hm : m + 4 * l.length ≤ 4000000000000000000) : Ev (fun k => laws_markStepS.f k l m) (m + 4 * l.length, runsS m l.length) := by
  have key : ∀ i, i ≤ l.length → ∀ acc : List S96, acc.length = l.length → acc.take i = runsS m i → Ev (fun k => laws_markStepS.l0 k acc (m + 4 * i) (i : Int)) (m + 4 * l.length, runsS m l.length) := by
    refine down (n := l.length) ?_ ?_
    · intro acc ha ht
      refine Ev.step (fun k => by rw [laws_markStepS.l0]) (evn (by omega) (evs ?_))
      rw [← ht, List.take_of_length_le (by omega)]
    · intro i hi ih acc ha ht
      refine Ev.step (fun k => by rw [laws_markStepS.l0]) ?_
      refine evp (by omega) (evp (by omega) ?_)
      simp only [Option.bind_some]
      rw [w64 (n := m + 4 * i + 1) (by omega) (by omega), w64 (n := m + 4 * i + 1 + 1) (by omega) (by omega), w64 (n := m + 4 * i + 1 + 1 + 1) (by omega) (by omega), w64 (n := m + 4 * i + 1 + 1 + 1 + 1) (by omega) (by omega), w64 (n := (i : Int) + 1) (by omega) (by omega), Int.toNat_natCast]
      have := ih (acc.set i ⟨m + 4 * i, m + 4 * i + 1, m + 4 * i + 2, m + 4 * i + 3⟩) (by simpa using ha) (by
        rw [set_take _ _ _ (by omega), ht]
        simp [runsS, List.range_succ])
      have rs : ∀ (L : List S96) (v : S96), L.length = l.length → rd_T96 (L.set i v) (i : Int) = v := fun L v hL => rd_set_self L i v (by omega)
      simp only [rs _ _ ha, List.set_set]
      rw [show m + 4 * (i : Int) + 1 + 1 = m + 4 * i + 2 by omega, show m + 4 * (i : Int) + 2 + 1 = m + 4 * i + 3 by omega, show m + 4 * (i : Int) + 3 + 1 = m + 4 * ((i + 1 : Nat) : Int) by omega]
      exact this
  have := key 0 (Nat.zero_le _) l rfl (by simp [runsS])
  unfold laws_markStepS.f
  simpa using this
theorem heldStepS_ev (n : Nat) (m : Int) (h0 : 0 ≤ m) (hm : m + 4 * n ≤ 4000000000000000000) : Ev (fun k => laws_heldStepS.f k (runsS m n) m) (m + 4 * n) := by
  have key : ∀ i, i ≤ n → Ev (fun k => laws_heldStepS.l0 k (runsS m n) (m + 4 * i) (i : Int)) (m + 4 * n) := by
    refine down (n := n) ?_ ?_
    · exact Ev.step (fun k => by rw [laws_heldStepS.l0]) (evn (by rw [runsS_len]; omega) (evs rfl))
    · intro i hi ih
      refine Ev.step (fun k => by rw [laws_heldStepS.l0]) (evp (by rw [runsS_len]; omega) (evp (by omega) ?_))
      rw [rdS _ _ (by rw [runsS_len]; exact hi), show (runsS m n)[i]'(by rw [runsS_len]; exact hi) = ⟨m + 4 * i, m + 4 * i + 1, m + 4 * i + 2, m + 4 * i + 3⟩ by simp [runsS]]
      rw [w64 (n := m + 4 * i + 1) (by omega) (by omega), w64 (n := m + 4 * i + 1 + 1) (by omega) (by omega), w64 (n := m + 4 * i + 1 + 1 + 1) (by omega) (by omega), w64 (n := m + 4 * i + 1 + 1 + 1 + 1) (by omega) (by omega), w64 (n := (i : Int) + 1) (by omega) (by omega)]
      refine evp rfl (evp rfl (evp ?_ (evp ?_ ?_)))
      · show m + 4 * (i : Int) + 2 = _; omega
      · show m + 4 * (i : Int) + 3 = _; omega
      rw [show m + 4 * (i : Int) + 1 + 1 + 1 + 1 = m + 4 * ((i + 1 : Nat) : Int) by omega]
      exact ih
  have := key 0 (Nat.zero_le _)
  unfold laws_heldStepS.f
  simpa using this
end Go.Proofs.Ytbkkpllejgedcaa.Q


namespace Go.Proofs.Ytbkkpllejgedcaa.Q
set_option linter.unusedVariables false
set_option linter.unusedSimpArgs false
open Go.RowKit Go.Proofs.Ytbkkpllejgedcaa.P Go.Proofs.YtbkkpllejgedcaaW.PrintWords Go.Proofs.YtbkkpllejgedcaaW.PrintMore
theorem planGoS_eq (l : List S96) (t : List Bool) : planGoS l t = planGo l t := by
  induction l generalizing t with
  | nil => rfl
  | cons x r ih => simp only [planGoS, planGo, ih]; rfl
theorem planSpec_eq (l : List S96) : spec_PlanOk.f l = some (planOk l) := by
  show some (planOkS l) = some (planOk l)
  unfold planOkS planOk
  rw [planGoS_eq, Bool.and_comm]; rfl
theorem planImpl_eq (l : List S96) : impl_PlanOk.f l = some (planOk l) := rfl
def inKeys (x : S96) : Prop := 0 ≤ x.f0 ∧ x.f0 ≤ 11 ∧ 0 ≤ x.f1 ∧ x.f1 ≤ 11 ∧ x.f1 = (x.f0 + 1) % 12
theorem stepOk_in {x : S96} {t : List Bool} (h : stepOk x t = true) : inKeys x := by
  simp [stepOk] at h; unfold inKeys; omega
theorem planGo_in {l : List S96} {t : List Bool} (h : planGo l t = true) : ∀ x ∈ l, inKeys x := by
  induction l generalizing t with
  | nil => simp
  | cons y r ih =>
    simp only [planGo, Bool.and_eq_true] at h
    intro x hx
    rcases List.mem_cons.1 hx with rfl | hx
    · exact stepOk_in h.1
    · exact ih h.2 x hx
theorem planOk_in {l : List S96} (h : planOk l = true) : ∀ x ∈ l, inKeys x := by
  simp only [planOk, Bool.and_eq_true] at h; exact planGo_in h.2
theorem planOk_len {l : List S96} (h : planOk l = true) : l.length ≤ 11 := by
  simp only [planOk, Bool.and_eq_true, decide_eq_true_eq] at h; exact h.1
theorem rd_get (l : List Int) (i : Int) : rd l i = l.getD i.toNat 0 := rfl
end Go.Proofs.Ytbkkpllejgedcaa.Q


namespace Go.Proofs.Ytbkkpllejgedcaa.Q
set_option linter.unusedVariables false
set_option linter.unusedSimpArgs false
open Go.RowKit Go.Proofs.Ytbkkpllejgedcaa.P Go.Proofs.YtbkkpllejgedcaaW.PrintWords Go.Proofs.YtbkkpllejgedcaaW.PrintMore
def runGo : List S96 → List Int → List Int × Bool
  | [], o => (o, true)
  | x :: r, o => if tunedPitch (o.getD x.f0.toNat 0) x.f2 x.f3 = 0 then ([], false) else runGo r (o.set x.f1.toNat (tunedPitch (o.getD x.f0.toNat 0) x.f2 x.f3))
def begun (a : Int) : List Int := a :: List.replicate 11 0
def runPlan (a : Int) (l : List S96) : List Int × Bool := if planOk l = true ∧ fine a = true then runGo l (begun a) else ([], false)
theorem runPlan_impl (a : Int) (l : List S96) : Ev (fun n => impl_RunPlan.f n a l) (runPlan a l) := by
  have jt : Ev (fun n => impl_RunPlan.j0 n a l true) ([], false) := Ev.step (fun n => by rw [impl_RunPlan.j0]) (evp rfl (Ev.now _))
  unfold impl_RunPlan.f runPlan
  refine evb (planImpl_eq l) ?_
  by_cases hp : planOk l = true
  rotate_left
  · exact rneg (fun h => hp h.1) <| evn hp jt
  refine evp hp (evb (isFine_eq a) ?_)
  by_cases ha : fine a = true
  rotate_left
  · rw [show (!fine a) = true by simpa using ha]; exact rneg (fun h => ha h.2) jt
  rw [show (!fine a) = false by simpa using ha]
  refine rpos ⟨hp, ha⟩ ?_
  have hl := planOk_len hp
  have hin := planOk_in hp
  have key : ∀ i, i ≤ l.length → ∀ o : List Int, o.length = 12 → Ev (fun n => impl_RunPlan.l0 n o l (l.length : Int) (i : Int)) (runGo (l.drop i) o) := by
    refine down (n := l.length) ?_ ?_
    · intro o ho
      refine Ev.step (fun n => by rw [impl_RunPlan.l0]) (evn (by omega) (evs ?_))
      rw [drop_end]; rfl
    · intro i hi ih o ho
      obtain ⟨k0, k1, k2, k3, k4⟩ := hin l[i] (List.getElem_mem hi)
      refine Ev.step (fun n => by rw [impl_RunPlan.l0]) ?_
      refine evp (by omega) (evp (by omega) (evp (by omega) ?_))
      rw [rdS l i hi, drop_cons l i hi, runGo]
      refine evp k0 (evp (by omega) (Ev.bind (tuned_impl _ _ _) (evp k2 (evp (by omega) ?_))))
      rw [rd_get]
      by_cases hz : tunedPitch (o.getD l[i].f0.toNat 0) l[i].f2 l[i].f3 = 0
      · exact rpos hz <| evp hz (Ev.now _)
      refine rneg hz <| evn hz ?_
      rw [w64 (by omega) (by omega)]
      exact ih _ (by simpa using ho)
  refine Ev.step (fun n => by rw [impl_RunPlan.j0]) ?_
  refine evn (by decide) (evp (by decide) ?_)
  simp only [Option.bind_some]
  refine evp (by simp) ?_
  exact key 0 (Nat.zero_le _) _ (by simp)
theorem runPlan_spec (a : Int) (l : List S96) : Ev (fun n => spec_RunPlan.f n a l) (runPlan a l) := by
  have jt : Ev (fun n => spec_RunPlan.j0 n a l true) ([], false) := Ev.step (fun n => by rw [spec_RunPlan.j0]) (evp rfl (Ev.now _))
  unfold spec_RunPlan.f runPlan
  refine evb (planSpec_eq l) ?_
  by_cases hp : planOk l = true
  rotate_left
  · exact rneg (fun h => hp h.1) <| evn hp jt
  refine evp hp (evb (pitch_eq a) ?_)
  by_cases ha : fine a = true
  rotate_left
  · rw [show (!fine a) = true by simpa using ha]; exact rneg (fun h => ha h.2) jt
  rw [show (!fine a) = false by simpa using ha]
  refine rpos ⟨hp, ha⟩ ?_
  have hl := planOk_len hp
  have hin := planOk_in hp
  have key : ∀ i, i ≤ l.length → ∀ o : List Int, o.length = 12 → Ev (fun n => spec_RunPlan.l0 n l o (i : Int)) (runGo (l.drop i) o) := by
    refine down (n := l.length) ?_ ?_
    · intro o ho
      refine Ev.step (fun n => by rw [spec_RunPlan.l0]) (evn (by omega) (evs ?_))
      rw [drop_end]; rfl
    · intro i hi ih o ho
      obtain ⟨k0, k1, k2, k3, k4⟩ := hin l[i] (List.getElem_mem hi)
      refine Ev.step (fun n => by rw [spec_RunPlan.l0]) ?_
      refine evp (by omega) (evp (by omega) ?_)
      rw [rdS l i hi, drop_cons l i hi, runGo]
      refine evp k0 (evp (by omega) (Ev.bind (tuned_spec _ _ _) ?_))
      rw [rd_get]
      by_cases hz : tunedPitch (o.getD l[i].f0.toNat 0) l[i].f2 l[i].f3 = 0
      · exact rpos hz <| evp hz (Ev.now _)
      refine rneg hz <| evn hz (evp k2 (evp (by omega) ?_))
      rw [w64 (by omega) (by omega)]
      exact ih _ (by simpa using ho)
  refine Ev.step (fun n => by rw [spec_RunPlan.j0]) ?_
  refine evn (by decide) (evp (by decide) ?_)
  simp only [Option.bind_some]
  refine evp (by simp) ?_
  exact key 0 (Nat.zero_le _) _ (by simp)
end Go.Proofs.Ytbkkpllejgedcaa.Q


namespace Go.Proofs.Ytbkkpllejgedcaa.Q
set_option linter.unusedVariables false
set_option linter.unusedSimpArgs false
open Go.RowKit Go.Proofs.Ytbkkpllejgedcaa.P Go.Proofs.YtbkkpllejgedcaaW.PrintWords Go.Proofs.YtbkkpllejgedcaaW.PrintMore
theorem copyPlan_eq (p : List S96) (hp : p.length ≤ 4000000) : impl_copyPlan.f p = some p := by
  unfold impl_copyPlan.f; simp only [Option.bind_some]; rw [if_pos (by simp; omega)]; simp
theorem l19Copy_eq (p : List S96) (hp : p.length ≤ 4000000) : spec_l19Copy.f p = some p := by
  unfold spec_l19Copy.f; simp only [Option.bind_some]; rw [if_pos (by simp; omega)]; simp
end Go.Proofs.Ytbkkpllejgedcaa.Q


namespace Go.Proofs.Ytbkkpllejgedcaa.Q
set_option linter.unusedVariables false
set_option linter.unusedSimpArgs false
open Go.RowKit Go.Proofs.Ytbkkpllejgedcaa.P Go.Proofs.YtbkkpllejgedcaaW.PrintWords Go.Proofs.YtbkkpllejgedcaaW.PrintMore
def newWork (a : Int) (p : List S96) : List S96 × Int × List Int × Bool := if (runPlan a p).2 = true then (p, 0, begun a, true) else ([], 0, [], false)
theorem runPlan_plan {a : Int} {p : List S96} (h : (runPlan a p).2 = true) : planOk p = true ∧ fine a = true := by
  unfold runPlan at h
  by_cases h2 : planOk p = true ∧ fine a = true
  · exact h2
  · rw [if_neg h2] at h; exact absurd h (by simp)
theorem newWork_impl (a : Int) (p : List S96) : Ev (fun n => impl_NewWork.f n a p) (newWork a p) := by
  unfold impl_NewWork.f newWork
  refine Ev.bind (runPlan_impl a p) ?_
  by_cases h : (runPlan a p).2 = true
  rotate_left
  · exact rneg h <| evn h (Ev.now _)
  refine rpos h <| evp h (evb (copyPlan_eq p (by have := planOk_len (runPlan_plan h).1; omega)) (evp (by decide) ?_))
  simp only [Option.bind_some]
  exact evp (by simp) (Ev.now _)
theorem newWork_spec (a : Int) (p : List S96) : Ev (fun n => spec_NewWork.f n a p) (newWork a p) := by
  unfold spec_NewWork.f newWork
  refine Ev.bind (runPlan_spec a p) ?_
  by_cases h : (runPlan a p).2 = true
  rotate_left
  · exact rneg h <| evn h (Ev.now _)
  refine rpos h <| evp h (evb (l19Copy_eq p (by have := planOk_len (runPlan_plan h).1; omega)) (evp (by decide) ?_))
  simp only [Option.bind_some]
  exact evp (by simp) (Ev.now _)
theorem newWork_len (a : Int) (p : List S96) : (newWork a p).1.length ≤ 11 ∧ (newWork a p).2.2.1.length ≤ 12 := by
  unfold newWork
  by_cases h : (runPlan a p).2 = true
  · rw [if_pos h]; exact ⟨planOk_len (runPlan_plan h).1, by simp [begun]⟩
  · rw [if_neg h]; simp
end Go.Proofs.Ytbkkpllejgedcaa.Q


namespace Go.Proofs.Ytbkkpllejgedcaa.Q
set_option linter.unusedVariables false
set_option linter.unusedSimpArgs false
open Go.RowKit Go.Proofs.Ytbkkpllejgedcaa.P Go.Proofs.YtbkkpllejgedcaaW.PrintWords Go.Proofs.YtbkkpllejgedcaaW.PrintMore
def newShop (x : Int) (p : List S96) : List S96 × Int × List Int × Int × Int × List S74 × Bool :=
  if (newWork x p).2.2.2 = true then ((newWork x p).1, (newWork x p).2.1, (newWork x p).2.2.1, 15, 0, [], true) else ([], 0, [], 0, 0, [], false)
theorem newShop_impl (x : Int) (p : List S96) : Ev (fun k => impl_NewShop.f k x p) (newShop x p) := by
  unfold impl_NewShop.f newShop
  refine Ev.bind (newWork_impl x p) ?_
  by_cases h : (newWork x p).2.2.2 = true
  · exact rpos h <| evp h (Ev.now _)
  · exact rneg h <| evn h (Ev.now _)
theorem newShop_spec (x : Int) (p : List S96) : Ev (fun k => spec_NewShop.f k x p) (newShop x p) := by
  unfold spec_NewShop.f newShop
  refine Ev.bind (newWork_spec x p) ?_
  by_cases h : (newWork x p).2.2.2 = true
  · exact rpos h <| evp h (Ev.now _)
  · exact rneg h <| evn h (Ev.now _)
theorem newShop_len (x : Int) (p : List S96) : (newShop x p).1.length ≤ 11 ∧ (newShop x p).2.2.1.length ≤ 12 ∧ (newShop x p).2.2.2.2.2.1.length = 0 := by
  unfold newShop; split
  · exact ⟨(newWork_len x p).1, (newWork_len x p).2, rfl⟩
  · exact ⟨by simp, by simp, rfl⟩
end Go.Proofs.Ytbkkpllejgedcaa.Q


namespace Go.Proofs.Ytbkkpllejgedcaa.Q
set_option linter.unusedVariables false
set_option linter.unusedSimpArgs false
open Go.RowKit Go.Proofs.Ytbkkpllejgedcaa.P Go.Proofs.YtbkkpllejgedcaaW.PrintWords Go.Proofs.YtbkkpllejgedcaaW.PrintMore
def usualKind (i : Nat) : Int := if i = 0 ∨ i = 2 ∨ i = 4 ∨ i = 7 ∨ i = 9 then 1 else 2
def usualPlan (b : Int) : List S96 := if 0 ≤ b ∧ b ≤ 5000 then (List.range 11).map (fun (i : Nat) => ⟨(i : Int), (i : Int) + 1, usualKind i, b⟩) else []
theorem usual_kinds : ∀ i : Nat, i < 11 → rd [1, 2, 1, 2, 1, 2, 2, 1, 2, 1, 2] (i : Int) = usualKind i := by decide
theorem usual_spec (b : Int) : Ev (fun k => spec_UsualPlan.f k b) (usualPlan b) := by
  unfold spec_UsualPlan.f usualPlan
  by_cases hb : 0 ≤ b ∧ b ≤ 5000
  rotate_left
  · refine rneg hb (Ev.step (fun k => by rw [spec_UsualPlan.l0]) (evp (by decide) (evb (l01In_eq _ _ _) (evn (bfalse hb) (Ev.now _)))))
  refine rpos hb ?_
  have key : ∀ i : Nat, i ≤ 11 → Ev (fun k => spec_UsualPlan.l0 k b ((List.range i).map (fun (i : Nat) => (⟨(i : Int), (i : Int) + 1, usualKind i, b⟩ : S96))) (i : Int)) ((List.range 11).map (fun (i : Nat) => ⟨(i : Int), (i : Int) + 1, usualKind i, b⟩)) := by
    refine down (n := 11) ?_ ?_
    · exact Ev.step (fun k => by rw [spec_UsualPlan.l0]) (evn (by decide) (Ev.now _))
    · intro i hi ih
      refine Ev.step (fun k => by rw [spec_UsualPlan.l0]) ?_
      refine evp (by omega) (evb (l01In_eq _ _ _) ?_)
      refine evp (btrue hb) (evb rfl ?_)
      refine evp (by omega) ?_
      refine evp (by simp; omega) ?_
      refine evp (by simp; omega) ?_
      rw [usual_kinds i hi, w64 (n := (i : Int) + 1) (by omega) (by omega)]
      rw [List.range_succ, List.map_append] at ih
      exact ih
  exact key 0 (by omega)
end Go.Proofs.Ytbkkpllejgedcaa.Q


namespace Go.Proofs.Ytbkkpllejgedcaa.Q
set_option linter.unusedVariables false
set_option linter.unusedSimpArgs false
open Go.RowKit Go.Proofs.Ytbkkpllejgedcaa.P Go.Proofs.YtbkkpllejgedcaaW.PrintWords Go.Proofs.YtbkkpllejgedcaaW.PrintMore
theorem usual_impl (b : Int) : Ev (fun k => impl_UsualPlan.f k b) (usualPlan b) := by
  unfold impl_UsualPlan.f usualPlan
  refine evb (within_eq _ _ _) ?_
  by_cases hb : 0 ≤ b ∧ b ≤ 5000
  rotate_left
  · exact rneg hb (evn (bfalse hb) (Ev.now _))
  refine rpos hb (evp (btrue hb) ?_)
  have key : ∀ i : Nat, i ≤ 11 → Ev (fun k => impl_UsualPlan.l0 k b ((List.range i).map (fun (i : Nat) => (⟨(i : Int), (i : Int) + 1, usualKind i, b⟩ : S96))) (i : Int)) ((List.range 11).map (fun (i : Nat) => ⟨(i : Int), (i : Int) + 1, usualKind i, b⟩)) := by
    refine down (n := 11) ?_ ?_
    · exact Ev.step (fun k => by rw [impl_UsualPlan.l0]) (evn (by decide) (Ev.now _))
    · intro i hi ih
      refine Ev.step (fun k => by rw [impl_UsualPlan.l0]) (evp (by omega) ?_)
      rw [w64 (n := (i : Int) + 1) (by omega) (by omega)]
      rw [List.range_succ, List.map_append] at ih
      have hlen : ((List.range i).map (fun (i : Nat) => (⟨(i : Int), (i : Int) + 1, usualKind i, b⟩ : S96))).length < 4398046511104 := by simp; omega
      by_cases h0 : i = 0
      · exact evp (by omega) (evp hlen (by subst h0; exact ih))
      refine evn (by omega) ?_
      by_cases h2 : i = 2
      · exact evp (by omega) (evp hlen (by subst h2; exact ih))
      refine evn (by omega) ?_
      by_cases h4 : i = 4
      · exact evp (by omega) (evp hlen (by subst h4; exact ih))
      refine evn (by omega) ?_
      by_cases h7 : i = 7
      · exact evp (by omega) (evp hlen (by subst h7; exact ih))
      refine evn (by omega) ?_
      by_cases h9 : i = 9
      · exact evp (by omega) (evp hlen (by subst h9; exact ih))
      refine evn (by omega) (evp hlen ?_)
      have hk : usualKind i = 2 := by unfold usualKind; rw [if_neg (by omega)]
      simp only [List.map_cons, List.map_nil, hk] at ih
      exact ih
  exact key 0 (by omega)
def sampleShop : List S96 × Int × List Int × Int × Int × List S74 := ((newShop 264000 (usualPlan 700)).1, (newShop 264000 (usualPlan 700)).2.1, (newShop 264000 (usualPlan 700)).2.2.1, (newShop 264000 (usualPlan 700)).2.2.2.1, (newShop 264000 (usualPlan 700)).2.2.2.2.1, (newShop 264000 (usualPlan 700)).2.2.2.2.2.1)
theorem sample_impl : Ev (fun k => impl_SampleShop.f k) sampleShop := by
  unfold impl_SampleShop.f
  exact Ev.bind (usual_impl 700) (Ev.bind (newShop_impl 264000 _) (Ev.now _))
theorem sample_spec : Ev (fun k => spec_SampleShop.f k) sampleShop := by
  unfold spec_SampleShop.f
  exact Ev.bind (usual_spec 700) (Ev.bind (newShop_spec 264000 _) (Ev.now _))
theorem sampleShop_len : sampleShop.1.length ≤ 11 ∧ sampleShop.2.2.1.length ≤ 12 ∧ sampleShop.2.2.2.2.2.length = 0 := newShop_len 264000 (usualPlan 700)
end Go.Proofs.Ytbkkpllejgedcaa.Q


namespace Go.Proofs.Ytbkkpllejgedcaa.Q
set_option linter.unusedVariables false
set_option linter.unusedSimpArgs false
open Go.RowKit Go.Proofs.Ytbkkpllejgedcaa.P Go.Proofs.YtbkkpllejgedcaaW.PrintWords Go.Proofs.YtbkkpllejgedcaaW.PrintMore
theorem eqIntS_ev (l : List Int) (hl : l.length ≤ 9000000000000000000) : Ev (fun k => laws_eqIntS.f k l l) true := by
  have key : ∀ i, i ≤ l.length → Ev (fun k => laws_eqIntS.l0 k l l (i : Int)) true := by
    refine down (n := l.length) ?_ ?_
    · exact Ev.step (fun k => by rw [laws_eqIntS.l0]) (evn (by omega) (evs rfl))
    · intro i hi ih
      refine Ev.step (fun k => by rw [laws_eqIntS.l0]) (evp (by omega) (evp (by omega) (evp (by omega) (evp rfl ?_))))
      rw [w64 (by omega) (by omega)]
      exact ih
  unfold laws_eqIntS.f
  exact evp rfl (key 0 (Nat.zero_le _))
def runs (k : Int) (n : Nat) : List Int := (List.range n).map (fun (j : Nat) => k + j)
theorem runs_len (k : Int) (n : Nat) : (runs k n).length = n := by simp [runs]
theorem markIntS_ev (l : List Int) (m : Int) (h0 : 0 ≤ m) (hm : m + l.length ≤ 4000000000000000000) : Ev (fun k => laws_markIntS.f k l m) (m + l.length, runs m l.length) := by
  have key : ∀ i, i ≤ l.length → ∀ acc : List Int, acc.length = l.length → acc.take i = runs m i → Ev (fun k => laws_markIntS.l0 k acc (m + i) (i : Int)) (m + l.length, runs m l.length) := by
    refine down (n := l.length) ?_ ?_
    · intro acc ha ht
      refine Ev.step (fun k => by rw [laws_markIntS.l0]) (evn (by omega) (evs ?_))
      rw [← ht, List.take_of_length_le (by omega)]
    · intro i hi ih acc ha ht
      refine Ev.step (fun k => by rw [laws_markIntS.l0]) (evp (by omega) (evp (by omega) ?_))
      rw [w64 (by omega) (by omega), w64 (by omega) (by omega), Int.toNat_natCast]
      have := ih (acc.set i (m + i)) (by simpa using ha) (by
        rw [set_take _ _ _ (by omega), ht]
        simp [runs, List.range_succ])
      rw [Int.add_assoc]
      exact this
  have := key 0 (Nat.zero_le _) l rfl (by simp [runs])
  unfold laws_markIntS.f
  simpa using this
theorem heldIntS_ev (n : Nat) (m : Int) (h0 : 0 ≤ m) (hm : m + n ≤ 4000000000000000000) : Ev (fun k => laws_heldIntS.f k (runs m n) m) (m + n) := by
  have key : ∀ i, i ≤ n → Ev (fun k => laws_heldIntS.l0 k (runs m n) (m + i) (i : Int)) (m + n) := by
    refine down (n := n) ?_ ?_
    · exact Ev.step (fun k => by rw [laws_heldIntS.l0]) (evn (by rw [runs_len]; omega) (evs rfl))
    · intro i hi ih
      refine Ev.step (fun k => by rw [laws_heldIntS.l0]) (evp (by rw [runs_len]; omega) (evp (by omega) (evp ?_ ?_)))
      · rw [rd_nat _ _ (by rw [runs_len]; exact hi)]; simp [runs]
      · rw [w64 (by omega) (by omega), w64 (by omega) (by omega), Int.add_assoc]
        exact ih
  have := key 0 (Nat.zero_le _)
  unfold laws_heldIntS.f
  simpa using this
end Go.Proofs.Ytbkkpllejgedcaa.Q


namespace Go.Proofs.Ytbkkpllejgedcaa.Q
set_option linter.unusedVariables false
set_option linter.unusedSimpArgs false
open Go.RowKit Go.Proofs.Ytbkkpllejgedcaa.P Go.Proofs.YtbkkpllejgedcaaW.PrintWords Go.Proofs.YtbkkpllejgedcaaW.PrintMore
theorem eqWork_ev (p : List S96) (d : Int) (q : List Int) (hp : p.length ≤ 9000000000000000000) (hq : q.length ≤ 9000000000000000000) : Ev (fun k => laws_eqWork.f k p d q p d q) true := by
  unfold laws_eqWork.f
  exact Ev.bind (eqStepS_ev p hp) (evp rfl (evp rfl (Ev.bind (eqIntS_ev q hq) (evp rfl (Ev.now _)))))
end Go.Proofs.Ytbkkpllejgedcaa.Q


namespace Go.Proofs.Ytbkkpllejgedcaa.Q
set_option linter.unusedVariables false
set_option linter.unusedSimpArgs false
open Go.RowKit Go.Proofs.Ytbkkpllejgedcaa.P Go.Proofs.YtbkkpllejgedcaaW.PrintWords Go.Proofs.YtbkkpllejgedcaaW.PrintMore
theorem rdE (l : List S74) (i : Nat) (h : i < l.length) : rd_T74 l (i : Int) = l[i] := by
  unfold rd_T74; simp [List.getD_eq_getElem?_getD, h]
theorem eqPipe_self (a b : Int) : laws_eqPipe.f a b a b = some true := by unfold laws_eqPipe.f; simp
theorem eqEntry_self (a b c d : Int) : laws_eqEntry.f a b c d a b c d = some true := by unfold laws_eqEntry.f; simp [eqPipe_self]
theorem eqEntryS_ev (l : List S74) (hl : l.length ≤ 9000000000000000000) : Ev (fun k => laws_eqEntryS.f k l l) true := by
  have key : ∀ i, i ≤ l.length → Ev (fun k => laws_eqEntryS.l0 k l l (i : Int)) true := by
    refine down (n := l.length) ?_ ?_
    · refine Ev.step (fun k => by rw [laws_eqEntryS.l0]) (evn (by omega) ?_)
      exact Ev.now _
    · intro i hi ih
      refine Ev.step (fun k => by rw [laws_eqEntryS.l0]) (evp (by omega) (evp (by omega) (evp (by omega) ?_)))
      refine evb (eqEntry_self _ _ _ _) (evp rfl ?_)
      rw [w64 (by omega) (by omega)]
      exact ih
  unfold laws_eqEntryS.f
  refine evp rfl ?_
  exact key 0 (Nat.zero_le _)
end Go.Proofs.Ytbkkpllejgedcaa.Q


namespace Go.Proofs.Ytbkkpllejgedcaa.Q
set_option linter.unusedVariables false
set_option linter.unusedSimpArgs false
open Go.RowKit Go.Proofs.Ytbkkpllejgedcaa.P Go.Proofs.YtbkkpllejgedcaaW.PrintWords Go.Proofs.YtbkkpllejgedcaaW.PrintMore
theorem eqShop_ev (p : List S96) (d : Int) (q : List Int) (a m : Int) (l : List S74) (hp : p.length ≤ 9000000000000000000) (hq : q.length ≤ 9000000000000000000) (hl : l.length ≤ 9000000000000000000) : Ev (fun k => laws_eqShop.f k p d q a m l p d q a m l) true := by
  unfold laws_eqShop.f
  exact Ev.bind (eqWork_ev p d q hp hq) (evp rfl (evp rfl (evp rfl (Ev.bind (eqEntryS_ev l hl) (evp rfl (Ev.now _))))))
end Go.Proofs.Ytbkkpllejgedcaa.Q


namespace Go.Proofs.Ytbkkpllejgedcaa.Q
set_option linter.unusedVariables false
set_option linter.unusedSimpArgs false
open Go.RowKit Go.Proofs.Ytbkkpllejgedcaa.P Go.Proofs.YtbkkpllejgedcaaW.PrintWords Go.Proofs.YtbkkpllejgedcaaW.PrintMore
theorem markWork_ev (p : List S96) (d : Int) (q : List Int) (m : Int) (h0 : 0 ≤ m) (hm : m + 4 * p.length + q.length ≤ 4000000000000000000) :
    Ev (fun k => laws_markWork.f k p d q m) (m + 4 * p.length + q.length, runsS m p.length, runs (m + 4 * p.length) q.length) := by
  unfold laws_markWork.f
  exact Ev.bind (markStepS_ev p m h0 (by omega)) (Ev.bind (markIntS_ev q _ (by omega) (by omega)) (Ev.now _))
theorem heldWork_ev (n : Nat) (d : Int) (j : Nat) (m : Int) (h0 : 0 ≤ m) (hm : m + 4 * n + j ≤ 4000000000000000000) :
    Ev (fun k => laws_heldWork.f k (runsS m n) d (runs (m + 4 * n) j) m) (m + 4 * n + j) := by
  unfold laws_heldWork.f
  exact Ev.bind (heldStepS_ev n m h0 (by omega)) (evn (by omega) (Ev.bind (heldIntS_ev j _ (by omega) (by omega)) (evn (by omega) (Ev.now _))))
end Go.Proofs.Ytbkkpllejgedcaa.Q


namespace Go.Proofs.Ytbkkpllejgedcaa.Q
set_option linter.unusedVariables false
set_option linter.unusedSimpArgs false
open Go.RowKit Go.Proofs.Ytbkkpllejgedcaa.P Go.Proofs.YtbkkpllejgedcaaW.PrintWords Go.Proofs.YtbkkpllejgedcaaW.PrintMore
def runsE (m : Int) (n : Nat) : List S74 := (List.range n).map (fun (j : Nat) => ⟨⟨m + 4 * j, m + 4 * j + 1⟩, m + 4 * j + 2, m + 4 * j + 3⟩)
theorem runsE_len (m : Int) (n : Nat) : (runsE m n).length = n := by simp [runsE]
theorem rdE_set_self (l : List S74) (i : Nat) (v : S74) (h : i < l.length) : rd_T74 (l.set i v) (i : Int) = v := by
  rw [rdE _ _ (by simpa using h)]; simp
theorem markEntryS_ev (l : List S74) (m : Int) (h0 : 0 ≤ m) (hm : m + 4 * l.length ≤ 4000000000000000000) : Ev (fun k => laws_markEntryS.f k l m) (m + 4 * l.length, runsE m l.length) := by
  have key : ∀ i, i ≤ l.length → ∀ acc : List S74, acc.length = l.length → acc.take i = runsE m i → Ev (fun k => laws_markEntryS.l0 k acc (m + 4 * i) (i : Int)) (m + 4 * l.length, runsE m l.length) := by
    refine down (n := l.length) ?_ ?_
    · intro acc ha ht
      refine Ev.step (fun k => by rw [laws_markEntryS.l0]) (evn (by omega) (evs ?_))
      rw [← ht, List.take_of_length_le (by omega)]
    · intro i hi ih acc ha ht
      refine Ev.step (fun k => by rw [laws_markEntryS.l0]) ?_
      refine evp (by omega) (evp (by omega) ?_)
      simp only [Option.bind_some]
      rw [w64 (n := m + 4 * i + 1) (by omega) (by omega), w64 (n := m + 4 * i + 1 + 1) (by omega) (by omega), w64 (n := m + 4 * i + 1 + 1 + 1) (by omega) (by omega), w64 (n := m + 4 * i + 1 + 1 + 1 + 1) (by omega) (by omega), w64 (n := (i : Int) + 1) (by omega) (by omega), Int.toNat_natCast]
      have := ih (acc.set i ⟨⟨m + 4 * i, m + 4 * i + 1⟩, m + 4 * i + 2, m + 4 * i + 3⟩) (by simpa using ha) (by
        rw [set_take _ _ _ (by omega), ht]
        simp [runsE, List.range_succ])
      have rs : ∀ (L : List S74) (v : S74), L.length = l.length → rd_T74 (L.set i v) (i : Int) = v := fun L v hL => rdE_set_self L i v (by omega)
      simp only [rs _ _ ha, List.set_set]
      rw [show m + 4 * (i : Int) + 1 + 1 = m + 4 * i + 2 by omega, show m + 4 * (i : Int) + 2 + 1 = m + 4 * i + 3 by omega, show m + 4 * (i : Int) + 3 + 1 = m + 4 * ((i + 1 : Nat) : Int) by omega]
      exact this
  have := key 0 (Nat.zero_le _) l rfl (by simp [runsE])
  unfold laws_markEntryS.f
  simpa using this
theorem heldEntryS_ev (n : Nat) (m : Int) (h0 : 0 ≤ m) (hm : m + 4 * n ≤ 4000000000000000000) : Ev (fun k => laws_heldEntryS.f k (runsE m n) m) (m + 4 * n) := by
  have key : ∀ i, i ≤ n → Ev (fun k => laws_heldEntryS.l0 k (runsE m n) (m + 4 * i) (i : Int)) (m + 4 * n) := by
    refine down (n := n) ?_ ?_
    · exact Ev.step (fun k => by rw [laws_heldEntryS.l0]) (evn (by rw [runsE_len]; omega) (evs rfl))
    · intro i hi ih
      refine Ev.step (fun k => by rw [laws_heldEntryS.l0]) (evp (by rw [runsE_len]; omega) (evp (by omega) ?_))
      rw [rdE _ _ (by rw [runsE_len]; exact hi), show (runsE m n)[i]'(by rw [runsE_len]; exact hi) = ⟨⟨m + 4 * i, m + 4 * i + 1⟩, m + 4 * i + 2, m + 4 * i + 3⟩ by simp [runsE]]
      rw [w64 (n := m + 4 * i + 1) (by omega) (by omega), w64 (n := m + 4 * i + 1 + 1) (by omega) (by omega), w64 (n := m + 4 * i + 1 + 1 + 1) (by omega) (by omega), w64 (n := m + 4 * i + 1 + 1 + 1 + 1) (by omega) (by omega), w64 (n := (i : Int) + 1) (by omega) (by omega)]
      refine evp rfl (evp rfl (evp ?_ (evp ?_ ?_)))
      · show m + 4 * (i : Int) + 2 = _; omega
      · show m + 4 * (i : Int) + 3 = _; omega
      rw [show m + 4 * (i : Int) + 1 + 1 + 1 + 1 = m + 4 * ((i + 1 : Nat) : Int) by omega]
      exact ih
  have := key 0 (Nat.zero_le _)
  unfold laws_heldEntryS.f
  simpa using this
end Go.Proofs.Ytbkkpllejgedcaa.Q


namespace Go.Proofs.Ytbkkpllejgedcaa.Q
set_option linter.unusedVariables false
set_option linter.unusedSimpArgs false
open Go.RowKit Go.Proofs.Ytbkkpllejgedcaa.P Go.Proofs.YtbkkpllejgedcaaW.PrintWords Go.Proofs.YtbkkpllejgedcaaW.PrintMore
theorem markShop_ev (p : List S96) (d : Int) (q : List Int) (a m : Int) (l : List S74) (n : Int) (h0 : 0 ≤ n) (hn : n ≤ 4) (hp : p.length ≤ 4000000) (hq : q.length ≤ 4000000) (hl : l.length ≤ 4000000) :
    Ev (fun k => laws_markShop.f k p d q a m l n) (n + 4 * p.length + q.length + 4 * l.length, runsS n p.length, runs (n + 4 * p.length) q.length, runsE (n + 4 * p.length + q.length) l.length) := by
  unfold laws_markShop.f
  exact Ev.bind (markWork_ev p d q n h0 (by omega)) (Ev.bind (markEntryS_ev l _ (by omega) (by omega)) (Ev.now _))
theorem heldShop_ev (x : Nat) (d : Int) (y : Nat) (a m : Int) (z : Nat) (n : Int) (h0 : 0 ≤ n) (hn : n ≤ 4) (hp : x ≤ 4000000) (hq : y ≤ 4000000) (hl : z ≤ 4000000) :
    Ev (fun k => laws_heldShop.f k (runsS n x) d (runs (n + 4 * x) y) a m (runsE (n + 4 * x + y) z) n) (n + 4 * x + y + 4 * z) := by
  unfold laws_heldShop.f
  exact Ev.bind (heldWork_ev x d y n h0 (by omega)) (evn (by omega) (Ev.bind (heldEntryS_ev z _ (by omega) (by omega)) (evn (by omega) (Ev.now _))))
end Go.Proofs.Ytbkkpllejgedcaa.Q


namespace Go.Proofs.Ytbkkpllejgedcaa.Pure
set_option linter.unusedVariables false
set_option linter.unusedSimpArgs false
open Go.RowKit Go.Proofs.Ytbkkpllejgedcaa.P Go.Proofs.Ytbkkpllejgedcaa.Q Go.Proofs.YtbkkpllejgedcaaW.PrintWords Go.Proofs.YtbkkpllejgedcaaW.PrintLast
theorem FnExactSampleShop : laws_FnExactSampleShop.Pure := by
  show ∃ k, laws_FnExactSampleShop.f k = some true
  refine Ev.rounds ?_
  unfold laws_FnExactSampleShop.f
  have A := sample_spec
  have B := sample_impl
  obtain ⟨R, hR⟩ : ∃ R, sampleShop = R := ⟨_, rfl⟩
  have L := sampleShop_len
  rw [hR] at A B L
  have F := eqShop_ev R.1 R.2.1 R.2.2.1 R.2.2.2.1 R.2.2.2.2.1 R.2.2.2.2.2 (by omega) (by omega) (by omega)
  have G := markShop_ev R.1 R.2.1 R.2.2.1 R.2.2.2.1 R.2.2.2.2.1 R.2.2.2.2.2 1 (by omega) (by omega) (by omega) (by omega) (by omega)
  have H := heldShop_ev R.1.length R.2.1 R.2.2.1.length R.2.2.2.1 R.2.2.2.2.1 R.2.2.2.2.2.length 1 (by omega) (by omega) (by omega) (by omega) (by omega)
  repeat' first
    | exact Ev.now _
    | refine Ev.bind A ?_
    | refine Ev.bind B ?_
    | refine Ev.bind F ?_
    | refine Ev.bind G ?_
    | refine Ev.bind H ?_
    | refine evp rfl ?_
    | refine evn (by first | decide | (dsimp only; omega) | simp) ?_
end Go.Proofs.Ytbkkpllejgedcaa.Pure


namespace Go.Proofs.Ytbkkpllejgedcaa.fnExactSampleShop
open Go.ChangeShapes Go.WideShapes Go.ChangeAt Go.RowKit
open Go.ChangeMaps (open_string shut_string)
set_option linter.unusedVariables false
theorem own : ownKnob Try.prog.godebug = none := by kernel_rfl
set_option maxRecDepth 100000 in
theorem lifted (os : Os) (started : os.Started) (H : Type) (enc : TypeId × Value → H) :
    ReturnsInHanded {} Try.checked os 7 .any (Rows.fnExactSampleShopSpec.pre6 enc Try.prog Try.f7 Rows.fnExactSampleShopRow.domain false) (Rows.fnExactSampleShopSpec.post enc Try.prog Try.f7 false true false false) := by
  refine returnsInHanded_of_change_sized (C := Try.checked) own started (by kernel_rfl) Try.func7
    (ChangeSpec.witness6 (enc := enc) (C := Try.checked) false ⟨#[], #[], []⟩ 8 (by kernel_rfl) (by kernel_rfl) (by kernel_rfl) (by kernel_rfl)) ?_
  intro W base args ds gs before hval0 hW hcnd hsz0 _
  have hsz : (DataW.weightsEach Try.prog (Try.f7.params.toList ++ Rows.fnExactSampleShopSpec.plain.varTypes Try.prog) (ds ++ gs)).all (· ≤ reachBytes) = true := hsz0
  have hval : ∀ (j : Nat) t v, Try.f7.params[j]? = some t → args[j]? = some v → Value.okWide Try.prog W .any base t v := hval0
  have hW' := hW
  obtain ⟨p, q, hA0, hV, rfl, hfz, hnd⟩ := hW
  have hA : DataW.TrodAll enc Try.prog W 0 (fun _ => true) true Try.f7.params.toList args.toList ds p := hA0
  rw [Try.params7] at hA hval hsz
  obtain ⟨rfl, rfl, rfl⟩ := trodAll_none hA
  obtain ⟨rfl, rfl⟩ := trodVars_none hV
  clear hA0 hval0 hsz0 hsz
  refine (P.laws_FnExactSampleShop.walk Pure.FnExactSampleShop  W ).mono fun e W' ⟨he, bel⟩ => ?_
  subst he
  exact ⟨_, rfl, _, _, _, [], _, [], hW', trodAll_mk1 (shut_bool Try.underlying4 _), trodAll_mk0, rfl, bel.frame _, fun h => by cases h⟩
theorem over : Rows.fnExactSampleShopRow.holds Try.pinned (OpenSpec.ofChange Rows.fnExactSampleShopSpec) :=
  OpenClaim.holds_of_wide 7 Try.f7 rfl rfl rfl rfl rfl rfl rfl ⟨rfl, rfl, rfl, rfl, rfl⟩ rfl rfl rfl rfl rfl (by kernel_rfl) Try.func7 (by kernel_rfl)
    (of_decide_eq_true (by kernel_rfl)) (by unfold Func.isWrapper; first | (rw [if_pos (by decide +kernel)]; kernel_rfl) | (rw [if_neg (by decide +kernel)]; exact ⟨rfl, rfl⟩))
    (fun os started H enc _ => lifted os started H enc)
theorem proved : Rows.FnExactSampleShopSaid := over
#print axioms proved
end Go.Proofs.Ytbkkpllejgedcaa.fnExactSampleShop
namespace Go.Proofs.Ytbkkpllejgedcaa
theorem fnExactSampleShop_holds : Rows.FnExactSampleShopSaid := fnExactSampleShop.proved
end Go.Proofs.Ytbkkpllejgedcaa

