/- What functions of the program come to (f), that their calls come to just this (calls), and the plain laws over lists and numbers. No condition but those of the given row. -/
import Derived.Test.YtbkkpllejgedcaaC1
namespace Go.Proofs.Ytbkkpllejgedcaa.P
open Go.RowKit Go.Proofs.YtbkkpllejgedcaaW.PrintWords Go.Proofs.YtbkkpllejgedcaaW.PrintLast Go.Proofs.YtbkkpllejgedcaaW.PrintMore
attribute [local go_sem] max2_int min2_int max_two min_two max_three min_three max_four min_four
set_option linter.unusedVariables false
set_option linter.unusedSimpArgs false
def spec_AddEntry.f (k : Nat) (l0 : List (S74)) (a1_0 : Int) (a1_1 : Int) (a1_2 : Int) (a1_3 : Int) : Option ((List (S74)) × Bool) := (spec_l34Copy.f l0).bind fun t1001 => ((some (([(⟨(⟨a1_0, a1_1⟩ : S56), a1_2, a1_3⟩ : S74)] : List (S74)) : List (S74))).bind fun y1004 => (if t1001.length + y1004.length < 4398046511104 then ((some (t1001 ++ y1004 : List (S74))).bind fun y1007 => ((spec_LogOk.f k l0).bind fun t1010 => (if t1010 = true then ((spec_LogOk.f k y1007).bind fun t1011 => (if t1011 = true then (some (y1007, true)) else ((spec_l34Copy.f l0).bind fun t1012 => (some (t1012, false))))) else ((spec_l34Copy.f l0).bind fun t1015 => (some (t1015, false)))))) else (none)))
theorem spec_AddEntry.mono : ∀ a0 a1 a2 a3 a4 k, LeO (spec_AddEntry.f k a0 a1 a2 a3 a4) (spec_AddEntry.f (k + 1) a0 a1 a2 a3 a4) := by
  intro a0 a1 a2 a3 a4 k
  unfold spec_AddEntry.f
  repeat' first
      | (with_reducible exact spec_LogOk.mono _ _)
      | (with_reducible exact LeO.refl _)
      | (with_reducible exact LeO.none _)
      | (with_reducible refine LeO.ite ?_ ?_)
      | (with_reducible refine LeO.bind ?_ (fun _ => ?_))
      | exact spec_LogOk.mono _ _
      | exact LeO.none _
      | refine LeO.ite ?_ ?_
      | refine LeO.bind ?_ (fun _ => ?_)
set_option maxHeartbeats 8000000 in
set_option maxRecDepth 100000 in
theorem spec_AddEntry.calls (k : Nat) (A0 : Option Addr) (c0 : Nat) (l0 : List (S74)) (a1_0 : Int) (a1_1 : Int) (a1_2 : Int) (a1_3 : Int) (r1 : List (S74)) (r2 : Bool) (w : World) (hr0 : Kd.C k74 w A0 l0.length l0) (hc0 : l0.length ≤ c0) (h : spec_AddEntry.f k l0 a1_0 a1_1 a1_2 a1_3 = some (r1, r2)) :
    Calls Try.prog 48 #[.slice A0 l0.length c0, .agg #[.int .i64 a1_0, .int .i64 a1_1, .int .i64 a1_2, .int .i64 a1_3]] w fun e w' => ∃ v0_ : Value, e = .returned (.tuple #[v0_, .bool r2]) ∧ Kd.R k74 74 w' w.heap.size (fun _ => True) v0_ r1 ∧ Below w.heap.size w w' := by
  have hu74 := Try.underlying74
  have HR0 := Aside0.mk hr0
  have HC0 := Aside0.mk hc0
  clear hr0 hc0
  have HB := Aside0.mk (Below.refl w.heap.size w)
  have H : ((spec_l34Copy.f l0).bind fun t1001 => ((some (([(⟨(⟨a1_0, a1_1⟩ : S56), a1_2, a1_3⟩ : S74)] : List (S74)) : List (S74))).bind fun y1004 => (if t1001.length + y1004.length < 4398046511104 then ((some (t1001 ++ y1004 : List (S74))).bind fun y1007 => ((spec_LogOk.f k l0).bind fun t1010 => (if t1010 = true then ((spec_LogOk.f k y1007).bind fun t1011 => (if t1011 = true then (some (y1007, true)) else ((spec_l34Copy.f l0).bind fun t1012 => (some (t1012, false))))) else ((spec_l34Copy.f l0).bind fun t1015 => (some (t1015, false)))))) else (none)))) = some (r1, r2) := h
  clear h
  replace H := Option.bind_eq_some_iff.mp H
  obtain ⟨t1001, A30, H⟩ := H
  (try dsimp only at H)
  have A3 := Aside0.mk A30
  clear A30
  obtain ⟨y1004, hy1004⟩ : ∃ y_ : List (S74), y_ = (([(⟨(⟨a1_0, a1_1⟩ : S56), a1_2, a1_3⟩ : S74)] : List (S74))) := ⟨_, rfl⟩
  replace H : (if t1001.length + y1004.length < 4398046511104 then ((some (t1001 ++ y1004 : List (S74))).bind fun y1007 => ((spec_LogOk.f k l0).bind fun t1010 => (if t1010 = true then ((spec_LogOk.f k y1007).bind fun t1011 => (if t1011 = true then (some (y1007, true)) else ((spec_l34Copy.f l0).bind fun t1012 => (some (t1012, false))))) else ((spec_l34Copy.f l0).bind fun t1015 => (some (t1015, false)))))) else (none)) = some (r1, r2) := by first | (rw [hy1004]; with_reducible exact H) | (have H2_ := (Option.bind_some _ _).symm.trans H; rw [hy1004]; with_reducible exact H2_) | (have H2_ := (Option.bind_some _ _).symm.trans H; with_reducible exact H2_) | with_reducible exact H | (rw [hy1004]; exact H) | exact H
  have Ny1004 := Aside0.mk hy1004
  clear hy1004
  by_cases c4 : t1001.length + y1004.length < 4398046511104
  · rw [if_pos c4] at H
    have LMc4 := Aside0.mk c4
    clear c4
    obtain ⟨y1007, hy1007⟩ : ∃ y_ : List (S74), y_ = (t1001 ++ y1004) := ⟨_, rfl⟩
    replace H : ((spec_LogOk.f k l0).bind fun t1010 => (if t1010 = true then ((spec_LogOk.f k y1007).bind fun t1011 => (if t1011 = true then (some (y1007, true)) else ((spec_l34Copy.f l0).bind fun t1012 => (some (t1012, false))))) else ((spec_l34Copy.f l0).bind fun t1015 => (some (t1015, false))))) = some (r1, r2) := by first | (rw [hy1007]; with_reducible exact H) | (have H2_ := (Option.bind_some _ _).symm.trans H; rw [hy1007]; with_reducible exact H2_) | (have H2_ := (Option.bind_some _ _).symm.trans H; with_reducible exact H2_) | with_reducible exact H | (rw [hy1007]; exact H) | exact H
    have Ny1007 := Aside0.mk hy1007
    clear hy1007
    replace H := Option.bind_eq_some_iff.mp H
    obtain ⟨t1010, A50, H⟩ := H
    (try dsimp only at H)
    have A5 := Aside0.mk A50
    clear A50
    by_cases c6 : t1010 = true
    · subst c6
      rw [if_pos rfl] at H
      replace H := Option.bind_eq_some_iff.mp H
      obtain ⟨t1011, A70, H⟩ := H
      (try dsimp only at H)
      have A7 := Aside0.mk A70
      clear A70
      by_cases c8 : t1011 = true
      · subst c8
        rw [if_pos rfl] at H
        simp only [Option.some.injEq, Prod.mk.injEq] at H
        obtain ⟨rfl, rfl⟩ := H
        go_enter Try.func48, Try.ntmps48
        try go_wp2_with (first | ((with_reducible refine gate_dst (N := 3) rfl ?_); refine box_event ?hg (N := 3) ?hd (cs := #[.int .i64 a1_0, .int .i64 a1_1, .int .i64 a1_2, .int .i64 a1_3]) (t := 74) ?hr ?_; (case hd => rfl); (case hg => rfl); (case hr => first | (go_simp; done) | (go_simp; rfl)); intro gb1000 hg w9 hbox hb; have n0_ := Aside0.mk (below_step (oB HB) hb); have n1_ := Aside0.mk (hbox); have n2_ := Aside0.mk ((by rw [hg]; exact (below_size (oB HB)) : w.heap.size ≤ gb1000)); have n3_ := Aside0.mk ((by rw [hg]; exact (below_size (oB HB)) : w.heap.size ≤ gb1000)); clear HB; have HB := n0_; have BK1000 := n1_; have GW1000 := n2_; have GE1000 := n3_; clear n0_ n1_ n2_ n3_; clear hb hbox hg))
        have n0_ := Aside0.mk (blk_drew BK1000.out)
        have n1_ := Aside0.mk (below_drew1 HB.out)
        clear BK1000
        clear HB
        have BK1000 := n0_
        have HB := n1_
        clear n0_ n1_
        refine start_ (n := 6) (S := fun w' => w'.cell? ⟨gb1000, 0, none⟩ = some (.int .i64 a1_0) ∧ w'.cell? ⟨gb1000, 1, none⟩ = some (.int .i64 a1_1) ∧ w'.cell? ⟨gb1000, 2, none⟩ = some (.int .i64 a1_2) ∧ w'.cell? ⟨gb1000, 3, none⟩ = some (.int .i64 a1_3)) (ds := []) #[false, false, false, false, false, false] (by kernel_rfl) rfl rfl ⟨(blk_cell BK1000.out 0).trans rfl, (blk_cell BK1000.out 1).trans rfl, (blk_cell BK1000.out 2).trans rfl, (blk_cell BK1000.out 3).trans rfl⟩ (fun hHeld => ?_)
        generalize w9.drew = w10 at BK1000 HB hHeld ⊢
        refine pure_ (i := 0) (N := some 7) (v := ?_) (a' := ?_) #[true, false, false, false, false, false] rfl rfl (by kernel_rfl) (fun _ _ _ h => h) (Or.inl ⟨by rfl, ?_⟩) ?_ ?_
        rotate_left
        · intro w'
          go_simp
          with_reducible rfl
        rotate_left
        · simp only [Act.put, List.setIfInBounds_toArray, List.set_cons_zero, List.set_cons_succ, i64_w, i32_w]
          rfl
        refine take_ (i := 2) (N := some 9) (v := ?_) (a' := ?_) #[true, false, true, false, false, false] rfl rfl (by kernel_rfl) (fun _ _ _ h => h) (Or.inl ⟨by rfl, ?_⟩) hHeld ?_ ?_
        rotate_left
        · rintro w' ⟨s0, s1, s2, s3⟩
          go_simp
          with_reducible rfl
        rotate_left
        · simp only [Act.put, List.setIfInBounds_toArray, List.set_cons_zero, List.set_cons_succ, i64_w, i32_w]
          rfl
        refine join_ (σ := Value × Value) 2 #[true, true, true, true, false, false] (fun s_ => [(8, s_.1), (10, s_.2)]) (fun s_ w' => (w'.cell? ⟨gb1000, 0, none⟩ = some (.int .i64 a1_0) ∧ w'.cell? ⟨gb1000, 1, none⟩ = some (.int .i64 a1_1) ∧ w'.cell? ⟨gb1000, 2, none⟩ = some (.int .i64 a1_2) ∧ w'.cell? ⟨gb1000, 3, none⟩ = some (.int .i64 a1_3)) ∧ (Kd.R k74 74 w' w.heap.size (fun k_ => some k_ ≠ (s_.2 : Value).ownBlock ∧ k_ ≠ gb1000) s_.1 t1001) ∧ (Kd.R k74 74 w' w.heap.size (fun k_ => some k_ ≠ (s_.1 : Value).ownBlock ∧ k_ ≠ gb1000) s_.2 y1004) ∧ (w'.heap[gb1000]? = some (.cells #[.int .i64 a1_0, .int .i64 a1_1, .int .i64 a1_2, .int .i64 a1_3] 74 (0, 0))) ∧ (Below w.heap.size w w')) ?_ ?_
        rotate_left
        · intro hCont
          refine two_ (i := 1) (j := 3) (Ni := some 8) (Nj := some 10) #[true, true, true, false, false, false] #[true, false, true, true, false, false] rfl rfl rfl rfl (by kernel_rfl) (by decide) (by decide) (fun K hK => ?_) (fun K hK => ?_)
          · skip
            refine goes_ Try.func93 (by kernel_rfl) rfl #[.slice A0 l0.length c0] (by rfl) rfl rfl (by (try simp only [List.map_toArray, List.map_cons, List.map_nil]); first | done | rfl | (simp only [List.length_drop, List.length_take]; rfl)) ?_
            with_reducible refine (spec_l34Copy.calls _ _ l0 t1001 _ ?side1 ?side2 A3.out).mono ?_
            (case side1 => exact oc_ HR0.out)
            (case side2 => exact HC0.out)
            rintro e w11 ⟨v1002, rfl, ho0, hb⟩
            refine ⟨_, rfl, ?_⟩
            have n0_ := Aside0.mk (Kd.R_lower (Kd.R_newB ho0 (g := gb1000) (o := .cells #[.int .i64 a1_0, .int .i64 a1_1, .int .i64 a1_2, .int .i64 a1_3] 74 (0, 0)) (oK BK1000)) (below_size (oB HB)))
            have n1_ := Aside0.mk (blk_below (g := gb1000) (o := .cells #[.int .i64 a1_0, .int .i64 a1_1, .int .i64 a1_2, .int .i64 a1_3] 74 (0, 0)) (oK BK1000) hb)
            have n2_ := Aside0.mk (below_step (oB HB) hb)
            clear BK1000
            clear HB
            have HO1003 := n0_
            have BK1000 := n1_
            have HB := n2_
            clear n0_ n1_ n2_
            (try clear hb)
            (try clear hb2)
            (try clear hk)
            (try clear hi)
            (try clear ho0)
            refine hK.out _ _ ⟨(blk_cell BK1000.out 0).trans rfl, (blk_cell BK1000.out 1).trans rfl, (blk_cell BK1000.out 2).trans rfl, (blk_cell BK1000.out 3).trans rfl⟩ (fun hHeld => ?_)
            clear hK K
            refine norm_ (a' := ?_) ?_ ?_
            rotate_left
            · show Act.put _ (some 8) _ = _
              simp only [Act.put, List.setIfInBounds_toArray, List.set_cons_zero, List.set_cons_succ, i64_w, i32_w]
              rfl
            refine one_ (i := 3) (N := some 10) #[true, true, true, true, false, false] rfl rfl (by kernel_rfl) (by decide) (fun K hK => ?_)
            refine Kd.R_lit_step k74 _ 74 ?hg (N := 10) ?hd (xs := ([(⟨(⟨a1_0, a1_1⟩ : S56), a1_2, a1_3⟩ : S74)] : List (S74))) (inner := [.int .i64 a1_0, .int .i64 a1_1, .int .i64 a1_2, .int .i64 a1_3]) (ok := fun _ => True) (okp := fun _ => True) ?hr ?hp (fun _ hk => hk) trivial (Below.refl _ _) (Nat.le_refl _) (by simp) ?_; (case hd => rfl); (case hg => rfl); (case hr => first | (go_simp; done) | (go_simp; rfl)); (case hp => exact (Reps.c4 (show Kd.M k74 _ _ _ (⟨(⟨a1_0, a1_1⟩ : S56), a1_2, a1_3⟩ : S74) [.int .i64 a1_0, .int .i64 a1_1, .int .i64 a1_2, .int .i64 a1_3] from (k74_mkM _ _ _ (⟨(⟨a1_0, a1_1⟩ : S56), a1_2, a1_3⟩ : S74) )) (Reps.none _ _)))
            intro v1005 w12 ho13 hb hg_ hnew_
            clear hg_ hnew_
            (first | rw [← Ny1004.out] at ho13 | (simp only [Int.reduceToNat] at ho13; rw [← Ny1004.out] at ho13))
            have n0_ := Aside0.mk (Kd.R_elder' (oR HO1003) (Kd.R_base ho13) hb)
            have n1_ := Aside0.mk (Kd.R_lower (Kd.R_newB (Kd.R_new' ho13 (Kd.R_lt (oR HO1003))) (g := gb1000) (o := .cells #[.int .i64 a1_0, .int .i64 a1_1, .int .i64 a1_2, .int .i64 a1_3] 74 (0, 0)) (oK BK1000)) (below_size (oB HB)))
            have n2_ := Aside0.mk (blk_below (g := gb1000) (o := .cells #[.int .i64 a1_0, .int .i64 a1_1, .int .i64 a1_2, .int .i64 a1_3] 74 (0, 0)) (oK BK1000) hb)
            have n3_ := Aside0.mk (below_step (oB HB) hb)
            clear HO1003
            clear BK1000
            clear HB
            have HO1003 := n0_
            have HO1006 := n1_
            have BK1000 := n2_
            have HB := n3_
            clear n0_ n1_ n2_ n3_
            clear hb ho13
            refine hK.out _ _ ⟨(blk_cell BK1000.out 0).trans rfl, (blk_cell BK1000.out 1).trans rfl, (blk_cell BK1000.out 2).trans rfl, (blk_cell BK1000.out 3).trans rfl⟩ (fun hHeld => ?_)
            clear hK K
            refine norm_ (a' := ?_) ?_ ?_
            rotate_left
            · show Act.put _ (some 10) _ = _
              simp only [Act.put, List.setIfInBounds_toArray, List.set_cons_zero, List.set_cons_succ, i64_w, i32_w]
              rfl
            exact norm_ (by simp only [putAll, Act.put, List.setIfInBounds_toArray, List.set_cons_zero, List.set_cons_succ]) (hCont (v1002, v1005) _ ⟨hHeld, (by (with_reducible repeat (first | apply Kd.R_alloc | apply Kd.R_drewN | apply Kd.R_drew)); exact Kd.R_mono HO1003.out (fun _ hk => ⟨hk.2, hk.1.2⟩)), (by (with_reducible repeat (first | apply Kd.R_alloc | apply Kd.R_drewN | apply Kd.R_drew)); exact Kd.R_mono HO1006.out (fun _ hk => ⟨hk.1.2, hk.2⟩)), (oK BK1000), (oB HB)⟩)
          · skip
            refine Kd.R_lit_step k74 _ 74 ?hg (N := 10) ?hd (xs := ([(⟨(⟨a1_0, a1_1⟩ : S56), a1_2, a1_3⟩ : S74)] : List (S74))) (inner := [.int .i64 a1_0, .int .i64 a1_1, .int .i64 a1_2, .int .i64 a1_3]) (ok := fun _ => True) (okp := fun _ => True) ?hr ?hp (fun _ hk => hk) trivial (Below.refl _ _) (Nat.le_refl _) (by simp) ?_; (case hd => rfl); (case hg => rfl); (case hr => first | (go_simp; done) | (go_simp; rfl)); (case hp => exact (Reps.c4 (show Kd.M k74 _ _ _ (⟨(⟨a1_0, a1_1⟩ : S56), a1_2, a1_3⟩ : S74) [.int .i64 a1_0, .int .i64 a1_1, .int .i64 a1_2, .int .i64 a1_3] from (k74_mkM _ _ _ (⟨(⟨a1_0, a1_1⟩ : S56), a1_2, a1_3⟩ : S74) )) (Reps.none _ _)))
            intro v1005 w11 ho12 hb hg_ hnew_
            clear hg_ hnew_
            (first | rw [← Ny1004.out] at ho12 | (simp only [Int.reduceToNat] at ho12; rw [← Ny1004.out] at ho12))
            have n0_ := Aside0.mk (Kd.R_lower (Kd.R_newB ho12 (g := gb1000) (o := .cells #[.int .i64 a1_0, .int .i64 a1_1, .int .i64 a1_2, .int .i64 a1_3] 74 (0, 0)) (oK BK1000)) (below_size (oB HB)))
            have n1_ := Aside0.mk (blk_below (g := gb1000) (o := .cells #[.int .i64 a1_0, .int .i64 a1_1, .int .i64 a1_2, .int .i64 a1_3] 74 (0, 0)) (oK BK1000) hb)
            have n2_ := Aside0.mk (below_step (oB HB) hb)
            clear BK1000
            clear HB
            have HO1006 := n0_
            have BK1000 := n1_
            have HB := n2_
            clear n0_ n1_ n2_
            clear hb ho12
            refine hK.out _ _ ⟨(blk_cell BK1000.out 0).trans rfl, (blk_cell BK1000.out 1).trans rfl, (blk_cell BK1000.out 2).trans rfl, (blk_cell BK1000.out 3).trans rfl⟩ (fun hHeld => ?_)
            clear hK K
            refine norm_ (a' := ?_) ?_ ?_
            rotate_left
            · show Act.put _ (some 10) _ = _
              simp only [Act.put, List.setIfInBounds_toArray, List.set_cons_zero, List.set_cons_succ, i64_w, i32_w]
              rfl
            refine one_ (i := 1) (N := some 8) #[true, true, true, true, false, false] rfl rfl (by kernel_rfl) (by decide) (fun K hK => ?_)
            refine goes_ Try.func93 (by kernel_rfl) rfl #[.slice A0 l0.length c0] (by rfl) rfl rfl (by (try simp only [List.map_toArray, List.map_cons, List.map_nil]); first | done | rfl | (simp only [List.length_drop, List.length_take]; rfl)) ?_
            with_reducible refine (spec_l34Copy.calls _ _ l0 t1001 _ ?side1 ?side2 A3.out).mono ?_
            (case side1 => exact oc_ HR0.out)
            (case side2 => exact HC0.out)
            rintro e w13 ⟨v1002, rfl, ho0, hb⟩
            refine ⟨_, rfl, ?_⟩
            have n0_ := Aside0.mk (Kd.R_elder' (oR HO1006) (Kd.R_base ho0) hb)
            have n1_ := Aside0.mk (Kd.R_lower (Kd.R_newB (Kd.R_new' ho0 (Kd.R_lt (oR HO1006))) (g := gb1000) (o := .cells #[.int .i64 a1_0, .int .i64 a1_1, .int .i64 a1_2, .int .i64 a1_3] 74 (0, 0)) (oK BK1000)) (below_size (oB HB)))
            have n2_ := Aside0.mk (blk_below (g := gb1000) (o := .cells #[.int .i64 a1_0, .int .i64 a1_1, .int .i64 a1_2, .int .i64 a1_3] 74 (0, 0)) (oK BK1000) hb)
            have n3_ := Aside0.mk (below_step (oB HB) hb)
            clear HO1006
            clear BK1000
            clear HB
            have HO1006 := n0_
            have HO1003 := n1_
            have BK1000 := n2_
            have HB := n3_
            clear n0_ n1_ n2_ n3_
            (try clear hb)
            (try clear hb2)
            (try clear hk)
            (try clear hi)
            (try clear ho0)
            refine hK.out _ _ ⟨(blk_cell BK1000.out 0).trans rfl, (blk_cell BK1000.out 1).trans rfl, (blk_cell BK1000.out 2).trans rfl, (blk_cell BK1000.out 3).trans rfl⟩ (fun hHeld => ?_)
            clear hK K
            refine norm_ (a' := ?_) ?_ ?_
            rotate_left
            · show Act.put _ (some 8) _ = _
              simp only [Act.put, List.setIfInBounds_toArray, List.set_cons_zero, List.set_cons_succ, i64_w, i32_w]
              rfl
            exact norm_ (by simp only [putAll, Act.put, List.setIfInBounds_toArray, List.set_cons_zero, List.set_cons_succ]) (hCont (v1002, v1005) _ ⟨hHeld, (by (with_reducible repeat (first | apply Kd.R_alloc | apply Kd.R_drewN | apply Kd.R_drew)); exact Kd.R_mono HO1003.out (fun _ hk => ⟨hk.1.2, hk.2⟩)), (by (with_reducible repeat (first | apply Kd.R_alloc | apply Kd.R_drewN | apply Kd.R_drew)); exact Kd.R_mono HO1006.out (fun _ hk => ⟨hk.2, hk.1.2⟩)), (oK BK1000), (oB HB)⟩)
        rintro ⟨v1002, v1005⟩ w14 ⟨hS_, h0_, h1_, h2_, h3_⟩
        have n0_ : Aside0 (Kd.R k74 74 w14 w.heap.size (fun k_ => some k_ ≠ (v1005 : Value).ownBlock ∧ k_ ≠ gb1000) v1002 t1001) := ⟨h0_⟩
        have n1_ : Aside0 (Kd.R k74 74 w14 w.heap.size (fun k_ => some k_ ≠ (v1002 : Value).ownBlock ∧ k_ ≠ gb1000) v1005 y1004) := ⟨h1_⟩
        have n2_ : Aside0 (w14.heap[gb1000]? = some (.cells #[.int .i64 a1_0, .int .i64 a1_1, .int .i64 a1_2, .int .i64 a1_3] 74 (0, 0))) := ⟨h2_⟩
        have n3_ : Aside0 (Below w.heap.size w w14) := ⟨h3_⟩
        clear BK1000
        clear HB
        clear h0_ h1_ h2_ h3_
        have HO1003 := n0_
        have HO1006 := n1_
        have BK1000 := n2_
        have HB := n3_
        clear n0_ n1_ n2_ n3_
        have hHeld : w14.cell? ⟨gb1000, 0, none⟩ = some (.int .i64 a1_0) ∧ w14.cell? ⟨gb1000, 1, none⟩ = some (.int .i64 a1_1) ∧ w14.cell? ⟨gb1000, 2, none⟩ = some (.int .i64 a1_2) ∧ w14.cell? ⟨gb1000, 3, none⟩ = some (.int .i64 a1_3) := hS_
        obtain ⟨Ao16, co16, eo16⟩ := Kd.R_slice HO1006.out
        (first | subst eo16 | (injection eo16 with f1_ f2_ f3_; have f4_ := f1_.symm; have f5_ := f3_.symm; clear f1_ f2_ f3_; subst f4_; subst f5_))
        refine norm_ (a' := ?_) ?_ ?_
        rotate_left
        · simp only [putAll, Act.put, List.setIfInBounds_toArray, List.set_cons_zero, List.set_cons_succ]
          rfl
        refine one_ (i := 4) (N := some 11) #[true, true, true, true, true, false] rfl rfl (by kernel_rfl) (by decide) (fun K hK => ?_)
        refine Kd.R_append_rows_step k74 (w0 := w) w.heap.size (by rfl) (.tmp 8) (.tmp 10) 34 74 (.agg #[(.int .i64 0), (.int .i64 0), (.int .i64 0), (.int .i64 0)]) 32 rfl Try.underlying34 info74 rfl (by decide) (by omega) v1002 t1001 y1004 _ _ _ (fun k_ => some k_ ≠ (.slice Ao16 y1004.length co16 : Value).ownBlock ∧ k_ ≠ gb1000) (fun _ => False) rfl rfl ?aO ?aR (fun _ _ h => h) (fun _ h => h.elim) ?aF ?aB ?aS ?aL ?_
        (case aR => repeat (first | exact (Kd.R_reads' HO1006.out).2.2 | (with_reducible refine Kd.C_alloc ?_ _) | (with_reducible refine Kd.C_drewN ?_ _) | (with_reducible refine Kd.C_drew ?_)))
        (case aB => exact (oB HB))
        (case aF => exact (fun k_ hk => ⟨Kd.fresh' (Kd.R_lt (oR HO1006)) k_ hk, Kd.freshB (g := gb1000) (o := .cells #[.int .i64 a1_0, .int .i64 a1_1, .int .i64 a1_2, .int .i64 a1_3] 74 (0, 0)) (oK BK1000) k_ hk⟩))
        (case aO => exact (oR HO1003))
        (case aS => exact (below_size (oB HB)))
        (case aL => have := LMc4.out; omega)
        intro v1008 w15 ho hb hg hat
        rw [← Ny1007.out] at ho
        have n0_ := Aside0.mk (blk_grown (g := gb1000) (o := .cells #[.int .i64 a1_0, .int .i64 a1_1, .int .i64 a1_2, .int .i64 a1_3] 74 (0, 0)) (oK BK1000) hg (Kd.R_away HO1003.out (fun _ hk => hk.2)))
        have n1_ := Aside0.mk (Kd.R_after (ok := (fun k_ => k_ ≠ gb1000)) (by (with_reducible repeat (first | apply Kd.R_alloc | apply Kd.R_drewN | apply Kd.R_drew)); exact Kd.R_mono HO1006.out (fun _ hk => ⟨hk.2, hk.1⟩)) hg hat)
        have n2_ := Aside0.mk (hb)
        have n3_ := Aside0.mk (ho)
        clear BK1000
        clear HO1006
        clear HB
        clear HO1003
        have BK1000 := n0_
        have HO1006 := n1_
        have HB := n2_
        have HO1009 := n3_
        clear n0_ n1_ n2_ n3_
        clear ho hb hg hat
        refine hK.out _ _ ⟨(blk_cell BK1000.out 0).trans rfl, (blk_cell BK1000.out 1).trans rfl, (blk_cell BK1000.out 2).trans rfl, (blk_cell BK1000.out 3).trans rfl⟩ (fun hHeld => ?_)
        clear hK K
        refine norm_ (a' := ?_) ?_ ?_
        rotate_left
        · show Act.put _ (some 11) _ = _
          simp only [Act.put, List.setIfInBounds_toArray, List.set_cons_zero, List.set_cons_succ, i64_w, i32_w]
          rfl
        refine pure_ (i := 5) (N := some 6) (v := ?_) (a' := ?_) #[true, true, true, true, true, true] rfl rfl (by kernel_rfl) (fun _ _ _ h => h) (Or.inl ⟨by rfl, ?_⟩) ?_ ?_
        rotate_left
        · intro w'
          go_simp
          with_reducible rfl
        rotate_left
        · simp only [Act.put, List.setIfInBounds_toArray, List.set_cons_zero, List.set_cons_succ, i64_w, i32_w]
          rfl
        refine done_ (by kernel_rfl) ?_
        try go_wp2_with (first | ((with_reducible refine gate_callee (f := 61) rfl ?_); refine goesL_ (some 13) rfl rfl Try.func61 (by kernel_rfl) rfl #[.slice A0 l0.length c0] rfl (by (try simp only [List.map_toArray, List.map_cons, List.map_nil]); first | done | rfl | (simp only [List.length_drop, List.length_take]; rfl)) ?_; (with_reducible refine (spec_LogOk.calls k _ _ l0 true _ ?side1 ?side2 A5.out).mono ?_); (case side1 => exact oc_ HR0.out); (case side2 => exact HC0.out); rintro e w17 ⟨rfl, hb⟩; refine ⟨_, rfl, ?_⟩; have n0_ := Aside0.mk (Kd.R_below (oR HO1006) hb); have n1_ := Aside0.mk (Kd.R_below (oR HO1009) hb); have n2_ := Aside0.mk (blk_below (g := gb1000) (o := .cells #[.int .i64 a1_0, .int .i64 a1_1, .int .i64 a1_2, .int .i64 a1_3] 74 (0, 0)) (oK BK1000) hb); have n3_ := Aside0.mk (below_step (oB HB) hb); clear HO1006; clear HO1009; clear BK1000; clear HB; have HO1006 := n0_; have HO1009 := n1_; have BK1000 := n2_; have HB := n3_; clear n0_ n1_ n2_ n3_; (try clear hb); (try clear hb2); (try clear hk); (try clear hi); obtain ⟨Ao18, co18, eo18⟩ := Kd.R_slice HO1009.out; subst eo18) | (go_at_call 61; (with_reducible refine (spec_LogOk.calls k _ _ y1007 true _ ?side1 ?side2 A7.out).mono ?_); (case side1 => repeat (first | exact (Kd.R_reads' HO1009.out).2.2 | (with_reducible refine Kd.C_alloc ?_ _) | (with_reducible refine Kd.C_drewN ?_ _) | (with_reducible refine Kd.C_drew ?_))); (case side2 => exact (Kd.R_reads' HO1009.out).2.1); rintro e w19 ⟨rfl, hb⟩; have n0_ := Aside0.mk (Kd.R_below (oR HO1006) hb); have n1_ := Aside0.mk (Kd.R_below (oR HO1009) hb); have n2_ := Aside0.mk (blk_below (g := gb1000) (o := .cells #[.int .i64 a1_0, .int .i64 a1_1, .int .i64 a1_2, .int .i64 a1_3] 74 (0, 0)) (oK BK1000) hb); have n3_ := Aside0.mk (below_step (oB HB) hb); clear HO1006; clear HO1009; clear BK1000; clear HB; have HO1006 := n0_; have HO1009 := n1_; have BK1000 := n2_; have HB := n3_; clear n0_ n1_ n2_ n3_; (try clear hb); (try clear hb2); (try clear hk); (try clear hi)))
        go_ret2
        exact ⟨_, by first | rfl | (simp [errW_none, errW_some] <;> rfl) | (simp [*, errW_none, errW_some] <;> rfl), by (with_reducible repeat (first | apply Kd.R_alloc | apply Kd.R_drewN | apply Kd.R_drew)); exact Kd.R_mono HO1009.out (fun _ hk => trivial), oB HB⟩
      · replace c8 := Bool.eq_false_iff.mpr c8
        subst c8
        rw [if_neg (show ¬ (false = true) by decide)] at H
        replace H := Option.bind_eq_some_iff.mp H
        obtain ⟨t1012, A200, H⟩ := H
        (try dsimp only at H)
        have A20 := Aside0.mk A200
        clear A200
        simp only [Option.some.injEq, Prod.mk.injEq] at H
        obtain ⟨rfl, rfl⟩ := H
        go_enter Try.func48, Try.ntmps48
        try go_wp2_with (first | ((with_reducible refine gate_dst (N := 3) rfl ?_); refine box_event ?hg (N := 3) ?hd (cs := #[.int .i64 a1_0, .int .i64 a1_1, .int .i64 a1_2, .int .i64 a1_3]) (t := 74) ?hr ?_; (case hd => rfl); (case hg => rfl); (case hr => first | (go_simp; done) | (go_simp; rfl)); intro gb1000 hg w21 hbox hb; have n0_ := Aside0.mk (below_step (oB HB) hb); have n1_ := Aside0.mk (hbox); have n2_ := Aside0.mk ((by rw [hg]; exact (below_size (oB HB)) : w.heap.size ≤ gb1000)); have n3_ := Aside0.mk ((by rw [hg]; exact (below_size (oB HB)) : w.heap.size ≤ gb1000)); clear HB; have HB := n0_; have BK1000 := n1_; have GW1000 := n2_; have GE1000 := n3_; clear n0_ n1_ n2_ n3_; clear hb hbox hg))
        have n0_ := Aside0.mk (blk_drew BK1000.out)
        have n1_ := Aside0.mk (below_drew1 HB.out)
        clear BK1000
        clear HB
        have BK1000 := n0_
        have HB := n1_
        clear n0_ n1_
        refine start_ (n := 6) (S := fun w' => w'.cell? ⟨gb1000, 0, none⟩ = some (.int .i64 a1_0) ∧ w'.cell? ⟨gb1000, 1, none⟩ = some (.int .i64 a1_1) ∧ w'.cell? ⟨gb1000, 2, none⟩ = some (.int .i64 a1_2) ∧ w'.cell? ⟨gb1000, 3, none⟩ = some (.int .i64 a1_3)) (ds := []) #[false, false, false, false, false, false] (by kernel_rfl) rfl rfl ⟨(blk_cell BK1000.out 0).trans rfl, (blk_cell BK1000.out 1).trans rfl, (blk_cell BK1000.out 2).trans rfl, (blk_cell BK1000.out 3).trans rfl⟩ (fun hHeld => ?_)
        generalize w21.drew = w22 at BK1000 HB hHeld ⊢
        refine pure_ (i := 0) (N := some 7) (v := ?_) (a' := ?_) #[true, false, false, false, false, false] rfl rfl (by kernel_rfl) (fun _ _ _ h => h) (Or.inl ⟨by rfl, ?_⟩) ?_ ?_
        rotate_left
        · intro w'
          go_simp
          with_reducible rfl
        rotate_left
        · simp only [Act.put, List.setIfInBounds_toArray, List.set_cons_zero, List.set_cons_succ, i64_w, i32_w]
          rfl
        refine take_ (i := 2) (N := some 9) (v := ?_) (a' := ?_) #[true, false, true, false, false, false] rfl rfl (by kernel_rfl) (fun _ _ _ h => h) (Or.inl ⟨by rfl, ?_⟩) hHeld ?_ ?_
        rotate_left
        · rintro w' ⟨s0, s1, s2, s3⟩
          go_simp
          with_reducible rfl
        rotate_left
        · simp only [Act.put, List.setIfInBounds_toArray, List.set_cons_zero, List.set_cons_succ, i64_w, i32_w]
          rfl
        refine join_ (σ := Value × Value) 2 #[true, true, true, true, false, false] (fun s_ => [(8, s_.1), (10, s_.2)]) (fun s_ w' => (w'.cell? ⟨gb1000, 0, none⟩ = some (.int .i64 a1_0) ∧ w'.cell? ⟨gb1000, 1, none⟩ = some (.int .i64 a1_1) ∧ w'.cell? ⟨gb1000, 2, none⟩ = some (.int .i64 a1_2) ∧ w'.cell? ⟨gb1000, 3, none⟩ = some (.int .i64 a1_3)) ∧ (Kd.R k74 74 w' w.heap.size (fun k_ => some k_ ≠ (s_.2 : Value).ownBlock ∧ k_ ≠ gb1000) s_.1 t1001) ∧ (Kd.R k74 74 w' w.heap.size (fun k_ => some k_ ≠ (s_.1 : Value).ownBlock ∧ k_ ≠ gb1000) s_.2 y1004) ∧ (w'.heap[gb1000]? = some (.cells #[.int .i64 a1_0, .int .i64 a1_1, .int .i64 a1_2, .int .i64 a1_3] 74 (0, 0))) ∧ (Below w.heap.size w w')) ?_ ?_
        rotate_left
        · intro hCont
          refine two_ (i := 1) (j := 3) (Ni := some 8) (Nj := some 10) #[true, true, true, false, false, false] #[true, false, true, true, false, false] rfl rfl rfl rfl (by kernel_rfl) (by decide) (by decide) (fun K hK => ?_) (fun K hK => ?_)
          · skip
            refine goes_ Try.func93 (by kernel_rfl) rfl #[.slice A0 l0.length c0] (by rfl) rfl rfl (by (try simp only [List.map_toArray, List.map_cons, List.map_nil]); first | done | rfl | (simp only [List.length_drop, List.length_take]; rfl)) ?_
            with_reducible refine (spec_l34Copy.calls _ _ l0 t1001 _ ?side1 ?side2 A3.out).mono ?_
            (case side1 => exact oc_ HR0.out)
            (case side2 => exact HC0.out)
            rintro e w23 ⟨v1002, rfl, ho0, hb⟩
            refine ⟨_, rfl, ?_⟩
            have n0_ := Aside0.mk (Kd.R_lower (Kd.R_newB ho0 (g := gb1000) (o := .cells #[.int .i64 a1_0, .int .i64 a1_1, .int .i64 a1_2, .int .i64 a1_3] 74 (0, 0)) (oK BK1000)) (below_size (oB HB)))
            have n1_ := Aside0.mk (blk_below (g := gb1000) (o := .cells #[.int .i64 a1_0, .int .i64 a1_1, .int .i64 a1_2, .int .i64 a1_3] 74 (0, 0)) (oK BK1000) hb)
            have n2_ := Aside0.mk (below_step (oB HB) hb)
            clear BK1000
            clear HB
            have HO1003 := n0_
            have BK1000 := n1_
            have HB := n2_
            clear n0_ n1_ n2_
            (try clear hb)
            (try clear hb2)
            (try clear hk)
            (try clear hi)
            (try clear ho0)
            refine hK.out _ _ ⟨(blk_cell BK1000.out 0).trans rfl, (blk_cell BK1000.out 1).trans rfl, (blk_cell BK1000.out 2).trans rfl, (blk_cell BK1000.out 3).trans rfl⟩ (fun hHeld => ?_)
            clear hK K
            refine norm_ (a' := ?_) ?_ ?_
            rotate_left
            · show Act.put _ (some 8) _ = _
              simp only [Act.put, List.setIfInBounds_toArray, List.set_cons_zero, List.set_cons_succ, i64_w, i32_w]
              rfl
            refine one_ (i := 3) (N := some 10) #[true, true, true, true, false, false] rfl rfl (by kernel_rfl) (by decide) (fun K hK => ?_)
            refine Kd.R_lit_step k74 _ 74 ?hg (N := 10) ?hd (xs := ([(⟨(⟨a1_0, a1_1⟩ : S56), a1_2, a1_3⟩ : S74)] : List (S74))) (inner := [.int .i64 a1_0, .int .i64 a1_1, .int .i64 a1_2, .int .i64 a1_3]) (ok := fun _ => True) (okp := fun _ => True) ?hr ?hp (fun _ hk => hk) trivial (Below.refl _ _) (Nat.le_refl _) (by simp) ?_; (case hd => rfl); (case hg => rfl); (case hr => first | (go_simp; done) | (go_simp; rfl)); (case hp => exact (Reps.c4 (show Kd.M k74 _ _ _ (⟨(⟨a1_0, a1_1⟩ : S56), a1_2, a1_3⟩ : S74) [.int .i64 a1_0, .int .i64 a1_1, .int .i64 a1_2, .int .i64 a1_3] from (k74_mkM _ _ _ (⟨(⟨a1_0, a1_1⟩ : S56), a1_2, a1_3⟩ : S74) )) (Reps.none _ _)))
            intro v1005 w24 ho25 hb hg_ hnew_
            clear hg_ hnew_
            (first | rw [← Ny1004.out] at ho25 | (simp only [Int.reduceToNat] at ho25; rw [← Ny1004.out] at ho25))
            have n0_ := Aside0.mk (Kd.R_elder' (oR HO1003) (Kd.R_base ho25) hb)
            have n1_ := Aside0.mk (Kd.R_lower (Kd.R_newB (Kd.R_new' ho25 (Kd.R_lt (oR HO1003))) (g := gb1000) (o := .cells #[.int .i64 a1_0, .int .i64 a1_1, .int .i64 a1_2, .int .i64 a1_3] 74 (0, 0)) (oK BK1000)) (below_size (oB HB)))
            have n2_ := Aside0.mk (blk_below (g := gb1000) (o := .cells #[.int .i64 a1_0, .int .i64 a1_1, .int .i64 a1_2, .int .i64 a1_3] 74 (0, 0)) (oK BK1000) hb)
            have n3_ := Aside0.mk (below_step (oB HB) hb)
            clear HO1003
            clear BK1000
            clear HB
            have HO1003 := n0_
            have HO1006 := n1_
            have BK1000 := n2_
            have HB := n3_
            clear n0_ n1_ n2_ n3_
            clear hb ho25
            refine hK.out _ _ ⟨(blk_cell BK1000.out 0).trans rfl, (blk_cell BK1000.out 1).trans rfl, (blk_cell BK1000.out 2).trans rfl, (blk_cell BK1000.out 3).trans rfl⟩ (fun hHeld => ?_)
            clear hK K
            refine norm_ (a' := ?_) ?_ ?_
            rotate_left
            · show Act.put _ (some 10) _ = _
              simp only [Act.put, List.setIfInBounds_toArray, List.set_cons_zero, List.set_cons_succ, i64_w, i32_w]
              rfl
            exact norm_ (by simp only [putAll, Act.put, List.setIfInBounds_toArray, List.set_cons_zero, List.set_cons_succ]) (hCont (v1002, v1005) _ ⟨hHeld, (by (with_reducible repeat (first | apply Kd.R_alloc | apply Kd.R_drewN | apply Kd.R_drew)); exact Kd.R_mono HO1003.out (fun _ hk => ⟨hk.2, hk.1.2⟩)), (by (with_reducible repeat (first | apply Kd.R_alloc | apply Kd.R_drewN | apply Kd.R_drew)); exact Kd.R_mono HO1006.out (fun _ hk => ⟨hk.1.2, hk.2⟩)), (oK BK1000), (oB HB)⟩)
          · skip
            refine Kd.R_lit_step k74 _ 74 ?hg (N := 10) ?hd (xs := ([(⟨(⟨a1_0, a1_1⟩ : S56), a1_2, a1_3⟩ : S74)] : List (S74))) (inner := [.int .i64 a1_0, .int .i64 a1_1, .int .i64 a1_2, .int .i64 a1_3]) (ok := fun _ => True) (okp := fun _ => True) ?hr ?hp (fun _ hk => hk) trivial (Below.refl _ _) (Nat.le_refl _) (by simp) ?_; (case hd => rfl); (case hg => rfl); (case hr => first | (go_simp; done) | (go_simp; rfl)); (case hp => exact (Reps.c4 (show Kd.M k74 _ _ _ (⟨(⟨a1_0, a1_1⟩ : S56), a1_2, a1_3⟩ : S74) [.int .i64 a1_0, .int .i64 a1_1, .int .i64 a1_2, .int .i64 a1_3] from (k74_mkM _ _ _ (⟨(⟨a1_0, a1_1⟩ : S56), a1_2, a1_3⟩ : S74) )) (Reps.none _ _)))
            intro v1005 w23 ho24 hb hg_ hnew_
            clear hg_ hnew_
            (first | rw [← Ny1004.out] at ho24 | (simp only [Int.reduceToNat] at ho24; rw [← Ny1004.out] at ho24))
            have n0_ := Aside0.mk (Kd.R_lower (Kd.R_newB ho24 (g := gb1000) (o := .cells #[.int .i64 a1_0, .int .i64 a1_1, .int .i64 a1_2, .int .i64 a1_3] 74 (0, 0)) (oK BK1000)) (below_size (oB HB)))
            have n1_ := Aside0.mk (blk_below (g := gb1000) (o := .cells #[.int .i64 a1_0, .int .i64 a1_1, .int .i64 a1_2, .int .i64 a1_3] 74 (0, 0)) (oK BK1000) hb)
            have n2_ := Aside0.mk (below_step (oB HB) hb)
            clear BK1000
            clear HB
            have HO1006 := n0_
            have BK1000 := n1_
            have HB := n2_
            clear n0_ n1_ n2_
            clear hb ho24
            refine hK.out _ _ ⟨(blk_cell BK1000.out 0).trans rfl, (blk_cell BK1000.out 1).trans rfl, (blk_cell BK1000.out 2).trans rfl, (blk_cell BK1000.out 3).trans rfl⟩ (fun hHeld => ?_)
            clear hK K
            refine norm_ (a' := ?_) ?_ ?_
            rotate_left
            · show Act.put _ (some 10) _ = _
              simp only [Act.put, List.setIfInBounds_toArray, List.set_cons_zero, List.set_cons_succ, i64_w, i32_w]
              rfl
            refine one_ (i := 1) (N := some 8) #[true, true, true, true, false, false] rfl rfl (by kernel_rfl) (by decide) (fun K hK => ?_)
            refine goes_ Try.func93 (by kernel_rfl) rfl #[.slice A0 l0.length c0] (by rfl) rfl rfl (by (try simp only [List.map_toArray, List.map_cons, List.map_nil]); first | done | rfl | (simp only [List.length_drop, List.length_take]; rfl)) ?_
            with_reducible refine (spec_l34Copy.calls _ _ l0 t1001 _ ?side1 ?side2 A3.out).mono ?_
            (case side1 => exact oc_ HR0.out)
            (case side2 => exact HC0.out)
            rintro e w25 ⟨v1002, rfl, ho0, hb⟩
            refine ⟨_, rfl, ?_⟩
            have n0_ := Aside0.mk (Kd.R_elder' (oR HO1006) (Kd.R_base ho0) hb)
            have n1_ := Aside0.mk (Kd.R_lower (Kd.R_newB (Kd.R_new' ho0 (Kd.R_lt (oR HO1006))) (g := gb1000) (o := .cells #[.int .i64 a1_0, .int .i64 a1_1, .int .i64 a1_2, .int .i64 a1_3] 74 (0, 0)) (oK BK1000)) (below_size (oB HB)))
            have n2_ := Aside0.mk (blk_below (g := gb1000) (o := .cells #[.int .i64 a1_0, .int .i64 a1_1, .int .i64 a1_2, .int .i64 a1_3] 74 (0, 0)) (oK BK1000) hb)
            have n3_ := Aside0.mk (below_step (oB HB) hb)
            clear HO1006
            clear BK1000
            clear HB
            have HO1006 := n0_
            have HO1003 := n1_
            have BK1000 := n2_
            have HB := n3_
            clear n0_ n1_ n2_ n3_
            (try clear hb)
            (try clear hb2)
            (try clear hk)
            (try clear hi)
            (try clear ho0)
            refine hK.out _ _ ⟨(blk_cell BK1000.out 0).trans rfl, (blk_cell BK1000.out 1).trans rfl, (blk_cell BK1000.out 2).trans rfl, (blk_cell BK1000.out 3).trans rfl⟩ (fun hHeld => ?_)
            clear hK K
            refine norm_ (a' := ?_) ?_ ?_
            rotate_left
            · show Act.put _ (some 8) _ = _
              simp only [Act.put, List.setIfInBounds_toArray, List.set_cons_zero, List.set_cons_succ, i64_w, i32_w]
              rfl
            exact norm_ (by simp only [putAll, Act.put, List.setIfInBounds_toArray, List.set_cons_zero, List.set_cons_succ]) (hCont (v1002, v1005) _ ⟨hHeld, (by (with_reducible repeat (first | apply Kd.R_alloc | apply Kd.R_drewN | apply Kd.R_drew)); exact Kd.R_mono HO1003.out (fun _ hk => ⟨hk.1.2, hk.2⟩)), (by (with_reducible repeat (first | apply Kd.R_alloc | apply Kd.R_drewN | apply Kd.R_drew)); exact Kd.R_mono HO1006.out (fun _ hk => ⟨hk.2, hk.1.2⟩)), (oK BK1000), (oB HB)⟩)
        rintro ⟨v1002, v1005⟩ w26 ⟨hS_, h0_, h1_, h2_, h3_⟩
        have n0_ : Aside0 (Kd.R k74 74 w26 w.heap.size (fun k_ => some k_ ≠ (v1005 : Value).ownBlock ∧ k_ ≠ gb1000) v1002 t1001) := ⟨h0_⟩
        have n1_ : Aside0 (Kd.R k74 74 w26 w.heap.size (fun k_ => some k_ ≠ (v1002 : Value).ownBlock ∧ k_ ≠ gb1000) v1005 y1004) := ⟨h1_⟩
        have n2_ : Aside0 (w26.heap[gb1000]? = some (.cells #[.int .i64 a1_0, .int .i64 a1_1, .int .i64 a1_2, .int .i64 a1_3] 74 (0, 0))) := ⟨h2_⟩
        have n3_ : Aside0 (Below w.heap.size w w26) := ⟨h3_⟩
        clear BK1000
        clear HB
        clear h0_ h1_ h2_ h3_
        have HO1003 := n0_
        have HO1006 := n1_
        have BK1000 := n2_
        have HB := n3_
        clear n0_ n1_ n2_ n3_
        have hHeld : w26.cell? ⟨gb1000, 0, none⟩ = some (.int .i64 a1_0) ∧ w26.cell? ⟨gb1000, 1, none⟩ = some (.int .i64 a1_1) ∧ w26.cell? ⟨gb1000, 2, none⟩ = some (.int .i64 a1_2) ∧ w26.cell? ⟨gb1000, 3, none⟩ = some (.int .i64 a1_3) := hS_
        obtain ⟨Ao28, co28, eo28⟩ := Kd.R_slice HO1006.out
        (first | subst eo28 | (injection eo28 with f1_ f2_ f3_; have f4_ := f1_.symm; have f5_ := f3_.symm; clear f1_ f2_ f3_; subst f4_; subst f5_))
        refine norm_ (a' := ?_) ?_ ?_
        rotate_left
        · simp only [putAll, Act.put, List.setIfInBounds_toArray, List.set_cons_zero, List.set_cons_succ]
          rfl
        refine one_ (i := 4) (N := some 11) #[true, true, true, true, true, false] rfl rfl (by kernel_rfl) (by decide) (fun K hK => ?_)
        refine Kd.R_append_rows_step k74 (w0 := w) w.heap.size (by rfl) (.tmp 8) (.tmp 10) 34 74 (.agg #[(.int .i64 0), (.int .i64 0), (.int .i64 0), (.int .i64 0)]) 32 rfl Try.underlying34 info74 rfl (by decide) (by omega) v1002 t1001 y1004 _ _ _ (fun k_ => some k_ ≠ (.slice Ao28 y1004.length co28 : Value).ownBlock ∧ k_ ≠ gb1000) (fun _ => False) rfl rfl ?aO ?aR (fun _ _ h => h) (fun _ h => h.elim) ?aF ?aB ?aS ?aL ?_
        (case aR => repeat (first | exact (Kd.R_reads' HO1006.out).2.2 | (with_reducible refine Kd.C_alloc ?_ _) | (with_reducible refine Kd.C_drewN ?_ _) | (with_reducible refine Kd.C_drew ?_)))
        (case aB => exact (oB HB))
        (case aF => exact (fun k_ hk => ⟨Kd.fresh' (Kd.R_lt (oR HO1006)) k_ hk, Kd.freshB (g := gb1000) (o := .cells #[.int .i64 a1_0, .int .i64 a1_1, .int .i64 a1_2, .int .i64 a1_3] 74 (0, 0)) (oK BK1000) k_ hk⟩))
        (case aO => exact (oR HO1003))
        (case aS => exact (below_size (oB HB)))
        (case aL => have := LMc4.out; omega)
        intro v1008 w27 ho hb hg hat
        rw [← Ny1007.out] at ho
        have n0_ := Aside0.mk (blk_grown (g := gb1000) (o := .cells #[.int .i64 a1_0, .int .i64 a1_1, .int .i64 a1_2, .int .i64 a1_3] 74 (0, 0)) (oK BK1000) hg (Kd.R_away HO1003.out (fun _ hk => hk.2)))
        have n1_ := Aside0.mk (Kd.R_after (ok := (fun k_ => k_ ≠ gb1000)) (by (with_reducible repeat (first | apply Kd.R_alloc | apply Kd.R_drewN | apply Kd.R_drew)); exact Kd.R_mono HO1006.out (fun _ hk => ⟨hk.2, hk.1⟩)) hg hat)
        have n2_ := Aside0.mk (hb)
        have n3_ := Aside0.mk (ho)
        clear BK1000
        clear HO1006
        clear HB
        clear HO1003
        have BK1000 := n0_
        have HO1006 := n1_
        have HB := n2_
        have HO1009 := n3_
        clear n0_ n1_ n2_ n3_
        clear ho hb hg hat
        refine hK.out _ _ ⟨(blk_cell BK1000.out 0).trans rfl, (blk_cell BK1000.out 1).trans rfl, (blk_cell BK1000.out 2).trans rfl, (blk_cell BK1000.out 3).trans rfl⟩ (fun hHeld => ?_)
        clear hK K
        refine norm_ (a' := ?_) ?_ ?_
        rotate_left
        · show Act.put _ (some 11) _ = _
          simp only [Act.put, List.setIfInBounds_toArray, List.set_cons_zero, List.set_cons_succ, i64_w, i32_w]
          rfl
        refine pure_ (i := 5) (N := some 6) (v := ?_) (a' := ?_) #[true, true, true, true, true, true] rfl rfl (by kernel_rfl) (fun _ _ _ h => h) (Or.inl ⟨by rfl, ?_⟩) ?_ ?_
        rotate_left
        · intro w'
          go_simp
          with_reducible rfl
        rotate_left
        · simp only [Act.put, List.setIfInBounds_toArray, List.set_cons_zero, List.set_cons_succ, i64_w, i32_w]
          rfl
        refine done_ (by kernel_rfl) ?_
        try go_wp2_with (first | ((with_reducible refine gate_callee (f := 61) rfl ?_); refine goesL_ (some 13) rfl rfl Try.func61 (by kernel_rfl) rfl #[.slice A0 l0.length c0] rfl (by (try simp only [List.map_toArray, List.map_cons, List.map_nil]); first | done | rfl | (simp only [List.length_drop, List.length_take]; rfl)) ?_; (with_reducible refine (spec_LogOk.calls k _ _ l0 true _ ?side1 ?side2 A5.out).mono ?_); (case side1 => exact oc_ HR0.out); (case side2 => exact HC0.out); rintro e w29 ⟨rfl, hb⟩; refine ⟨_, rfl, ?_⟩; have n0_ := Aside0.mk (Kd.R_below (oR HO1006) hb); have n1_ := Aside0.mk (Kd.R_below (oR HO1009) hb); have n2_ := Aside0.mk (blk_below (g := gb1000) (o := .cells #[.int .i64 a1_0, .int .i64 a1_1, .int .i64 a1_2, .int .i64 a1_3] 74 (0, 0)) (oK BK1000) hb); have n3_ := Aside0.mk (below_step (oB HB) hb); clear HO1006; clear HO1009; clear BK1000; clear HB; have HO1006 := n0_; have HO1009 := n1_; have BK1000 := n2_; have HB := n3_; clear n0_ n1_ n2_ n3_; (try clear hb); (try clear hb2); (try clear hk); (try clear hi); obtain ⟨Ao30, co30, eo30⟩ := Kd.R_slice HO1009.out; subst eo30) | (go_at_call 61; (with_reducible refine (spec_LogOk.calls k _ _ y1007 false _ ?side1 ?side2 A7.out).mono ?_); (case side1 => repeat (first | exact (Kd.R_reads' HO1009.out).2.2 | (with_reducible refine Kd.C_alloc ?_ _) | (with_reducible refine Kd.C_drewN ?_ _) | (with_reducible refine Kd.C_drew ?_))); (case side2 => exact (Kd.R_reads' HO1009.out).2.1); rintro e w31 ⟨rfl, hb⟩; have n0_ := Aside0.mk (Kd.R_below (oR HO1006) hb); have n1_ := Aside0.mk (Kd.R_below (oR HO1009) hb); have n2_ := Aside0.mk (blk_below (g := gb1000) (o := .cells #[.int .i64 a1_0, .int .i64 a1_1, .int .i64 a1_2, .int .i64 a1_3] 74 (0, 0)) (oK BK1000) hb); have n3_ := Aside0.mk (below_step (oB HB) hb); clear HO1006; clear HO1009; clear BK1000; clear HB; have HO1006 := n0_; have HO1009 := n1_; have BK1000 := n2_; have HB := n3_; clear n0_ n1_ n2_ n3_; (try clear hb); (try clear hb2); (try clear hk); (try clear hi)) | ((with_reducible refine gate_callee (f := 93) rfl ?_); refine goesL_ (some 21) rfl rfl Try.func93 (by kernel_rfl) rfl #[.slice A0 l0.length c0] rfl (by (try simp only [List.map_toArray, List.map_cons, List.map_nil]); first | done | rfl | (simp only [List.length_drop, List.length_take]; rfl)) ?_; (with_reducible refine (spec_l34Copy.calls _ _ l0 t1012 _ ?side1 ?side2 A20.out).mono ?_); (case side1 => exact oc_ HR0.out); (case side2 => exact HC0.out); rintro e w32 ⟨v1013, rfl, ho0, hb⟩; refine ⟨_, rfl, ?_⟩; have n0_ := Aside0.mk (Kd.R_elder' (oR HO1006) (Kd.R_base ho0) hb); have n1_ := Aside0.mk (Kd.R_elder' (oR HO1009) (Kd.R_base ho0) hb); have n2_ := Aside0.mk (Kd.R_lower (Kd.R_newB (Kd.R_new' (Kd.R_new' ho0 (Kd.R_lt (oR HO1006))) (Kd.R_lt (oR HO1009))) (g := gb1000) (o := .cells #[.int .i64 a1_0, .int .i64 a1_1, .int .i64 a1_2, .int .i64 a1_3] 74 (0, 0)) (oK BK1000)) (below_size (oB HB))); have n3_ := Aside0.mk (blk_below (g := gb1000) (o := .cells #[.int .i64 a1_0, .int .i64 a1_1, .int .i64 a1_2, .int .i64 a1_3] 74 (0, 0)) (oK BK1000) hb); have n4_ := Aside0.mk (below_step (oB HB) hb); clear HO1006; clear HO1009; clear BK1000; clear HB; have HO1006 := n0_; have HO1009 := n1_; have HO1014 := n2_; have BK1000 := n3_; have HB := n4_; clear n0_ n1_ n2_ n3_ n4_; (try clear hb); (try clear hb2); (try clear hk); (try clear hi); (try clear ho0)))
        go_ret2
        exact ⟨_, by first | rfl | (simp [errW_none, errW_some] <;> rfl) | (simp [*, errW_none, errW_some] <;> rfl), by (with_reducible repeat (first | apply Kd.R_alloc | apply Kd.R_drewN | apply Kd.R_drew)); exact Kd.R_mono HO1014.out (fun _ hk => trivial), oB HB⟩
    · replace c6 := Bool.eq_false_iff.mpr c6
      subst c6
      rw [if_neg (show ¬ (false = true) by decide)] at H
      replace H := Option.bind_eq_some_iff.mp H
      obtain ⟨t1015, A330, H⟩ := H
      (try dsimp only at H)
      have A33 := Aside0.mk A330
      clear A330
      simp only [Option.some.injEq, Prod.mk.injEq] at H
      obtain ⟨rfl, rfl⟩ := H
      go_enter Try.func48, Try.ntmps48
      try go_wp2_with (first | ((with_reducible refine gate_dst (N := 3) rfl ?_); refine box_event ?hg (N := 3) ?hd (cs := #[.int .i64 a1_0, .int .i64 a1_1, .int .i64 a1_2, .int .i64 a1_3]) (t := 74) ?hr ?_; (case hd => rfl); (case hg => rfl); (case hr => first | (go_simp; done) | (go_simp; rfl)); intro gb1000 hg w34 hbox hb; have n0_ := Aside0.mk (below_step (oB HB) hb); have n1_ := Aside0.mk (hbox); have n2_ := Aside0.mk ((by rw [hg]; exact (below_size (oB HB)) : w.heap.size ≤ gb1000)); have n3_ := Aside0.mk ((by rw [hg]; exact (below_size (oB HB)) : w.heap.size ≤ gb1000)); clear HB; have HB := n0_; have BK1000 := n1_; have GW1000 := n2_; have GE1000 := n3_; clear n0_ n1_ n2_ n3_; clear hb hbox hg))
      have n0_ := Aside0.mk (blk_drew BK1000.out)
      have n1_ := Aside0.mk (below_drew1 HB.out)
      clear BK1000
      clear HB
      have BK1000 := n0_
      have HB := n1_
      clear n0_ n1_
      refine start_ (n := 6) (S := fun w' => w'.cell? ⟨gb1000, 0, none⟩ = some (.int .i64 a1_0) ∧ w'.cell? ⟨gb1000, 1, none⟩ = some (.int .i64 a1_1) ∧ w'.cell? ⟨gb1000, 2, none⟩ = some (.int .i64 a1_2) ∧ w'.cell? ⟨gb1000, 3, none⟩ = some (.int .i64 a1_3)) (ds := []) #[false, false, false, false, false, false] (by kernel_rfl) rfl rfl ⟨(blk_cell BK1000.out 0).trans rfl, (blk_cell BK1000.out 1).trans rfl, (blk_cell BK1000.out 2).trans rfl, (blk_cell BK1000.out 3).trans rfl⟩ (fun hHeld => ?_)
      generalize w34.drew = w35 at BK1000 HB hHeld ⊢
      refine pure_ (i := 0) (N := some 7) (v := ?_) (a' := ?_) #[true, false, false, false, false, false] rfl rfl (by kernel_rfl) (fun _ _ _ h => h) (Or.inl ⟨by rfl, ?_⟩) ?_ ?_
      rotate_left
      · intro w'
        go_simp
        with_reducible rfl
      rotate_left
      · simp only [Act.put, List.setIfInBounds_toArray, List.set_cons_zero, List.set_cons_succ, i64_w, i32_w]
        rfl
      refine take_ (i := 2) (N := some 9) (v := ?_) (a' := ?_) #[true, false, true, false, false, false] rfl rfl (by kernel_rfl) (fun _ _ _ h => h) (Or.inl ⟨by rfl, ?_⟩) hHeld ?_ ?_
      rotate_left
      · rintro w' ⟨s0, s1, s2, s3⟩
        go_simp
        with_reducible rfl
      rotate_left
      · simp only [Act.put, List.setIfInBounds_toArray, List.set_cons_zero, List.set_cons_succ, i64_w, i32_w]
        rfl
      refine join_ (σ := Value × Value) 2 #[true, true, true, true, false, false] (fun s_ => [(8, s_.1), (10, s_.2)]) (fun s_ w' => (w'.cell? ⟨gb1000, 0, none⟩ = some (.int .i64 a1_0) ∧ w'.cell? ⟨gb1000, 1, none⟩ = some (.int .i64 a1_1) ∧ w'.cell? ⟨gb1000, 2, none⟩ = some (.int .i64 a1_2) ∧ w'.cell? ⟨gb1000, 3, none⟩ = some (.int .i64 a1_3)) ∧ (Kd.R k74 74 w' w.heap.size (fun k_ => some k_ ≠ (s_.2 : Value).ownBlock ∧ k_ ≠ gb1000) s_.1 t1001) ∧ (Kd.R k74 74 w' w.heap.size (fun k_ => some k_ ≠ (s_.1 : Value).ownBlock ∧ k_ ≠ gb1000) s_.2 y1004) ∧ (w'.heap[gb1000]? = some (.cells #[.int .i64 a1_0, .int .i64 a1_1, .int .i64 a1_2, .int .i64 a1_3] 74 (0, 0))) ∧ (Below w.heap.size w w')) ?_ ?_
      rotate_left
      · intro hCont
        refine two_ (i := 1) (j := 3) (Ni := some 8) (Nj := some 10) #[true, true, true, false, false, false] #[true, false, true, true, false, false] rfl rfl rfl rfl (by kernel_rfl) (by decide) (by decide) (fun K hK => ?_) (fun K hK => ?_)
        · skip
          refine goes_ Try.func93 (by kernel_rfl) rfl #[.slice A0 l0.length c0] (by rfl) rfl rfl (by (try simp only [List.map_toArray, List.map_cons, List.map_nil]); first | done | rfl | (simp only [List.length_drop, List.length_take]; rfl)) ?_
          with_reducible refine (spec_l34Copy.calls _ _ l0 t1001 _ ?side1 ?side2 A3.out).mono ?_
          (case side1 => exact oc_ HR0.out)
          (case side2 => exact HC0.out)
          rintro e w36 ⟨v1002, rfl, ho0, hb⟩
          refine ⟨_, rfl, ?_⟩
          have n0_ := Aside0.mk (Kd.R_lower (Kd.R_newB ho0 (g := gb1000) (o := .cells #[.int .i64 a1_0, .int .i64 a1_1, .int .i64 a1_2, .int .i64 a1_3] 74 (0, 0)) (oK BK1000)) (below_size (oB HB)))
          have n1_ := Aside0.mk (blk_below (g := gb1000) (o := .cells #[.int .i64 a1_0, .int .i64 a1_1, .int .i64 a1_2, .int .i64 a1_3] 74 (0, 0)) (oK BK1000) hb)
          have n2_ := Aside0.mk (below_step (oB HB) hb)
          clear BK1000
          clear HB
          have HO1003 := n0_
          have BK1000 := n1_
          have HB := n2_
          clear n0_ n1_ n2_
          (try clear hb)
          (try clear hb2)
          (try clear hk)
          (try clear hi)
          (try clear ho0)
          refine hK.out _ _ ⟨(blk_cell BK1000.out 0).trans rfl, (blk_cell BK1000.out 1).trans rfl, (blk_cell BK1000.out 2).trans rfl, (blk_cell BK1000.out 3).trans rfl⟩ (fun hHeld => ?_)
          clear hK K
          refine norm_ (a' := ?_) ?_ ?_
          rotate_left
          · show Act.put _ (some 8) _ = _
            simp only [Act.put, List.setIfInBounds_toArray, List.set_cons_zero, List.set_cons_succ, i64_w, i32_w]
            rfl
          refine one_ (i := 3) (N := some 10) #[true, true, true, true, false, false] rfl rfl (by kernel_rfl) (by decide) (fun K hK => ?_)
          refine Kd.R_lit_step k74 _ 74 ?hg (N := 10) ?hd (xs := ([(⟨(⟨a1_0, a1_1⟩ : S56), a1_2, a1_3⟩ : S74)] : List (S74))) (inner := [.int .i64 a1_0, .int .i64 a1_1, .int .i64 a1_2, .int .i64 a1_3]) (ok := fun _ => True) (okp := fun _ => True) ?hr ?hp (fun _ hk => hk) trivial (Below.refl _ _) (Nat.le_refl _) (by simp) ?_; (case hd => rfl); (case hg => rfl); (case hr => first | (go_simp; done) | (go_simp; rfl)); (case hp => exact (Reps.c4 (show Kd.M k74 _ _ _ (⟨(⟨a1_0, a1_1⟩ : S56), a1_2, a1_3⟩ : S74) [.int .i64 a1_0, .int .i64 a1_1, .int .i64 a1_2, .int .i64 a1_3] from (k74_mkM _ _ _ (⟨(⟨a1_0, a1_1⟩ : S56), a1_2, a1_3⟩ : S74) )) (Reps.none _ _)))
          intro v1005 w37 ho38 hb hg_ hnew_
          clear hg_ hnew_
          (first | rw [← Ny1004.out] at ho38 | (simp only [Int.reduceToNat] at ho38; rw [← Ny1004.out] at ho38))
          have n0_ := Aside0.mk (Kd.R_elder' (oR HO1003) (Kd.R_base ho38) hb)
          have n1_ := Aside0.mk (Kd.R_lower (Kd.R_newB (Kd.R_new' ho38 (Kd.R_lt (oR HO1003))) (g := gb1000) (o := .cells #[.int .i64 a1_0, .int .i64 a1_1, .int .i64 a1_2, .int .i64 a1_3] 74 (0, 0)) (oK BK1000)) (below_size (oB HB)))
          have n2_ := Aside0.mk (blk_below (g := gb1000) (o := .cells #[.int .i64 a1_0, .int .i64 a1_1, .int .i64 a1_2, .int .i64 a1_3] 74 (0, 0)) (oK BK1000) hb)
          have n3_ := Aside0.mk (below_step (oB HB) hb)
          clear HO1003
          clear BK1000
          clear HB
          have HO1003 := n0_
          have HO1006 := n1_
          have BK1000 := n2_
          have HB := n3_
          clear n0_ n1_ n2_ n3_
          clear hb ho38
          refine hK.out _ _ ⟨(blk_cell BK1000.out 0).trans rfl, (blk_cell BK1000.out 1).trans rfl, (blk_cell BK1000.out 2).trans rfl, (blk_cell BK1000.out 3).trans rfl⟩ (fun hHeld => ?_)
          clear hK K
          refine norm_ (a' := ?_) ?_ ?_
          rotate_left
          · show Act.put _ (some 10) _ = _
            simp only [Act.put, List.setIfInBounds_toArray, List.set_cons_zero, List.set_cons_succ, i64_w, i32_w]
            rfl
          exact norm_ (by simp only [putAll, Act.put, List.setIfInBounds_toArray, List.set_cons_zero, List.set_cons_succ]) (hCont (v1002, v1005) _ ⟨hHeld, (by (with_reducible repeat (first | apply Kd.R_alloc | apply Kd.R_drewN | apply Kd.R_drew)); exact Kd.R_mono HO1003.out (fun _ hk => ⟨hk.2, hk.1.2⟩)), (by (with_reducible repeat (first | apply Kd.R_alloc | apply Kd.R_drewN | apply Kd.R_drew)); exact Kd.R_mono HO1006.out (fun _ hk => ⟨hk.1.2, hk.2⟩)), (oK BK1000), (oB HB)⟩)
        · skip
          refine Kd.R_lit_step k74 _ 74 ?hg (N := 10) ?hd (xs := ([(⟨(⟨a1_0, a1_1⟩ : S56), a1_2, a1_3⟩ : S74)] : List (S74))) (inner := [.int .i64 a1_0, .int .i64 a1_1, .int .i64 a1_2, .int .i64 a1_3]) (ok := fun _ => True) (okp := fun _ => True) ?hr ?hp (fun _ hk => hk) trivial (Below.refl _ _) (Nat.le_refl _) (by simp) ?_; (case hd => rfl); (case hg => rfl); (case hr => first | (go_simp; done) | (go_simp; rfl)); (case hp => exact (Reps.c4 (show Kd.M k74 _ _ _ (⟨(⟨a1_0, a1_1⟩ : S56), a1_2, a1_3⟩ : S74) [.int .i64 a1_0, .int .i64 a1_1, .int .i64 a1_2, .int .i64 a1_3] from (k74_mkM _ _ _ (⟨(⟨a1_0, a1_1⟩ : S56), a1_2, a1_3⟩ : S74) )) (Reps.none _ _)))
          intro v1005 w36 ho37 hb hg_ hnew_
          clear hg_ hnew_
          (first | rw [← Ny1004.out] at ho37 | (simp only [Int.reduceToNat] at ho37; rw [← Ny1004.out] at ho37))
          have n0_ := Aside0.mk (Kd.R_lower (Kd.R_newB ho37 (g := gb1000) (o := .cells #[.int .i64 a1_0, .int .i64 a1_1, .int .i64 a1_2, .int .i64 a1_3] 74 (0, 0)) (oK BK1000)) (below_size (oB HB)))
          have n1_ := Aside0.mk (blk_below (g := gb1000) (o := .cells #[.int .i64 a1_0, .int .i64 a1_1, .int .i64 a1_2, .int .i64 a1_3] 74 (0, 0)) (oK BK1000) hb)
          have n2_ := Aside0.mk (below_step (oB HB) hb)
          clear BK1000
          clear HB
          have HO1006 := n0_
          have BK1000 := n1_
          have HB := n2_
          clear n0_ n1_ n2_
          clear hb ho37
          refine hK.out _ _ ⟨(blk_cell BK1000.out 0).trans rfl, (blk_cell BK1000.out 1).trans rfl, (blk_cell BK1000.out 2).trans rfl, (blk_cell BK1000.out 3).trans rfl⟩ (fun hHeld => ?_)
          clear hK K
          refine norm_ (a' := ?_) ?_ ?_
          rotate_left
          · show Act.put _ (some 10) _ = _
            simp only [Act.put, List.setIfInBounds_toArray, List.set_cons_zero, List.set_cons_succ, i64_w, i32_w]
            rfl
          refine one_ (i := 1) (N := some 8) #[true, true, true, true, false, false] rfl rfl (by kernel_rfl) (by decide) (fun K hK => ?_)
          refine goes_ Try.func93 (by kernel_rfl) rfl #[.slice A0 l0.length c0] (by rfl) rfl rfl (by (try simp only [List.map_toArray, List.map_cons, List.map_nil]); first | done | rfl | (simp only [List.length_drop, List.length_take]; rfl)) ?_
          with_reducible refine (spec_l34Copy.calls _ _ l0 t1001 _ ?side1 ?side2 A3.out).mono ?_
          (case side1 => exact oc_ HR0.out)
          (case side2 => exact HC0.out)
          rintro e w38 ⟨v1002, rfl, ho0, hb⟩
          refine ⟨_, rfl, ?_⟩
          have n0_ := Aside0.mk (Kd.R_elder' (oR HO1006) (Kd.R_base ho0) hb)
          have n1_ := Aside0.mk (Kd.R_lower (Kd.R_newB (Kd.R_new' ho0 (Kd.R_lt (oR HO1006))) (g := gb1000) (o := .cells #[.int .i64 a1_0, .int .i64 a1_1, .int .i64 a1_2, .int .i64 a1_3] 74 (0, 0)) (oK BK1000)) (below_size (oB HB)))
          have n2_ := Aside0.mk (blk_below (g := gb1000) (o := .cells #[.int .i64 a1_0, .int .i64 a1_1, .int .i64 a1_2, .int .i64 a1_3] 74 (0, 0)) (oK BK1000) hb)
          have n3_ := Aside0.mk (below_step (oB HB) hb)
          clear HO1006
          clear BK1000
          clear HB
          have HO1006 := n0_
          have HO1003 := n1_
          have BK1000 := n2_
          have HB := n3_
          clear n0_ n1_ n2_ n3_
          (try clear hb)
          (try clear hb2)
          (try clear hk)
          (try clear hi)
          (try clear ho0)
          refine hK.out _ _ ⟨(blk_cell BK1000.out 0).trans rfl, (blk_cell BK1000.out 1).trans rfl, (blk_cell BK1000.out 2).trans rfl, (blk_cell BK1000.out 3).trans rfl⟩ (fun hHeld => ?_)
          clear hK K
          refine norm_ (a' := ?_) ?_ ?_
          rotate_left
          · show Act.put _ (some 8) _ = _
            simp only [Act.put, List.setIfInBounds_toArray, List.set_cons_zero, List.set_cons_succ, i64_w, i32_w]
            rfl
          exact norm_ (by simp only [putAll, Act.put, List.setIfInBounds_toArray, List.set_cons_zero, List.set_cons_succ]) (hCont (v1002, v1005) _ ⟨hHeld, (by (with_reducible repeat (first | apply Kd.R_alloc | apply Kd.R_drewN | apply Kd.R_drew)); exact Kd.R_mono HO1003.out (fun _ hk => ⟨hk.1.2, hk.2⟩)), (by (with_reducible repeat (first | apply Kd.R_alloc | apply Kd.R_drewN | apply Kd.R_drew)); exact Kd.R_mono HO1006.out (fun _ hk => ⟨hk.2, hk.1.2⟩)), (oK BK1000), (oB HB)⟩)
      rintro ⟨v1002, v1005⟩ w39 ⟨hS_, h0_, h1_, h2_, h3_⟩
      have n0_ : Aside0 (Kd.R k74 74 w39 w.heap.size (fun k_ => some k_ ≠ (v1005 : Value).ownBlock ∧ k_ ≠ gb1000) v1002 t1001) := ⟨h0_⟩
      have n1_ : Aside0 (Kd.R k74 74 w39 w.heap.size (fun k_ => some k_ ≠ (v1002 : Value).ownBlock ∧ k_ ≠ gb1000) v1005 y1004) := ⟨h1_⟩
      have n2_ : Aside0 (w39.heap[gb1000]? = some (.cells #[.int .i64 a1_0, .int .i64 a1_1, .int .i64 a1_2, .int .i64 a1_3] 74 (0, 0))) := ⟨h2_⟩
      have n3_ : Aside0 (Below w.heap.size w w39) := ⟨h3_⟩
      clear BK1000
      clear HB
      clear h0_ h1_ h2_ h3_
      have HO1003 := n0_
      have HO1006 := n1_
      have BK1000 := n2_
      have HB := n3_
      clear n0_ n1_ n2_ n3_
      have hHeld : w39.cell? ⟨gb1000, 0, none⟩ = some (.int .i64 a1_0) ∧ w39.cell? ⟨gb1000, 1, none⟩ = some (.int .i64 a1_1) ∧ w39.cell? ⟨gb1000, 2, none⟩ = some (.int .i64 a1_2) ∧ w39.cell? ⟨gb1000, 3, none⟩ = some (.int .i64 a1_3) := hS_
      obtain ⟨Ao41, co41, eo41⟩ := Kd.R_slice HO1006.out
      (first | subst eo41 | (injection eo41 with f1_ f2_ f3_; have f4_ := f1_.symm; have f5_ := f3_.symm; clear f1_ f2_ f3_; subst f4_; subst f5_))
      refine norm_ (a' := ?_) ?_ ?_
      rotate_left
      · simp only [putAll, Act.put, List.setIfInBounds_toArray, List.set_cons_zero, List.set_cons_succ]
        rfl
      refine one_ (i := 4) (N := some 11) #[true, true, true, true, true, false] rfl rfl (by kernel_rfl) (by decide) (fun K hK => ?_)
      refine Kd.R_append_rows_step k74 (w0 := w) w.heap.size (by rfl) (.tmp 8) (.tmp 10) 34 74 (.agg #[(.int .i64 0), (.int .i64 0), (.int .i64 0), (.int .i64 0)]) 32 rfl Try.underlying34 info74 rfl (by decide) (by omega) v1002 t1001 y1004 _ _ _ (fun k_ => some k_ ≠ (.slice Ao41 y1004.length co41 : Value).ownBlock ∧ k_ ≠ gb1000) (fun _ => False) rfl rfl ?aO ?aR (fun _ _ h => h) (fun _ h => h.elim) ?aF ?aB ?aS ?aL ?_
      (case aR => repeat (first | exact (Kd.R_reads' HO1006.out).2.2 | (with_reducible refine Kd.C_alloc ?_ _) | (with_reducible refine Kd.C_drewN ?_ _) | (with_reducible refine Kd.C_drew ?_)))
      (case aB => exact (oB HB))
      (case aF => exact (fun k_ hk => ⟨Kd.fresh' (Kd.R_lt (oR HO1006)) k_ hk, Kd.freshB (g := gb1000) (o := .cells #[.int .i64 a1_0, .int .i64 a1_1, .int .i64 a1_2, .int .i64 a1_3] 74 (0, 0)) (oK BK1000) k_ hk⟩))
      (case aO => exact (oR HO1003))
      (case aS => exact (below_size (oB HB)))
      (case aL => have := LMc4.out; omega)
      intro v1008 w40 ho hb hg hat
      rw [← Ny1007.out] at ho
      have n0_ := Aside0.mk (blk_grown (g := gb1000) (o := .cells #[.int .i64 a1_0, .int .i64 a1_1, .int .i64 a1_2, .int .i64 a1_3] 74 (0, 0)) (oK BK1000) hg (Kd.R_away HO1003.out (fun _ hk => hk.2)))
      have n1_ := Aside0.mk (Kd.R_after (ok := (fun k_ => k_ ≠ gb1000)) (by (with_reducible repeat (first | apply Kd.R_alloc | apply Kd.R_drewN | apply Kd.R_drew)); exact Kd.R_mono HO1006.out (fun _ hk => ⟨hk.2, hk.1⟩)) hg hat)
      have n2_ := Aside0.mk (hb)
      have n3_ := Aside0.mk (ho)
      clear BK1000
      clear HO1006
      clear HB
      clear HO1003
      have BK1000 := n0_
      have HO1006 := n1_
      have HB := n2_
      have HO1009 := n3_
      clear n0_ n1_ n2_ n3_
      clear ho hb hg hat
      refine hK.out _ _ ⟨(blk_cell BK1000.out 0).trans rfl, (blk_cell BK1000.out 1).trans rfl, (blk_cell BK1000.out 2).trans rfl, (blk_cell BK1000.out 3).trans rfl⟩ (fun hHeld => ?_)
      clear hK K
      refine norm_ (a' := ?_) ?_ ?_
      rotate_left
      · show Act.put _ (some 11) _ = _
        simp only [Act.put, List.setIfInBounds_toArray, List.set_cons_zero, List.set_cons_succ, i64_w, i32_w]
        rfl
      refine pure_ (i := 5) (N := some 6) (v := ?_) (a' := ?_) #[true, true, true, true, true, true] rfl rfl (by kernel_rfl) (fun _ _ _ h => h) (Or.inl ⟨by rfl, ?_⟩) ?_ ?_
      rotate_left
      · intro w'
        go_simp
        with_reducible rfl
      rotate_left
      · simp only [Act.put, List.setIfInBounds_toArray, List.set_cons_zero, List.set_cons_succ, i64_w, i32_w]
        rfl
      refine done_ (by kernel_rfl) ?_
      try go_wp2_with (first | ((with_reducible refine gate_callee (f := 61) rfl ?_); refine goesL_ (some 13) rfl rfl Try.func61 (by kernel_rfl) rfl #[.slice A0 l0.length c0] rfl (by (try simp only [List.map_toArray, List.map_cons, List.map_nil]); first | done | rfl | (simp only [List.length_drop, List.length_take]; rfl)) ?_; (with_reducible refine (spec_LogOk.calls k _ _ l0 false _ ?side1 ?side2 A5.out).mono ?_); (case side1 => exact oc_ HR0.out); (case side2 => exact HC0.out); rintro e w42 ⟨rfl, hb⟩; refine ⟨_, rfl, ?_⟩; have n0_ := Aside0.mk (Kd.R_below (oR HO1006) hb); have n1_ := Aside0.mk (Kd.R_below (oR HO1009) hb); have n2_ := Aside0.mk (blk_below (g := gb1000) (o := .cells #[.int .i64 a1_0, .int .i64 a1_1, .int .i64 a1_2, .int .i64 a1_3] 74 (0, 0)) (oK BK1000) hb); have n3_ := Aside0.mk (below_step (oB HB) hb); clear HO1006; clear HO1009; clear BK1000; clear HB; have HO1006 := n0_; have HO1009 := n1_; have BK1000 := n2_; have HB := n3_; clear n0_ n1_ n2_ n3_; (try clear hb); (try clear hb2); (try clear hk); (try clear hi)) | ((with_reducible refine gate_callee (f := 93) rfl ?_); refine goesL_ (some 21) rfl rfl Try.func93 (by kernel_rfl) rfl #[.slice A0 l0.length c0] rfl (by (try simp only [List.map_toArray, List.map_cons, List.map_nil]); first | done | rfl | (simp only [List.length_drop, List.length_take]; rfl)) ?_; (with_reducible refine (spec_l34Copy.calls _ _ l0 t1015 _ ?side1 ?side2 A33.out).mono ?_); (case side1 => exact oc_ HR0.out); (case side2 => exact HC0.out); rintro e w43 ⟨v1016, rfl, ho0, hb⟩; refine ⟨_, rfl, ?_⟩; have n0_ := Aside0.mk (Kd.R_elder' (oR HO1006) (Kd.R_base ho0) hb); have n1_ := Aside0.mk (Kd.R_elder' (oR HO1009) (Kd.R_base ho0) hb); have n2_ := Aside0.mk (Kd.R_lower (Kd.R_newB (Kd.R_new' (Kd.R_new' ho0 (Kd.R_lt (oR HO1006))) (Kd.R_lt (oR HO1009))) (g := gb1000) (o := .cells #[.int .i64 a1_0, .int .i64 a1_1, .int .i64 a1_2, .int .i64 a1_3] 74 (0, 0)) (oK BK1000)) (below_size (oB HB))); have n3_ := Aside0.mk (blk_below (g := gb1000) (o := .cells #[.int .i64 a1_0, .int .i64 a1_1, .int .i64 a1_2, .int .i64 a1_3] 74 (0, 0)) (oK BK1000) hb); have n4_ := Aside0.mk (below_step (oB HB) hb); clear HO1006; clear HO1009; clear BK1000; clear HB; have HO1006 := n0_; have HO1009 := n1_; have HO1017 := n2_; have BK1000 := n3_; have HB := n4_; clear n0_ n1_ n2_ n3_ n4_; (try clear hb); (try clear hb2); (try clear hk); (try clear hi); (try clear ho0)))
      go_ret2
      exact ⟨_, by first | rfl | (simp [errW_none, errW_some] <;> rfl) | (simp [*, errW_none, errW_some] <;> rfl), by (with_reducible repeat (first | apply Kd.R_alloc | apply Kd.R_drewN | apply Kd.R_drew)); exact Kd.R_mono HO1017.out (fun _ hk => trivial), oB HB⟩
  · rw [if_neg c4] at H
    exact absurd H (by simp)
end Go.Proofs.Ytbkkpllejgedcaa.P

namespace Go.Proofs.Ytbkkpllejgedcaa.P
open Go.RowKit Go.Proofs.YtbkkpllejgedcaaW.PrintWords Go.Proofs.YtbkkpllejgedcaaW.PrintLast Go.Proofs.YtbkkpllejgedcaaW.PrintMore
attribute [local go_sem] max2_int min2_int max_two min_two max_three min_three max_four min_four
set_option linter.unusedVariables false
set_option linter.unusedSimpArgs false
def impl_within.f (a0 : Int) (a1 : Int) (a2 : Int) : Option (Bool) := if a1 ≤ a0 then (some (decide (a0 ≤ a2))) else (some false)
set_option maxHeartbeats 8000000 in
set_option maxRecDepth 100000 in
theorem impl_within.calls (a0 : Int) (a1 : Int) (a2 : Int) (r : Bool) (w : World) (h : impl_within.f a0 a1 a2 = some r) :
    Calls Try.prog 67 #[.int .i64 a0, .int .i64 a1, .int .i64 a2] w fun e w' => e = .returned (.bool r) ∧ Drawn0 w w' := by
  have H : (if a1 ≤ a0 then (some (decide (a0 ≤ a2))) else (some false)) = some r := h
  clear h
  by_cases c4 : a1 ≤ a0
  · rw [if_pos c4] at H
    have c4b0 : decide (a1 ≤ a0) = true := decide_eq_true c4
    clear c4
    obtain rfl := Option.some.inj H
    go_enter Try.func67, Try.ntmps67
    go_wp2
    go_ret
    exact ⟨by first | rfl | (simp; done) | (simp [*]; done), by repeat (first | exact Drawn0.refl _ | apply Drawn0.step)⟩
  · rw [if_neg c4] at H
    have c4b0 : decide (a1 ≤ a0) = false := decide_eq_false c4
    clear c4
    obtain rfl := Option.some.inj H
    go_enter Try.func67, Try.ntmps67
    go_wp2
    go_ret
    exact ⟨by first | rfl | (simp; done) | (simp [*]; done), by repeat (first | exact Drawn0.refl _ | apply Drawn0.step)⟩
end Go.Proofs.Ytbkkpllejgedcaa.P

namespace Go.Proofs.Ytbkkpllejgedcaa.P
open Go.RowKit Go.Proofs.YtbkkpllejgedcaaW.PrintWords Go.Proofs.YtbkkpllejgedcaaW.PrintLast Go.Proofs.YtbkkpllejgedcaaW.PrintMore
attribute [local go_sem] max2_int min2_int max_two min_two max_three min_three max_four min_four
set_option linter.unusedVariables false
set_option linter.unusedSimpArgs false
def impl_LogOk.l0 : Nat → List (S74) → List (S74) → Int → Int → Option (Bool)
  | 0, _, _, _, _ => none
  | k + 1, x0, x5, x6, x7 => if x7 < x6 then (if 0 ≤ x7 then (if x7 < (x5.length : Int) then ((impl_within.f ((rd_T74 x5 x7).f0.f0) 0 3).bind fun t191 => (if t191 = true then ((impl_within.f ((rd_T74 x5 x7).f0.f1) 0 39).bind fun t192 => (if t192 = true then ((impl_within.f ((rd_T74 x5 x7).f1) 0 2).bind fun t193 => (if t193 = true then ((impl_within.f ((rd_T74 x5 x7).f2) 0 100000).bind fun t194 => (if t194 = true then (if x7 > 0 then (if 0 ≤ (wrap64 (x7 - 1)) then (if (wrap64 (x7 - 1)) < (x0.length : Int) then (if ((rd_T74 x0 (wrap64 (x7 - 1))).f2) > ((rd_T74 x5 x7).f2) then (some false) else (impl_LogOk.l0 k x0 x5 x6 (wrap64 (x7 + 1)))) else (none)) else (none)) else (impl_LogOk.l0 k x0 x5 x6 (wrap64 (x7 + 1)))) else (some false))) else (some false))) else (some false))) else (some false))) else (none)) else (none)) else (some (decide ((x0.length : Int) ≤ 30)))
def impl_LogOk.f (k : Nat) (l0 : List (S74)) : Option (Bool) := impl_LogOk.l0 k l0 l0 (l0.length : Int) 0
theorem impl_LogOk.mono_l : ∀ k, (∀ y0 y1 y2 y3, LeO (impl_LogOk.l0 k y0 y1 y2 y3) (impl_LogOk.l0 (k + 1) y0 y1 y2 y3))
  | 0 => fun _ _ _ _ r h => by simp [impl_LogOk.l0] at h
  | k + 1 => by
    have ih0 := impl_LogOk.mono_l k
    · intro y0 y1 y2 y3
      unfold impl_LogOk.l0
      repeat' first
      | (with_reducible exact ih0 _ _ _ _)
      | (with_reducible exact LeO.refl _)
      | (with_reducible exact LeO.none _)
      | (with_reducible refine LeO.ite ?_ ?_)
      | (with_reducible refine LeO.bind ?_ (fun _ => ?_))
      | exact ih0 _ _ _ _
      | exact LeO.none _
      | refine LeO.ite ?_ ?_
      | refine LeO.bind ?_ (fun _ => ?_)
theorem impl_LogOk.mono : ∀ a0 k, LeO (impl_LogOk.f k a0) (impl_LogOk.f (k + 1) a0) := by
  intro a0 k
  have ih0 := impl_LogOk.mono_l k
  unfold impl_LogOk.f
  repeat' first
      | (with_reducible exact ih0 _ _ _ _)
      | (with_reducible exact LeO.refl _)
      | (with_reducible exact LeO.none _)
      | (with_reducible refine LeO.ite ?_ ?_)
      | (with_reducible refine LeO.bind ?_ (fun _ => ?_))
      | exact ih0 _ _ _ _
      | exact LeO.none _
      | refine LeO.ite ?_ ?_
      | refine LeO.bind ?_ (fun _ => ?_)
set_option maxHeartbeats 8000000 in
set_option maxRecDepth 100000 in
theorem impl_LogOk.calls (k : Nat) (A0 : Option Addr) (c0 : Nat) (l0 : List (S74)) (r : Bool) (w : World) (hr0 : Kd.C k74 w A0 l0.length l0) (hc0 : l0.length ≤ c0) (h : impl_LogOk.f k l0 = some r) :
    Calls Try.prog 65 #[.slice A0 l0.length c0] w fun e w' => e = .returned (.bool r) ∧ Below w.heap.size w w' := by
  have hu74 := Try.underlying74
  have HR0 := Aside0.mk hr0
  have HC0 := Aside0.mk hc0
  clear hr0 hc0
  have HB := Aside0.mk (Below.refl w.heap.size w)
  have H : (impl_LogOk.l0 k l0 l0 (l0.length : Int) 0) = some r := h
  clear h
  have H' := Aside0.mk H
  clear H
  go_enter Try.func65, Try.ntmps65
  go_wp2
  repeat (go_quiet (fail); try go_wp2)
  go_loopg [7] k (fun kq v7 w' => ∃ (x7_1 : Int), v7 = .int .i64 x7_1 ∧ Aside0 (impl_LogOk.l0 kq l0 l0 (l0.length : Int) x7_1 = some r) ∧ Aside0 (kq ≤ k) ∧ Aside0 (Below w.heap.size w w'))
  case atStart => exact ⟨(0), (by first | rfl | (simp; done) | (simp [*]; done)), H', ⟨Nat.le_refl _⟩, ⟨oB HB⟩⟩
  case round =>
    clear H'
    obtain ⟨x7_1, rfl, HA, HK1, HB⟩ := hrel
    cases gk with
    | zero => exact absurd HA.out (by simp [impl_LogOk.l0])
    | succ k1 =>
      have H := HA.out
      clear HA
      simp only [impl_LogOk.l0] at H
      by_cases c2 : x7_1 < (l0.length : Int)
      · rw [if_pos c2] at H
        have c2b0 : decide (x7_1 < (l0.length : Int)) = true := decide_eq_true c2
        clear c2
        by_cases c3 : 0 ≤ x7_1
        · rw [if_pos c3] at H
          have c3b0 : decide (0 ≤ x7_1) = true := decide_eq_true c3
          clear c3
          by_cases c4 : x7_1 < (l0.length : Int)
          · rw [if_pos c4] at H
            have c4b0 : decide (x7_1 < (l0.length : Int)) = true := decide_eq_true c4
            clear c4
            replace H := Option.bind_eq_some_iff.mp H
            obtain ⟨t191, A50, H⟩ := H
            (try dsimp only at H)
            have A5 := Aside0.mk A50
            clear A50
            by_cases c6 : t191 = true
            · subst c6
              rw [if_pos rfl] at H
              replace H := Option.bind_eq_some_iff.mp H
              obtain ⟨t192, A70, H⟩ := H
              (try dsimp only at H)
              have A7 := Aside0.mk A70
              clear A70
              by_cases c8 : t192 = true
              · subst c8
                rw [if_pos rfl] at H
                replace H := Option.bind_eq_some_iff.mp H
                obtain ⟨t193, A90, H⟩ := H
                (try dsimp only at H)
                have A9 := Aside0.mk A90
                clear A90
                by_cases c10 : t193 = true
                · subst c10
                  rw [if_pos rfl] at H
                  replace H := Option.bind_eq_some_iff.mp H
                  obtain ⟨t194, A110, H⟩ := H
                  (try dsimp only at H)
                  have A11 := Aside0.mk A110
                  clear A110
                  by_cases c12 : t194 = true
                  · subst c12
                    rw [if_pos rfl] at H
                    by_cases c13 : x7_1 > 0
                    · rw [if_pos c13] at H
                      have c13b0 : decide (0 < x7_1) = true := decide_eq_true c13
                      clear c13
                      obtain ⟨ji14, hji14⟩ : ∃ j_ : Int, (wrap64 (x7_1 - 1)) = j_ := ⟨_, rfl⟩
                      replace H : (if 0 ≤ (ji14) then (if (ji14) < (l0.length : Int) then (if ((rd_T74 l0 (ji14)).f2) > ((rd_T74 l0 x7_1).f2) then (some false) else (impl_LogOk.l0 k1 l0 l0 (l0.length : Int) (wrap64 (x7_1 + 1)))) else (none)) else (none)) = some r := by first | (rw [hji14] at H; exact H) | (simp only [hji14] at H ⊢; exact H)
                      (try rw [hji14] at A5)
                      (try rw [hji14] at A7)
                      (try rw [hji14] at A9)
                      (try rw [hji14] at A11)
                      have hji14w : (IntKind.i64.wrap (x7_1 - 1)) = ji14 := (i64_w _).trans hji14
                      by_cases c15 : 0 ≤ (ji14)
                      · rw [if_pos c15] at H
                        have c15b0 : decide (0 ≤ (ji14)) = true := decide_eq_true c15
                        clear c15
                        by_cases c16 : (ji14) < (l0.length : Int)
                        · rw [if_pos c16] at H
                          have c16b0 : decide ((ji14) < (l0.length : Int)) = true := decide_eq_true c16
                          clear c16
                          by_cases c17 : ((rd_T74 l0 (ji14)).f2) > ((rd_T74 l0 x7_1).f2)
                          · rw [if_pos c17] at H
                            have c17b0 : decide (((rd_T74 l0 x7_1).f2) < ((rd_T74 l0 (ji14)).f2)) = true := decide_eq_true c17
                            clear c17
                            obtain rfl := Option.some.inj H
                            have p189 : 0 ≤ (x7_1 : Int) := of_decide_eq_true (by first | (with_reducible assumption) | assumption)
                            have q189 : x7_1 < (l0.length : Int) := of_decide_eq_true (by first | (with_reducible assumption) | assumption)
                            obtain ⟨ad189, e189, hx189_0, hx189_1, hx189_2, hx189_3⟩ := at_T74 HR0.out x7_1 p189 q189
                            cases e189
                            replace hx189_0 := (HB.out.cell (World.block_lt_of_cell? w _ hx189_0)).trans hx189_0
                            replace hx189_1 := (HB.out.cell (World.block_lt_of_cell? w _ hx189_1)).trans hx189_1
                            replace hx189_2 := (HB.out.cell (World.block_lt_of_cell? w _ hx189_2)).trans hx189_2
                            replace hx189_3 := (HB.out.cell (World.block_lt_of_cell? w _ hx189_3)).trans hx189_3
                            replace p189 := eq_true p189
                            replace q189 := eq_true q189
                            go_wp2_with (first | ((with_reducible refine gate_dst (N := 4) rfl ?_); refine box_event ?hg (N := 4) ?hd (cs := #[.int .i64 0, .int .i64 0, .int .i64 0, .int .i64 0]) (t := 74) ?hr ?_; (case hd => rfl); (case hg => rfl); (case hr => first | (go_simp; done) | (go_simp; rfl)); intro gb190 hg w18 hbox hb; have n0_ := Aside0.mk (below_step (oB HB) hb); have n1_ := Aside0.mk (hbox); have n2_ := Aside0.mk ((by rw [hg]; exact (below_size (oB HB)) : w.heap.size ≤ gb190)); have n3_ := Aside0.mk ((by rw [hg]; exact (below_size (oB HB)) : w.heap.size ≤ gb190)); clear HB; have HB := n0_; have BK190 := n1_; have GW190 := n2_; have GE190 := n3_; clear n0_ n1_ n2_ n3_; clear hb hbox hg; have hcz19_0 : w18.cell? ⟨gb190, 0, none⟩ = some (.int .i64 0) := (blk_cell BK190.out 0).trans rfl; have hcz19_1 : w18.cell? ⟨gb190, 1, none⟩ = some (.int .i64 0) := (blk_cell BK190.out 1).trans rfl; have hcz19_2 : w18.cell? ⟨gb190, 2, none⟩ = some (.int .i64 0) := (blk_cell BK190.out 2).trans rfl; have hcz19_3 : w18.cell? ⟨gb190, 3, none⟩ = some (.int .i64 0) := (blk_cell BK190.out 3).trans rfl; have hfz19_0 := blk_frozen BK190.out 0; have hfz19_1 := blk_frozen BK190.out 1; have hfz19_2 := blk_frozen BK190.out 2; have hfz19_3 := blk_frozen BK190.out 3) | (go_at_call 67; (with_reducible refine (impl_within.calls ((rd_T74 l0 x7_1).f0.f0) 0 3 true _ A5.out).mono ?_); rintro e w' ⟨rfl, ⟨nd, rfl⟩⟩; (try first | exact ⟨rfl, _, World.drewN_drewN _ _ _⟩ | exact ⟨rfl, _, Eq.trans (World.drewN_drewN _ _ _) (congrArg (World.drewN _) (Nat.add_assoc _ _ _))⟩)) | (go_at_call 67; (with_reducible refine (impl_within.calls ((rd_T74 l0 x7_1).f0.f1) 0 39 true _ A7.out).mono ?_); rintro e w' ⟨rfl, ⟨nd, rfl⟩⟩; (try first | exact ⟨rfl, _, World.drewN_drewN _ _ _⟩ | exact ⟨rfl, _, Eq.trans (World.drewN_drewN _ _ _) (congrArg (World.drewN _) (Nat.add_assoc _ _ _))⟩)) | (go_at_call 67; (with_reducible refine (impl_within.calls ((rd_T74 l0 x7_1).f1) 0 2 true _ A9.out).mono ?_); rintro e w' ⟨rfl, ⟨nd, rfl⟩⟩; (try first | exact ⟨rfl, _, World.drewN_drewN _ _ _⟩ | exact ⟨rfl, _, Eq.trans (World.drewN_drewN _ _ _) (congrArg (World.drewN _) (Nat.add_assoc _ _ _))⟩)) | (go_at_call 67; (with_reducible refine (impl_within.calls ((rd_T74 l0 x7_1).f2) 0 100000 true _ A11.out).mono ?_); rintro e w' ⟨rfl, ⟨nd, rfl⟩⟩; (try first | exact ⟨rfl, _, World.drewN_drewN _ _ _⟩ | exact ⟨rfl, _, Eq.trans (World.drewN_drewN _ _ _) (congrArg (World.drewN _) (Nat.add_assoc _ _ _))⟩); have p195 : 0 ≤ ((ji14) : Int) := of_decide_eq_true (by first | (with_reducible assumption) | assumption); have q195 : (ji14) < (l0.length : Int) := of_decide_eq_true (by first | (with_reducible assumption) | assumption); obtain ⟨ad195, e195, hx195_0, hx195_1, hx195_2, hx195_3⟩ := at_T74 HR0.out (ji14) p195 q195; obtain rfl : ad189 = ad195 := (by injection e195); have hn195_0 : ad189.block ≠ gb190 := Nat.ne_of_lt (Nat.lt_of_lt_of_le (by have := World.block_lt_of_cell? _ _ hx195_0; first | rwa [add_block] at this | exact this) GW190.out); have hn195_1 : ad189.block ≠ gb190 := Nat.ne_of_lt (Nat.lt_of_lt_of_le (by have := World.block_lt_of_cell? _ _ hx195_0; first | rwa [add_block] at this | exact this) GW190.out); have hn195_2 : ad189.block ≠ gb190 := Nat.ne_of_lt (Nat.lt_of_lt_of_le (by have := World.block_lt_of_cell? _ _ hx195_0; first | rwa [add_block] at this | exact this) GW190.out); have hn195_3 : ad189.block ≠ gb190 := Nat.ne_of_lt (Nat.lt_of_lt_of_le (by have := World.block_lt_of_cell? _ _ hx195_0; first | rwa [add_block] at this | exact this) GW190.out); replace hx195_0 := (HB.out.cell (World.block_lt_of_cell? w _ hx195_0)).trans hx195_0; replace hx195_1 := (HB.out.cell (World.block_lt_of_cell? w _ hx195_1)).trans hx195_1; replace hx195_2 := (HB.out.cell (World.block_lt_of_cell? w _ hx195_2)).trans hx195_2; replace hx195_3 := (HB.out.cell (World.block_lt_of_cell? w _ hx195_3)).trans hx195_3; replace hx195_0 := (cell_far (p := ⟨gb190, 0, none⟩) (by first | (rw [add_block]; exact hn195_0) | (show (Addr.add _ _).block ≠ _; rw [add_block]; exact hn195_0) | exact hn195_0) (.int .i64 ((rd_T74 l0 x7_1).f0.f0))).trans hx195_0; replace hx195_1 := (cell_far (p := ⟨gb190, 0, none⟩) (by first | (rw [add_block]; exact hn195_0) | (show (Addr.add _ _).block ≠ _; rw [add_block]; exact hn195_0) | exact hn195_0) (.int .i64 ((rd_T74 l0 x7_1).f0.f0))).trans hx195_1; replace hx195_2 := (cell_far (p := ⟨gb190, 0, none⟩) (by first | (rw [add_block]; exact hn195_0) | (show (Addr.add _ _).block ≠ _; rw [add_block]; exact hn195_0) | exact hn195_0) (.int .i64 ((rd_T74 l0 x7_1).f0.f0))).trans hx195_2; replace hx195_3 := (cell_far (p := ⟨gb190, 0, none⟩) (by first | (rw [add_block]; exact hn195_0) | (show (Addr.add _ _).block ≠ _; rw [add_block]; exact hn195_0) | exact hn195_0) (.int .i64 ((rd_T74 l0 x7_1).f0.f0))).trans hx195_3; replace hx195_0 := (cell_far (p := ⟨gb190, 1, none⟩) (by first | (rw [add_block]; exact hn195_1) | (show (Addr.add _ _).block ≠ _; rw [add_block]; exact hn195_1) | exact hn195_1) (.int .i64 ((rd_T74 l0 x7_1).f0.f1))).trans hx195_0; replace hx195_1 := (cell_far (p := ⟨gb190, 1, none⟩) (by first | (rw [add_block]; exact hn195_1) | (show (Addr.add _ _).block ≠ _; rw [add_block]; exact hn195_1) | exact hn195_1) (.int .i64 ((rd_T74 l0 x7_1).f0.f1))).trans hx195_1; replace hx195_2 := (cell_far (p := ⟨gb190, 1, none⟩) (by first | (rw [add_block]; exact hn195_1) | (show (Addr.add _ _).block ≠ _; rw [add_block]; exact hn195_1) | exact hn195_1) (.int .i64 ((rd_T74 l0 x7_1).f0.f1))).trans hx195_2; replace hx195_3 := (cell_far (p := ⟨gb190, 1, none⟩) (by first | (rw [add_block]; exact hn195_1) | (show (Addr.add _ _).block ≠ _; rw [add_block]; exact hn195_1) | exact hn195_1) (.int .i64 ((rd_T74 l0 x7_1).f0.f1))).trans hx195_3; replace hx195_0 := (cell_far (p := ⟨gb190, 2, none⟩) (by first | (rw [add_block]; exact hn195_2) | (show (Addr.add _ _).block ≠ _; rw [add_block]; exact hn195_2) | exact hn195_2) (.int .i64 ((rd_T74 l0 x7_1).f1))).trans hx195_0; replace hx195_1 := (cell_far (p := ⟨gb190, 2, none⟩) (by first | (rw [add_block]; exact hn195_2) | (show (Addr.add _ _).block ≠ _; rw [add_block]; exact hn195_2) | exact hn195_2) (.int .i64 ((rd_T74 l0 x7_1).f1))).trans hx195_1; replace hx195_2 := (cell_far (p := ⟨gb190, 2, none⟩) (by first | (rw [add_block]; exact hn195_2) | (show (Addr.add _ _).block ≠ _; rw [add_block]; exact hn195_2) | exact hn195_2) (.int .i64 ((rd_T74 l0 x7_1).f1))).trans hx195_2; replace hx195_3 := (cell_far (p := ⟨gb190, 2, none⟩) (by first | (rw [add_block]; exact hn195_2) | (show (Addr.add _ _).block ≠ _; rw [add_block]; exact hn195_2) | exact hn195_2) (.int .i64 ((rd_T74 l0 x7_1).f1))).trans hx195_3; replace hx195_0 := (cell_far (p := ⟨gb190, 3, none⟩) (by first | (rw [add_block]; exact hn195_3) | (show (Addr.add _ _).block ≠ _; rw [add_block]; exact hn195_3) | exact hn195_3) (.int .i64 ((rd_T74 l0 x7_1).f2))).trans hx195_0; replace hx195_1 := (cell_far (p := ⟨gb190, 3, none⟩) (by first | (rw [add_block]; exact hn195_3) | (show (Addr.add _ _).block ≠ _; rw [add_block]; exact hn195_3) | exact hn195_3) (.int .i64 ((rd_T74 l0 x7_1).f2))).trans hx195_1; replace hx195_2 := (cell_far (p := ⟨gb190, 3, none⟩) (by first | (rw [add_block]; exact hn195_3) | (show (Addr.add _ _).block ≠ _; rw [add_block]; exact hn195_3) | exact hn195_3) (.int .i64 ((rd_T74 l0 x7_1).f2))).trans hx195_2; replace hx195_3 := (cell_far (p := ⟨gb190, 3, none⟩) (by first | (rw [add_block]; exact hn195_3) | (show (Addr.add _ _).block ≠ _; rw [add_block]; exact hn195_3) | exact hn195_3) (.int .i64 ((rd_T74 l0 x7_1).f2))).trans hx195_3; (try have hy195_0 := fun (n_ : Nat) => (show ((((((w18.drewN n_).setCell ⟨gb190, 0, none⟩ (.int .i64 ((rd_T74 l0 x7_1).f0.f0))).setCell ⟨gb190, 1, none⟩ (.int .i64 ((rd_T74 l0 x7_1).f0.f1))).setCell ⟨gb190, 2, none⟩ (.int .i64 ((rd_T74 l0 x7_1).f1))).setCell ⟨gb190, 3, none⟩ (.int .i64 ((rd_T74 l0 x7_1).f2)))).cell? _ = some _ from hx195_0)); (try have hy195_1 := fun (n_ : Nat) => (show ((((((w18.drewN n_).setCell ⟨gb190, 0, none⟩ (.int .i64 ((rd_T74 l0 x7_1).f0.f0))).setCell ⟨gb190, 1, none⟩ (.int .i64 ((rd_T74 l0 x7_1).f0.f1))).setCell ⟨gb190, 2, none⟩ (.int .i64 ((rd_T74 l0 x7_1).f1))).setCell ⟨gb190, 3, none⟩ (.int .i64 ((rd_T74 l0 x7_1).f2)))).cell? _ = some _ from hx195_1)); (try have hy195_2 := fun (n_ : Nat) => (show ((((((w18.drewN n_).setCell ⟨gb190, 0, none⟩ (.int .i64 ((rd_T74 l0 x7_1).f0.f0))).setCell ⟨gb190, 1, none⟩ (.int .i64 ((rd_T74 l0 x7_1).f0.f1))).setCell ⟨gb190, 2, none⟩ (.int .i64 ((rd_T74 l0 x7_1).f1))).setCell ⟨gb190, 3, none⟩ (.int .i64 ((rd_T74 l0 x7_1).f2)))).cell? _ = some _ from hx195_2)); (try have hy195_3 := fun (n_ : Nat) => (show ((((((w18.drewN n_).setCell ⟨gb190, 0, none⟩ (.int .i64 ((rd_T74 l0 x7_1).f0.f0))).setCell ⟨gb190, 1, none⟩ (.int .i64 ((rd_T74 l0 x7_1).f0.f1))).setCell ⟨gb190, 2, none⟩ (.int .i64 ((rd_T74 l0 x7_1).f1))).setCell ⟨gb190, 3, none⟩ (.int .i64 ((rd_T74 l0 x7_1).f2)))).cell? _ = some _ from hx195_3)); clear hn195_0; clear hn195_1; clear hn195_2; clear hn195_3; replace p195 := eq_true p195; replace q195 := eq_true q195))
                            repeat (go_quiet (first | ((with_reducible refine gate_dst (N := 4) rfl ?_); refine box_event ?hg (N := 4) ?hd (cs := #[.int .i64 0, .int .i64 0, .int .i64 0, .int .i64 0]) (t := 74) ?hr ?_; (case hd => rfl); (case hg => rfl); (case hr => first | (go_simp; done) | (go_simp; rfl)); intro gb190 hg w18 hbox hb; have n0_ := Aside0.mk (below_step (oB HB) hb); have n1_ := Aside0.mk (hbox); have n2_ := Aside0.mk ((by rw [hg]; exact (below_size (oB HB)) : w.heap.size ≤ gb190)); have n3_ := Aside0.mk ((by rw [hg]; exact (below_size (oB HB)) : w.heap.size ≤ gb190)); clear HB; have HB := n0_; have BK190 := n1_; have GW190 := n2_; have GE190 := n3_; clear n0_ n1_ n2_ n3_; clear hb hbox hg; have hcz19_0 : w18.cell? ⟨gb190, 0, none⟩ = some (.int .i64 0) := (blk_cell BK190.out 0).trans rfl; have hcz19_1 : w18.cell? ⟨gb190, 1, none⟩ = some (.int .i64 0) := (blk_cell BK190.out 1).trans rfl; have hcz19_2 : w18.cell? ⟨gb190, 2, none⟩ = some (.int .i64 0) := (blk_cell BK190.out 2).trans rfl; have hcz19_3 : w18.cell? ⟨gb190, 3, none⟩ = some (.int .i64 0) := (blk_cell BK190.out 3).trans rfl; have hfz19_0 := blk_frozen BK190.out 0; have hfz19_1 := blk_frozen BK190.out 1; have hfz19_2 := blk_frozen BK190.out 2; have hfz19_3 := blk_frozen BK190.out 3) | (go_at_call 67; (with_reducible refine (impl_within.calls ((rd_T74 l0 x7_1).f0.f0) 0 3 true _ A5.out).mono ?_); rintro e w' ⟨rfl, ⟨nd, rfl⟩⟩; (try first | exact ⟨rfl, _, World.drewN_drewN _ _ _⟩ | exact ⟨rfl, _, Eq.trans (World.drewN_drewN _ _ _) (congrArg (World.drewN _) (Nat.add_assoc _ _ _))⟩)) | (go_at_call 67; (with_reducible refine (impl_within.calls ((rd_T74 l0 x7_1).f0.f1) 0 39 true _ A7.out).mono ?_); rintro e w' ⟨rfl, ⟨nd, rfl⟩⟩; (try first | exact ⟨rfl, _, World.drewN_drewN _ _ _⟩ | exact ⟨rfl, _, Eq.trans (World.drewN_drewN _ _ _) (congrArg (World.drewN _) (Nat.add_assoc _ _ _))⟩)) | (go_at_call 67; (with_reducible refine (impl_within.calls ((rd_T74 l0 x7_1).f1) 0 2 true _ A9.out).mono ?_); rintro e w' ⟨rfl, ⟨nd, rfl⟩⟩; (try first | exact ⟨rfl, _, World.drewN_drewN _ _ _⟩ | exact ⟨rfl, _, Eq.trans (World.drewN_drewN _ _ _) (congrArg (World.drewN _) (Nat.add_assoc _ _ _))⟩)) | (go_at_call 67; (with_reducible refine (impl_within.calls ((rd_T74 l0 x7_1).f2) 0 100000 true _ A11.out).mono ?_); rintro e w' ⟨rfl, ⟨nd, rfl⟩⟩; (try first | exact ⟨rfl, _, World.drewN_drewN _ _ _⟩ | exact ⟨rfl, _, Eq.trans (World.drewN_drewN _ _ _) (congrArg (World.drewN _) (Nat.add_assoc _ _ _))⟩); have p195 : 0 ≤ ((ji14) : Int) := of_decide_eq_true (by first | (with_reducible assumption) | assumption); have q195 : (ji14) < (l0.length : Int) := of_decide_eq_true (by first | (with_reducible assumption) | assumption); obtain ⟨ad195, e195, hx195_0, hx195_1, hx195_2, hx195_3⟩ := at_T74 HR0.out (ji14) p195 q195; obtain rfl : ad189 = ad195 := (by injection e195); have hn195_0 : ad189.block ≠ gb190 := Nat.ne_of_lt (Nat.lt_of_lt_of_le (by have := World.block_lt_of_cell? _ _ hx195_0; first | rwa [add_block] at this | exact this) GW190.out); have hn195_1 : ad189.block ≠ gb190 := Nat.ne_of_lt (Nat.lt_of_lt_of_le (by have := World.block_lt_of_cell? _ _ hx195_0; first | rwa [add_block] at this | exact this) GW190.out); have hn195_2 : ad189.block ≠ gb190 := Nat.ne_of_lt (Nat.lt_of_lt_of_le (by have := World.block_lt_of_cell? _ _ hx195_0; first | rwa [add_block] at this | exact this) GW190.out); have hn195_3 : ad189.block ≠ gb190 := Nat.ne_of_lt (Nat.lt_of_lt_of_le (by have := World.block_lt_of_cell? _ _ hx195_0; first | rwa [add_block] at this | exact this) GW190.out); replace hx195_0 := (HB.out.cell (World.block_lt_of_cell? w _ hx195_0)).trans hx195_0; replace hx195_1 := (HB.out.cell (World.block_lt_of_cell? w _ hx195_1)).trans hx195_1; replace hx195_2 := (HB.out.cell (World.block_lt_of_cell? w _ hx195_2)).trans hx195_2; replace hx195_3 := (HB.out.cell (World.block_lt_of_cell? w _ hx195_3)).trans hx195_3; replace hx195_0 := (cell_far (p := ⟨gb190, 0, none⟩) (by first | (rw [add_block]; exact hn195_0) | (show (Addr.add _ _).block ≠ _; rw [add_block]; exact hn195_0) | exact hn195_0) (.int .i64 ((rd_T74 l0 x7_1).f0.f0))).trans hx195_0; replace hx195_1 := (cell_far (p := ⟨gb190, 0, none⟩) (by first | (rw [add_block]; exact hn195_0) | (show (Addr.add _ _).block ≠ _; rw [add_block]; exact hn195_0) | exact hn195_0) (.int .i64 ((rd_T74 l0 x7_1).f0.f0))).trans hx195_1; replace hx195_2 := (cell_far (p := ⟨gb190, 0, none⟩) (by first | (rw [add_block]; exact hn195_0) | (show (Addr.add _ _).block ≠ _; rw [add_block]; exact hn195_0) | exact hn195_0) (.int .i64 ((rd_T74 l0 x7_1).f0.f0))).trans hx195_2; replace hx195_3 := (cell_far (p := ⟨gb190, 0, none⟩) (by first | (rw [add_block]; exact hn195_0) | (show (Addr.add _ _).block ≠ _; rw [add_block]; exact hn195_0) | exact hn195_0) (.int .i64 ((rd_T74 l0 x7_1).f0.f0))).trans hx195_3; replace hx195_0 := (cell_far (p := ⟨gb190, 1, none⟩) (by first | (rw [add_block]; exact hn195_1) | (show (Addr.add _ _).block ≠ _; rw [add_block]; exact hn195_1) | exact hn195_1) (.int .i64 ((rd_T74 l0 x7_1).f0.f1))).trans hx195_0; replace hx195_1 := (cell_far (p := ⟨gb190, 1, none⟩) (by first | (rw [add_block]; exact hn195_1) | (show (Addr.add _ _).block ≠ _; rw [add_block]; exact hn195_1) | exact hn195_1) (.int .i64 ((rd_T74 l0 x7_1).f0.f1))).trans hx195_1; replace hx195_2 := (cell_far (p := ⟨gb190, 1, none⟩) (by first | (rw [add_block]; exact hn195_1) | (show (Addr.add _ _).block ≠ _; rw [add_block]; exact hn195_1) | exact hn195_1) (.int .i64 ((rd_T74 l0 x7_1).f0.f1))).trans hx195_2; replace hx195_3 := (cell_far (p := ⟨gb190, 1, none⟩) (by first | (rw [add_block]; exact hn195_1) | (show (Addr.add _ _).block ≠ _; rw [add_block]; exact hn195_1) | exact hn195_1) (.int .i64 ((rd_T74 l0 x7_1).f0.f1))).trans hx195_3; replace hx195_0 := (cell_far (p := ⟨gb190, 2, none⟩) (by first | (rw [add_block]; exact hn195_2) | (show (Addr.add _ _).block ≠ _; rw [add_block]; exact hn195_2) | exact hn195_2) (.int .i64 ((rd_T74 l0 x7_1).f1))).trans hx195_0; replace hx195_1 := (cell_far (p := ⟨gb190, 2, none⟩) (by first | (rw [add_block]; exact hn195_2) | (show (Addr.add _ _).block ≠ _; rw [add_block]; exact hn195_2) | exact hn195_2) (.int .i64 ((rd_T74 l0 x7_1).f1))).trans hx195_1; replace hx195_2 := (cell_far (p := ⟨gb190, 2, none⟩) (by first | (rw [add_block]; exact hn195_2) | (show (Addr.add _ _).block ≠ _; rw [add_block]; exact hn195_2) | exact hn195_2) (.int .i64 ((rd_T74 l0 x7_1).f1))).trans hx195_2; replace hx195_3 := (cell_far (p := ⟨gb190, 2, none⟩) (by first | (rw [add_block]; exact hn195_2) | (show (Addr.add _ _).block ≠ _; rw [add_block]; exact hn195_2) | exact hn195_2) (.int .i64 ((rd_T74 l0 x7_1).f1))).trans hx195_3; replace hx195_0 := (cell_far (p := ⟨gb190, 3, none⟩) (by first | (rw [add_block]; exact hn195_3) | (show (Addr.add _ _).block ≠ _; rw [add_block]; exact hn195_3) | exact hn195_3) (.int .i64 ((rd_T74 l0 x7_1).f2))).trans hx195_0; replace hx195_1 := (cell_far (p := ⟨gb190, 3, none⟩) (by first | (rw [add_block]; exact hn195_3) | (show (Addr.add _ _).block ≠ _; rw [add_block]; exact hn195_3) | exact hn195_3) (.int .i64 ((rd_T74 l0 x7_1).f2))).trans hx195_1; replace hx195_2 := (cell_far (p := ⟨gb190, 3, none⟩) (by first | (rw [add_block]; exact hn195_3) | (show (Addr.add _ _).block ≠ _; rw [add_block]; exact hn195_3) | exact hn195_3) (.int .i64 ((rd_T74 l0 x7_1).f2))).trans hx195_2; replace hx195_3 := (cell_far (p := ⟨gb190, 3, none⟩) (by first | (rw [add_block]; exact hn195_3) | (show (Addr.add _ _).block ≠ _; rw [add_block]; exact hn195_3) | exact hn195_3) (.int .i64 ((rd_T74 l0 x7_1).f2))).trans hx195_3; (try have hy195_0 := fun (n_ : Nat) => (show ((((((w18.drewN n_).setCell ⟨gb190, 0, none⟩ (.int .i64 ((rd_T74 l0 x7_1).f0.f0))).setCell ⟨gb190, 1, none⟩ (.int .i64 ((rd_T74 l0 x7_1).f0.f1))).setCell ⟨gb190, 2, none⟩ (.int .i64 ((rd_T74 l0 x7_1).f1))).setCell ⟨gb190, 3, none⟩ (.int .i64 ((rd_T74 l0 x7_1).f2)))).cell? _ = some _ from hx195_0)); (try have hy195_1 := fun (n_ : Nat) => (show ((((((w18.drewN n_).setCell ⟨gb190, 0, none⟩ (.int .i64 ((rd_T74 l0 x7_1).f0.f0))).setCell ⟨gb190, 1, none⟩ (.int .i64 ((rd_T74 l0 x7_1).f0.f1))).setCell ⟨gb190, 2, none⟩ (.int .i64 ((rd_T74 l0 x7_1).f1))).setCell ⟨gb190, 3, none⟩ (.int .i64 ((rd_T74 l0 x7_1).f2)))).cell? _ = some _ from hx195_1)); (try have hy195_2 := fun (n_ : Nat) => (show ((((((w18.drewN n_).setCell ⟨gb190, 0, none⟩ (.int .i64 ((rd_T74 l0 x7_1).f0.f0))).setCell ⟨gb190, 1, none⟩ (.int .i64 ((rd_T74 l0 x7_1).f0.f1))).setCell ⟨gb190, 2, none⟩ (.int .i64 ((rd_T74 l0 x7_1).f1))).setCell ⟨gb190, 3, none⟩ (.int .i64 ((rd_T74 l0 x7_1).f2)))).cell? _ = some _ from hx195_2)); (try have hy195_3 := fun (n_ : Nat) => (show ((((((w18.drewN n_).setCell ⟨gb190, 0, none⟩ (.int .i64 ((rd_T74 l0 x7_1).f0.f0))).setCell ⟨gb190, 1, none⟩ (.int .i64 ((rd_T74 l0 x7_1).f0.f1))).setCell ⟨gb190, 2, none⟩ (.int .i64 ((rd_T74 l0 x7_1).f1))).setCell ⟨gb190, 3, none⟩ (.int .i64 ((rd_T74 l0 x7_1).f2)))).cell? _ = some _ from hx195_3)); clear hn195_0; clear hn195_1; clear hn195_2; clear hn195_3; replace p195 := eq_true p195; replace q195 := eq_true q195)); try go_wp2_with (first | ((with_reducible refine gate_dst (N := 4) rfl ?_); refine box_event ?hg (N := 4) ?hd (cs := #[.int .i64 0, .int .i64 0, .int .i64 0, .int .i64 0]) (t := 74) ?hr ?_; (case hd => rfl); (case hg => rfl); (case hr => first | (go_simp; done) | (go_simp; rfl)); intro gb190 hg w18 hbox hb; have n0_ := Aside0.mk (below_step (oB HB) hb); have n1_ := Aside0.mk (hbox); have n2_ := Aside0.mk ((by rw [hg]; exact (below_size (oB HB)) : w.heap.size ≤ gb190)); have n3_ := Aside0.mk ((by rw [hg]; exact (below_size (oB HB)) : w.heap.size ≤ gb190)); clear HB; have HB := n0_; have BK190 := n1_; have GW190 := n2_; have GE190 := n3_; clear n0_ n1_ n2_ n3_; clear hb hbox hg; have hcz19_0 : w18.cell? ⟨gb190, 0, none⟩ = some (.int .i64 0) := (blk_cell BK190.out 0).trans rfl; have hcz19_1 : w18.cell? ⟨gb190, 1, none⟩ = some (.int .i64 0) := (blk_cell BK190.out 1).trans rfl; have hcz19_2 : w18.cell? ⟨gb190, 2, none⟩ = some (.int .i64 0) := (blk_cell BK190.out 2).trans rfl; have hcz19_3 : w18.cell? ⟨gb190, 3, none⟩ = some (.int .i64 0) := (blk_cell BK190.out 3).trans rfl; have hfz19_0 := blk_frozen BK190.out 0; have hfz19_1 := blk_frozen BK190.out 1; have hfz19_2 := blk_frozen BK190.out 2; have hfz19_3 := blk_frozen BK190.out 3) | (go_at_call 67; (with_reducible refine (impl_within.calls ((rd_T74 l0 x7_1).f0.f0) 0 3 true _ A5.out).mono ?_); rintro e w' ⟨rfl, ⟨nd, rfl⟩⟩; (try first | exact ⟨rfl, _, World.drewN_drewN _ _ _⟩ | exact ⟨rfl, _, Eq.trans (World.drewN_drewN _ _ _) (congrArg (World.drewN _) (Nat.add_assoc _ _ _))⟩)) | (go_at_call 67; (with_reducible refine (impl_within.calls ((rd_T74 l0 x7_1).f0.f1) 0 39 true _ A7.out).mono ?_); rintro e w' ⟨rfl, ⟨nd, rfl⟩⟩; (try first | exact ⟨rfl, _, World.drewN_drewN _ _ _⟩ | exact ⟨rfl, _, Eq.trans (World.drewN_drewN _ _ _) (congrArg (World.drewN _) (Nat.add_assoc _ _ _))⟩)) | (go_at_call 67; (with_reducible refine (impl_within.calls ((rd_T74 l0 x7_1).f1) 0 2 true _ A9.out).mono ?_); rintro e w' ⟨rfl, ⟨nd, rfl⟩⟩; (try first | exact ⟨rfl, _, World.drewN_drewN _ _ _⟩ | exact ⟨rfl, _, Eq.trans (World.drewN_drewN _ _ _) (congrArg (World.drewN _) (Nat.add_assoc _ _ _))⟩)) | (go_at_call 67; (with_reducible refine (impl_within.calls ((rd_T74 l0 x7_1).f2) 0 100000 true _ A11.out).mono ?_); rintro e w' ⟨rfl, ⟨nd, rfl⟩⟩; (try first | exact ⟨rfl, _, World.drewN_drewN _ _ _⟩ | exact ⟨rfl, _, Eq.trans (World.drewN_drewN _ _ _) (congrArg (World.drewN _) (Nat.add_assoc _ _ _))⟩); have p195 : 0 ≤ ((ji14) : Int) := of_decide_eq_true (by first | (with_reducible assumption) | assumption); have q195 : (ji14) < (l0.length : Int) := of_decide_eq_true (by first | (with_reducible assumption) | assumption); obtain ⟨ad195, e195, hx195_0, hx195_1, hx195_2, hx195_3⟩ := at_T74 HR0.out (ji14) p195 q195; obtain rfl : ad189 = ad195 := (by injection e195); have hn195_0 : ad189.block ≠ gb190 := Nat.ne_of_lt (Nat.lt_of_lt_of_le (by have := World.block_lt_of_cell? _ _ hx195_0; first | rwa [add_block] at this | exact this) GW190.out); have hn195_1 : ad189.block ≠ gb190 := Nat.ne_of_lt (Nat.lt_of_lt_of_le (by have := World.block_lt_of_cell? _ _ hx195_0; first | rwa [add_block] at this | exact this) GW190.out); have hn195_2 : ad189.block ≠ gb190 := Nat.ne_of_lt (Nat.lt_of_lt_of_le (by have := World.block_lt_of_cell? _ _ hx195_0; first | rwa [add_block] at this | exact this) GW190.out); have hn195_3 : ad189.block ≠ gb190 := Nat.ne_of_lt (Nat.lt_of_lt_of_le (by have := World.block_lt_of_cell? _ _ hx195_0; first | rwa [add_block] at this | exact this) GW190.out); replace hx195_0 := (HB.out.cell (World.block_lt_of_cell? w _ hx195_0)).trans hx195_0; replace hx195_1 := (HB.out.cell (World.block_lt_of_cell? w _ hx195_1)).trans hx195_1; replace hx195_2 := (HB.out.cell (World.block_lt_of_cell? w _ hx195_2)).trans hx195_2; replace hx195_3 := (HB.out.cell (World.block_lt_of_cell? w _ hx195_3)).trans hx195_3; replace hx195_0 := (cell_far (p := ⟨gb190, 0, none⟩) (by first | (rw [add_block]; exact hn195_0) | (show (Addr.add _ _).block ≠ _; rw [add_block]; exact hn195_0) | exact hn195_0) (.int .i64 ((rd_T74 l0 x7_1).f0.f0))).trans hx195_0; replace hx195_1 := (cell_far (p := ⟨gb190, 0, none⟩) (by first | (rw [add_block]; exact hn195_0) | (show (Addr.add _ _).block ≠ _; rw [add_block]; exact hn195_0) | exact hn195_0) (.int .i64 ((rd_T74 l0 x7_1).f0.f0))).trans hx195_1; replace hx195_2 := (cell_far (p := ⟨gb190, 0, none⟩) (by first | (rw [add_block]; exact hn195_0) | (show (Addr.add _ _).block ≠ _; rw [add_block]; exact hn195_0) | exact hn195_0) (.int .i64 ((rd_T74 l0 x7_1).f0.f0))).trans hx195_2; replace hx195_3 := (cell_far (p := ⟨gb190, 0, none⟩) (by first | (rw [add_block]; exact hn195_0) | (show (Addr.add _ _).block ≠ _; rw [add_block]; exact hn195_0) | exact hn195_0) (.int .i64 ((rd_T74 l0 x7_1).f0.f0))).trans hx195_3; replace hx195_0 := (cell_far (p := ⟨gb190, 1, none⟩) (by first | (rw [add_block]; exact hn195_1) | (show (Addr.add _ _).block ≠ _; rw [add_block]; exact hn195_1) | exact hn195_1) (.int .i64 ((rd_T74 l0 x7_1).f0.f1))).trans hx195_0; replace hx195_1 := (cell_far (p := ⟨gb190, 1, none⟩) (by first | (rw [add_block]; exact hn195_1) | (show (Addr.add _ _).block ≠ _; rw [add_block]; exact hn195_1) | exact hn195_1) (.int .i64 ((rd_T74 l0 x7_1).f0.f1))).trans hx195_1; replace hx195_2 := (cell_far (p := ⟨gb190, 1, none⟩) (by first | (rw [add_block]; exact hn195_1) | (show (Addr.add _ _).block ≠ _; rw [add_block]; exact hn195_1) | exact hn195_1) (.int .i64 ((rd_T74 l0 x7_1).f0.f1))).trans hx195_2; replace hx195_3 := (cell_far (p := ⟨gb190, 1, none⟩) (by first | (rw [add_block]; exact hn195_1) | (show (Addr.add _ _).block ≠ _; rw [add_block]; exact hn195_1) | exact hn195_1) (.int .i64 ((rd_T74 l0 x7_1).f0.f1))).trans hx195_3; replace hx195_0 := (cell_far (p := ⟨gb190, 2, none⟩) (by first | (rw [add_block]; exact hn195_2) | (show (Addr.add _ _).block ≠ _; rw [add_block]; exact hn195_2) | exact hn195_2) (.int .i64 ((rd_T74 l0 x7_1).f1))).trans hx195_0; replace hx195_1 := (cell_far (p := ⟨gb190, 2, none⟩) (by first | (rw [add_block]; exact hn195_2) | (show (Addr.add _ _).block ≠ _; rw [add_block]; exact hn195_2) | exact hn195_2) (.int .i64 ((rd_T74 l0 x7_1).f1))).trans hx195_1; replace hx195_2 := (cell_far (p := ⟨gb190, 2, none⟩) (by first | (rw [add_block]; exact hn195_2) | (show (Addr.add _ _).block ≠ _; rw [add_block]; exact hn195_2) | exact hn195_2) (.int .i64 ((rd_T74 l0 x7_1).f1))).trans hx195_2; replace hx195_3 := (cell_far (p := ⟨gb190, 2, none⟩) (by first | (rw [add_block]; exact hn195_2) | (show (Addr.add _ _).block ≠ _; rw [add_block]; exact hn195_2) | exact hn195_2) (.int .i64 ((rd_T74 l0 x7_1).f1))).trans hx195_3; replace hx195_0 := (cell_far (p := ⟨gb190, 3, none⟩) (by first | (rw [add_block]; exact hn195_3) | (show (Addr.add _ _).block ≠ _; rw [add_block]; exact hn195_3) | exact hn195_3) (.int .i64 ((rd_T74 l0 x7_1).f2))).trans hx195_0; replace hx195_1 := (cell_far (p := ⟨gb190, 3, none⟩) (by first | (rw [add_block]; exact hn195_3) | (show (Addr.add _ _).block ≠ _; rw [add_block]; exact hn195_3) | exact hn195_3) (.int .i64 ((rd_T74 l0 x7_1).f2))).trans hx195_1; replace hx195_2 := (cell_far (p := ⟨gb190, 3, none⟩) (by first | (rw [add_block]; exact hn195_3) | (show (Addr.add _ _).block ≠ _; rw [add_block]; exact hn195_3) | exact hn195_3) (.int .i64 ((rd_T74 l0 x7_1).f2))).trans hx195_2; replace hx195_3 := (cell_far (p := ⟨gb190, 3, none⟩) (by first | (rw [add_block]; exact hn195_3) | (show (Addr.add _ _).block ≠ _; rw [add_block]; exact hn195_3) | exact hn195_3) (.int .i64 ((rd_T74 l0 x7_1).f2))).trans hx195_3; (try have hy195_0 := fun (n_ : Nat) => (show ((((((w18.drewN n_).setCell ⟨gb190, 0, none⟩ (.int .i64 ((rd_T74 l0 x7_1).f0.f0))).setCell ⟨gb190, 1, none⟩ (.int .i64 ((rd_T74 l0 x7_1).f0.f1))).setCell ⟨gb190, 2, none⟩ (.int .i64 ((rd_T74 l0 x7_1).f1))).setCell ⟨gb190, 3, none⟩ (.int .i64 ((rd_T74 l0 x7_1).f2)))).cell? _ = some _ from hx195_0)); (try have hy195_1 := fun (n_ : Nat) => (show ((((((w18.drewN n_).setCell ⟨gb190, 0, none⟩ (.int .i64 ((rd_T74 l0 x7_1).f0.f0))).setCell ⟨gb190, 1, none⟩ (.int .i64 ((rd_T74 l0 x7_1).f0.f1))).setCell ⟨gb190, 2, none⟩ (.int .i64 ((rd_T74 l0 x7_1).f1))).setCell ⟨gb190, 3, none⟩ (.int .i64 ((rd_T74 l0 x7_1).f2)))).cell? _ = some _ from hx195_1)); (try have hy195_2 := fun (n_ : Nat) => (show ((((((w18.drewN n_).setCell ⟨gb190, 0, none⟩ (.int .i64 ((rd_T74 l0 x7_1).f0.f0))).setCell ⟨gb190, 1, none⟩ (.int .i64 ((rd_T74 l0 x7_1).f0.f1))).setCell ⟨gb190, 2, none⟩ (.int .i64 ((rd_T74 l0 x7_1).f1))).setCell ⟨gb190, 3, none⟩ (.int .i64 ((rd_T74 l0 x7_1).f2)))).cell? _ = some _ from hx195_2)); (try have hy195_3 := fun (n_ : Nat) => (show ((((((w18.drewN n_).setCell ⟨gb190, 0, none⟩ (.int .i64 ((rd_T74 l0 x7_1).f0.f0))).setCell ⟨gb190, 1, none⟩ (.int .i64 ((rd_T74 l0 x7_1).f0.f1))).setCell ⟨gb190, 2, none⟩ (.int .i64 ((rd_T74 l0 x7_1).f1))).setCell ⟨gb190, 3, none⟩ (.int .i64 ((rd_T74 l0 x7_1).f2)))).cell? _ = some _ from hx195_3)); clear hn195_0; clear hn195_1; clear hn195_2; clear hn195_3; replace p195 := eq_true p195; replace q195 := eq_true q195)))
                            go_ret
                            exact ⟨by first | rfl | (simp [errW_none, errW_some] <;> rfl) | (simp only [← hji14]; first | rfl | (simp [errW_none, errW_some] <;> rfl)) | (simp [*, errW_none, errW_some] <;> rfl), oB HB⟩
                          · rw [if_neg c17] at H
                            have c17b0 : decide (((rd_T74 l0 x7_1).f2) < ((rd_T74 l0 (ji14)).f2)) = false := decide_eq_false c17
                            clear c17
                            have H' := Aside0.mk H
                            clear H
                            have p189 : 0 ≤ (x7_1 : Int) := of_decide_eq_true (by first | (with_reducible assumption) | assumption)
                            have q189 : x7_1 < (l0.length : Int) := of_decide_eq_true (by first | (with_reducible assumption) | assumption)
                            obtain ⟨ad189, e189, hx189_0, hx189_1, hx189_2, hx189_3⟩ := at_T74 HR0.out x7_1 p189 q189
                            cases e189
                            replace hx189_0 := (HB.out.cell (World.block_lt_of_cell? w _ hx189_0)).trans hx189_0
                            replace hx189_1 := (HB.out.cell (World.block_lt_of_cell? w _ hx189_1)).trans hx189_1
                            replace hx189_2 := (HB.out.cell (World.block_lt_of_cell? w _ hx189_2)).trans hx189_2
                            replace hx189_3 := (HB.out.cell (World.block_lt_of_cell? w _ hx189_3)).trans hx189_3
                            replace p189 := eq_true p189
                            replace q189 := eq_true q189
                            go_wp2_with (first | ((with_reducible refine gate_dst (N := 4) rfl ?_); refine box_event ?hg (N := 4) ?hd (cs := #[.int .i64 0, .int .i64 0, .int .i64 0, .int .i64 0]) (t := 74) ?hr ?_; (case hd => rfl); (case hg => rfl); (case hr => first | (go_simp; done) | (go_simp; rfl)); intro gb190 hg w20 hbox hb; have n0_ := Aside0.mk (below_step (oB HB) hb); have n1_ := Aside0.mk (hbox); have n2_ := Aside0.mk ((by rw [hg]; exact (below_size (oB HB)) : w.heap.size ≤ gb190)); have n3_ := Aside0.mk ((by rw [hg]; exact (below_size (oB HB)) : w.heap.size ≤ gb190)); clear HB; have HB := n0_; have BK190 := n1_; have GW190 := n2_; have GE190 := n3_; clear n0_ n1_ n2_ n3_; clear hb hbox hg; have hcz21_0 : w20.cell? ⟨gb190, 0, none⟩ = some (.int .i64 0) := (blk_cell BK190.out 0).trans rfl; have hcz21_1 : w20.cell? ⟨gb190, 1, none⟩ = some (.int .i64 0) := (blk_cell BK190.out 1).trans rfl; have hcz21_2 : w20.cell? ⟨gb190, 2, none⟩ = some (.int .i64 0) := (blk_cell BK190.out 2).trans rfl; have hcz21_3 : w20.cell? ⟨gb190, 3, none⟩ = some (.int .i64 0) := (blk_cell BK190.out 3).trans rfl; have hfz21_0 := blk_frozen BK190.out 0; have hfz21_1 := blk_frozen BK190.out 1; have hfz21_2 := blk_frozen BK190.out 2; have hfz21_3 := blk_frozen BK190.out 3) | (go_at_call 67; (with_reducible refine (impl_within.calls ((rd_T74 l0 x7_1).f0.f0) 0 3 true _ A5.out).mono ?_); rintro e w' ⟨rfl, ⟨nd, rfl⟩⟩; (try first | exact ⟨rfl, _, World.drewN_drewN _ _ _⟩ | exact ⟨rfl, _, Eq.trans (World.drewN_drewN _ _ _) (congrArg (World.drewN _) (Nat.add_assoc _ _ _))⟩)) | (go_at_call 67; (with_reducible refine (impl_within.calls ((rd_T74 l0 x7_1).f0.f1) 0 39 true _ A7.out).mono ?_); rintro e w' ⟨rfl, ⟨nd, rfl⟩⟩; (try first | exact ⟨rfl, _, World.drewN_drewN _ _ _⟩ | exact ⟨rfl, _, Eq.trans (World.drewN_drewN _ _ _) (congrArg (World.drewN _) (Nat.add_assoc _ _ _))⟩)) | (go_at_call 67; (with_reducible refine (impl_within.calls ((rd_T74 l0 x7_1).f1) 0 2 true _ A9.out).mono ?_); rintro e w' ⟨rfl, ⟨nd, rfl⟩⟩; (try first | exact ⟨rfl, _, World.drewN_drewN _ _ _⟩ | exact ⟨rfl, _, Eq.trans (World.drewN_drewN _ _ _) (congrArg (World.drewN _) (Nat.add_assoc _ _ _))⟩)) | (go_at_call 67; (with_reducible refine (impl_within.calls ((rd_T74 l0 x7_1).f2) 0 100000 true _ A11.out).mono ?_); rintro e w' ⟨rfl, ⟨nd, rfl⟩⟩; (try first | exact ⟨rfl, _, World.drewN_drewN _ _ _⟩ | exact ⟨rfl, _, Eq.trans (World.drewN_drewN _ _ _) (congrArg (World.drewN _) (Nat.add_assoc _ _ _))⟩); have p195 : 0 ≤ ((ji14) : Int) := of_decide_eq_true (by first | (with_reducible assumption) | assumption); have q195 : (ji14) < (l0.length : Int) := of_decide_eq_true (by first | (with_reducible assumption) | assumption); obtain ⟨ad195, e195, hx195_0, hx195_1, hx195_2, hx195_3⟩ := at_T74 HR0.out (ji14) p195 q195; obtain rfl : ad189 = ad195 := (by injection e195); have hn195_0 : ad189.block ≠ gb190 := Nat.ne_of_lt (Nat.lt_of_lt_of_le (by have := World.block_lt_of_cell? _ _ hx195_0; first | rwa [add_block] at this | exact this) GW190.out); have hn195_1 : ad189.block ≠ gb190 := Nat.ne_of_lt (Nat.lt_of_lt_of_le (by have := World.block_lt_of_cell? _ _ hx195_0; first | rwa [add_block] at this | exact this) GW190.out); have hn195_2 : ad189.block ≠ gb190 := Nat.ne_of_lt (Nat.lt_of_lt_of_le (by have := World.block_lt_of_cell? _ _ hx195_0; first | rwa [add_block] at this | exact this) GW190.out); have hn195_3 : ad189.block ≠ gb190 := Nat.ne_of_lt (Nat.lt_of_lt_of_le (by have := World.block_lt_of_cell? _ _ hx195_0; first | rwa [add_block] at this | exact this) GW190.out); replace hx195_0 := (HB.out.cell (World.block_lt_of_cell? w _ hx195_0)).trans hx195_0; replace hx195_1 := (HB.out.cell (World.block_lt_of_cell? w _ hx195_1)).trans hx195_1; replace hx195_2 := (HB.out.cell (World.block_lt_of_cell? w _ hx195_2)).trans hx195_2; replace hx195_3 := (HB.out.cell (World.block_lt_of_cell? w _ hx195_3)).trans hx195_3; replace hx195_0 := (cell_far (p := ⟨gb190, 0, none⟩) (by first | (rw [add_block]; exact hn195_0) | (show (Addr.add _ _).block ≠ _; rw [add_block]; exact hn195_0) | exact hn195_0) (.int .i64 ((rd_T74 l0 x7_1).f0.f0))).trans hx195_0; replace hx195_1 := (cell_far (p := ⟨gb190, 0, none⟩) (by first | (rw [add_block]; exact hn195_0) | (show (Addr.add _ _).block ≠ _; rw [add_block]; exact hn195_0) | exact hn195_0) (.int .i64 ((rd_T74 l0 x7_1).f0.f0))).trans hx195_1; replace hx195_2 := (cell_far (p := ⟨gb190, 0, none⟩) (by first | (rw [add_block]; exact hn195_0) | (show (Addr.add _ _).block ≠ _; rw [add_block]; exact hn195_0) | exact hn195_0) (.int .i64 ((rd_T74 l0 x7_1).f0.f0))).trans hx195_2; replace hx195_3 := (cell_far (p := ⟨gb190, 0, none⟩) (by first | (rw [add_block]; exact hn195_0) | (show (Addr.add _ _).block ≠ _; rw [add_block]; exact hn195_0) | exact hn195_0) (.int .i64 ((rd_T74 l0 x7_1).f0.f0))).trans hx195_3; replace hx195_0 := (cell_far (p := ⟨gb190, 1, none⟩) (by first | (rw [add_block]; exact hn195_1) | (show (Addr.add _ _).block ≠ _; rw [add_block]; exact hn195_1) | exact hn195_1) (.int .i64 ((rd_T74 l0 x7_1).f0.f1))).trans hx195_0; replace hx195_1 := (cell_far (p := ⟨gb190, 1, none⟩) (by first | (rw [add_block]; exact hn195_1) | (show (Addr.add _ _).block ≠ _; rw [add_block]; exact hn195_1) | exact hn195_1) (.int .i64 ((rd_T74 l0 x7_1).f0.f1))).trans hx195_1; replace hx195_2 := (cell_far (p := ⟨gb190, 1, none⟩) (by first | (rw [add_block]; exact hn195_1) | (show (Addr.add _ _).block ≠ _; rw [add_block]; exact hn195_1) | exact hn195_1) (.int .i64 ((rd_T74 l0 x7_1).f0.f1))).trans hx195_2; replace hx195_3 := (cell_far (p := ⟨gb190, 1, none⟩) (by first | (rw [add_block]; exact hn195_1) | (show (Addr.add _ _).block ≠ _; rw [add_block]; exact hn195_1) | exact hn195_1) (.int .i64 ((rd_T74 l0 x7_1).f0.f1))).trans hx195_3; replace hx195_0 := (cell_far (p := ⟨gb190, 2, none⟩) (by first | (rw [add_block]; exact hn195_2) | (show (Addr.add _ _).block ≠ _; rw [add_block]; exact hn195_2) | exact hn195_2) (.int .i64 ((rd_T74 l0 x7_1).f1))).trans hx195_0; replace hx195_1 := (cell_far (p := ⟨gb190, 2, none⟩) (by first | (rw [add_block]; exact hn195_2) | (show (Addr.add _ _).block ≠ _; rw [add_block]; exact hn195_2) | exact hn195_2) (.int .i64 ((rd_T74 l0 x7_1).f1))).trans hx195_1; replace hx195_2 := (cell_far (p := ⟨gb190, 2, none⟩) (by first | (rw [add_block]; exact hn195_2) | (show (Addr.add _ _).block ≠ _; rw [add_block]; exact hn195_2) | exact hn195_2) (.int .i64 ((rd_T74 l0 x7_1).f1))).trans hx195_2; replace hx195_3 := (cell_far (p := ⟨gb190, 2, none⟩) (by first | (rw [add_block]; exact hn195_2) | (show (Addr.add _ _).block ≠ _; rw [add_block]; exact hn195_2) | exact hn195_2) (.int .i64 ((rd_T74 l0 x7_1).f1))).trans hx195_3; replace hx195_0 := (cell_far (p := ⟨gb190, 3, none⟩) (by first | (rw [add_block]; exact hn195_3) | (show (Addr.add _ _).block ≠ _; rw [add_block]; exact hn195_3) | exact hn195_3) (.int .i64 ((rd_T74 l0 x7_1).f2))).trans hx195_0; replace hx195_1 := (cell_far (p := ⟨gb190, 3, none⟩) (by first | (rw [add_block]; exact hn195_3) | (show (Addr.add _ _).block ≠ _; rw [add_block]; exact hn195_3) | exact hn195_3) (.int .i64 ((rd_T74 l0 x7_1).f2))).trans hx195_1; replace hx195_2 := (cell_far (p := ⟨gb190, 3, none⟩) (by first | (rw [add_block]; exact hn195_3) | (show (Addr.add _ _).block ≠ _; rw [add_block]; exact hn195_3) | exact hn195_3) (.int .i64 ((rd_T74 l0 x7_1).f2))).trans hx195_2; replace hx195_3 := (cell_far (p := ⟨gb190, 3, none⟩) (by first | (rw [add_block]; exact hn195_3) | (show (Addr.add _ _).block ≠ _; rw [add_block]; exact hn195_3) | exact hn195_3) (.int .i64 ((rd_T74 l0 x7_1).f2))).trans hx195_3; (try have hy195_0 := fun (n_ : Nat) => (show ((((((w20.drewN n_).setCell ⟨gb190, 0, none⟩ (.int .i64 ((rd_T74 l0 x7_1).f0.f0))).setCell ⟨gb190, 1, none⟩ (.int .i64 ((rd_T74 l0 x7_1).f0.f1))).setCell ⟨gb190, 2, none⟩ (.int .i64 ((rd_T74 l0 x7_1).f1))).setCell ⟨gb190, 3, none⟩ (.int .i64 ((rd_T74 l0 x7_1).f2)))).cell? _ = some _ from hx195_0)); (try have hy195_1 := fun (n_ : Nat) => (show ((((((w20.drewN n_).setCell ⟨gb190, 0, none⟩ (.int .i64 ((rd_T74 l0 x7_1).f0.f0))).setCell ⟨gb190, 1, none⟩ (.int .i64 ((rd_T74 l0 x7_1).f0.f1))).setCell ⟨gb190, 2, none⟩ (.int .i64 ((rd_T74 l0 x7_1).f1))).setCell ⟨gb190, 3, none⟩ (.int .i64 ((rd_T74 l0 x7_1).f2)))).cell? _ = some _ from hx195_1)); (try have hy195_2 := fun (n_ : Nat) => (show ((((((w20.drewN n_).setCell ⟨gb190, 0, none⟩ (.int .i64 ((rd_T74 l0 x7_1).f0.f0))).setCell ⟨gb190, 1, none⟩ (.int .i64 ((rd_T74 l0 x7_1).f0.f1))).setCell ⟨gb190, 2, none⟩ (.int .i64 ((rd_T74 l0 x7_1).f1))).setCell ⟨gb190, 3, none⟩ (.int .i64 ((rd_T74 l0 x7_1).f2)))).cell? _ = some _ from hx195_2)); (try have hy195_3 := fun (n_ : Nat) => (show ((((((w20.drewN n_).setCell ⟨gb190, 0, none⟩ (.int .i64 ((rd_T74 l0 x7_1).f0.f0))).setCell ⟨gb190, 1, none⟩ (.int .i64 ((rd_T74 l0 x7_1).f0.f1))).setCell ⟨gb190, 2, none⟩ (.int .i64 ((rd_T74 l0 x7_1).f1))).setCell ⟨gb190, 3, none⟩ (.int .i64 ((rd_T74 l0 x7_1).f2)))).cell? _ = some _ from hx195_3)); clear hn195_0; clear hn195_1; clear hn195_2; clear hn195_3; replace p195 := eq_true p195; replace q195 := eq_true q195))
                            repeat (go_quiet (first | ((with_reducible refine gate_dst (N := 4) rfl ?_); refine box_event ?hg (N := 4) ?hd (cs := #[.int .i64 0, .int .i64 0, .int .i64 0, .int .i64 0]) (t := 74) ?hr ?_; (case hd => rfl); (case hg => rfl); (case hr => first | (go_simp; done) | (go_simp; rfl)); intro gb190 hg w20 hbox hb; have n0_ := Aside0.mk (below_step (oB HB) hb); have n1_ := Aside0.mk (hbox); have n2_ := Aside0.mk ((by rw [hg]; exact (below_size (oB HB)) : w.heap.size ≤ gb190)); have n3_ := Aside0.mk ((by rw [hg]; exact (below_size (oB HB)) : w.heap.size ≤ gb190)); clear HB; have HB := n0_; have BK190 := n1_; have GW190 := n2_; have GE190 := n3_; clear n0_ n1_ n2_ n3_; clear hb hbox hg; have hcz21_0 : w20.cell? ⟨gb190, 0, none⟩ = some (.int .i64 0) := (blk_cell BK190.out 0).trans rfl; have hcz21_1 : w20.cell? ⟨gb190, 1, none⟩ = some (.int .i64 0) := (blk_cell BK190.out 1).trans rfl; have hcz21_2 : w20.cell? ⟨gb190, 2, none⟩ = some (.int .i64 0) := (blk_cell BK190.out 2).trans rfl; have hcz21_3 : w20.cell? ⟨gb190, 3, none⟩ = some (.int .i64 0) := (blk_cell BK190.out 3).trans rfl; have hfz21_0 := blk_frozen BK190.out 0; have hfz21_1 := blk_frozen BK190.out 1; have hfz21_2 := blk_frozen BK190.out 2; have hfz21_3 := blk_frozen BK190.out 3) | (go_at_call 67; (with_reducible refine (impl_within.calls ((rd_T74 l0 x7_1).f0.f0) 0 3 true _ A5.out).mono ?_); rintro e w' ⟨rfl, ⟨nd, rfl⟩⟩; (try first | exact ⟨rfl, _, World.drewN_drewN _ _ _⟩ | exact ⟨rfl, _, Eq.trans (World.drewN_drewN _ _ _) (congrArg (World.drewN _) (Nat.add_assoc _ _ _))⟩)) | (go_at_call 67; (with_reducible refine (impl_within.calls ((rd_T74 l0 x7_1).f0.f1) 0 39 true _ A7.out).mono ?_); rintro e w' ⟨rfl, ⟨nd, rfl⟩⟩; (try first | exact ⟨rfl, _, World.drewN_drewN _ _ _⟩ | exact ⟨rfl, _, Eq.trans (World.drewN_drewN _ _ _) (congrArg (World.drewN _) (Nat.add_assoc _ _ _))⟩)) | (go_at_call 67; (with_reducible refine (impl_within.calls ((rd_T74 l0 x7_1).f1) 0 2 true _ A9.out).mono ?_); rintro e w' ⟨rfl, ⟨nd, rfl⟩⟩; (try first | exact ⟨rfl, _, World.drewN_drewN _ _ _⟩ | exact ⟨rfl, _, Eq.trans (World.drewN_drewN _ _ _) (congrArg (World.drewN _) (Nat.add_assoc _ _ _))⟩)) | (go_at_call 67; (with_reducible refine (impl_within.calls ((rd_T74 l0 x7_1).f2) 0 100000 true _ A11.out).mono ?_); rintro e w' ⟨rfl, ⟨nd, rfl⟩⟩; (try first | exact ⟨rfl, _, World.drewN_drewN _ _ _⟩ | exact ⟨rfl, _, Eq.trans (World.drewN_drewN _ _ _) (congrArg (World.drewN _) (Nat.add_assoc _ _ _))⟩); have p195 : 0 ≤ ((ji14) : Int) := of_decide_eq_true (by first | (with_reducible assumption) | assumption); have q195 : (ji14) < (l0.length : Int) := of_decide_eq_true (by first | (with_reducible assumption) | assumption); obtain ⟨ad195, e195, hx195_0, hx195_1, hx195_2, hx195_3⟩ := at_T74 HR0.out (ji14) p195 q195; obtain rfl : ad189 = ad195 := (by injection e195); have hn195_0 : ad189.block ≠ gb190 := Nat.ne_of_lt (Nat.lt_of_lt_of_le (by have := World.block_lt_of_cell? _ _ hx195_0; first | rwa [add_block] at this | exact this) GW190.out); have hn195_1 : ad189.block ≠ gb190 := Nat.ne_of_lt (Nat.lt_of_lt_of_le (by have := World.block_lt_of_cell? _ _ hx195_0; first | rwa [add_block] at this | exact this) GW190.out); have hn195_2 : ad189.block ≠ gb190 := Nat.ne_of_lt (Nat.lt_of_lt_of_le (by have := World.block_lt_of_cell? _ _ hx195_0; first | rwa [add_block] at this | exact this) GW190.out); have hn195_3 : ad189.block ≠ gb190 := Nat.ne_of_lt (Nat.lt_of_lt_of_le (by have := World.block_lt_of_cell? _ _ hx195_0; first | rwa [add_block] at this | exact this) GW190.out); replace hx195_0 := (HB.out.cell (World.block_lt_of_cell? w _ hx195_0)).trans hx195_0; replace hx195_1 := (HB.out.cell (World.block_lt_of_cell? w _ hx195_1)).trans hx195_1; replace hx195_2 := (HB.out.cell (World.block_lt_of_cell? w _ hx195_2)).trans hx195_2; replace hx195_3 := (HB.out.cell (World.block_lt_of_cell? w _ hx195_3)).trans hx195_3; replace hx195_0 := (cell_far (p := ⟨gb190, 0, none⟩) (by first | (rw [add_block]; exact hn195_0) | (show (Addr.add _ _).block ≠ _; rw [add_block]; exact hn195_0) | exact hn195_0) (.int .i64 ((rd_T74 l0 x7_1).f0.f0))).trans hx195_0; replace hx195_1 := (cell_far (p := ⟨gb190, 0, none⟩) (by first | (rw [add_block]; exact hn195_0) | (show (Addr.add _ _).block ≠ _; rw [add_block]; exact hn195_0) | exact hn195_0) (.int .i64 ((rd_T74 l0 x7_1).f0.f0))).trans hx195_1; replace hx195_2 := (cell_far (p := ⟨gb190, 0, none⟩) (by first | (rw [add_block]; exact hn195_0) | (show (Addr.add _ _).block ≠ _; rw [add_block]; exact hn195_0) | exact hn195_0) (.int .i64 ((rd_T74 l0 x7_1).f0.f0))).trans hx195_2; replace hx195_3 := (cell_far (p := ⟨gb190, 0, none⟩) (by first | (rw [add_block]; exact hn195_0) | (show (Addr.add _ _).block ≠ _; rw [add_block]; exact hn195_0) | exact hn195_0) (.int .i64 ((rd_T74 l0 x7_1).f0.f0))).trans hx195_3; replace hx195_0 := (cell_far (p := ⟨gb190, 1, none⟩) (by first | (rw [add_block]; exact hn195_1) | (show (Addr.add _ _).block ≠ _; rw [add_block]; exact hn195_1) | exact hn195_1) (.int .i64 ((rd_T74 l0 x7_1).f0.f1))).trans hx195_0; replace hx195_1 := (cell_far (p := ⟨gb190, 1, none⟩) (by first | (rw [add_block]; exact hn195_1) | (show (Addr.add _ _).block ≠ _; rw [add_block]; exact hn195_1) | exact hn195_1) (.int .i64 ((rd_T74 l0 x7_1).f0.f1))).trans hx195_1; replace hx195_2 := (cell_far (p := ⟨gb190, 1, none⟩) (by first | (rw [add_block]; exact hn195_1) | (show (Addr.add _ _).block ≠ _; rw [add_block]; exact hn195_1) | exact hn195_1) (.int .i64 ((rd_T74 l0 x7_1).f0.f1))).trans hx195_2; replace hx195_3 := (cell_far (p := ⟨gb190, 1, none⟩) (by first | (rw [add_block]; exact hn195_1) | (show (Addr.add _ _).block ≠ _; rw [add_block]; exact hn195_1) | exact hn195_1) (.int .i64 ((rd_T74 l0 x7_1).f0.f1))).trans hx195_3; replace hx195_0 := (cell_far (p := ⟨gb190, 2, none⟩) (by first | (rw [add_block]; exact hn195_2) | (show (Addr.add _ _).block ≠ _; rw [add_block]; exact hn195_2) | exact hn195_2) (.int .i64 ((rd_T74 l0 x7_1).f1))).trans hx195_0; replace hx195_1 := (cell_far (p := ⟨gb190, 2, none⟩) (by first | (rw [add_block]; exact hn195_2) | (show (Addr.add _ _).block ≠ _; rw [add_block]; exact hn195_2) | exact hn195_2) (.int .i64 ((rd_T74 l0 x7_1).f1))).trans hx195_1; replace hx195_2 := (cell_far (p := ⟨gb190, 2, none⟩) (by first | (rw [add_block]; exact hn195_2) | (show (Addr.add _ _).block ≠ _; rw [add_block]; exact hn195_2) | exact hn195_2) (.int .i64 ((rd_T74 l0 x7_1).f1))).trans hx195_2; replace hx195_3 := (cell_far (p := ⟨gb190, 2, none⟩) (by first | (rw [add_block]; exact hn195_2) | (show (Addr.add _ _).block ≠ _; rw [add_block]; exact hn195_2) | exact hn195_2) (.int .i64 ((rd_T74 l0 x7_1).f1))).trans hx195_3; replace hx195_0 := (cell_far (p := ⟨gb190, 3, none⟩) (by first | (rw [add_block]; exact hn195_3) | (show (Addr.add _ _).block ≠ _; rw [add_block]; exact hn195_3) | exact hn195_3) (.int .i64 ((rd_T74 l0 x7_1).f2))).trans hx195_0; replace hx195_1 := (cell_far (p := ⟨gb190, 3, none⟩) (by first | (rw [add_block]; exact hn195_3) | (show (Addr.add _ _).block ≠ _; rw [add_block]; exact hn195_3) | exact hn195_3) (.int .i64 ((rd_T74 l0 x7_1).f2))).trans hx195_1; replace hx195_2 := (cell_far (p := ⟨gb190, 3, none⟩) (by first | (rw [add_block]; exact hn195_3) | (show (Addr.add _ _).block ≠ _; rw [add_block]; exact hn195_3) | exact hn195_3) (.int .i64 ((rd_T74 l0 x7_1).f2))).trans hx195_2; replace hx195_3 := (cell_far (p := ⟨gb190, 3, none⟩) (by first | (rw [add_block]; exact hn195_3) | (show (Addr.add _ _).block ≠ _; rw [add_block]; exact hn195_3) | exact hn195_3) (.int .i64 ((rd_T74 l0 x7_1).f2))).trans hx195_3; (try have hy195_0 := fun (n_ : Nat) => (show ((((((w20.drewN n_).setCell ⟨gb190, 0, none⟩ (.int .i64 ((rd_T74 l0 x7_1).f0.f0))).setCell ⟨gb190, 1, none⟩ (.int .i64 ((rd_T74 l0 x7_1).f0.f1))).setCell ⟨gb190, 2, none⟩ (.int .i64 ((rd_T74 l0 x7_1).f1))).setCell ⟨gb190, 3, none⟩ (.int .i64 ((rd_T74 l0 x7_1).f2)))).cell? _ = some _ from hx195_0)); (try have hy195_1 := fun (n_ : Nat) => (show ((((((w20.drewN n_).setCell ⟨gb190, 0, none⟩ (.int .i64 ((rd_T74 l0 x7_1).f0.f0))).setCell ⟨gb190, 1, none⟩ (.int .i64 ((rd_T74 l0 x7_1).f0.f1))).setCell ⟨gb190, 2, none⟩ (.int .i64 ((rd_T74 l0 x7_1).f1))).setCell ⟨gb190, 3, none⟩ (.int .i64 ((rd_T74 l0 x7_1).f2)))).cell? _ = some _ from hx195_1)); (try have hy195_2 := fun (n_ : Nat) => (show ((((((w20.drewN n_).setCell ⟨gb190, 0, none⟩ (.int .i64 ((rd_T74 l0 x7_1).f0.f0))).setCell ⟨gb190, 1, none⟩ (.int .i64 ((rd_T74 l0 x7_1).f0.f1))).setCell ⟨gb190, 2, none⟩ (.int .i64 ((rd_T74 l0 x7_1).f1))).setCell ⟨gb190, 3, none⟩ (.int .i64 ((rd_T74 l0 x7_1).f2)))).cell? _ = some _ from hx195_2)); (try have hy195_3 := fun (n_ : Nat) => (show ((((((w20.drewN n_).setCell ⟨gb190, 0, none⟩ (.int .i64 ((rd_T74 l0 x7_1).f0.f0))).setCell ⟨gb190, 1, none⟩ (.int .i64 ((rd_T74 l0 x7_1).f0.f1))).setCell ⟨gb190, 2, none⟩ (.int .i64 ((rd_T74 l0 x7_1).f1))).setCell ⟨gb190, 3, none⟩ (.int .i64 ((rd_T74 l0 x7_1).f2)))).cell? _ = some _ from hx195_3)); clear hn195_0; clear hn195_1; clear hn195_2; clear hn195_3; replace p195 := eq_true p195; replace q195 := eq_true q195)); try go_wp2_with (first | ((with_reducible refine gate_dst (N := 4) rfl ?_); refine box_event ?hg (N := 4) ?hd (cs := #[.int .i64 0, .int .i64 0, .int .i64 0, .int .i64 0]) (t := 74) ?hr ?_; (case hd => rfl); (case hg => rfl); (case hr => first | (go_simp; done) | (go_simp; rfl)); intro gb190 hg w20 hbox hb; have n0_ := Aside0.mk (below_step (oB HB) hb); have n1_ := Aside0.mk (hbox); have n2_ := Aside0.mk ((by rw [hg]; exact (below_size (oB HB)) : w.heap.size ≤ gb190)); have n3_ := Aside0.mk ((by rw [hg]; exact (below_size (oB HB)) : w.heap.size ≤ gb190)); clear HB; have HB := n0_; have BK190 := n1_; have GW190 := n2_; have GE190 := n3_; clear n0_ n1_ n2_ n3_; clear hb hbox hg; have hcz21_0 : w20.cell? ⟨gb190, 0, none⟩ = some (.int .i64 0) := (blk_cell BK190.out 0).trans rfl; have hcz21_1 : w20.cell? ⟨gb190, 1, none⟩ = some (.int .i64 0) := (blk_cell BK190.out 1).trans rfl; have hcz21_2 : w20.cell? ⟨gb190, 2, none⟩ = some (.int .i64 0) := (blk_cell BK190.out 2).trans rfl; have hcz21_3 : w20.cell? ⟨gb190, 3, none⟩ = some (.int .i64 0) := (blk_cell BK190.out 3).trans rfl; have hfz21_0 := blk_frozen BK190.out 0; have hfz21_1 := blk_frozen BK190.out 1; have hfz21_2 := blk_frozen BK190.out 2; have hfz21_3 := blk_frozen BK190.out 3) | (go_at_call 67; (with_reducible refine (impl_within.calls ((rd_T74 l0 x7_1).f0.f0) 0 3 true _ A5.out).mono ?_); rintro e w' ⟨rfl, ⟨nd, rfl⟩⟩; (try first | exact ⟨rfl, _, World.drewN_drewN _ _ _⟩ | exact ⟨rfl, _, Eq.trans (World.drewN_drewN _ _ _) (congrArg (World.drewN _) (Nat.add_assoc _ _ _))⟩)) | (go_at_call 67; (with_reducible refine (impl_within.calls ((rd_T74 l0 x7_1).f0.f1) 0 39 true _ A7.out).mono ?_); rintro e w' ⟨rfl, ⟨nd, rfl⟩⟩; (try first | exact ⟨rfl, _, World.drewN_drewN _ _ _⟩ | exact ⟨rfl, _, Eq.trans (World.drewN_drewN _ _ _) (congrArg (World.drewN _) (Nat.add_assoc _ _ _))⟩)) | (go_at_call 67; (with_reducible refine (impl_within.calls ((rd_T74 l0 x7_1).f1) 0 2 true _ A9.out).mono ?_); rintro e w' ⟨rfl, ⟨nd, rfl⟩⟩; (try first | exact ⟨rfl, _, World.drewN_drewN _ _ _⟩ | exact ⟨rfl, _, Eq.trans (World.drewN_drewN _ _ _) (congrArg (World.drewN _) (Nat.add_assoc _ _ _))⟩)) | (go_at_call 67; (with_reducible refine (impl_within.calls ((rd_T74 l0 x7_1).f2) 0 100000 true _ A11.out).mono ?_); rintro e w' ⟨rfl, ⟨nd, rfl⟩⟩; (try first | exact ⟨rfl, _, World.drewN_drewN _ _ _⟩ | exact ⟨rfl, _, Eq.trans (World.drewN_drewN _ _ _) (congrArg (World.drewN _) (Nat.add_assoc _ _ _))⟩); have p195 : 0 ≤ ((ji14) : Int) := of_decide_eq_true (by first | (with_reducible assumption) | assumption); have q195 : (ji14) < (l0.length : Int) := of_decide_eq_true (by first | (with_reducible assumption) | assumption); obtain ⟨ad195, e195, hx195_0, hx195_1, hx195_2, hx195_3⟩ := at_T74 HR0.out (ji14) p195 q195; obtain rfl : ad189 = ad195 := (by injection e195); have hn195_0 : ad189.block ≠ gb190 := Nat.ne_of_lt (Nat.lt_of_lt_of_le (by have := World.block_lt_of_cell? _ _ hx195_0; first | rwa [add_block] at this | exact this) GW190.out); have hn195_1 : ad189.block ≠ gb190 := Nat.ne_of_lt (Nat.lt_of_lt_of_le (by have := World.block_lt_of_cell? _ _ hx195_0; first | rwa [add_block] at this | exact this) GW190.out); have hn195_2 : ad189.block ≠ gb190 := Nat.ne_of_lt (Nat.lt_of_lt_of_le (by have := World.block_lt_of_cell? _ _ hx195_0; first | rwa [add_block] at this | exact this) GW190.out); have hn195_3 : ad189.block ≠ gb190 := Nat.ne_of_lt (Nat.lt_of_lt_of_le (by have := World.block_lt_of_cell? _ _ hx195_0; first | rwa [add_block] at this | exact this) GW190.out); replace hx195_0 := (HB.out.cell (World.block_lt_of_cell? w _ hx195_0)).trans hx195_0; replace hx195_1 := (HB.out.cell (World.block_lt_of_cell? w _ hx195_1)).trans hx195_1; replace hx195_2 := (HB.out.cell (World.block_lt_of_cell? w _ hx195_2)).trans hx195_2; replace hx195_3 := (HB.out.cell (World.block_lt_of_cell? w _ hx195_3)).trans hx195_3; replace hx195_0 := (cell_far (p := ⟨gb190, 0, none⟩) (by first | (rw [add_block]; exact hn195_0) | (show (Addr.add _ _).block ≠ _; rw [add_block]; exact hn195_0) | exact hn195_0) (.int .i64 ((rd_T74 l0 x7_1).f0.f0))).trans hx195_0; replace hx195_1 := (cell_far (p := ⟨gb190, 0, none⟩) (by first | (rw [add_block]; exact hn195_0) | (show (Addr.add _ _).block ≠ _; rw [add_block]; exact hn195_0) | exact hn195_0) (.int .i64 ((rd_T74 l0 x7_1).f0.f0))).trans hx195_1; replace hx195_2 := (cell_far (p := ⟨gb190, 0, none⟩) (by first | (rw [add_block]; exact hn195_0) | (show (Addr.add _ _).block ≠ _; rw [add_block]; exact hn195_0) | exact hn195_0) (.int .i64 ((rd_T74 l0 x7_1).f0.f0))).trans hx195_2; replace hx195_3 := (cell_far (p := ⟨gb190, 0, none⟩) (by first | (rw [add_block]; exact hn195_0) | (show (Addr.add _ _).block ≠ _; rw [add_block]; exact hn195_0) | exact hn195_0) (.int .i64 ((rd_T74 l0 x7_1).f0.f0))).trans hx195_3; replace hx195_0 := (cell_far (p := ⟨gb190, 1, none⟩) (by first | (rw [add_block]; exact hn195_1) | (show (Addr.add _ _).block ≠ _; rw [add_block]; exact hn195_1) | exact hn195_1) (.int .i64 ((rd_T74 l0 x7_1).f0.f1))).trans hx195_0; replace hx195_1 := (cell_far (p := ⟨gb190, 1, none⟩) (by first | (rw [add_block]; exact hn195_1) | (show (Addr.add _ _).block ≠ _; rw [add_block]; exact hn195_1) | exact hn195_1) (.int .i64 ((rd_T74 l0 x7_1).f0.f1))).trans hx195_1; replace hx195_2 := (cell_far (p := ⟨gb190, 1, none⟩) (by first | (rw [add_block]; exact hn195_1) | (show (Addr.add _ _).block ≠ _; rw [add_block]; exact hn195_1) | exact hn195_1) (.int .i64 ((rd_T74 l0 x7_1).f0.f1))).trans hx195_2; replace hx195_3 := (cell_far (p := ⟨gb190, 1, none⟩) (by first | (rw [add_block]; exact hn195_1) | (show (Addr.add _ _).block ≠ _; rw [add_block]; exact hn195_1) | exact hn195_1) (.int .i64 ((rd_T74 l0 x7_1).f0.f1))).trans hx195_3; replace hx195_0 := (cell_far (p := ⟨gb190, 2, none⟩) (by first | (rw [add_block]; exact hn195_2) | (show (Addr.add _ _).block ≠ _; rw [add_block]; exact hn195_2) | exact hn195_2) (.int .i64 ((rd_T74 l0 x7_1).f1))).trans hx195_0; replace hx195_1 := (cell_far (p := ⟨gb190, 2, none⟩) (by first | (rw [add_block]; exact hn195_2) | (show (Addr.add _ _).block ≠ _; rw [add_block]; exact hn195_2) | exact hn195_2) (.int .i64 ((rd_T74 l0 x7_1).f1))).trans hx195_1; replace hx195_2 := (cell_far (p := ⟨gb190, 2, none⟩) (by first | (rw [add_block]; exact hn195_2) | (show (Addr.add _ _).block ≠ _; rw [add_block]; exact hn195_2) | exact hn195_2) (.int .i64 ((rd_T74 l0 x7_1).f1))).trans hx195_2; replace hx195_3 := (cell_far (p := ⟨gb190, 2, none⟩) (by first | (rw [add_block]; exact hn195_2) | (show (Addr.add _ _).block ≠ _; rw [add_block]; exact hn195_2) | exact hn195_2) (.int .i64 ((rd_T74 l0 x7_1).f1))).trans hx195_3; replace hx195_0 := (cell_far (p := ⟨gb190, 3, none⟩) (by first | (rw [add_block]; exact hn195_3) | (show (Addr.add _ _).block ≠ _; rw [add_block]; exact hn195_3) | exact hn195_3) (.int .i64 ((rd_T74 l0 x7_1).f2))).trans hx195_0; replace hx195_1 := (cell_far (p := ⟨gb190, 3, none⟩) (by first | (rw [add_block]; exact hn195_3) | (show (Addr.add _ _).block ≠ _; rw [add_block]; exact hn195_3) | exact hn195_3) (.int .i64 ((rd_T74 l0 x7_1).f2))).trans hx195_1; replace hx195_2 := (cell_far (p := ⟨gb190, 3, none⟩) (by first | (rw [add_block]; exact hn195_3) | (show (Addr.add _ _).block ≠ _; rw [add_block]; exact hn195_3) | exact hn195_3) (.int .i64 ((rd_T74 l0 x7_1).f2))).trans hx195_2; replace hx195_3 := (cell_far (p := ⟨gb190, 3, none⟩) (by first | (rw [add_block]; exact hn195_3) | (show (Addr.add _ _).block ≠ _; rw [add_block]; exact hn195_3) | exact hn195_3) (.int .i64 ((rd_T74 l0 x7_1).f2))).trans hx195_3; (try have hy195_0 := fun (n_ : Nat) => (show ((((((w20.drewN n_).setCell ⟨gb190, 0, none⟩ (.int .i64 ((rd_T74 l0 x7_1).f0.f0))).setCell ⟨gb190, 1, none⟩ (.int .i64 ((rd_T74 l0 x7_1).f0.f1))).setCell ⟨gb190, 2, none⟩ (.int .i64 ((rd_T74 l0 x7_1).f1))).setCell ⟨gb190, 3, none⟩ (.int .i64 ((rd_T74 l0 x7_1).f2)))).cell? _ = some _ from hx195_0)); (try have hy195_1 := fun (n_ : Nat) => (show ((((((w20.drewN n_).setCell ⟨gb190, 0, none⟩ (.int .i64 ((rd_T74 l0 x7_1).f0.f0))).setCell ⟨gb190, 1, none⟩ (.int .i64 ((rd_T74 l0 x7_1).f0.f1))).setCell ⟨gb190, 2, none⟩ (.int .i64 ((rd_T74 l0 x7_1).f1))).setCell ⟨gb190, 3, none⟩ (.int .i64 ((rd_T74 l0 x7_1).f2)))).cell? _ = some _ from hx195_1)); (try have hy195_2 := fun (n_ : Nat) => (show ((((((w20.drewN n_).setCell ⟨gb190, 0, none⟩ (.int .i64 ((rd_T74 l0 x7_1).f0.f0))).setCell ⟨gb190, 1, none⟩ (.int .i64 ((rd_T74 l0 x7_1).f0.f1))).setCell ⟨gb190, 2, none⟩ (.int .i64 ((rd_T74 l0 x7_1).f1))).setCell ⟨gb190, 3, none⟩ (.int .i64 ((rd_T74 l0 x7_1).f2)))).cell? _ = some _ from hx195_2)); (try have hy195_3 := fun (n_ : Nat) => (show ((((((w20.drewN n_).setCell ⟨gb190, 0, none⟩ (.int .i64 ((rd_T74 l0 x7_1).f0.f0))).setCell ⟨gb190, 1, none⟩ (.int .i64 ((rd_T74 l0 x7_1).f0.f1))).setCell ⟨gb190, 2, none⟩ (.int .i64 ((rd_T74 l0 x7_1).f1))).setCell ⟨gb190, 3, none⟩ (.int .i64 ((rd_T74 l0 x7_1).f2)))).cell? _ = some _ from hx195_3)); clear hn195_0; clear hn195_1; clear hn195_2; clear hn195_3; replace p195 := eq_true p195; replace q195 := eq_true q195)))
                            go_roundg k1
                            case measure => have := HK1.out; omega
                            case rel => exact ⟨(wrap64 (x7_1 + 1)), (by first | rfl | (simp; done) | (simp [*]; done)), H', ⟨by have := HK1.out; omega⟩, ⟨oB HB⟩⟩
                        · rw [if_neg c16] at H
                          exact absurd H (by simp)
                      · rw [if_neg c15] at H
                        exact absurd H (by simp)
                    · rw [if_neg c13] at H
                      have c13b0 : decide (0 < x7_1) = false := decide_eq_false c13
                      clear c13
                      have H' := Aside0.mk H
                      clear H
                      have p189 : 0 ≤ (x7_1 : Int) := of_decide_eq_true (by first | (with_reducible assumption) | assumption)
                      have q189 : x7_1 < (l0.length : Int) := of_decide_eq_true (by first | (with_reducible assumption) | assumption)
                      obtain ⟨ad189, e189, hx189_0, hx189_1, hx189_2, hx189_3⟩ := at_T74 HR0.out x7_1 p189 q189
                      cases e189
                      replace hx189_0 := (HB.out.cell (World.block_lt_of_cell? w _ hx189_0)).trans hx189_0
                      replace hx189_1 := (HB.out.cell (World.block_lt_of_cell? w _ hx189_1)).trans hx189_1
                      replace hx189_2 := (HB.out.cell (World.block_lt_of_cell? w _ hx189_2)).trans hx189_2
                      replace hx189_3 := (HB.out.cell (World.block_lt_of_cell? w _ hx189_3)).trans hx189_3
                      replace p189 := eq_true p189
                      replace q189 := eq_true q189
                      go_wp2_with (first | ((with_reducible refine gate_dst (N := 4) rfl ?_); refine box_event ?hg (N := 4) ?hd (cs := #[.int .i64 0, .int .i64 0, .int .i64 0, .int .i64 0]) (t := 74) ?hr ?_; (case hd => rfl); (case hg => rfl); (case hr => first | (go_simp; done) | (go_simp; rfl)); intro gb190 hg w22 hbox hb; have n0_ := Aside0.mk (below_step (oB HB) hb); have n1_ := Aside0.mk (hbox); have n2_ := Aside0.mk ((by rw [hg]; exact (below_size (oB HB)) : w.heap.size ≤ gb190)); have n3_ := Aside0.mk ((by rw [hg]; exact (below_size (oB HB)) : w.heap.size ≤ gb190)); clear HB; have HB := n0_; have BK190 := n1_; have GW190 := n2_; have GE190 := n3_; clear n0_ n1_ n2_ n3_; clear hb hbox hg; have hcz23_0 : w22.cell? ⟨gb190, 0, none⟩ = some (.int .i64 0) := (blk_cell BK190.out 0).trans rfl; have hcz23_1 : w22.cell? ⟨gb190, 1, none⟩ = some (.int .i64 0) := (blk_cell BK190.out 1).trans rfl; have hcz23_2 : w22.cell? ⟨gb190, 2, none⟩ = some (.int .i64 0) := (blk_cell BK190.out 2).trans rfl; have hcz23_3 : w22.cell? ⟨gb190, 3, none⟩ = some (.int .i64 0) := (blk_cell BK190.out 3).trans rfl; have hfz23_0 := blk_frozen BK190.out 0; have hfz23_1 := blk_frozen BK190.out 1; have hfz23_2 := blk_frozen BK190.out 2; have hfz23_3 := blk_frozen BK190.out 3) | (go_at_call 67; (with_reducible refine (impl_within.calls ((rd_T74 l0 x7_1).f0.f0) 0 3 true _ A5.out).mono ?_); rintro e w' ⟨rfl, ⟨nd, rfl⟩⟩; (try first | exact ⟨rfl, _, World.drewN_drewN _ _ _⟩ | exact ⟨rfl, _, Eq.trans (World.drewN_drewN _ _ _) (congrArg (World.drewN _) (Nat.add_assoc _ _ _))⟩)) | (go_at_call 67; (with_reducible refine (impl_within.calls ((rd_T74 l0 x7_1).f0.f1) 0 39 true _ A7.out).mono ?_); rintro e w' ⟨rfl, ⟨nd, rfl⟩⟩; (try first | exact ⟨rfl, _, World.drewN_drewN _ _ _⟩ | exact ⟨rfl, _, Eq.trans (World.drewN_drewN _ _ _) (congrArg (World.drewN _) (Nat.add_assoc _ _ _))⟩)) | (go_at_call 67; (with_reducible refine (impl_within.calls ((rd_T74 l0 x7_1).f1) 0 2 true _ A9.out).mono ?_); rintro e w' ⟨rfl, ⟨nd, rfl⟩⟩; (try first | exact ⟨rfl, _, World.drewN_drewN _ _ _⟩ | exact ⟨rfl, _, Eq.trans (World.drewN_drewN _ _ _) (congrArg (World.drewN _) (Nat.add_assoc _ _ _))⟩)) | (go_at_call 67; (with_reducible refine (impl_within.calls ((rd_T74 l0 x7_1).f2) 0 100000 true _ A11.out).mono ?_); rintro e w' ⟨rfl, ⟨nd, rfl⟩⟩; (try first | exact ⟨rfl, _, World.drewN_drewN _ _ _⟩ | exact ⟨rfl, _, Eq.trans (World.drewN_drewN _ _ _) (congrArg (World.drewN _) (Nat.add_assoc _ _ _))⟩)))
                      repeat (go_quiet (first | ((with_reducible refine gate_dst (N := 4) rfl ?_); refine box_event ?hg (N := 4) ?hd (cs := #[.int .i64 0, .int .i64 0, .int .i64 0, .int .i64 0]) (t := 74) ?hr ?_; (case hd => rfl); (case hg => rfl); (case hr => first | (go_simp; done) | (go_simp; rfl)); intro gb190 hg w22 hbox hb; have n0_ := Aside0.mk (below_step (oB HB) hb); have n1_ := Aside0.mk (hbox); have n2_ := Aside0.mk ((by rw [hg]; exact (below_size (oB HB)) : w.heap.size ≤ gb190)); have n3_ := Aside0.mk ((by rw [hg]; exact (below_size (oB HB)) : w.heap.size ≤ gb190)); clear HB; have HB := n0_; have BK190 := n1_; have GW190 := n2_; have GE190 := n3_; clear n0_ n1_ n2_ n3_; clear hb hbox hg; have hcz23_0 : w22.cell? ⟨gb190, 0, none⟩ = some (.int .i64 0) := (blk_cell BK190.out 0).trans rfl; have hcz23_1 : w22.cell? ⟨gb190, 1, none⟩ = some (.int .i64 0) := (blk_cell BK190.out 1).trans rfl; have hcz23_2 : w22.cell? ⟨gb190, 2, none⟩ = some (.int .i64 0) := (blk_cell BK190.out 2).trans rfl; have hcz23_3 : w22.cell? ⟨gb190, 3, none⟩ = some (.int .i64 0) := (blk_cell BK190.out 3).trans rfl; have hfz23_0 := blk_frozen BK190.out 0; have hfz23_1 := blk_frozen BK190.out 1; have hfz23_2 := blk_frozen BK190.out 2; have hfz23_3 := blk_frozen BK190.out 3) | (go_at_call 67; (with_reducible refine (impl_within.calls ((rd_T74 l0 x7_1).f0.f0) 0 3 true _ A5.out).mono ?_); rintro e w' ⟨rfl, ⟨nd, rfl⟩⟩; (try first | exact ⟨rfl, _, World.drewN_drewN _ _ _⟩ | exact ⟨rfl, _, Eq.trans (World.drewN_drewN _ _ _) (congrArg (World.drewN _) (Nat.add_assoc _ _ _))⟩)) | (go_at_call 67; (with_reducible refine (impl_within.calls ((rd_T74 l0 x7_1).f0.f1) 0 39 true _ A7.out).mono ?_); rintro e w' ⟨rfl, ⟨nd, rfl⟩⟩; (try first | exact ⟨rfl, _, World.drewN_drewN _ _ _⟩ | exact ⟨rfl, _, Eq.trans (World.drewN_drewN _ _ _) (congrArg (World.drewN _) (Nat.add_assoc _ _ _))⟩)) | (go_at_call 67; (with_reducible refine (impl_within.calls ((rd_T74 l0 x7_1).f1) 0 2 true _ A9.out).mono ?_); rintro e w' ⟨rfl, ⟨nd, rfl⟩⟩; (try first | exact ⟨rfl, _, World.drewN_drewN _ _ _⟩ | exact ⟨rfl, _, Eq.trans (World.drewN_drewN _ _ _) (congrArg (World.drewN _) (Nat.add_assoc _ _ _))⟩)) | (go_at_call 67; (with_reducible refine (impl_within.calls ((rd_T74 l0 x7_1).f2) 0 100000 true _ A11.out).mono ?_); rintro e w' ⟨rfl, ⟨nd, rfl⟩⟩; (try first | exact ⟨rfl, _, World.drewN_drewN _ _ _⟩ | exact ⟨rfl, _, Eq.trans (World.drewN_drewN _ _ _) (congrArg (World.drewN _) (Nat.add_assoc _ _ _))⟩))); try go_wp2_with (first | ((with_reducible refine gate_dst (N := 4) rfl ?_); refine box_event ?hg (N := 4) ?hd (cs := #[.int .i64 0, .int .i64 0, .int .i64 0, .int .i64 0]) (t := 74) ?hr ?_; (case hd => rfl); (case hg => rfl); (case hr => first | (go_simp; done) | (go_simp; rfl)); intro gb190 hg w22 hbox hb; have n0_ := Aside0.mk (below_step (oB HB) hb); have n1_ := Aside0.mk (hbox); have n2_ := Aside0.mk ((by rw [hg]; exact (below_size (oB HB)) : w.heap.size ≤ gb190)); have n3_ := Aside0.mk ((by rw [hg]; exact (below_size (oB HB)) : w.heap.size ≤ gb190)); clear HB; have HB := n0_; have BK190 := n1_; have GW190 := n2_; have GE190 := n3_; clear n0_ n1_ n2_ n3_; clear hb hbox hg; have hcz23_0 : w22.cell? ⟨gb190, 0, none⟩ = some (.int .i64 0) := (blk_cell BK190.out 0).trans rfl; have hcz23_1 : w22.cell? ⟨gb190, 1, none⟩ = some (.int .i64 0) := (blk_cell BK190.out 1).trans rfl; have hcz23_2 : w22.cell? ⟨gb190, 2, none⟩ = some (.int .i64 0) := (blk_cell BK190.out 2).trans rfl; have hcz23_3 : w22.cell? ⟨gb190, 3, none⟩ = some (.int .i64 0) := (blk_cell BK190.out 3).trans rfl; have hfz23_0 := blk_frozen BK190.out 0; have hfz23_1 := blk_frozen BK190.out 1; have hfz23_2 := blk_frozen BK190.out 2; have hfz23_3 := blk_frozen BK190.out 3) | (go_at_call 67; (with_reducible refine (impl_within.calls ((rd_T74 l0 x7_1).f0.f0) 0 3 true _ A5.out).mono ?_); rintro e w' ⟨rfl, ⟨nd, rfl⟩⟩; (try first | exact ⟨rfl, _, World.drewN_drewN _ _ _⟩ | exact ⟨rfl, _, Eq.trans (World.drewN_drewN _ _ _) (congrArg (World.drewN _) (Nat.add_assoc _ _ _))⟩)) | (go_at_call 67; (with_reducible refine (impl_within.calls ((rd_T74 l0 x7_1).f0.f1) 0 39 true _ A7.out).mono ?_); rintro e w' ⟨rfl, ⟨nd, rfl⟩⟩; (try first | exact ⟨rfl, _, World.drewN_drewN _ _ _⟩ | exact ⟨rfl, _, Eq.trans (World.drewN_drewN _ _ _) (congrArg (World.drewN _) (Nat.add_assoc _ _ _))⟩)) | (go_at_call 67; (with_reducible refine (impl_within.calls ((rd_T74 l0 x7_1).f1) 0 2 true _ A9.out).mono ?_); rintro e w' ⟨rfl, ⟨nd, rfl⟩⟩; (try first | exact ⟨rfl, _, World.drewN_drewN _ _ _⟩ | exact ⟨rfl, _, Eq.trans (World.drewN_drewN _ _ _) (congrArg (World.drewN _) (Nat.add_assoc _ _ _))⟩)) | (go_at_call 67; (with_reducible refine (impl_within.calls ((rd_T74 l0 x7_1).f2) 0 100000 true _ A11.out).mono ?_); rintro e w' ⟨rfl, ⟨nd, rfl⟩⟩; (try first | exact ⟨rfl, _, World.drewN_drewN _ _ _⟩ | exact ⟨rfl, _, Eq.trans (World.drewN_drewN _ _ _) (congrArg (World.drewN _) (Nat.add_assoc _ _ _))⟩))))
                      go_roundg k1
                      case measure => have := HK1.out; omega
                      case rel => exact ⟨(wrap64 (x7_1 + 1)), (by first | rfl | (simp; done) | (simp [*]; done)), H', ⟨by have := HK1.out; omega⟩, ⟨oB HB⟩⟩
                  · replace c12 := Bool.eq_false_iff.mpr c12
                    subst c12
                    rw [if_neg (show ¬ (false = true) by decide)] at H
                    obtain rfl := Option.some.inj H
                    have p189 : 0 ≤ (x7_1 : Int) := of_decide_eq_true (by first | (with_reducible assumption) | assumption)
                    have q189 : x7_1 < (l0.length : Int) := of_decide_eq_true (by first | (with_reducible assumption) | assumption)
                    obtain ⟨ad189, e189, hx189_0, hx189_1, hx189_2, hx189_3⟩ := at_T74 HR0.out x7_1 p189 q189
                    cases e189
                    replace hx189_0 := (HB.out.cell (World.block_lt_of_cell? w _ hx189_0)).trans hx189_0
                    replace hx189_1 := (HB.out.cell (World.block_lt_of_cell? w _ hx189_1)).trans hx189_1
                    replace hx189_2 := (HB.out.cell (World.block_lt_of_cell? w _ hx189_2)).trans hx189_2
                    replace hx189_3 := (HB.out.cell (World.block_lt_of_cell? w _ hx189_3)).trans hx189_3
                    replace p189 := eq_true p189
                    replace q189 := eq_true q189
                    go_wp2_with (first | ((with_reducible refine gate_dst (N := 4) rfl ?_); refine box_event ?hg (N := 4) ?hd (cs := #[.int .i64 0, .int .i64 0, .int .i64 0, .int .i64 0]) (t := 74) ?hr ?_; (case hd => rfl); (case hg => rfl); (case hr => first | (go_simp; done) | (go_simp; rfl)); intro gb190 hg w24 hbox hb; have n0_ := Aside0.mk (below_step (oB HB) hb); have n1_ := Aside0.mk (hbox); have n2_ := Aside0.mk ((by rw [hg]; exact (below_size (oB HB)) : w.heap.size ≤ gb190)); have n3_ := Aside0.mk ((by rw [hg]; exact (below_size (oB HB)) : w.heap.size ≤ gb190)); clear HB; have HB := n0_; have BK190 := n1_; have GW190 := n2_; have GE190 := n3_; clear n0_ n1_ n2_ n3_; clear hb hbox hg; have hcz25_0 : w24.cell? ⟨gb190, 0, none⟩ = some (.int .i64 0) := (blk_cell BK190.out 0).trans rfl; have hcz25_1 : w24.cell? ⟨gb190, 1, none⟩ = some (.int .i64 0) := (blk_cell BK190.out 1).trans rfl; have hcz25_2 : w24.cell? ⟨gb190, 2, none⟩ = some (.int .i64 0) := (blk_cell BK190.out 2).trans rfl; have hcz25_3 : w24.cell? ⟨gb190, 3, none⟩ = some (.int .i64 0) := (blk_cell BK190.out 3).trans rfl; have hfz25_0 := blk_frozen BK190.out 0; have hfz25_1 := blk_frozen BK190.out 1; have hfz25_2 := blk_frozen BK190.out 2; have hfz25_3 := blk_frozen BK190.out 3) | (go_at_call 67; (with_reducible refine (impl_within.calls ((rd_T74 l0 x7_1).f0.f0) 0 3 true _ A5.out).mono ?_); rintro e w' ⟨rfl, ⟨nd, rfl⟩⟩; (try first | exact ⟨rfl, _, World.drewN_drewN _ _ _⟩ | exact ⟨rfl, _, Eq.trans (World.drewN_drewN _ _ _) (congrArg (World.drewN _) (Nat.add_assoc _ _ _))⟩)) | (go_at_call 67; (with_reducible refine (impl_within.calls ((rd_T74 l0 x7_1).f0.f1) 0 39 true _ A7.out).mono ?_); rintro e w' ⟨rfl, ⟨nd, rfl⟩⟩; (try first | exact ⟨rfl, _, World.drewN_drewN _ _ _⟩ | exact ⟨rfl, _, Eq.trans (World.drewN_drewN _ _ _) (congrArg (World.drewN _) (Nat.add_assoc _ _ _))⟩)) | (go_at_call 67; (with_reducible refine (impl_within.calls ((rd_T74 l0 x7_1).f1) 0 2 true _ A9.out).mono ?_); rintro e w' ⟨rfl, ⟨nd, rfl⟩⟩; (try first | exact ⟨rfl, _, World.drewN_drewN _ _ _⟩ | exact ⟨rfl, _, Eq.trans (World.drewN_drewN _ _ _) (congrArg (World.drewN _) (Nat.add_assoc _ _ _))⟩)) | (go_at_call 67; (with_reducible refine (impl_within.calls ((rd_T74 l0 x7_1).f2) 0 100000 false _ A11.out).mono ?_); rintro e w' ⟨rfl, ⟨nd, rfl⟩⟩; (try first | exact ⟨rfl, _, World.drewN_drewN _ _ _⟩ | exact ⟨rfl, _, Eq.trans (World.drewN_drewN _ _ _) (congrArg (World.drewN _) (Nat.add_assoc _ _ _))⟩)))
                    repeat (go_quiet (first | ((with_reducible refine gate_dst (N := 4) rfl ?_); refine box_event ?hg (N := 4) ?hd (cs := #[.int .i64 0, .int .i64 0, .int .i64 0, .int .i64 0]) (t := 74) ?hr ?_; (case hd => rfl); (case hg => rfl); (case hr => first | (go_simp; done) | (go_simp; rfl)); intro gb190 hg w24 hbox hb; have n0_ := Aside0.mk (below_step (oB HB) hb); have n1_ := Aside0.mk (hbox); have n2_ := Aside0.mk ((by rw [hg]; exact (below_size (oB HB)) : w.heap.size ≤ gb190)); have n3_ := Aside0.mk ((by rw [hg]; exact (below_size (oB HB)) : w.heap.size ≤ gb190)); clear HB; have HB := n0_; have BK190 := n1_; have GW190 := n2_; have GE190 := n3_; clear n0_ n1_ n2_ n3_; clear hb hbox hg; have hcz25_0 : w24.cell? ⟨gb190, 0, none⟩ = some (.int .i64 0) := (blk_cell BK190.out 0).trans rfl; have hcz25_1 : w24.cell? ⟨gb190, 1, none⟩ = some (.int .i64 0) := (blk_cell BK190.out 1).trans rfl; have hcz25_2 : w24.cell? ⟨gb190, 2, none⟩ = some (.int .i64 0) := (blk_cell BK190.out 2).trans rfl; have hcz25_3 : w24.cell? ⟨gb190, 3, none⟩ = some (.int .i64 0) := (blk_cell BK190.out 3).trans rfl; have hfz25_0 := blk_frozen BK190.out 0; have hfz25_1 := blk_frozen BK190.out 1; have hfz25_2 := blk_frozen BK190.out 2; have hfz25_3 := blk_frozen BK190.out 3) | (go_at_call 67; (with_reducible refine (impl_within.calls ((rd_T74 l0 x7_1).f0.f0) 0 3 true _ A5.out).mono ?_); rintro e w' ⟨rfl, ⟨nd, rfl⟩⟩; (try first | exact ⟨rfl, _, World.drewN_drewN _ _ _⟩ | exact ⟨rfl, _, Eq.trans (World.drewN_drewN _ _ _) (congrArg (World.drewN _) (Nat.add_assoc _ _ _))⟩)) | (go_at_call 67; (with_reducible refine (impl_within.calls ((rd_T74 l0 x7_1).f0.f1) 0 39 true _ A7.out).mono ?_); rintro e w' ⟨rfl, ⟨nd, rfl⟩⟩; (try first | exact ⟨rfl, _, World.drewN_drewN _ _ _⟩ | exact ⟨rfl, _, Eq.trans (World.drewN_drewN _ _ _) (congrArg (World.drewN _) (Nat.add_assoc _ _ _))⟩)) | (go_at_call 67; (with_reducible refine (impl_within.calls ((rd_T74 l0 x7_1).f1) 0 2 true _ A9.out).mono ?_); rintro e w' ⟨rfl, ⟨nd, rfl⟩⟩; (try first | exact ⟨rfl, _, World.drewN_drewN _ _ _⟩ | exact ⟨rfl, _, Eq.trans (World.drewN_drewN _ _ _) (congrArg (World.drewN _) (Nat.add_assoc _ _ _))⟩)) | (go_at_call 67; (with_reducible refine (impl_within.calls ((rd_T74 l0 x7_1).f2) 0 100000 false _ A11.out).mono ?_); rintro e w' ⟨rfl, ⟨nd, rfl⟩⟩; (try first | exact ⟨rfl, _, World.drewN_drewN _ _ _⟩ | exact ⟨rfl, _, Eq.trans (World.drewN_drewN _ _ _) (congrArg (World.drewN _) (Nat.add_assoc _ _ _))⟩))); try go_wp2_with (first | ((with_reducible refine gate_dst (N := 4) rfl ?_); refine box_event ?hg (N := 4) ?hd (cs := #[.int .i64 0, .int .i64 0, .int .i64 0, .int .i64 0]) (t := 74) ?hr ?_; (case hd => rfl); (case hg => rfl); (case hr => first | (go_simp; done) | (go_simp; rfl)); intro gb190 hg w24 hbox hb; have n0_ := Aside0.mk (below_step (oB HB) hb); have n1_ := Aside0.mk (hbox); have n2_ := Aside0.mk ((by rw [hg]; exact (below_size (oB HB)) : w.heap.size ≤ gb190)); have n3_ := Aside0.mk ((by rw [hg]; exact (below_size (oB HB)) : w.heap.size ≤ gb190)); clear HB; have HB := n0_; have BK190 := n1_; have GW190 := n2_; have GE190 := n3_; clear n0_ n1_ n2_ n3_; clear hb hbox hg; have hcz25_0 : w24.cell? ⟨gb190, 0, none⟩ = some (.int .i64 0) := (blk_cell BK190.out 0).trans rfl; have hcz25_1 : w24.cell? ⟨gb190, 1, none⟩ = some (.int .i64 0) := (blk_cell BK190.out 1).trans rfl; have hcz25_2 : w24.cell? ⟨gb190, 2, none⟩ = some (.int .i64 0) := (blk_cell BK190.out 2).trans rfl; have hcz25_3 : w24.cell? ⟨gb190, 3, none⟩ = some (.int .i64 0) := (blk_cell BK190.out 3).trans rfl; have hfz25_0 := blk_frozen BK190.out 0; have hfz25_1 := blk_frozen BK190.out 1; have hfz25_2 := blk_frozen BK190.out 2; have hfz25_3 := blk_frozen BK190.out 3) | (go_at_call 67; (with_reducible refine (impl_within.calls ((rd_T74 l0 x7_1).f0.f0) 0 3 true _ A5.out).mono ?_); rintro e w' ⟨rfl, ⟨nd, rfl⟩⟩; (try first | exact ⟨rfl, _, World.drewN_drewN _ _ _⟩ | exact ⟨rfl, _, Eq.trans (World.drewN_drewN _ _ _) (congrArg (World.drewN _) (Nat.add_assoc _ _ _))⟩)) | (go_at_call 67; (with_reducible refine (impl_within.calls ((rd_T74 l0 x7_1).f0.f1) 0 39 true _ A7.out).mono ?_); rintro e w' ⟨rfl, ⟨nd, rfl⟩⟩; (try first | exact ⟨rfl, _, World.drewN_drewN _ _ _⟩ | exact ⟨rfl, _, Eq.trans (World.drewN_drewN _ _ _) (congrArg (World.drewN _) (Nat.add_assoc _ _ _))⟩)) | (go_at_call 67; (with_reducible refine (impl_within.calls ((rd_T74 l0 x7_1).f1) 0 2 true _ A9.out).mono ?_); rintro e w' ⟨rfl, ⟨nd, rfl⟩⟩; (try first | exact ⟨rfl, _, World.drewN_drewN _ _ _⟩ | exact ⟨rfl, _, Eq.trans (World.drewN_drewN _ _ _) (congrArg (World.drewN _) (Nat.add_assoc _ _ _))⟩)) | (go_at_call 67; (with_reducible refine (impl_within.calls ((rd_T74 l0 x7_1).f2) 0 100000 false _ A11.out).mono ?_); rintro e w' ⟨rfl, ⟨nd, rfl⟩⟩; (try first | exact ⟨rfl, _, World.drewN_drewN _ _ _⟩ | exact ⟨rfl, _, Eq.trans (World.drewN_drewN _ _ _) (congrArg (World.drewN _) (Nat.add_assoc _ _ _))⟩))))
                    go_ret
                    exact ⟨by first | rfl | (simp [errW_none, errW_some] <;> rfl) | (simp [*, errW_none, errW_some] <;> rfl), oB HB⟩
                · replace c10 := Bool.eq_false_iff.mpr c10
                  subst c10
                  rw [if_neg (show ¬ (false = true) by decide)] at H
                  obtain rfl := Option.some.inj H
                  have p189 : 0 ≤ (x7_1 : Int) := of_decide_eq_true (by first | (with_reducible assumption) | assumption)
                  have q189 : x7_1 < (l0.length : Int) := of_decide_eq_true (by first | (with_reducible assumption) | assumption)
                  obtain ⟨ad189, e189, hx189_0, hx189_1, hx189_2, hx189_3⟩ := at_T74 HR0.out x7_1 p189 q189
                  cases e189
                  replace hx189_0 := (HB.out.cell (World.block_lt_of_cell? w _ hx189_0)).trans hx189_0
                  replace hx189_1 := (HB.out.cell (World.block_lt_of_cell? w _ hx189_1)).trans hx189_1
                  replace hx189_2 := (HB.out.cell (World.block_lt_of_cell? w _ hx189_2)).trans hx189_2
                  replace hx189_3 := (HB.out.cell (World.block_lt_of_cell? w _ hx189_3)).trans hx189_3
                  replace p189 := eq_true p189
                  replace q189 := eq_true q189
                  go_wp2_with (first | ((with_reducible refine gate_dst (N := 4) rfl ?_); refine box_event ?hg (N := 4) ?hd (cs := #[.int .i64 0, .int .i64 0, .int .i64 0, .int .i64 0]) (t := 74) ?hr ?_; (case hd => rfl); (case hg => rfl); (case hr => first | (go_simp; done) | (go_simp; rfl)); intro gb190 hg w26 hbox hb; have n0_ := Aside0.mk (below_step (oB HB) hb); have n1_ := Aside0.mk (hbox); have n2_ := Aside0.mk ((by rw [hg]; exact (below_size (oB HB)) : w.heap.size ≤ gb190)); have n3_ := Aside0.mk ((by rw [hg]; exact (below_size (oB HB)) : w.heap.size ≤ gb190)); clear HB; have HB := n0_; have BK190 := n1_; have GW190 := n2_; have GE190 := n3_; clear n0_ n1_ n2_ n3_; clear hb hbox hg; have hcz27_0 : w26.cell? ⟨gb190, 0, none⟩ = some (.int .i64 0) := (blk_cell BK190.out 0).trans rfl; have hcz27_1 : w26.cell? ⟨gb190, 1, none⟩ = some (.int .i64 0) := (blk_cell BK190.out 1).trans rfl; have hcz27_2 : w26.cell? ⟨gb190, 2, none⟩ = some (.int .i64 0) := (blk_cell BK190.out 2).trans rfl; have hcz27_3 : w26.cell? ⟨gb190, 3, none⟩ = some (.int .i64 0) := (blk_cell BK190.out 3).trans rfl; have hfz27_0 := blk_frozen BK190.out 0; have hfz27_1 := blk_frozen BK190.out 1; have hfz27_2 := blk_frozen BK190.out 2; have hfz27_3 := blk_frozen BK190.out 3) | (go_at_call 67; (with_reducible refine (impl_within.calls ((rd_T74 l0 x7_1).f0.f0) 0 3 true _ A5.out).mono ?_); rintro e w' ⟨rfl, ⟨nd, rfl⟩⟩; (try first | exact ⟨rfl, _, World.drewN_drewN _ _ _⟩ | exact ⟨rfl, _, Eq.trans (World.drewN_drewN _ _ _) (congrArg (World.drewN _) (Nat.add_assoc _ _ _))⟩)) | (go_at_call 67; (with_reducible refine (impl_within.calls ((rd_T74 l0 x7_1).f0.f1) 0 39 true _ A7.out).mono ?_); rintro e w' ⟨rfl, ⟨nd, rfl⟩⟩; (try first | exact ⟨rfl, _, World.drewN_drewN _ _ _⟩ | exact ⟨rfl, _, Eq.trans (World.drewN_drewN _ _ _) (congrArg (World.drewN _) (Nat.add_assoc _ _ _))⟩)) | (go_at_call 67; (with_reducible refine (impl_within.calls ((rd_T74 l0 x7_1).f1) 0 2 false _ A9.out).mono ?_); rintro e w' ⟨rfl, ⟨nd, rfl⟩⟩; (try first | exact ⟨rfl, _, World.drewN_drewN _ _ _⟩ | exact ⟨rfl, _, Eq.trans (World.drewN_drewN _ _ _) (congrArg (World.drewN _) (Nat.add_assoc _ _ _))⟩)))
                  repeat (go_quiet (first | ((with_reducible refine gate_dst (N := 4) rfl ?_); refine box_event ?hg (N := 4) ?hd (cs := #[.int .i64 0, .int .i64 0, .int .i64 0, .int .i64 0]) (t := 74) ?hr ?_; (case hd => rfl); (case hg => rfl); (case hr => first | (go_simp; done) | (go_simp; rfl)); intro gb190 hg w26 hbox hb; have n0_ := Aside0.mk (below_step (oB HB) hb); have n1_ := Aside0.mk (hbox); have n2_ := Aside0.mk ((by rw [hg]; exact (below_size (oB HB)) : w.heap.size ≤ gb190)); have n3_ := Aside0.mk ((by rw [hg]; exact (below_size (oB HB)) : w.heap.size ≤ gb190)); clear HB; have HB := n0_; have BK190 := n1_; have GW190 := n2_; have GE190 := n3_; clear n0_ n1_ n2_ n3_; clear hb hbox hg; have hcz27_0 : w26.cell? ⟨gb190, 0, none⟩ = some (.int .i64 0) := (blk_cell BK190.out 0).trans rfl; have hcz27_1 : w26.cell? ⟨gb190, 1, none⟩ = some (.int .i64 0) := (blk_cell BK190.out 1).trans rfl; have hcz27_2 : w26.cell? ⟨gb190, 2, none⟩ = some (.int .i64 0) := (blk_cell BK190.out 2).trans rfl; have hcz27_3 : w26.cell? ⟨gb190, 3, none⟩ = some (.int .i64 0) := (blk_cell BK190.out 3).trans rfl; have hfz27_0 := blk_frozen BK190.out 0; have hfz27_1 := blk_frozen BK190.out 1; have hfz27_2 := blk_frozen BK190.out 2; have hfz27_3 := blk_frozen BK190.out 3) | (go_at_call 67; (with_reducible refine (impl_within.calls ((rd_T74 l0 x7_1).f0.f0) 0 3 true _ A5.out).mono ?_); rintro e w' ⟨rfl, ⟨nd, rfl⟩⟩; (try first | exact ⟨rfl, _, World.drewN_drewN _ _ _⟩ | exact ⟨rfl, _, Eq.trans (World.drewN_drewN _ _ _) (congrArg (World.drewN _) (Nat.add_assoc _ _ _))⟩)) | (go_at_call 67; (with_reducible refine (impl_within.calls ((rd_T74 l0 x7_1).f0.f1) 0 39 true _ A7.out).mono ?_); rintro e w' ⟨rfl, ⟨nd, rfl⟩⟩; (try first | exact ⟨rfl, _, World.drewN_drewN _ _ _⟩ | exact ⟨rfl, _, Eq.trans (World.drewN_drewN _ _ _) (congrArg (World.drewN _) (Nat.add_assoc _ _ _))⟩)) | (go_at_call 67; (with_reducible refine (impl_within.calls ((rd_T74 l0 x7_1).f1) 0 2 false _ A9.out).mono ?_); rintro e w' ⟨rfl, ⟨nd, rfl⟩⟩; (try first | exact ⟨rfl, _, World.drewN_drewN _ _ _⟩ | exact ⟨rfl, _, Eq.trans (World.drewN_drewN _ _ _) (congrArg (World.drewN _) (Nat.add_assoc _ _ _))⟩))); try go_wp2_with (first | ((with_reducible refine gate_dst (N := 4) rfl ?_); refine box_event ?hg (N := 4) ?hd (cs := #[.int .i64 0, .int .i64 0, .int .i64 0, .int .i64 0]) (t := 74) ?hr ?_; (case hd => rfl); (case hg => rfl); (case hr => first | (go_simp; done) | (go_simp; rfl)); intro gb190 hg w26 hbox hb; have n0_ := Aside0.mk (below_step (oB HB) hb); have n1_ := Aside0.mk (hbox); have n2_ := Aside0.mk ((by rw [hg]; exact (below_size (oB HB)) : w.heap.size ≤ gb190)); have n3_ := Aside0.mk ((by rw [hg]; exact (below_size (oB HB)) : w.heap.size ≤ gb190)); clear HB; have HB := n0_; have BK190 := n1_; have GW190 := n2_; have GE190 := n3_; clear n0_ n1_ n2_ n3_; clear hb hbox hg; have hcz27_0 : w26.cell? ⟨gb190, 0, none⟩ = some (.int .i64 0) := (blk_cell BK190.out 0).trans rfl; have hcz27_1 : w26.cell? ⟨gb190, 1, none⟩ = some (.int .i64 0) := (blk_cell BK190.out 1).trans rfl; have hcz27_2 : w26.cell? ⟨gb190, 2, none⟩ = some (.int .i64 0) := (blk_cell BK190.out 2).trans rfl; have hcz27_3 : w26.cell? ⟨gb190, 3, none⟩ = some (.int .i64 0) := (blk_cell BK190.out 3).trans rfl; have hfz27_0 := blk_frozen BK190.out 0; have hfz27_1 := blk_frozen BK190.out 1; have hfz27_2 := blk_frozen BK190.out 2; have hfz27_3 := blk_frozen BK190.out 3) | (go_at_call 67; (with_reducible refine (impl_within.calls ((rd_T74 l0 x7_1).f0.f0) 0 3 true _ A5.out).mono ?_); rintro e w' ⟨rfl, ⟨nd, rfl⟩⟩; (try first | exact ⟨rfl, _, World.drewN_drewN _ _ _⟩ | exact ⟨rfl, _, Eq.trans (World.drewN_drewN _ _ _) (congrArg (World.drewN _) (Nat.add_assoc _ _ _))⟩)) | (go_at_call 67; (with_reducible refine (impl_within.calls ((rd_T74 l0 x7_1).f0.f1) 0 39 true _ A7.out).mono ?_); rintro e w' ⟨rfl, ⟨nd, rfl⟩⟩; (try first | exact ⟨rfl, _, World.drewN_drewN _ _ _⟩ | exact ⟨rfl, _, Eq.trans (World.drewN_drewN _ _ _) (congrArg (World.drewN _) (Nat.add_assoc _ _ _))⟩)) | (go_at_call 67; (with_reducible refine (impl_within.calls ((rd_T74 l0 x7_1).f1) 0 2 false _ A9.out).mono ?_); rintro e w' ⟨rfl, ⟨nd, rfl⟩⟩; (try first | exact ⟨rfl, _, World.drewN_drewN _ _ _⟩ | exact ⟨rfl, _, Eq.trans (World.drewN_drewN _ _ _) (congrArg (World.drewN _) (Nat.add_assoc _ _ _))⟩))))
                  go_ret
                  exact ⟨by first | rfl | (simp [errW_none, errW_some] <;> rfl) | (simp [*, errW_none, errW_some] <;> rfl), oB HB⟩
              · replace c8 := Bool.eq_false_iff.mpr c8
                subst c8
                rw [if_neg (show ¬ (false = true) by decide)] at H
                obtain rfl := Option.some.inj H
                have p189 : 0 ≤ (x7_1 : Int) := of_decide_eq_true (by first | (with_reducible assumption) | assumption)
                have q189 : x7_1 < (l0.length : Int) := of_decide_eq_true (by first | (with_reducible assumption) | assumption)
                obtain ⟨ad189, e189, hx189_0, hx189_1, hx189_2, hx189_3⟩ := at_T74 HR0.out x7_1 p189 q189
                cases e189
                replace hx189_0 := (HB.out.cell (World.block_lt_of_cell? w _ hx189_0)).trans hx189_0
                replace hx189_1 := (HB.out.cell (World.block_lt_of_cell? w _ hx189_1)).trans hx189_1
                replace hx189_2 := (HB.out.cell (World.block_lt_of_cell? w _ hx189_2)).trans hx189_2
                replace hx189_3 := (HB.out.cell (World.block_lt_of_cell? w _ hx189_3)).trans hx189_3
                replace p189 := eq_true p189
                replace q189 := eq_true q189
                go_wp2_with (first | ((with_reducible refine gate_dst (N := 4) rfl ?_); refine box_event ?hg (N := 4) ?hd (cs := #[.int .i64 0, .int .i64 0, .int .i64 0, .int .i64 0]) (t := 74) ?hr ?_; (case hd => rfl); (case hg => rfl); (case hr => first | (go_simp; done) | (go_simp; rfl)); intro gb190 hg w28 hbox hb; have n0_ := Aside0.mk (below_step (oB HB) hb); have n1_ := Aside0.mk (hbox); have n2_ := Aside0.mk ((by rw [hg]; exact (below_size (oB HB)) : w.heap.size ≤ gb190)); have n3_ := Aside0.mk ((by rw [hg]; exact (below_size (oB HB)) : w.heap.size ≤ gb190)); clear HB; have HB := n0_; have BK190 := n1_; have GW190 := n2_; have GE190 := n3_; clear n0_ n1_ n2_ n3_; clear hb hbox hg; have hcz29_0 : w28.cell? ⟨gb190, 0, none⟩ = some (.int .i64 0) := (blk_cell BK190.out 0).trans rfl; have hcz29_1 : w28.cell? ⟨gb190, 1, none⟩ = some (.int .i64 0) := (blk_cell BK190.out 1).trans rfl; have hcz29_2 : w28.cell? ⟨gb190, 2, none⟩ = some (.int .i64 0) := (blk_cell BK190.out 2).trans rfl; have hcz29_3 : w28.cell? ⟨gb190, 3, none⟩ = some (.int .i64 0) := (blk_cell BK190.out 3).trans rfl; have hfz29_0 := blk_frozen BK190.out 0; have hfz29_1 := blk_frozen BK190.out 1; have hfz29_2 := blk_frozen BK190.out 2; have hfz29_3 := blk_frozen BK190.out 3) | (go_at_call 67; (with_reducible refine (impl_within.calls ((rd_T74 l0 x7_1).f0.f0) 0 3 true _ A5.out).mono ?_); rintro e w' ⟨rfl, ⟨nd, rfl⟩⟩; (try first | exact ⟨rfl, _, World.drewN_drewN _ _ _⟩ | exact ⟨rfl, _, Eq.trans (World.drewN_drewN _ _ _) (congrArg (World.drewN _) (Nat.add_assoc _ _ _))⟩)) | (go_at_call 67; (with_reducible refine (impl_within.calls ((rd_T74 l0 x7_1).f0.f1) 0 39 false _ A7.out).mono ?_); rintro e w' ⟨rfl, ⟨nd, rfl⟩⟩; (try first | exact ⟨rfl, _, World.drewN_drewN _ _ _⟩ | exact ⟨rfl, _, Eq.trans (World.drewN_drewN _ _ _) (congrArg (World.drewN _) (Nat.add_assoc _ _ _))⟩)))
                repeat (go_quiet (first | ((with_reducible refine gate_dst (N := 4) rfl ?_); refine box_event ?hg (N := 4) ?hd (cs := #[.int .i64 0, .int .i64 0, .int .i64 0, .int .i64 0]) (t := 74) ?hr ?_; (case hd => rfl); (case hg => rfl); (case hr => first | (go_simp; done) | (go_simp; rfl)); intro gb190 hg w28 hbox hb; have n0_ := Aside0.mk (below_step (oB HB) hb); have n1_ := Aside0.mk (hbox); have n2_ := Aside0.mk ((by rw [hg]; exact (below_size (oB HB)) : w.heap.size ≤ gb190)); have n3_ := Aside0.mk ((by rw [hg]; exact (below_size (oB HB)) : w.heap.size ≤ gb190)); clear HB; have HB := n0_; have BK190 := n1_; have GW190 := n2_; have GE190 := n3_; clear n0_ n1_ n2_ n3_; clear hb hbox hg; have hcz29_0 : w28.cell? ⟨gb190, 0, none⟩ = some (.int .i64 0) := (blk_cell BK190.out 0).trans rfl; have hcz29_1 : w28.cell? ⟨gb190, 1, none⟩ = some (.int .i64 0) := (blk_cell BK190.out 1).trans rfl; have hcz29_2 : w28.cell? ⟨gb190, 2, none⟩ = some (.int .i64 0) := (blk_cell BK190.out 2).trans rfl; have hcz29_3 : w28.cell? ⟨gb190, 3, none⟩ = some (.int .i64 0) := (blk_cell BK190.out 3).trans rfl; have hfz29_0 := blk_frozen BK190.out 0; have hfz29_1 := blk_frozen BK190.out 1; have hfz29_2 := blk_frozen BK190.out 2; have hfz29_3 := blk_frozen BK190.out 3) | (go_at_call 67; (with_reducible refine (impl_within.calls ((rd_T74 l0 x7_1).f0.f0) 0 3 true _ A5.out).mono ?_); rintro e w' ⟨rfl, ⟨nd, rfl⟩⟩; (try first | exact ⟨rfl, _, World.drewN_drewN _ _ _⟩ | exact ⟨rfl, _, Eq.trans (World.drewN_drewN _ _ _) (congrArg (World.drewN _) (Nat.add_assoc _ _ _))⟩)) | (go_at_call 67; (with_reducible refine (impl_within.calls ((rd_T74 l0 x7_1).f0.f1) 0 39 false _ A7.out).mono ?_); rintro e w' ⟨rfl, ⟨nd, rfl⟩⟩; (try first | exact ⟨rfl, _, World.drewN_drewN _ _ _⟩ | exact ⟨rfl, _, Eq.trans (World.drewN_drewN _ _ _) (congrArg (World.drewN _) (Nat.add_assoc _ _ _))⟩))); try go_wp2_with (first | ((with_reducible refine gate_dst (N := 4) rfl ?_); refine box_event ?hg (N := 4) ?hd (cs := #[.int .i64 0, .int .i64 0, .int .i64 0, .int .i64 0]) (t := 74) ?hr ?_; (case hd => rfl); (case hg => rfl); (case hr => first | (go_simp; done) | (go_simp; rfl)); intro gb190 hg w28 hbox hb; have n0_ := Aside0.mk (below_step (oB HB) hb); have n1_ := Aside0.mk (hbox); have n2_ := Aside0.mk ((by rw [hg]; exact (below_size (oB HB)) : w.heap.size ≤ gb190)); have n3_ := Aside0.mk ((by rw [hg]; exact (below_size (oB HB)) : w.heap.size ≤ gb190)); clear HB; have HB := n0_; have BK190 := n1_; have GW190 := n2_; have GE190 := n3_; clear n0_ n1_ n2_ n3_; clear hb hbox hg; have hcz29_0 : w28.cell? ⟨gb190, 0, none⟩ = some (.int .i64 0) := (blk_cell BK190.out 0).trans rfl; have hcz29_1 : w28.cell? ⟨gb190, 1, none⟩ = some (.int .i64 0) := (blk_cell BK190.out 1).trans rfl; have hcz29_2 : w28.cell? ⟨gb190, 2, none⟩ = some (.int .i64 0) := (blk_cell BK190.out 2).trans rfl; have hcz29_3 : w28.cell? ⟨gb190, 3, none⟩ = some (.int .i64 0) := (blk_cell BK190.out 3).trans rfl; have hfz29_0 := blk_frozen BK190.out 0; have hfz29_1 := blk_frozen BK190.out 1; have hfz29_2 := blk_frozen BK190.out 2; have hfz29_3 := blk_frozen BK190.out 3) | (go_at_call 67; (with_reducible refine (impl_within.calls ((rd_T74 l0 x7_1).f0.f0) 0 3 true _ A5.out).mono ?_); rintro e w' ⟨rfl, ⟨nd, rfl⟩⟩; (try first | exact ⟨rfl, _, World.drewN_drewN _ _ _⟩ | exact ⟨rfl, _, Eq.trans (World.drewN_drewN _ _ _) (congrArg (World.drewN _) (Nat.add_assoc _ _ _))⟩)) | (go_at_call 67; (with_reducible refine (impl_within.calls ((rd_T74 l0 x7_1).f0.f1) 0 39 false _ A7.out).mono ?_); rintro e w' ⟨rfl, ⟨nd, rfl⟩⟩; (try first | exact ⟨rfl, _, World.drewN_drewN _ _ _⟩ | exact ⟨rfl, _, Eq.trans (World.drewN_drewN _ _ _) (congrArg (World.drewN _) (Nat.add_assoc _ _ _))⟩))))
                go_ret
                exact ⟨by first | rfl | (simp [errW_none, errW_some] <;> rfl) | (simp [*, errW_none, errW_some] <;> rfl), oB HB⟩
            · replace c6 := Bool.eq_false_iff.mpr c6
              subst c6
              rw [if_neg (show ¬ (false = true) by decide)] at H
              obtain rfl := Option.some.inj H
              have p189 : 0 ≤ (x7_1 : Int) := of_decide_eq_true (by first | (with_reducible assumption) | assumption)
              have q189 : x7_1 < (l0.length : Int) := of_decide_eq_true (by first | (with_reducible assumption) | assumption)
              obtain ⟨ad189, e189, hx189_0, hx189_1, hx189_2, hx189_3⟩ := at_T74 HR0.out x7_1 p189 q189
              cases e189
              replace hx189_0 := (HB.out.cell (World.block_lt_of_cell? w _ hx189_0)).trans hx189_0
              replace hx189_1 := (HB.out.cell (World.block_lt_of_cell? w _ hx189_1)).trans hx189_1
              replace hx189_2 := (HB.out.cell (World.block_lt_of_cell? w _ hx189_2)).trans hx189_2
              replace hx189_3 := (HB.out.cell (World.block_lt_of_cell? w _ hx189_3)).trans hx189_3
              replace p189 := eq_true p189
              replace q189 := eq_true q189
              go_wp2_with (first | ((with_reducible refine gate_dst (N := 4) rfl ?_); refine box_event ?hg (N := 4) ?hd (cs := #[.int .i64 0, .int .i64 0, .int .i64 0, .int .i64 0]) (t := 74) ?hr ?_; (case hd => rfl); (case hg => rfl); (case hr => first | (go_simp; done) | (go_simp; rfl)); intro gb190 hg w30 hbox hb; have n0_ := Aside0.mk (below_step (oB HB) hb); have n1_ := Aside0.mk (hbox); have n2_ := Aside0.mk ((by rw [hg]; exact (below_size (oB HB)) : w.heap.size ≤ gb190)); have n3_ := Aside0.mk ((by rw [hg]; exact (below_size (oB HB)) : w.heap.size ≤ gb190)); clear HB; have HB := n0_; have BK190 := n1_; have GW190 := n2_; have GE190 := n3_; clear n0_ n1_ n2_ n3_; clear hb hbox hg; have hcz31_0 : w30.cell? ⟨gb190, 0, none⟩ = some (.int .i64 0) := (blk_cell BK190.out 0).trans rfl; have hcz31_1 : w30.cell? ⟨gb190, 1, none⟩ = some (.int .i64 0) := (blk_cell BK190.out 1).trans rfl; have hcz31_2 : w30.cell? ⟨gb190, 2, none⟩ = some (.int .i64 0) := (blk_cell BK190.out 2).trans rfl; have hcz31_3 : w30.cell? ⟨gb190, 3, none⟩ = some (.int .i64 0) := (blk_cell BK190.out 3).trans rfl; have hfz31_0 := blk_frozen BK190.out 0; have hfz31_1 := blk_frozen BK190.out 1; have hfz31_2 := blk_frozen BK190.out 2; have hfz31_3 := blk_frozen BK190.out 3) | (go_at_call 67; (with_reducible refine (impl_within.calls ((rd_T74 l0 x7_1).f0.f0) 0 3 false _ A5.out).mono ?_); rintro e w' ⟨rfl, ⟨nd, rfl⟩⟩; (try first | exact ⟨rfl, _, World.drewN_drewN _ _ _⟩ | exact ⟨rfl, _, Eq.trans (World.drewN_drewN _ _ _) (congrArg (World.drewN _) (Nat.add_assoc _ _ _))⟩)))
              repeat (go_quiet (first | ((with_reducible refine gate_dst (N := 4) rfl ?_); refine box_event ?hg (N := 4) ?hd (cs := #[.int .i64 0, .int .i64 0, .int .i64 0, .int .i64 0]) (t := 74) ?hr ?_; (case hd => rfl); (case hg => rfl); (case hr => first | (go_simp; done) | (go_simp; rfl)); intro gb190 hg w30 hbox hb; have n0_ := Aside0.mk (below_step (oB HB) hb); have n1_ := Aside0.mk (hbox); have n2_ := Aside0.mk ((by rw [hg]; exact (below_size (oB HB)) : w.heap.size ≤ gb190)); have n3_ := Aside0.mk ((by rw [hg]; exact (below_size (oB HB)) : w.heap.size ≤ gb190)); clear HB; have HB := n0_; have BK190 := n1_; have GW190 := n2_; have GE190 := n3_; clear n0_ n1_ n2_ n3_; clear hb hbox hg; have hcz31_0 : w30.cell? ⟨gb190, 0, none⟩ = some (.int .i64 0) := (blk_cell BK190.out 0).trans rfl; have hcz31_1 : w30.cell? ⟨gb190, 1, none⟩ = some (.int .i64 0) := (blk_cell BK190.out 1).trans rfl; have hcz31_2 : w30.cell? ⟨gb190, 2, none⟩ = some (.int .i64 0) := (blk_cell BK190.out 2).trans rfl; have hcz31_3 : w30.cell? ⟨gb190, 3, none⟩ = some (.int .i64 0) := (blk_cell BK190.out 3).trans rfl; have hfz31_0 := blk_frozen BK190.out 0; have hfz31_1 := blk_frozen BK190.out 1; have hfz31_2 := blk_frozen BK190.out 2; have hfz31_3 := blk_frozen BK190.out 3) | (go_at_call 67; (with_reducible refine (impl_within.calls ((rd_T74 l0 x7_1).f0.f0) 0 3 false _ A5.out).mono ?_); rintro e w' ⟨rfl, ⟨nd, rfl⟩⟩; (try first | exact ⟨rfl, _, World.drewN_drewN _ _ _⟩ | exact ⟨rfl, _, Eq.trans (World.drewN_drewN _ _ _) (congrArg (World.drewN _) (Nat.add_assoc _ _ _))⟩))); try go_wp2_with (first | ((with_reducible refine gate_dst (N := 4) rfl ?_); refine box_event ?hg (N := 4) ?hd (cs := #[.int .i64 0, .int .i64 0, .int .i64 0, .int .i64 0]) (t := 74) ?hr ?_; (case hd => rfl); (case hg => rfl); (case hr => first | (go_simp; done) | (go_simp; rfl)); intro gb190 hg w30 hbox hb; have n0_ := Aside0.mk (below_step (oB HB) hb); have n1_ := Aside0.mk (hbox); have n2_ := Aside0.mk ((by rw [hg]; exact (below_size (oB HB)) : w.heap.size ≤ gb190)); have n3_ := Aside0.mk ((by rw [hg]; exact (below_size (oB HB)) : w.heap.size ≤ gb190)); clear HB; have HB := n0_; have BK190 := n1_; have GW190 := n2_; have GE190 := n3_; clear n0_ n1_ n2_ n3_; clear hb hbox hg; have hcz31_0 : w30.cell? ⟨gb190, 0, none⟩ = some (.int .i64 0) := (blk_cell BK190.out 0).trans rfl; have hcz31_1 : w30.cell? ⟨gb190, 1, none⟩ = some (.int .i64 0) := (blk_cell BK190.out 1).trans rfl; have hcz31_2 : w30.cell? ⟨gb190, 2, none⟩ = some (.int .i64 0) := (blk_cell BK190.out 2).trans rfl; have hcz31_3 : w30.cell? ⟨gb190, 3, none⟩ = some (.int .i64 0) := (blk_cell BK190.out 3).trans rfl; have hfz31_0 := blk_frozen BK190.out 0; have hfz31_1 := blk_frozen BK190.out 1; have hfz31_2 := blk_frozen BK190.out 2; have hfz31_3 := blk_frozen BK190.out 3) | (go_at_call 67; (with_reducible refine (impl_within.calls ((rd_T74 l0 x7_1).f0.f0) 0 3 false _ A5.out).mono ?_); rintro e w' ⟨rfl, ⟨nd, rfl⟩⟩; (try first | exact ⟨rfl, _, World.drewN_drewN _ _ _⟩ | exact ⟨rfl, _, Eq.trans (World.drewN_drewN _ _ _) (congrArg (World.drewN _) (Nat.add_assoc _ _ _))⟩))))
              go_ret
              exact ⟨by first | rfl | (simp [errW_none, errW_some] <;> rfl) | (simp [*, errW_none, errW_some] <;> rfl), oB HB⟩
          · rw [if_neg c4] at H
            exact absurd H (by simp)
        · rw [if_neg c3] at H
          exact absurd H (by simp)
      · rw [if_neg c2] at H
        have c2b0 : decide (x7_1 < (l0.length : Int)) = false := decide_eq_false c2
        clear c2
        obtain rfl := Option.some.inj H
        go_wp2
        repeat (go_quiet (fail); try go_wp2)
        go_ret
        exact ⟨by first | rfl | (simp [errW_none, errW_some] <;> rfl) | (simp [*, errW_none, errW_some] <;> rfl), oB HB⟩
end Go.Proofs.Ytbkkpllejgedcaa.P

namespace Go.Proofs.Ytbkkpllejgedcaa.P
open Go.RowKit Go.Proofs.YtbkkpllejgedcaaW.PrintWords Go.Proofs.YtbkkpllejgedcaaW.PrintLast Go.Proofs.YtbkkpllejgedcaaW.PrintMore
attribute [local go_sem] max2_int min2_int max_two min_two max_three min_three max_four min_four
set_option linter.unusedVariables false
set_option linter.unusedSimpArgs false
def impl_copyLog.f (l0 : List (S74)) : Option ((List (S74))) := (some (([] : List (S74)) : List (S74))).bind fun y823 => (if y823.length + l0.length < 4398046511104 then (some (y823 ++ l0)) else (none))
set_option maxHeartbeats 8000000 in
set_option maxRecDepth 100000 in
theorem impl_copyLog.calls (A0 : Option Addr) (c0 : Nat) (l0 : List (S74)) (r : List (S74)) (w : World) (hr0 : Kd.C k74 w A0 l0.length l0) (hc0 : l0.length ≤ c0) (h : impl_copyLog.f l0 = some r) :
    Calls Try.prog 94 #[.slice A0 l0.length c0] w fun e w' => ∃ v0_ : Value, e = .returned (v0_) ∧ Kd.R k74 74 w' w.heap.size (fun _ => True) v0_ r ∧ Below w.heap.size w w' := by
  have HR0 := Aside0.mk hr0
  have HC0 := Aside0.mk hc0
  clear hr0 hc0
  have HB := Aside0.mk (Below.refl w.heap.size w)
  have H : ((some (([] : List (S74)) : List (S74))).bind fun y823 => (if y823.length + l0.length < 4398046511104 then (some (y823 ++ l0)) else (none))) = some r := h
  clear h
  obtain ⟨y823, hy823⟩ : ∃ y_ : List (S74), y_ = (([] : List (S74))) := ⟨_, rfl⟩
  replace H : (if y823.length + l0.length < 4398046511104 then (some (y823 ++ l0)) else (none)) = some r := by first | (rw [hy823]; with_reducible exact H) | (have H2_ := (Option.bind_some _ _).symm.trans H; rw [hy823]; with_reducible exact H2_) | (have H2_ := (Option.bind_some _ _).symm.trans H; with_reducible exact H2_) | with_reducible exact H | (rw [hy823]; exact H) | exact H
  have Ny823 := Aside0.mk hy823
  clear hy823
  by_cases c2 : y823.length + l0.length < 4398046511104
  · rw [if_pos c2] at H
    have LMc2 := Aside0.mk c2
    clear c2
    obtain ⟨y826, hy826⟩ : ∃ y_ : List (S74), y_ = (y823 ++ l0) := ⟨_, rfl⟩
    replace H : (some y826) = some r := by first | (rw [hy826]; with_reducible exact H) | (have H2_ := (Option.bind_some _ _).symm.trans H; rw [hy826]; with_reducible exact H2_) | (have H2_ := (Option.bind_some _ _).symm.trans H; with_reducible exact H2_) | with_reducible exact H | (rw [hy826]; exact H) | exact H
    have Ny826 := Aside0.mk hy826
    clear hy826
    obtain rfl := Option.some.inj H
    go_enter Try.func94, Try.ntmps94
    go_wp2_with (first | ((with_reducible refine gate_dst (N := 3) rfl ?_); refine Kd.R_lit k74 _ 74 ?hg (N := 3) ?hd (xs := ([] : List (S74))) (inner := []) (ok := fun _ => True) (okp := fun _ => True) ?hr ?hp (fun _ hk => hk) trivial (Below.refl _ _) (Nat.le_refl _) (by simp) ?_; (case hd => rfl); (case hg => rfl); (case hr => first | (go_simp; done) | (go_simp; rfl)); (case hp => exact (Reps.none _ _)); intro v824 w3 ho4 hb hg_ hnew_; clear hg_ hnew_; (first | rw [← Ny823.out] at ho4 | (simp only [Int.reduceToNat] at ho4; rw [← Ny823.out] at ho4)); have n0_ := Aside0.mk (Kd.R_lower ho4 (below_size (oB HB))); have n1_ := Aside0.mk (below_step (oB HB) hb); clear HB; have HO825 := n0_; have HB := n1_; clear n0_ n1_; clear hb ho4) | ((with_reducible refine gate_builtin (b := .append) (xs := #[.tmp 3, .tmp 4]) rfl ?_); at_builtin; refine Kd.R_append_rows k74 (w0 := w) w.heap.size rfl (.tmp 3) (.tmp 4) 34 74 (.agg #[(.int .i64 0), (.int .i64 0), (.int .i64 0), (.int .i64 0)]) 32 rfl Try.underlying34 info74 rfl (by decide) (by omega) v824 y823 l0 _ _ _ (fun _ => True) (fun _ => False) rfl rfl ?aO ?aR (fun _ _ h => h) (fun _ h => h.elim) ?aF ?aB ?aS ?aL ?_; (case aR => exact oc_ HR0.out); (case aB => exact (oB HB)); (case aF => exact (fun _ _ => trivial)); (case aO => exact (oR HO825)); (case aS => exact (below_size (oB HB))); (case aL => have := LMc2.out; omega); intro v827 w5 ho hb hg hat; rw [← Ny826.out] at ho; have n0_ := Aside0.mk (hb); have n1_ := Aside0.mk (ho); clear HB; clear HO825; have HB := n0_; have HO828 := n1_; clear n0_ n1_; clear ho hb hg hat))
    go_ret
    exact ⟨_, by first | rfl | (simp [errW_none, errW_some] <;> rfl) | (simp [*, errW_none, errW_some] <;> rfl), oR HO828, oB HB⟩
  · rw [if_neg c2] at H
    exact absurd H (by simp)
end Go.Proofs.Ytbkkpllejgedcaa.P

namespace Go.Proofs.Ytbkkpllejgedcaa.P
open Go.RowKit Go.Proofs.YtbkkpllejgedcaaW.PrintWords Go.Proofs.YtbkkpllejgedcaaW.PrintLast Go.Proofs.YtbkkpllejgedcaaW.PrintMore
attribute [local go_sem] max2_int min2_int max_two min_two max_three min_three max_four min_four
set_option linter.unusedVariables false
set_option linter.unusedSimpArgs false
def impl_AddEntry.f (k : Nat) (l0 : List (S74)) (a1_0 : Int) (a1_1 : Int) (a1_2 : Int) (a1_3 : Int) : Option ((List (S74)) × Bool) := (impl_copyLog.f l0).bind fun t1040 => ((some (([(⟨(⟨a1_0, a1_1⟩ : S56), a1_2, a1_3⟩ : S74)] : List (S74)) : List (S74))).bind fun y1043 => (if t1040.length + y1043.length < 4398046511104 then ((some (t1040 ++ y1043 : List (S74))).bind fun y1046 => ((impl_LogOk.f k l0).bind fun t1049 => (if t1049 = true then ((impl_LogOk.f k y1046).bind fun t1050 => (if t1050 = true then (some (y1046, true)) else ((impl_copyLog.f l0).bind fun t1051 => (some (t1051, false))))) else ((impl_copyLog.f l0).bind fun t1054 => (some (t1054, false)))))) else (none)))
theorem impl_AddEntry.mono : ∀ a0 a1 a2 a3 a4 k, LeO (impl_AddEntry.f k a0 a1 a2 a3 a4) (impl_AddEntry.f (k + 1) a0 a1 a2 a3 a4) := by
  intro a0 a1 a2 a3 a4 k
  unfold impl_AddEntry.f
  repeat' first
      | (with_reducible exact impl_LogOk.mono _ _)
      | (with_reducible exact LeO.refl _)
      | (with_reducible exact LeO.none _)
      | (with_reducible refine LeO.ite ?_ ?_)
      | (with_reducible refine LeO.bind ?_ (fun _ => ?_))
      | exact impl_LogOk.mono _ _
      | exact LeO.none _
      | refine LeO.ite ?_ ?_
      | refine LeO.bind ?_ (fun _ => ?_)
set_option maxHeartbeats 8000000 in
set_option maxRecDepth 100000 in
theorem impl_AddEntry.calls (k : Nat) (A0 : Option Addr) (c0 : Nat) (l0 : List (S74)) (a1_0 : Int) (a1_1 : Int) (a1_2 : Int) (a1_3 : Int) (r1 : List (S74)) (r2 : Bool) (w : World) (hr0 : Kd.C k74 w A0 l0.length l0) (hc0 : l0.length ≤ c0) (h : impl_AddEntry.f k l0 a1_0 a1_1 a1_2 a1_3 = some (r1, r2)) :
    Calls Try.prog 51 #[.slice A0 l0.length c0, .agg #[.int .i64 a1_0, .int .i64 a1_1, .int .i64 a1_2, .int .i64 a1_3]] w fun e w' => ∃ v0_ : Value, e = .returned (.tuple #[v0_, .bool r2]) ∧ Kd.R k74 74 w' w.heap.size (fun _ => True) v0_ r1 ∧ Below w.heap.size w w' := by
  have hu74 := Try.underlying74
  have HR0 := Aside0.mk hr0
  have HC0 := Aside0.mk hc0
  clear hr0 hc0
  have HB := Aside0.mk (Below.refl w.heap.size w)
  have H : ((impl_copyLog.f l0).bind fun t1040 => ((some (([(⟨(⟨a1_0, a1_1⟩ : S56), a1_2, a1_3⟩ : S74)] : List (S74)) : List (S74))).bind fun y1043 => (if t1040.length + y1043.length < 4398046511104 then ((some (t1040 ++ y1043 : List (S74))).bind fun y1046 => ((impl_LogOk.f k l0).bind fun t1049 => (if t1049 = true then ((impl_LogOk.f k y1046).bind fun t1050 => (if t1050 = true then (some (y1046, true)) else ((impl_copyLog.f l0).bind fun t1051 => (some (t1051, false))))) else ((impl_copyLog.f l0).bind fun t1054 => (some (t1054, false)))))) else (none)))) = some (r1, r2) := h
  clear h
  replace H := Option.bind_eq_some_iff.mp H
  obtain ⟨t1040, A30, H⟩ := H
  (try dsimp only at H)
  have A3 := Aside0.mk A30
  clear A30
  obtain ⟨y1043, hy1043⟩ : ∃ y_ : List (S74), y_ = (([(⟨(⟨a1_0, a1_1⟩ : S56), a1_2, a1_3⟩ : S74)] : List (S74))) := ⟨_, rfl⟩
  replace H : (if t1040.length + y1043.length < 4398046511104 then ((some (t1040 ++ y1043 : List (S74))).bind fun y1046 => ((impl_LogOk.f k l0).bind fun t1049 => (if t1049 = true then ((impl_LogOk.f k y1046).bind fun t1050 => (if t1050 = true then (some (y1046, true)) else ((impl_copyLog.f l0).bind fun t1051 => (some (t1051, false))))) else ((impl_copyLog.f l0).bind fun t1054 => (some (t1054, false)))))) else (none)) = some (r1, r2) := by first | (rw [hy1043]; with_reducible exact H) | (have H2_ := (Option.bind_some _ _).symm.trans H; rw [hy1043]; with_reducible exact H2_) | (have H2_ := (Option.bind_some _ _).symm.trans H; with_reducible exact H2_) | with_reducible exact H | (rw [hy1043]; exact H) | exact H
  have Ny1043 := Aside0.mk hy1043
  clear hy1043
  by_cases c4 : t1040.length + y1043.length < 4398046511104
  · rw [if_pos c4] at H
    have LMc4 := Aside0.mk c4
    clear c4
    obtain ⟨y1046, hy1046⟩ : ∃ y_ : List (S74), y_ = (t1040 ++ y1043) := ⟨_, rfl⟩
    replace H : ((impl_LogOk.f k l0).bind fun t1049 => (if t1049 = true then ((impl_LogOk.f k y1046).bind fun t1050 => (if t1050 = true then (some (y1046, true)) else ((impl_copyLog.f l0).bind fun t1051 => (some (t1051, false))))) else ((impl_copyLog.f l0).bind fun t1054 => (some (t1054, false))))) = some (r1, r2) := by first | (rw [hy1046]; with_reducible exact H) | (have H2_ := (Option.bind_some _ _).symm.trans H; rw [hy1046]; with_reducible exact H2_) | (have H2_ := (Option.bind_some _ _).symm.trans H; with_reducible exact H2_) | with_reducible exact H | (rw [hy1046]; exact H) | exact H
    have Ny1046 := Aside0.mk hy1046
    clear hy1046
    replace H := Option.bind_eq_some_iff.mp H
    obtain ⟨t1049, A50, H⟩ := H
    (try dsimp only at H)
    have A5 := Aside0.mk A50
    clear A50
    by_cases c6 : t1049 = true
    · subst c6
      rw [if_pos rfl] at H
      replace H := Option.bind_eq_some_iff.mp H
      obtain ⟨t1050, A70, H⟩ := H
      (try dsimp only at H)
      have A7 := Aside0.mk A70
      clear A70
      by_cases c8 : t1050 = true
      · subst c8
        rw [if_pos rfl] at H
        simp only [Option.some.injEq, Prod.mk.injEq] at H
        obtain ⟨rfl, rfl⟩ := H
        go_enter Try.func51, Try.ntmps51
        try go_wp2_with (first | ((with_reducible refine gate_dst (N := 3) rfl ?_); refine box_event ?hg (N := 3) ?hd (cs := #[.int .i64 a1_0, .int .i64 a1_1, .int .i64 a1_2, .int .i64 a1_3]) (t := 74) ?hr ?_; (case hd => rfl); (case hg => rfl); (case hr => first | (go_simp; done) | (go_simp; rfl)); intro gb1039 hg w9 hbox hb; have n0_ := Aside0.mk (below_step (oB HB) hb); have n1_ := Aside0.mk (hbox); have n2_ := Aside0.mk ((by rw [hg]; exact (below_size (oB HB)) : w.heap.size ≤ gb1039)); have n3_ := Aside0.mk ((by rw [hg]; exact (below_size (oB HB)) : w.heap.size ≤ gb1039)); clear HB; have HB := n0_; have BK1039 := n1_; have GW1039 := n2_; have GE1039 := n3_; clear n0_ n1_ n2_ n3_; clear hb hbox hg))
        have n0_ := Aside0.mk (blk_drew BK1039.out)
        have n1_ := Aside0.mk (below_drew1 HB.out)
        clear BK1039
        clear HB
        have BK1039 := n0_
        have HB := n1_
        clear n0_ n1_
        refine start_ (n := 6) (S := fun w' => w'.cell? ⟨gb1039, 0, none⟩ = some (.int .i64 a1_0) ∧ w'.cell? ⟨gb1039, 1, none⟩ = some (.int .i64 a1_1) ∧ w'.cell? ⟨gb1039, 2, none⟩ = some (.int .i64 a1_2) ∧ w'.cell? ⟨gb1039, 3, none⟩ = some (.int .i64 a1_3)) (ds := []) #[false, false, false, false, false, false] (by kernel_rfl) rfl rfl ⟨(blk_cell BK1039.out 0).trans rfl, (blk_cell BK1039.out 1).trans rfl, (blk_cell BK1039.out 2).trans rfl, (blk_cell BK1039.out 3).trans rfl⟩ (fun hHeld => ?_)
        generalize w9.drew = w10 at BK1039 HB hHeld ⊢
        refine pure_ (i := 0) (N := some 7) (v := ?_) (a' := ?_) #[true, false, false, false, false, false] rfl rfl (by kernel_rfl) (fun _ _ _ h => h) (Or.inl ⟨by rfl, ?_⟩) ?_ ?_
        rotate_left
        · intro w'
          go_simp
          with_reducible rfl
        rotate_left
        · simp only [Act.put, List.setIfInBounds_toArray, List.set_cons_zero, List.set_cons_succ, i64_w, i32_w]
          rfl
        refine take_ (i := 2) (N := some 9) (v := ?_) (a' := ?_) #[true, false, true, false, false, false] rfl rfl (by kernel_rfl) (fun _ _ _ h => h) (Or.inl ⟨by rfl, ?_⟩) hHeld ?_ ?_
        rotate_left
        · rintro w' ⟨s0, s1, s2, s3⟩
          go_simp
          with_reducible rfl
        rotate_left
        · simp only [Act.put, List.setIfInBounds_toArray, List.set_cons_zero, List.set_cons_succ, i64_w, i32_w]
          rfl
        refine join_ (σ := Value × Value) 2 #[true, true, true, true, false, false] (fun s_ => [(8, s_.1), (10, s_.2)]) (fun s_ w' => (w'.cell? ⟨gb1039, 0, none⟩ = some (.int .i64 a1_0) ∧ w'.cell? ⟨gb1039, 1, none⟩ = some (.int .i64 a1_1) ∧ w'.cell? ⟨gb1039, 2, none⟩ = some (.int .i64 a1_2) ∧ w'.cell? ⟨gb1039, 3, none⟩ = some (.int .i64 a1_3)) ∧ (Kd.R k74 74 w' w.heap.size (fun k_ => some k_ ≠ (s_.2 : Value).ownBlock ∧ k_ ≠ gb1039) s_.1 t1040) ∧ (Kd.R k74 74 w' w.heap.size (fun k_ => some k_ ≠ (s_.1 : Value).ownBlock ∧ k_ ≠ gb1039) s_.2 y1043) ∧ (w'.heap[gb1039]? = some (.cells #[.int .i64 a1_0, .int .i64 a1_1, .int .i64 a1_2, .int .i64 a1_3] 74 (0, 0))) ∧ (Below w.heap.size w w')) ?_ ?_
        rotate_left
        · intro hCont
          refine two_ (i := 1) (j := 3) (Ni := some 8) (Nj := some 10) #[true, true, true, false, false, false] #[true, false, true, true, false, false] rfl rfl rfl rfl (by kernel_rfl) (by decide) (by decide) (fun K hK => ?_) (fun K hK => ?_)
          · skip
            refine goes_ Try.func94 (by kernel_rfl) rfl #[.slice A0 l0.length c0] (by rfl) rfl rfl (by (try simp only [List.map_toArray, List.map_cons, List.map_nil]); first | done | rfl | (simp only [List.length_drop, List.length_take]; rfl)) ?_
            with_reducible refine (impl_copyLog.calls _ _ l0 t1040 _ ?side1 ?side2 A3.out).mono ?_
            (case side1 => exact oc_ HR0.out)
            (case side2 => exact HC0.out)
            rintro e w11 ⟨v1041, rfl, ho0, hb⟩
            refine ⟨_, rfl, ?_⟩
            have n0_ := Aside0.mk (Kd.R_lower (Kd.R_newB ho0 (g := gb1039) (o := .cells #[.int .i64 a1_0, .int .i64 a1_1, .int .i64 a1_2, .int .i64 a1_3] 74 (0, 0)) (oK BK1039)) (below_size (oB HB)))
            have n1_ := Aside0.mk (blk_below (g := gb1039) (o := .cells #[.int .i64 a1_0, .int .i64 a1_1, .int .i64 a1_2, .int .i64 a1_3] 74 (0, 0)) (oK BK1039) hb)
            have n2_ := Aside0.mk (below_step (oB HB) hb)
            clear BK1039
            clear HB
            have HO1042 := n0_
            have BK1039 := n1_
            have HB := n2_
            clear n0_ n1_ n2_
            (try clear hb)
            (try clear hb2)
            (try clear hk)
            (try clear hi)
            (try clear ho0)
            refine hK.out _ _ ⟨(blk_cell BK1039.out 0).trans rfl, (blk_cell BK1039.out 1).trans rfl, (blk_cell BK1039.out 2).trans rfl, (blk_cell BK1039.out 3).trans rfl⟩ (fun hHeld => ?_)
            clear hK K
            refine norm_ (a' := ?_) ?_ ?_
            rotate_left
            · show Act.put _ (some 8) _ = _
              simp only [Act.put, List.setIfInBounds_toArray, List.set_cons_zero, List.set_cons_succ, i64_w, i32_w]
              rfl
            refine one_ (i := 3) (N := some 10) #[true, true, true, true, false, false] rfl rfl (by kernel_rfl) (by decide) (fun K hK => ?_)
            refine Kd.R_lit_step k74 _ 74 ?hg (N := 10) ?hd (xs := ([(⟨(⟨a1_0, a1_1⟩ : S56), a1_2, a1_3⟩ : S74)] : List (S74))) (inner := [.int .i64 a1_0, .int .i64 a1_1, .int .i64 a1_2, .int .i64 a1_3]) (ok := fun _ => True) (okp := fun _ => True) ?hr ?hp (fun _ hk => hk) trivial (Below.refl _ _) (Nat.le_refl _) (by simp) ?_; (case hd => rfl); (case hg => rfl); (case hr => first | (go_simp; done) | (go_simp; rfl)); (case hp => exact (Reps.c4 (show Kd.M k74 _ _ _ (⟨(⟨a1_0, a1_1⟩ : S56), a1_2, a1_3⟩ : S74) [.int .i64 a1_0, .int .i64 a1_1, .int .i64 a1_2, .int .i64 a1_3] from (k74_mkM _ _ _ (⟨(⟨a1_0, a1_1⟩ : S56), a1_2, a1_3⟩ : S74) )) (Reps.none _ _)))
            intro v1044 w12 ho13 hb hg_ hnew_
            clear hg_ hnew_
            (first | rw [← Ny1043.out] at ho13 | (simp only [Int.reduceToNat] at ho13; rw [← Ny1043.out] at ho13))
            have n0_ := Aside0.mk (Kd.R_elder' (oR HO1042) (Kd.R_base ho13) hb)
            have n1_ := Aside0.mk (Kd.R_lower (Kd.R_newB (Kd.R_new' ho13 (Kd.R_lt (oR HO1042))) (g := gb1039) (o := .cells #[.int .i64 a1_0, .int .i64 a1_1, .int .i64 a1_2, .int .i64 a1_3] 74 (0, 0)) (oK BK1039)) (below_size (oB HB)))
            have n2_ := Aside0.mk (blk_below (g := gb1039) (o := .cells #[.int .i64 a1_0, .int .i64 a1_1, .int .i64 a1_2, .int .i64 a1_3] 74 (0, 0)) (oK BK1039) hb)
            have n3_ := Aside0.mk (below_step (oB HB) hb)
            clear HO1042
            clear BK1039
            clear HB
            have HO1042 := n0_
            have HO1045 := n1_
            have BK1039 := n2_
            have HB := n3_
            clear n0_ n1_ n2_ n3_
            clear hb ho13
            refine hK.out _ _ ⟨(blk_cell BK1039.out 0).trans rfl, (blk_cell BK1039.out 1).trans rfl, (blk_cell BK1039.out 2).trans rfl, (blk_cell BK1039.out 3).trans rfl⟩ (fun hHeld => ?_)
            clear hK K
            refine norm_ (a' := ?_) ?_ ?_
            rotate_left
            · show Act.put _ (some 10) _ = _
              simp only [Act.put, List.setIfInBounds_toArray, List.set_cons_zero, List.set_cons_succ, i64_w, i32_w]
              rfl
            exact norm_ (by simp only [putAll, Act.put, List.setIfInBounds_toArray, List.set_cons_zero, List.set_cons_succ]) (hCont (v1041, v1044) _ ⟨hHeld, (by (with_reducible repeat (first | apply Kd.R_alloc | apply Kd.R_drewN | apply Kd.R_drew)); exact Kd.R_mono HO1042.out (fun _ hk => ⟨hk.2, hk.1.2⟩)), (by (with_reducible repeat (first | apply Kd.R_alloc | apply Kd.R_drewN | apply Kd.R_drew)); exact Kd.R_mono HO1045.out (fun _ hk => ⟨hk.1.2, hk.2⟩)), (oK BK1039), (oB HB)⟩)
          · skip
            refine Kd.R_lit_step k74 _ 74 ?hg (N := 10) ?hd (xs := ([(⟨(⟨a1_0, a1_1⟩ : S56), a1_2, a1_3⟩ : S74)] : List (S74))) (inner := [.int .i64 a1_0, .int .i64 a1_1, .int .i64 a1_2, .int .i64 a1_3]) (ok := fun _ => True) (okp := fun _ => True) ?hr ?hp (fun _ hk => hk) trivial (Below.refl _ _) (Nat.le_refl _) (by simp) ?_; (case hd => rfl); (case hg => rfl); (case hr => first | (go_simp; done) | (go_simp; rfl)); (case hp => exact (Reps.c4 (show Kd.M k74 _ _ _ (⟨(⟨a1_0, a1_1⟩ : S56), a1_2, a1_3⟩ : S74) [.int .i64 a1_0, .int .i64 a1_1, .int .i64 a1_2, .int .i64 a1_3] from (k74_mkM _ _ _ (⟨(⟨a1_0, a1_1⟩ : S56), a1_2, a1_3⟩ : S74) )) (Reps.none _ _)))
            intro v1044 w11 ho12 hb hg_ hnew_
            clear hg_ hnew_
            (first | rw [← Ny1043.out] at ho12 | (simp only [Int.reduceToNat] at ho12; rw [← Ny1043.out] at ho12))
            have n0_ := Aside0.mk (Kd.R_lower (Kd.R_newB ho12 (g := gb1039) (o := .cells #[.int .i64 a1_0, .int .i64 a1_1, .int .i64 a1_2, .int .i64 a1_3] 74 (0, 0)) (oK BK1039)) (below_size (oB HB)))
            have n1_ := Aside0.mk (blk_below (g := gb1039) (o := .cells #[.int .i64 a1_0, .int .i64 a1_1, .int .i64 a1_2, .int .i64 a1_3] 74 (0, 0)) (oK BK1039) hb)
            have n2_ := Aside0.mk (below_step (oB HB) hb)
            clear BK1039
            clear HB
            have HO1045 := n0_
            have BK1039 := n1_
            have HB := n2_
            clear n0_ n1_ n2_
            clear hb ho12
            refine hK.out _ _ ⟨(blk_cell BK1039.out 0).trans rfl, (blk_cell BK1039.out 1).trans rfl, (blk_cell BK1039.out 2).trans rfl, (blk_cell BK1039.out 3).trans rfl⟩ (fun hHeld => ?_)
            clear hK K
            refine norm_ (a' := ?_) ?_ ?_
            rotate_left
            · show Act.put _ (some 10) _ = _
              simp only [Act.put, List.setIfInBounds_toArray, List.set_cons_zero, List.set_cons_succ, i64_w, i32_w]
              rfl
            refine one_ (i := 1) (N := some 8) #[true, true, true, true, false, false] rfl rfl (by kernel_rfl) (by decide) (fun K hK => ?_)
            refine goes_ Try.func94 (by kernel_rfl) rfl #[.slice A0 l0.length c0] (by rfl) rfl rfl (by (try simp only [List.map_toArray, List.map_cons, List.map_nil]); first | done | rfl | (simp only [List.length_drop, List.length_take]; rfl)) ?_
            with_reducible refine (impl_copyLog.calls _ _ l0 t1040 _ ?side1 ?side2 A3.out).mono ?_
            (case side1 => exact oc_ HR0.out)
            (case side2 => exact HC0.out)
            rintro e w13 ⟨v1041, rfl, ho0, hb⟩
            refine ⟨_, rfl, ?_⟩
            have n0_ := Aside0.mk (Kd.R_elder' (oR HO1045) (Kd.R_base ho0) hb)
            have n1_ := Aside0.mk (Kd.R_lower (Kd.R_newB (Kd.R_new' ho0 (Kd.R_lt (oR HO1045))) (g := gb1039) (o := .cells #[.int .i64 a1_0, .int .i64 a1_1, .int .i64 a1_2, .int .i64 a1_3] 74 (0, 0)) (oK BK1039)) (below_size (oB HB)))
            have n2_ := Aside0.mk (blk_below (g := gb1039) (o := .cells #[.int .i64 a1_0, .int .i64 a1_1, .int .i64 a1_2, .int .i64 a1_3] 74 (0, 0)) (oK BK1039) hb)
            have n3_ := Aside0.mk (below_step (oB HB) hb)
            clear HO1045
            clear BK1039
            clear HB
            have HO1045 := n0_
            have HO1042 := n1_
            have BK1039 := n2_
            have HB := n3_
            clear n0_ n1_ n2_ n3_
            (try clear hb)
            (try clear hb2)
            (try clear hk)
            (try clear hi)
            (try clear ho0)
            refine hK.out _ _ ⟨(blk_cell BK1039.out 0).trans rfl, (blk_cell BK1039.out 1).trans rfl, (blk_cell BK1039.out 2).trans rfl, (blk_cell BK1039.out 3).trans rfl⟩ (fun hHeld => ?_)
            clear hK K
            refine norm_ (a' := ?_) ?_ ?_
            rotate_left
            · show Act.put _ (some 8) _ = _
              simp only [Act.put, List.setIfInBounds_toArray, List.set_cons_zero, List.set_cons_succ, i64_w, i32_w]
              rfl
            exact norm_ (by simp only [putAll, Act.put, List.setIfInBounds_toArray, List.set_cons_zero, List.set_cons_succ]) (hCont (v1041, v1044) _ ⟨hHeld, (by (with_reducible repeat (first | apply Kd.R_alloc | apply Kd.R_drewN | apply Kd.R_drew)); exact Kd.R_mono HO1042.out (fun _ hk => ⟨hk.1.2, hk.2⟩)), (by (with_reducible repeat (first | apply Kd.R_alloc | apply Kd.R_drewN | apply Kd.R_drew)); exact Kd.R_mono HO1045.out (fun _ hk => ⟨hk.2, hk.1.2⟩)), (oK BK1039), (oB HB)⟩)
        rintro ⟨v1041, v1044⟩ w14 ⟨hS_, h0_, h1_, h2_, h3_⟩
        have n0_ : Aside0 (Kd.R k74 74 w14 w.heap.size (fun k_ => some k_ ≠ (v1044 : Value).ownBlock ∧ k_ ≠ gb1039) v1041 t1040) := ⟨h0_⟩
        have n1_ : Aside0 (Kd.R k74 74 w14 w.heap.size (fun k_ => some k_ ≠ (v1041 : Value).ownBlock ∧ k_ ≠ gb1039) v1044 y1043) := ⟨h1_⟩
        have n2_ : Aside0 (w14.heap[gb1039]? = some (.cells #[.int .i64 a1_0, .int .i64 a1_1, .int .i64 a1_2, .int .i64 a1_3] 74 (0, 0))) := ⟨h2_⟩
        have n3_ : Aside0 (Below w.heap.size w w14) := ⟨h3_⟩
        clear BK1039
        clear HB
        clear h0_ h1_ h2_ h3_
        have HO1042 := n0_
        have HO1045 := n1_
        have BK1039 := n2_
        have HB := n3_
        clear n0_ n1_ n2_ n3_
        have hHeld : w14.cell? ⟨gb1039, 0, none⟩ = some (.int .i64 a1_0) ∧ w14.cell? ⟨gb1039, 1, none⟩ = some (.int .i64 a1_1) ∧ w14.cell? ⟨gb1039, 2, none⟩ = some (.int .i64 a1_2) ∧ w14.cell? ⟨gb1039, 3, none⟩ = some (.int .i64 a1_3) := hS_
        obtain ⟨Ao16, co16, eo16⟩ := Kd.R_slice HO1045.out
        (first | subst eo16 | (injection eo16 with f1_ f2_ f3_; have f4_ := f1_.symm; have f5_ := f3_.symm; clear f1_ f2_ f3_; subst f4_; subst f5_))
        refine norm_ (a' := ?_) ?_ ?_
        rotate_left
        · simp only [putAll, Act.put, List.setIfInBounds_toArray, List.set_cons_zero, List.set_cons_succ]
          rfl
        refine one_ (i := 4) (N := some 11) #[true, true, true, true, true, false] rfl rfl (by kernel_rfl) (by decide) (fun K hK => ?_)
        refine Kd.R_append_rows_step k74 (w0 := w) w.heap.size (by rfl) (.tmp 8) (.tmp 10) 34 74 (.agg #[(.int .i64 0), (.int .i64 0), (.int .i64 0), (.int .i64 0)]) 32 rfl Try.underlying34 info74 rfl (by decide) (by omega) v1041 t1040 y1043 _ _ _ (fun k_ => some k_ ≠ (.slice Ao16 y1043.length co16 : Value).ownBlock ∧ k_ ≠ gb1039) (fun _ => False) rfl rfl ?aO ?aR (fun _ _ h => h) (fun _ h => h.elim) ?aF ?aB ?aS ?aL ?_
        (case aR => repeat (first | exact (Kd.R_reads' HO1045.out).2.2 | (with_reducible refine Kd.C_alloc ?_ _) | (with_reducible refine Kd.C_drewN ?_ _) | (with_reducible refine Kd.C_drew ?_)))
        (case aB => exact (oB HB))
        (case aF => exact (fun k_ hk => ⟨Kd.fresh' (Kd.R_lt (oR HO1045)) k_ hk, Kd.freshB (g := gb1039) (o := .cells #[.int .i64 a1_0, .int .i64 a1_1, .int .i64 a1_2, .int .i64 a1_3] 74 (0, 0)) (oK BK1039) k_ hk⟩))
        (case aO => exact (oR HO1042))
        (case aS => exact (below_size (oB HB)))
        (case aL => have := LMc4.out; omega)
        intro v1047 w15 ho hb hg hat
        rw [← Ny1046.out] at ho
        have n0_ := Aside0.mk (blk_grown (g := gb1039) (o := .cells #[.int .i64 a1_0, .int .i64 a1_1, .int .i64 a1_2, .int .i64 a1_3] 74 (0, 0)) (oK BK1039) hg (Kd.R_away HO1042.out (fun _ hk => hk.2)))
        have n1_ := Aside0.mk (Kd.R_after (ok := (fun k_ => k_ ≠ gb1039)) (by (with_reducible repeat (first | apply Kd.R_alloc | apply Kd.R_drewN | apply Kd.R_drew)); exact Kd.R_mono HO1045.out (fun _ hk => ⟨hk.2, hk.1⟩)) hg hat)
        have n2_ := Aside0.mk (hb)
        have n3_ := Aside0.mk (ho)
        clear BK1039
        clear HO1045
        clear HB
        clear HO1042
        have BK1039 := n0_
        have HO1045 := n1_
        have HB := n2_
        have HO1048 := n3_
        clear n0_ n1_ n2_ n3_
        clear ho hb hg hat
        refine hK.out _ _ ⟨(blk_cell BK1039.out 0).trans rfl, (blk_cell BK1039.out 1).trans rfl, (blk_cell BK1039.out 2).trans rfl, (blk_cell BK1039.out 3).trans rfl⟩ (fun hHeld => ?_)
        clear hK K
        refine norm_ (a' := ?_) ?_ ?_
        rotate_left
        · show Act.put _ (some 11) _ = _
          simp only [Act.put, List.setIfInBounds_toArray, List.set_cons_zero, List.set_cons_succ, i64_w, i32_w]
          rfl
        refine pure_ (i := 5) (N := some 6) (v := ?_) (a' := ?_) #[true, true, true, true, true, true] rfl rfl (by kernel_rfl) (fun _ _ _ h => h) (Or.inl ⟨by rfl, ?_⟩) ?_ ?_
        rotate_left
        · intro w'
          go_simp
          with_reducible rfl
        rotate_left
        · simp only [Act.put, List.setIfInBounds_toArray, List.set_cons_zero, List.set_cons_succ, i64_w, i32_w]
          rfl
        refine done_ (by kernel_rfl) ?_
        try go_wp2_with (first | ((with_reducible refine gate_callee (f := 65) rfl ?_); refine goesL_ (some 13) rfl rfl Try.func65 (by kernel_rfl) rfl #[.slice A0 l0.length c0] rfl (by (try simp only [List.map_toArray, List.map_cons, List.map_nil]); first | done | rfl | (simp only [List.length_drop, List.length_take]; rfl)) ?_; (with_reducible refine (impl_LogOk.calls k _ _ l0 true _ ?side1 ?side2 A5.out).mono ?_); (case side1 => exact oc_ HR0.out); (case side2 => exact HC0.out); rintro e w17 ⟨rfl, hb⟩; refine ⟨_, rfl, ?_⟩; have n0_ := Aside0.mk (Kd.R_below (oR HO1045) hb); have n1_ := Aside0.mk (Kd.R_below (oR HO1048) hb); have n2_ := Aside0.mk (blk_below (g := gb1039) (o := .cells #[.int .i64 a1_0, .int .i64 a1_1, .int .i64 a1_2, .int .i64 a1_3] 74 (0, 0)) (oK BK1039) hb); have n3_ := Aside0.mk (below_step (oB HB) hb); clear HO1045; clear HO1048; clear BK1039; clear HB; have HO1045 := n0_; have HO1048 := n1_; have BK1039 := n2_; have HB := n3_; clear n0_ n1_ n2_ n3_; (try clear hb); (try clear hb2); (try clear hk); (try clear hi); obtain ⟨Ao18, co18, eo18⟩ := Kd.R_slice HO1048.out; subst eo18) | (go_at_call 65; (with_reducible refine (impl_LogOk.calls k _ _ y1046 true _ ?side1 ?side2 A7.out).mono ?_); (case side1 => repeat (first | exact (Kd.R_reads' HO1048.out).2.2 | (with_reducible refine Kd.C_alloc ?_ _) | (with_reducible refine Kd.C_drewN ?_ _) | (with_reducible refine Kd.C_drew ?_))); (case side2 => exact (Kd.R_reads' HO1048.out).2.1); rintro e w19 ⟨rfl, hb⟩; have n0_ := Aside0.mk (Kd.R_below (oR HO1045) hb); have n1_ := Aside0.mk (Kd.R_below (oR HO1048) hb); have n2_ := Aside0.mk (blk_below (g := gb1039) (o := .cells #[.int .i64 a1_0, .int .i64 a1_1, .int .i64 a1_2, .int .i64 a1_3] 74 (0, 0)) (oK BK1039) hb); have n3_ := Aside0.mk (below_step (oB HB) hb); clear HO1045; clear HO1048; clear BK1039; clear HB; have HO1045 := n0_; have HO1048 := n1_; have BK1039 := n2_; have HB := n3_; clear n0_ n1_ n2_ n3_; (try clear hb); (try clear hb2); (try clear hk); (try clear hi)))
        go_ret2
        exact ⟨_, by first | rfl | (simp [errW_none, errW_some] <;> rfl) | (simp [*, errW_none, errW_some] <;> rfl), by (with_reducible repeat (first | apply Kd.R_alloc | apply Kd.R_drewN | apply Kd.R_drew)); exact Kd.R_mono HO1048.out (fun _ hk => trivial), oB HB⟩
      · replace c8 := Bool.eq_false_iff.mpr c8
        subst c8
        rw [if_neg (show ¬ (false = true) by decide)] at H
        replace H := Option.bind_eq_some_iff.mp H
        obtain ⟨t1051, A200, H⟩ := H
        (try dsimp only at H)
        have A20 := Aside0.mk A200
        clear A200
        simp only [Option.some.injEq, Prod.mk.injEq] at H
        obtain ⟨rfl, rfl⟩ := H
        go_enter Try.func51, Try.ntmps51
        try go_wp2_with (first | ((with_reducible refine gate_dst (N := 3) rfl ?_); refine box_event ?hg (N := 3) ?hd (cs := #[.int .i64 a1_0, .int .i64 a1_1, .int .i64 a1_2, .int .i64 a1_3]) (t := 74) ?hr ?_; (case hd => rfl); (case hg => rfl); (case hr => first | (go_simp; done) | (go_simp; rfl)); intro gb1039 hg w21 hbox hb; have n0_ := Aside0.mk (below_step (oB HB) hb); have n1_ := Aside0.mk (hbox); have n2_ := Aside0.mk ((by rw [hg]; exact (below_size (oB HB)) : w.heap.size ≤ gb1039)); have n3_ := Aside0.mk ((by rw [hg]; exact (below_size (oB HB)) : w.heap.size ≤ gb1039)); clear HB; have HB := n0_; have BK1039 := n1_; have GW1039 := n2_; have GE1039 := n3_; clear n0_ n1_ n2_ n3_; clear hb hbox hg))
        have n0_ := Aside0.mk (blk_drew BK1039.out)
        have n1_ := Aside0.mk (below_drew1 HB.out)
        clear BK1039
        clear HB
        have BK1039 := n0_
        have HB := n1_
        clear n0_ n1_
        refine start_ (n := 6) (S := fun w' => w'.cell? ⟨gb1039, 0, none⟩ = some (.int .i64 a1_0) ∧ w'.cell? ⟨gb1039, 1, none⟩ = some (.int .i64 a1_1) ∧ w'.cell? ⟨gb1039, 2, none⟩ = some (.int .i64 a1_2) ∧ w'.cell? ⟨gb1039, 3, none⟩ = some (.int .i64 a1_3)) (ds := []) #[false, false, false, false, false, false] (by kernel_rfl) rfl rfl ⟨(blk_cell BK1039.out 0).trans rfl, (blk_cell BK1039.out 1).trans rfl, (blk_cell BK1039.out 2).trans rfl, (blk_cell BK1039.out 3).trans rfl⟩ (fun hHeld => ?_)
        generalize w21.drew = w22 at BK1039 HB hHeld ⊢
        refine pure_ (i := 0) (N := some 7) (v := ?_) (a' := ?_) #[true, false, false, false, false, false] rfl rfl (by kernel_rfl) (fun _ _ _ h => h) (Or.inl ⟨by rfl, ?_⟩) ?_ ?_
        rotate_left
        · intro w'
          go_simp
          with_reducible rfl
        rotate_left
        · simp only [Act.put, List.setIfInBounds_toArray, List.set_cons_zero, List.set_cons_succ, i64_w, i32_w]
          rfl
        refine take_ (i := 2) (N := some 9) (v := ?_) (a' := ?_) #[true, false, true, false, false, false] rfl rfl (by kernel_rfl) (fun _ _ _ h => h) (Or.inl ⟨by rfl, ?_⟩) hHeld ?_ ?_
        rotate_left
        · rintro w' ⟨s0, s1, s2, s3⟩
          go_simp
          with_reducible rfl
        rotate_left
        · simp only [Act.put, List.setIfInBounds_toArray, List.set_cons_zero, List.set_cons_succ, i64_w, i32_w]
          rfl
        refine join_ (σ := Value × Value) 2 #[true, true, true, true, false, false] (fun s_ => [(8, s_.1), (10, s_.2)]) (fun s_ w' => (w'.cell? ⟨gb1039, 0, none⟩ = some (.int .i64 a1_0) ∧ w'.cell? ⟨gb1039, 1, none⟩ = some (.int .i64 a1_1) ∧ w'.cell? ⟨gb1039, 2, none⟩ = some (.int .i64 a1_2) ∧ w'.cell? ⟨gb1039, 3, none⟩ = some (.int .i64 a1_3)) ∧ (Kd.R k74 74 w' w.heap.size (fun k_ => some k_ ≠ (s_.2 : Value).ownBlock ∧ k_ ≠ gb1039) s_.1 t1040) ∧ (Kd.R k74 74 w' w.heap.size (fun k_ => some k_ ≠ (s_.1 : Value).ownBlock ∧ k_ ≠ gb1039) s_.2 y1043) ∧ (w'.heap[gb1039]? = some (.cells #[.int .i64 a1_0, .int .i64 a1_1, .int .i64 a1_2, .int .i64 a1_3] 74 (0, 0))) ∧ (Below w.heap.size w w')) ?_ ?_
        rotate_left
        · intro hCont
          refine two_ (i := 1) (j := 3) (Ni := some 8) (Nj := some 10) #[true, true, true, false, false, false] #[true, false, true, true, false, false] rfl rfl rfl rfl (by kernel_rfl) (by decide) (by decide) (fun K hK => ?_) (fun K hK => ?_)
          · skip
            refine goes_ Try.func94 (by kernel_rfl) rfl #[.slice A0 l0.length c0] (by rfl) rfl rfl (by (try simp only [List.map_toArray, List.map_cons, List.map_nil]); first | done | rfl | (simp only [List.length_drop, List.length_take]; rfl)) ?_
            with_reducible refine (impl_copyLog.calls _ _ l0 t1040 _ ?side1 ?side2 A3.out).mono ?_
            (case side1 => exact oc_ HR0.out)
            (case side2 => exact HC0.out)
            rintro e w23 ⟨v1041, rfl, ho0, hb⟩
            refine ⟨_, rfl, ?_⟩
            have n0_ := Aside0.mk (Kd.R_lower (Kd.R_newB ho0 (g := gb1039) (o := .cells #[.int .i64 a1_0, .int .i64 a1_1, .int .i64 a1_2, .int .i64 a1_3] 74 (0, 0)) (oK BK1039)) (below_size (oB HB)))
            have n1_ := Aside0.mk (blk_below (g := gb1039) (o := .cells #[.int .i64 a1_0, .int .i64 a1_1, .int .i64 a1_2, .int .i64 a1_3] 74 (0, 0)) (oK BK1039) hb)
            have n2_ := Aside0.mk (below_step (oB HB) hb)
            clear BK1039
            clear HB
            have HO1042 := n0_
            have BK1039 := n1_
            have HB := n2_
            clear n0_ n1_ n2_
            (try clear hb)
            (try clear hb2)
            (try clear hk)
            (try clear hi)
            (try clear ho0)
            refine hK.out _ _ ⟨(blk_cell BK1039.out 0).trans rfl, (blk_cell BK1039.out 1).trans rfl, (blk_cell BK1039.out 2).trans rfl, (blk_cell BK1039.out 3).trans rfl⟩ (fun hHeld => ?_)
            clear hK K
            refine norm_ (a' := ?_) ?_ ?_
            rotate_left
            · show Act.put _ (some 8) _ = _
              simp only [Act.put, List.setIfInBounds_toArray, List.set_cons_zero, List.set_cons_succ, i64_w, i32_w]
              rfl
            refine one_ (i := 3) (N := some 10) #[true, true, true, true, false, false] rfl rfl (by kernel_rfl) (by decide) (fun K hK => ?_)
            refine Kd.R_lit_step k74 _ 74 ?hg (N := 10) ?hd (xs := ([(⟨(⟨a1_0, a1_1⟩ : S56), a1_2, a1_3⟩ : S74)] : List (S74))) (inner := [.int .i64 a1_0, .int .i64 a1_1, .int .i64 a1_2, .int .i64 a1_3]) (ok := fun _ => True) (okp := fun _ => True) ?hr ?hp (fun _ hk => hk) trivial (Below.refl _ _) (Nat.le_refl _) (by simp) ?_; (case hd => rfl); (case hg => rfl); (case hr => first | (go_simp; done) | (go_simp; rfl)); (case hp => exact (Reps.c4 (show Kd.M k74 _ _ _ (⟨(⟨a1_0, a1_1⟩ : S56), a1_2, a1_3⟩ : S74) [.int .i64 a1_0, .int .i64 a1_1, .int .i64 a1_2, .int .i64 a1_3] from (k74_mkM _ _ _ (⟨(⟨a1_0, a1_1⟩ : S56), a1_2, a1_3⟩ : S74) )) (Reps.none _ _)))
            intro v1044 w24 ho25 hb hg_ hnew_
            clear hg_ hnew_
            (first | rw [← Ny1043.out] at ho25 | (simp only [Int.reduceToNat] at ho25; rw [← Ny1043.out] at ho25))
            have n0_ := Aside0.mk (Kd.R_elder' (oR HO1042) (Kd.R_base ho25) hb)
            have n1_ := Aside0.mk (Kd.R_lower (Kd.R_newB (Kd.R_new' ho25 (Kd.R_lt (oR HO1042))) (g := gb1039) (o := .cells #[.int .i64 a1_0, .int .i64 a1_1, .int .i64 a1_2, .int .i64 a1_3] 74 (0, 0)) (oK BK1039)) (below_size (oB HB)))
            have n2_ := Aside0.mk (blk_below (g := gb1039) (o := .cells #[.int .i64 a1_0, .int .i64 a1_1, .int .i64 a1_2, .int .i64 a1_3] 74 (0, 0)) (oK BK1039) hb)
            have n3_ := Aside0.mk (below_step (oB HB) hb)
            clear HO1042
            clear BK1039
            clear HB
            have HO1042 := n0_
            have HO1045 := n1_
            have BK1039 := n2_
            have HB := n3_
            clear n0_ n1_ n2_ n3_
            clear hb ho25
            refine hK.out _ _ ⟨(blk_cell BK1039.out 0).trans rfl, (blk_cell BK1039.out 1).trans rfl, (blk_cell BK1039.out 2).trans rfl, (blk_cell BK1039.out 3).trans rfl⟩ (fun hHeld => ?_)
            clear hK K
            refine norm_ (a' := ?_) ?_ ?_
            rotate_left
            · show Act.put _ (some 10) _ = _
              simp only [Act.put, List.setIfInBounds_toArray, List.set_cons_zero, List.set_cons_succ, i64_w, i32_w]
              rfl
            exact norm_ (by simp only [putAll, Act.put, List.setIfInBounds_toArray, List.set_cons_zero, List.set_cons_succ]) (hCont (v1041, v1044) _ ⟨hHeld, (by (with_reducible repeat (first | apply Kd.R_alloc | apply Kd.R_drewN | apply Kd.R_drew)); exact Kd.R_mono HO1042.out (fun _ hk => ⟨hk.2, hk.1.2⟩)), (by (with_reducible repeat (first | apply Kd.R_alloc | apply Kd.R_drewN | apply Kd.R_drew)); exact Kd.R_mono HO1045.out (fun _ hk => ⟨hk.1.2, hk.2⟩)), (oK BK1039), (oB HB)⟩)
          · skip
            refine Kd.R_lit_step k74 _ 74 ?hg (N := 10) ?hd (xs := ([(⟨(⟨a1_0, a1_1⟩ : S56), a1_2, a1_3⟩ : S74)] : List (S74))) (inner := [.int .i64 a1_0, .int .i64 a1_1, .int .i64 a1_2, .int .i64 a1_3]) (ok := fun _ => True) (okp := fun _ => True) ?hr ?hp (fun _ hk => hk) trivial (Below.refl _ _) (Nat.le_refl _) (by simp) ?_; (case hd => rfl); (case hg => rfl); (case hr => first | (go_simp; done) | (go_simp; rfl)); (case hp => exact (Reps.c4 (show Kd.M k74 _ _ _ (⟨(⟨a1_0, a1_1⟩ : S56), a1_2, a1_3⟩ : S74) [.int .i64 a1_0, .int .i64 a1_1, .int .i64 a1_2, .int .i64 a1_3] from (k74_mkM _ _ _ (⟨(⟨a1_0, a1_1⟩ : S56), a1_2, a1_3⟩ : S74) )) (Reps.none _ _)))
            intro v1044 w23 ho24 hb hg_ hnew_
            clear hg_ hnew_
            (first | rw [← Ny1043.out] at ho24 | (simp only [Int.reduceToNat] at ho24; rw [← Ny1043.out] at ho24))
            have n0_ := Aside0.mk (Kd.R_lower (Kd.R_newB ho24 (g := gb1039) (o := .cells #[.int .i64 a1_0, .int .i64 a1_1, .int .i64 a1_2, .int .i64 a1_3] 74 (0, 0)) (oK BK1039)) (below_size (oB HB)))
            have n1_ := Aside0.mk (blk_below (g := gb1039) (o := .cells #[.int .i64 a1_0, .int .i64 a1_1, .int .i64 a1_2, .int .i64 a1_3] 74 (0, 0)) (oK BK1039) hb)
            have n2_ := Aside0.mk (below_step (oB HB) hb)
            clear BK1039
            clear HB
            have HO1045 := n0_
            have BK1039 := n1_
            have HB := n2_
            clear n0_ n1_ n2_
            clear hb ho24
            refine hK.out _ _ ⟨(blk_cell BK1039.out 0).trans rfl, (blk_cell BK1039.out 1).trans rfl, (blk_cell BK1039.out 2).trans rfl, (blk_cell BK1039.out 3).trans rfl⟩ (fun hHeld => ?_)
            clear hK K
            refine norm_ (a' := ?_) ?_ ?_
            rotate_left
            · show Act.put _ (some 10) _ = _
              simp only [Act.put, List.setIfInBounds_toArray, List.set_cons_zero, List.set_cons_succ, i64_w, i32_w]
              rfl
            refine one_ (i := 1) (N := some 8) #[true, true, true, true, false, false] rfl rfl (by kernel_rfl) (by decide) (fun K hK => ?_)
            refine goes_ Try.func94 (by kernel_rfl) rfl #[.slice A0 l0.length c0] (by rfl) rfl rfl (by (try simp only [List.map_toArray, List.map_cons, List.map_nil]); first | done | rfl | (simp only [List.length_drop, List.length_take]; rfl)) ?_
            with_reducible refine (impl_copyLog.calls _ _ l0 t1040 _ ?side1 ?side2 A3.out).mono ?_
            (case side1 => exact oc_ HR0.out)
            (case side2 => exact HC0.out)
            rintro e w25 ⟨v1041, rfl, ho0, hb⟩
            refine ⟨_, rfl, ?_⟩
            have n0_ := Aside0.mk (Kd.R_elder' (oR HO1045) (Kd.R_base ho0) hb)
            have n1_ := Aside0.mk (Kd.R_lower (Kd.R_newB (Kd.R_new' ho0 (Kd.R_lt (oR HO1045))) (g := gb1039) (o := .cells #[.int .i64 a1_0, .int .i64 a1_1, .int .i64 a1_2, .int .i64 a1_3] 74 (0, 0)) (oK BK1039)) (below_size (oB HB)))
            have n2_ := Aside0.mk (blk_below (g := gb1039) (o := .cells #[.int .i64 a1_0, .int .i64 a1_1, .int .i64 a1_2, .int .i64 a1_3] 74 (0, 0)) (oK BK1039) hb)
            have n3_ := Aside0.mk (below_step (oB HB) hb)
            clear HO1045
            clear BK1039
            clear HB
            have HO1045 := n0_
            have HO1042 := n1_
            have BK1039 := n2_
            have HB := n3_
            clear n0_ n1_ n2_ n3_
            (try clear hb)
            (try clear hb2)
            (try clear hk)
            (try clear hi)
            (try clear ho0)
            refine hK.out _ _ ⟨(blk_cell BK1039.out 0).trans rfl, (blk_cell BK1039.out 1).trans rfl, (blk_cell BK1039.out 2).trans rfl, (blk_cell BK1039.out 3).trans rfl⟩ (fun hHeld => ?_)
            clear hK K
            refine norm_ (a' := ?_) ?_ ?_
            rotate_left
            · show Act.put _ (some 8) _ = _
              simp only [Act.put, List.setIfInBounds_toArray, List.set_cons_zero, List.set_cons_succ, i64_w, i32_w]
              rfl
            exact norm_ (by simp only [putAll, Act.put, List.setIfInBounds_toArray, List.set_cons_zero, List.set_cons_succ]) (hCont (v1041, v1044) _ ⟨hHeld, (by (with_reducible repeat (first | apply Kd.R_alloc | apply Kd.R_drewN | apply Kd.R_drew)); exact Kd.R_mono HO1042.out (fun _ hk => ⟨hk.1.2, hk.2⟩)), (by (with_reducible repeat (first | apply Kd.R_alloc | apply Kd.R_drewN | apply Kd.R_drew)); exact Kd.R_mono HO1045.out (fun _ hk => ⟨hk.2, hk.1.2⟩)), (oK BK1039), (oB HB)⟩)
        rintro ⟨v1041, v1044⟩ w26 ⟨hS_, h0_, h1_, h2_, h3_⟩
        have n0_ : Aside0 (Kd.R k74 74 w26 w.heap.size (fun k_ => some k_ ≠ (v1044 : Value).ownBlock ∧ k_ ≠ gb1039) v1041 t1040) := ⟨h0_⟩
        have n1_ : Aside0 (Kd.R k74 74 w26 w.heap.size (fun k_ => some k_ ≠ (v1041 : Value).ownBlock ∧ k_ ≠ gb1039) v1044 y1043) := ⟨h1_⟩
        have n2_ : Aside0 (w26.heap[gb1039]? = some (.cells #[.int .i64 a1_0, .int .i64 a1_1, .int .i64 a1_2, .int .i64 a1_3] 74 (0, 0))) := ⟨h2_⟩
        have n3_ : Aside0 (Below w.heap.size w w26) := ⟨h3_⟩
        clear BK1039
        clear HB
        clear h0_ h1_ h2_ h3_
        have HO1042 := n0_
        have HO1045 := n1_
        have BK1039 := n2_
        have HB := n3_
        clear n0_ n1_ n2_ n3_
        have hHeld : w26.cell? ⟨gb1039, 0, none⟩ = some (.int .i64 a1_0) ∧ w26.cell? ⟨gb1039, 1, none⟩ = some (.int .i64 a1_1) ∧ w26.cell? ⟨gb1039, 2, none⟩ = some (.int .i64 a1_2) ∧ w26.cell? ⟨gb1039, 3, none⟩ = some (.int .i64 a1_3) := hS_
        obtain ⟨Ao28, co28, eo28⟩ := Kd.R_slice HO1045.out
        (first | subst eo28 | (injection eo28 with f1_ f2_ f3_; have f4_ := f1_.symm; have f5_ := f3_.symm; clear f1_ f2_ f3_; subst f4_; subst f5_))
        refine norm_ (a' := ?_) ?_ ?_
        rotate_left
        · simp only [putAll, Act.put, List.setIfInBounds_toArray, List.set_cons_zero, List.set_cons_succ]
          rfl
        refine one_ (i := 4) (N := some 11) #[true, true, true, true, true, false] rfl rfl (by kernel_rfl) (by decide) (fun K hK => ?_)
        refine Kd.R_append_rows_step k74 (w0 := w) w.heap.size (by rfl) (.tmp 8) (.tmp 10) 34 74 (.agg #[(.int .i64 0), (.int .i64 0), (.int .i64 0), (.int .i64 0)]) 32 rfl Try.underlying34 info74 rfl (by decide) (by omega) v1041 t1040 y1043 _ _ _ (fun k_ => some k_ ≠ (.slice Ao28 y1043.length co28 : Value).ownBlock ∧ k_ ≠ gb1039) (fun _ => False) rfl rfl ?aO ?aR (fun _ _ h => h) (fun _ h => h.elim) ?aF ?aB ?aS ?aL ?_
        (case aR => repeat (first | exact (Kd.R_reads' HO1045.out).2.2 | (with_reducible refine Kd.C_alloc ?_ _) | (with_reducible refine Kd.C_drewN ?_ _) | (with_reducible refine Kd.C_drew ?_)))
        (case aB => exact (oB HB))
        (case aF => exact (fun k_ hk => ⟨Kd.fresh' (Kd.R_lt (oR HO1045)) k_ hk, Kd.freshB (g := gb1039) (o := .cells #[.int .i64 a1_0, .int .i64 a1_1, .int .i64 a1_2, .int .i64 a1_3] 74 (0, 0)) (oK BK1039) k_ hk⟩))
        (case aO => exact (oR HO1042))
        (case aS => exact (below_size (oB HB)))
        (case aL => have := LMc4.out; omega)
        intro v1047 w27 ho hb hg hat
        rw [← Ny1046.out] at ho
        have n0_ := Aside0.mk (blk_grown (g := gb1039) (o := .cells #[.int .i64 a1_0, .int .i64 a1_1, .int .i64 a1_2, .int .i64 a1_3] 74 (0, 0)) (oK BK1039) hg (Kd.R_away HO1042.out (fun _ hk => hk.2)))
        have n1_ := Aside0.mk (Kd.R_after (ok := (fun k_ => k_ ≠ gb1039)) (by (with_reducible repeat (first | apply Kd.R_alloc | apply Kd.R_drewN | apply Kd.R_drew)); exact Kd.R_mono HO1045.out (fun _ hk => ⟨hk.2, hk.1⟩)) hg hat)
        have n2_ := Aside0.mk (hb)
        have n3_ := Aside0.mk (ho)
        clear BK1039
        clear HO1045
        clear HB
        clear HO1042
        have BK1039 := n0_
        have HO1045 := n1_
        have HB := n2_
        have HO1048 := n3_
        clear n0_ n1_ n2_ n3_
        clear ho hb hg hat
        refine hK.out _ _ ⟨(blk_cell BK1039.out 0).trans rfl, (blk_cell BK1039.out 1).trans rfl, (blk_cell BK1039.out 2).trans rfl, (blk_cell BK1039.out 3).trans rfl⟩ (fun hHeld => ?_)
        clear hK K
        refine norm_ (a' := ?_) ?_ ?_
        rotate_left
        · show Act.put _ (some 11) _ = _
          simp only [Act.put, List.setIfInBounds_toArray, List.set_cons_zero, List.set_cons_succ, i64_w, i32_w]
          rfl
        refine pure_ (i := 5) (N := some 6) (v := ?_) (a' := ?_) #[true, true, true, true, true, true] rfl rfl (by kernel_rfl) (fun _ _ _ h => h) (Or.inl ⟨by rfl, ?_⟩) ?_ ?_
        rotate_left
        · intro w'
          go_simp
          with_reducible rfl
        rotate_left
        · simp only [Act.put, List.setIfInBounds_toArray, List.set_cons_zero, List.set_cons_succ, i64_w, i32_w]
          rfl
        refine done_ (by kernel_rfl) ?_
        try go_wp2_with (first | ((with_reducible refine gate_callee (f := 65) rfl ?_); refine goesL_ (some 13) rfl rfl Try.func65 (by kernel_rfl) rfl #[.slice A0 l0.length c0] rfl (by (try simp only [List.map_toArray, List.map_cons, List.map_nil]); first | done | rfl | (simp only [List.length_drop, List.length_take]; rfl)) ?_; (with_reducible refine (impl_LogOk.calls k _ _ l0 true _ ?side1 ?side2 A5.out).mono ?_); (case side1 => exact oc_ HR0.out); (case side2 => exact HC0.out); rintro e w29 ⟨rfl, hb⟩; refine ⟨_, rfl, ?_⟩; have n0_ := Aside0.mk (Kd.R_below (oR HO1045) hb); have n1_ := Aside0.mk (Kd.R_below (oR HO1048) hb); have n2_ := Aside0.mk (blk_below (g := gb1039) (o := .cells #[.int .i64 a1_0, .int .i64 a1_1, .int .i64 a1_2, .int .i64 a1_3] 74 (0, 0)) (oK BK1039) hb); have n3_ := Aside0.mk (below_step (oB HB) hb); clear HO1045; clear HO1048; clear BK1039; clear HB; have HO1045 := n0_; have HO1048 := n1_; have BK1039 := n2_; have HB := n3_; clear n0_ n1_ n2_ n3_; (try clear hb); (try clear hb2); (try clear hk); (try clear hi); obtain ⟨Ao30, co30, eo30⟩ := Kd.R_slice HO1048.out; subst eo30) | (go_at_call 65; (with_reducible refine (impl_LogOk.calls k _ _ y1046 false _ ?side1 ?side2 A7.out).mono ?_); (case side1 => repeat (first | exact (Kd.R_reads' HO1048.out).2.2 | (with_reducible refine Kd.C_alloc ?_ _) | (with_reducible refine Kd.C_drewN ?_ _) | (with_reducible refine Kd.C_drew ?_))); (case side2 => exact (Kd.R_reads' HO1048.out).2.1); rintro e w31 ⟨rfl, hb⟩; have n0_ := Aside0.mk (Kd.R_below (oR HO1045) hb); have n1_ := Aside0.mk (Kd.R_below (oR HO1048) hb); have n2_ := Aside0.mk (blk_below (g := gb1039) (o := .cells #[.int .i64 a1_0, .int .i64 a1_1, .int .i64 a1_2, .int .i64 a1_3] 74 (0, 0)) (oK BK1039) hb); have n3_ := Aside0.mk (below_step (oB HB) hb); clear HO1045; clear HO1048; clear BK1039; clear HB; have HO1045 := n0_; have HO1048 := n1_; have BK1039 := n2_; have HB := n3_; clear n0_ n1_ n2_ n3_; (try clear hb); (try clear hb2); (try clear hk); (try clear hi)) | ((with_reducible refine gate_callee (f := 94) rfl ?_); refine goesL_ (some 21) rfl rfl Try.func94 (by kernel_rfl) rfl #[.slice A0 l0.length c0] rfl (by (try simp only [List.map_toArray, List.map_cons, List.map_nil]); first | done | rfl | (simp only [List.length_drop, List.length_take]; rfl)) ?_; (with_reducible refine (impl_copyLog.calls _ _ l0 t1051 _ ?side1 ?side2 A20.out).mono ?_); (case side1 => exact oc_ HR0.out); (case side2 => exact HC0.out); rintro e w32 ⟨v1052, rfl, ho0, hb⟩; refine ⟨_, rfl, ?_⟩; have n0_ := Aside0.mk (Kd.R_elder' (oR HO1045) (Kd.R_base ho0) hb); have n1_ := Aside0.mk (Kd.R_elder' (oR HO1048) (Kd.R_base ho0) hb); have n2_ := Aside0.mk (Kd.R_lower (Kd.R_newB (Kd.R_new' (Kd.R_new' ho0 (Kd.R_lt (oR HO1045))) (Kd.R_lt (oR HO1048))) (g := gb1039) (o := .cells #[.int .i64 a1_0, .int .i64 a1_1, .int .i64 a1_2, .int .i64 a1_3] 74 (0, 0)) (oK BK1039)) (below_size (oB HB))); have n3_ := Aside0.mk (blk_below (g := gb1039) (o := .cells #[.int .i64 a1_0, .int .i64 a1_1, .int .i64 a1_2, .int .i64 a1_3] 74 (0, 0)) (oK BK1039) hb); have n4_ := Aside0.mk (below_step (oB HB) hb); clear HO1045; clear HO1048; clear BK1039; clear HB; have HO1045 := n0_; have HO1048 := n1_; have HO1053 := n2_; have BK1039 := n3_; have HB := n4_; clear n0_ n1_ n2_ n3_ n4_; (try clear hb); (try clear hb2); (try clear hk); (try clear hi); (try clear ho0)))
        go_ret2
        exact ⟨_, by first | rfl | (simp [errW_none, errW_some] <;> rfl) | (simp [*, errW_none, errW_some] <;> rfl), by (with_reducible repeat (first | apply Kd.R_alloc | apply Kd.R_drewN | apply Kd.R_drew)); exact Kd.R_mono HO1053.out (fun _ hk => trivial), oB HB⟩
    · replace c6 := Bool.eq_false_iff.mpr c6
      subst c6
      rw [if_neg (show ¬ (false = true) by decide)] at H
      replace H := Option.bind_eq_some_iff.mp H
      obtain ⟨t1054, A330, H⟩ := H
      (try dsimp only at H)
      have A33 := Aside0.mk A330
      clear A330
      simp only [Option.some.injEq, Prod.mk.injEq] at H
      obtain ⟨rfl, rfl⟩ := H
      go_enter Try.func51, Try.ntmps51
      try go_wp2_with (first | ((with_reducible refine gate_dst (N := 3) rfl ?_); refine box_event ?hg (N := 3) ?hd (cs := #[.int .i64 a1_0, .int .i64 a1_1, .int .i64 a1_2, .int .i64 a1_3]) (t := 74) ?hr ?_; (case hd => rfl); (case hg => rfl); (case hr => first | (go_simp; done) | (go_simp; rfl)); intro gb1039 hg w34 hbox hb; have n0_ := Aside0.mk (below_step (oB HB) hb); have n1_ := Aside0.mk (hbox); have n2_ := Aside0.mk ((by rw [hg]; exact (below_size (oB HB)) : w.heap.size ≤ gb1039)); have n3_ := Aside0.mk ((by rw [hg]; exact (below_size (oB HB)) : w.heap.size ≤ gb1039)); clear HB; have HB := n0_; have BK1039 := n1_; have GW1039 := n2_; have GE1039 := n3_; clear n0_ n1_ n2_ n3_; clear hb hbox hg))
      have n0_ := Aside0.mk (blk_drew BK1039.out)
      have n1_ := Aside0.mk (below_drew1 HB.out)
      clear BK1039
      clear HB
      have BK1039 := n0_
      have HB := n1_
      clear n0_ n1_
      refine start_ (n := 6) (S := fun w' => w'.cell? ⟨gb1039, 0, none⟩ = some (.int .i64 a1_0) ∧ w'.cell? ⟨gb1039, 1, none⟩ = some (.int .i64 a1_1) ∧ w'.cell? ⟨gb1039, 2, none⟩ = some (.int .i64 a1_2) ∧ w'.cell? ⟨gb1039, 3, none⟩ = some (.int .i64 a1_3)) (ds := []) #[false, false, false, false, false, false] (by kernel_rfl) rfl rfl ⟨(blk_cell BK1039.out 0).trans rfl, (blk_cell BK1039.out 1).trans rfl, (blk_cell BK1039.out 2).trans rfl, (blk_cell BK1039.out 3).trans rfl⟩ (fun hHeld => ?_)
      generalize w34.drew = w35 at BK1039 HB hHeld ⊢
      refine pure_ (i := 0) (N := some 7) (v := ?_) (a' := ?_) #[true, false, false, false, false, false] rfl rfl (by kernel_rfl) (fun _ _ _ h => h) (Or.inl ⟨by rfl, ?_⟩) ?_ ?_
      rotate_left
      · intro w'
        go_simp
        with_reducible rfl
      rotate_left
      · simp only [Act.put, List.setIfInBounds_toArray, List.set_cons_zero, List.set_cons_succ, i64_w, i32_w]
        rfl
      refine take_ (i := 2) (N := some 9) (v := ?_) (a' := ?_) #[true, false, true, false, false, false] rfl rfl (by kernel_rfl) (fun _ _ _ h => h) (Or.inl ⟨by rfl, ?_⟩) hHeld ?_ ?_
      rotate_left
      · rintro w' ⟨s0, s1, s2, s3⟩
        go_simp
        with_reducible rfl
      rotate_left
      · simp only [Act.put, List.setIfInBounds_toArray, List.set_cons_zero, List.set_cons_succ, i64_w, i32_w]
        rfl
      refine join_ (σ := Value × Value) 2 #[true, true, true, true, false, false] (fun s_ => [(8, s_.1), (10, s_.2)]) (fun s_ w' => (w'.cell? ⟨gb1039, 0, none⟩ = some (.int .i64 a1_0) ∧ w'.cell? ⟨gb1039, 1, none⟩ = some (.int .i64 a1_1) ∧ w'.cell? ⟨gb1039, 2, none⟩ = some (.int .i64 a1_2) ∧ w'.cell? ⟨gb1039, 3, none⟩ = some (.int .i64 a1_3)) ∧ (Kd.R k74 74 w' w.heap.size (fun k_ => some k_ ≠ (s_.2 : Value).ownBlock ∧ k_ ≠ gb1039) s_.1 t1040) ∧ (Kd.R k74 74 w' w.heap.size (fun k_ => some k_ ≠ (s_.1 : Value).ownBlock ∧ k_ ≠ gb1039) s_.2 y1043) ∧ (w'.heap[gb1039]? = some (.cells #[.int .i64 a1_0, .int .i64 a1_1, .int .i64 a1_2, .int .i64 a1_3] 74 (0, 0))) ∧ (Below w.heap.size w w')) ?_ ?_
      rotate_left
      · intro hCont
        refine two_ (i := 1) (j := 3) (Ni := some 8) (Nj := some 10) #[true, true, true, false, false, false] #[true, false, true, true, false, false] rfl rfl rfl rfl (by kernel_rfl) (by decide) (by decide) (fun K hK => ?_) (fun K hK => ?_)
        · skip
          refine goes_ Try.func94 (by kernel_rfl) rfl #[.slice A0 l0.length c0] (by rfl) rfl rfl (by (try simp only [List.map_toArray, List.map_cons, List.map_nil]); first | done | rfl | (simp only [List.length_drop, List.length_take]; rfl)) ?_
          with_reducible refine (impl_copyLog.calls _ _ l0 t1040 _ ?side1 ?side2 A3.out).mono ?_
          (case side1 => exact oc_ HR0.out)
          (case side2 => exact HC0.out)
          rintro e w36 ⟨v1041, rfl, ho0, hb⟩
          refine ⟨_, rfl, ?_⟩
          have n0_ := Aside0.mk (Kd.R_lower (Kd.R_newB ho0 (g := gb1039) (o := .cells #[.int .i64 a1_0, .int .i64 a1_1, .int .i64 a1_2, .int .i64 a1_3] 74 (0, 0)) (oK BK1039)) (below_size (oB HB)))
          have n1_ := Aside0.mk (blk_below (g := gb1039) (o := .cells #[.int .i64 a1_0, .int .i64 a1_1, .int .i64 a1_2, .int .i64 a1_3] 74 (0, 0)) (oK BK1039) hb)
          have n2_ := Aside0.mk (below_step (oB HB) hb)
          clear BK1039
          clear HB
          have HO1042 := n0_
          have BK1039 := n1_
          have HB := n2_
          clear n0_ n1_ n2_
          (try clear hb)
          (try clear hb2)
          (try clear hk)
          (try clear hi)
          (try clear ho0)
          refine hK.out _ _ ⟨(blk_cell BK1039.out 0).trans rfl, (blk_cell BK1039.out 1).trans rfl, (blk_cell BK1039.out 2).trans rfl, (blk_cell BK1039.out 3).trans rfl⟩ (fun hHeld => ?_)
          clear hK K
          refine norm_ (a' := ?_) ?_ ?_
          rotate_left
          · show Act.put _ (some 8) _ = _
            simp only [Act.put, List.setIfInBounds_toArray, List.set_cons_zero, List.set_cons_succ, i64_w, i32_w]
            rfl
          refine one_ (i := 3) (N := some 10) #[true, true, true, true, false, false] rfl rfl (by kernel_rfl) (by decide) (fun K hK => ?_)
          refine Kd.R_lit_step k74 _ 74 ?hg (N := 10) ?hd (xs := ([(⟨(⟨a1_0, a1_1⟩ : S56), a1_2, a1_3⟩ : S74)] : List (S74))) (inner := [.int .i64 a1_0, .int .i64 a1_1, .int .i64 a1_2, .int .i64 a1_3]) (ok := fun _ => True) (okp := fun _ => True) ?hr ?hp (fun _ hk => hk) trivial (Below.refl _ _) (Nat.le_refl _) (by simp) ?_; (case hd => rfl); (case hg => rfl); (case hr => first | (go_simp; done) | (go_simp; rfl)); (case hp => exact (Reps.c4 (show Kd.M k74 _ _ _ (⟨(⟨a1_0, a1_1⟩ : S56), a1_2, a1_3⟩ : S74) [.int .i64 a1_0, .int .i64 a1_1, .int .i64 a1_2, .int .i64 a1_3] from (k74_mkM _ _ _ (⟨(⟨a1_0, a1_1⟩ : S56), a1_2, a1_3⟩ : S74) )) (Reps.none _ _)))
          intro v1044 w37 ho38 hb hg_ hnew_
          clear hg_ hnew_
          (first | rw [← Ny1043.out] at ho38 | (simp only [Int.reduceToNat] at ho38; rw [← Ny1043.out] at ho38))
          have n0_ := Aside0.mk (Kd.R_elder' (oR HO1042) (Kd.R_base ho38) hb)
          have n1_ := Aside0.mk (Kd.R_lower (Kd.R_newB (Kd.R_new' ho38 (Kd.R_lt (oR HO1042))) (g := gb1039) (o := .cells #[.int .i64 a1_0, .int .i64 a1_1, .int .i64 a1_2, .int .i64 a1_3] 74 (0, 0)) (oK BK1039)) (below_size (oB HB)))
          have n2_ := Aside0.mk (blk_below (g := gb1039) (o := .cells #[.int .i64 a1_0, .int .i64 a1_1, .int .i64 a1_2, .int .i64 a1_3] 74 (0, 0)) (oK BK1039) hb)
          have n3_ := Aside0.mk (below_step (oB HB) hb)
          clear HO1042
          clear BK1039
          clear HB
          have HO1042 := n0_
          have HO1045 := n1_
          have BK1039 := n2_
          have HB := n3_
          clear n0_ n1_ n2_ n3_
          clear hb ho38
          refine hK.out _ _ ⟨(blk_cell BK1039.out 0).trans rfl, (blk_cell BK1039.out 1).trans rfl, (blk_cell BK1039.out 2).trans rfl, (blk_cell BK1039.out 3).trans rfl⟩ (fun hHeld => ?_)
          clear hK K
          refine norm_ (a' := ?_) ?_ ?_
          rotate_left
          · show Act.put _ (some 10) _ = _
            simp only [Act.put, List.setIfInBounds_toArray, List.set_cons_zero, List.set_cons_succ, i64_w, i32_w]
            rfl
          exact norm_ (by simp only [putAll, Act.put, List.setIfInBounds_toArray, List.set_cons_zero, List.set_cons_succ]) (hCont (v1041, v1044) _ ⟨hHeld, (by (with_reducible repeat (first | apply Kd.R_alloc | apply Kd.R_drewN | apply Kd.R_drew)); exact Kd.R_mono HO1042.out (fun _ hk => ⟨hk.2, hk.1.2⟩)), (by (with_reducible repeat (first | apply Kd.R_alloc | apply Kd.R_drewN | apply Kd.R_drew)); exact Kd.R_mono HO1045.out (fun _ hk => ⟨hk.1.2, hk.2⟩)), (oK BK1039), (oB HB)⟩)
        · skip
          refine Kd.R_lit_step k74 _ 74 ?hg (N := 10) ?hd (xs := ([(⟨(⟨a1_0, a1_1⟩ : S56), a1_2, a1_3⟩ : S74)] : List (S74))) (inner := [.int .i64 a1_0, .int .i64 a1_1, .int .i64 a1_2, .int .i64 a1_3]) (ok := fun _ => True) (okp := fun _ => True) ?hr ?hp (fun _ hk => hk) trivial (Below.refl _ _) (Nat.le_refl _) (by simp) ?_; (case hd => rfl); (case hg => rfl); (case hr => first | (go_simp; done) | (go_simp; rfl)); (case hp => exact (Reps.c4 (show Kd.M k74 _ _ _ (⟨(⟨a1_0, a1_1⟩ : S56), a1_2, a1_3⟩ : S74) [.int .i64 a1_0, .int .i64 a1_1, .int .i64 a1_2, .int .i64 a1_3] from (k74_mkM _ _ _ (⟨(⟨a1_0, a1_1⟩ : S56), a1_2, a1_3⟩ : S74) )) (Reps.none _ _)))
          intro v1044 w36 ho37 hb hg_ hnew_
          clear hg_ hnew_
          (first | rw [← Ny1043.out] at ho37 | (simp only [Int.reduceToNat] at ho37; rw [← Ny1043.out] at ho37))
          have n0_ := Aside0.mk (Kd.R_lower (Kd.R_newB ho37 (g := gb1039) (o := .cells #[.int .i64 a1_0, .int .i64 a1_1, .int .i64 a1_2, .int .i64 a1_3] 74 (0, 0)) (oK BK1039)) (below_size (oB HB)))
          have n1_ := Aside0.mk (blk_below (g := gb1039) (o := .cells #[.int .i64 a1_0, .int .i64 a1_1, .int .i64 a1_2, .int .i64 a1_3] 74 (0, 0)) (oK BK1039) hb)
          have n2_ := Aside0.mk (below_step (oB HB) hb)
          clear BK1039
          clear HB
          have HO1045 := n0_
          have BK1039 := n1_
          have HB := n2_
          clear n0_ n1_ n2_
          clear hb ho37
          refine hK.out _ _ ⟨(blk_cell BK1039.out 0).trans rfl, (blk_cell BK1039.out 1).trans rfl, (blk_cell BK1039.out 2).trans rfl, (blk_cell BK1039.out 3).trans rfl⟩ (fun hHeld => ?_)
          clear hK K
          refine norm_ (a' := ?_) ?_ ?_
          rotate_left
          · show Act.put _ (some 10) _ = _
            simp only [Act.put, List.setIfInBounds_toArray, List.set_cons_zero, List.set_cons_succ, i64_w, i32_w]
            rfl
          refine one_ (i := 1) (N := some 8) #[true, true, true, true, false, false] rfl rfl (by kernel_rfl) (by decide) (fun K hK => ?_)
          refine goes_ Try.func94 (by kernel_rfl) rfl #[.slice A0 l0.length c0] (by rfl) rfl rfl (by (try simp only [List.map_toArray, List.map_cons, List.map_nil]); first | done | rfl | (simp only [List.length_drop, List.length_take]; rfl)) ?_
          with_reducible refine (impl_copyLog.calls _ _ l0 t1040 _ ?side1 ?side2 A3.out).mono ?_
          (case side1 => exact oc_ HR0.out)
          (case side2 => exact HC0.out)
          rintro e w38 ⟨v1041, rfl, ho0, hb⟩
          refine ⟨_, rfl, ?_⟩
          have n0_ := Aside0.mk (Kd.R_elder' (oR HO1045) (Kd.R_base ho0) hb)
          have n1_ := Aside0.mk (Kd.R_lower (Kd.R_newB (Kd.R_new' ho0 (Kd.R_lt (oR HO1045))) (g := gb1039) (o := .cells #[.int .i64 a1_0, .int .i64 a1_1, .int .i64 a1_2, .int .i64 a1_3] 74 (0, 0)) (oK BK1039)) (below_size (oB HB)))
          have n2_ := Aside0.mk (blk_below (g := gb1039) (o := .cells #[.int .i64 a1_0, .int .i64 a1_1, .int .i64 a1_2, .int .i64 a1_3] 74 (0, 0)) (oK BK1039) hb)
          have n3_ := Aside0.mk (below_step (oB HB) hb)
          clear HO1045
          clear BK1039
          clear HB
          have HO1045 := n0_
          have HO1042 := n1_
          have BK1039 := n2_
          have HB := n3_
          clear n0_ n1_ n2_ n3_
          (try clear hb)
          (try clear hb2)
          (try clear hk)
          (try clear hi)
          (try clear ho0)
          refine hK.out _ _ ⟨(blk_cell BK1039.out 0).trans rfl, (blk_cell BK1039.out 1).trans rfl, (blk_cell BK1039.out 2).trans rfl, (blk_cell BK1039.out 3).trans rfl⟩ (fun hHeld => ?_)
          clear hK K
          refine norm_ (a' := ?_) ?_ ?_
          rotate_left
          · show Act.put _ (some 8) _ = _
            simp only [Act.put, List.setIfInBounds_toArray, List.set_cons_zero, List.set_cons_succ, i64_w, i32_w]
            rfl
          exact norm_ (by simp only [putAll, Act.put, List.setIfInBounds_toArray, List.set_cons_zero, List.set_cons_succ]) (hCont (v1041, v1044) _ ⟨hHeld, (by (with_reducible repeat (first | apply Kd.R_alloc | apply Kd.R_drewN | apply Kd.R_drew)); exact Kd.R_mono HO1042.out (fun _ hk => ⟨hk.1.2, hk.2⟩)), (by (with_reducible repeat (first | apply Kd.R_alloc | apply Kd.R_drewN | apply Kd.R_drew)); exact Kd.R_mono HO1045.out (fun _ hk => ⟨hk.2, hk.1.2⟩)), (oK BK1039), (oB HB)⟩)
      rintro ⟨v1041, v1044⟩ w39 ⟨hS_, h0_, h1_, h2_, h3_⟩
      have n0_ : Aside0 (Kd.R k74 74 w39 w.heap.size (fun k_ => some k_ ≠ (v1044 : Value).ownBlock ∧ k_ ≠ gb1039) v1041 t1040) := ⟨h0_⟩
      have n1_ : Aside0 (Kd.R k74 74 w39 w.heap.size (fun k_ => some k_ ≠ (v1041 : Value).ownBlock ∧ k_ ≠ gb1039) v1044 y1043) := ⟨h1_⟩
      have n2_ : Aside0 (w39.heap[gb1039]? = some (.cells #[.int .i64 a1_0, .int .i64 a1_1, .int .i64 a1_2, .int .i64 a1_3] 74 (0, 0))) := ⟨h2_⟩
      have n3_ : Aside0 (Below w.heap.size w w39) := ⟨h3_⟩
      clear BK1039
      clear HB
      clear h0_ h1_ h2_ h3_
      have HO1042 := n0_
      have HO1045 := n1_
      have BK1039 := n2_
      have HB := n3_
      clear n0_ n1_ n2_ n3_
      have hHeld : w39.cell? ⟨gb1039, 0, none⟩ = some (.int .i64 a1_0) ∧ w39.cell? ⟨gb1039, 1, none⟩ = some (.int .i64 a1_1) ∧ w39.cell? ⟨gb1039, 2, none⟩ = some (.int .i64 a1_2) ∧ w39.cell? ⟨gb1039, 3, none⟩ = some (.int .i64 a1_3) := hS_
      obtain ⟨Ao41, co41, eo41⟩ := Kd.R_slice HO1045.out
      (first | subst eo41 | (injection eo41 with f1_ f2_ f3_; have f4_ := f1_.symm; have f5_ := f3_.symm; clear f1_ f2_ f3_; subst f4_; subst f5_))
      refine norm_ (a' := ?_) ?_ ?_
      rotate_left
      · simp only [putAll, Act.put, List.setIfInBounds_toArray, List.set_cons_zero, List.set_cons_succ]
        rfl
      refine one_ (i := 4) (N := some 11) #[true, true, true, true, true, false] rfl rfl (by kernel_rfl) (by decide) (fun K hK => ?_)
      refine Kd.R_append_rows_step k74 (w0 := w) w.heap.size (by rfl) (.tmp 8) (.tmp 10) 34 74 (.agg #[(.int .i64 0), (.int .i64 0), (.int .i64 0), (.int .i64 0)]) 32 rfl Try.underlying34 info74 rfl (by decide) (by omega) v1041 t1040 y1043 _ _ _ (fun k_ => some k_ ≠ (.slice Ao41 y1043.length co41 : Value).ownBlock ∧ k_ ≠ gb1039) (fun _ => False) rfl rfl ?aO ?aR (fun _ _ h => h) (fun _ h => h.elim) ?aF ?aB ?aS ?aL ?_
      (case aR => repeat (first | exact (Kd.R_reads' HO1045.out).2.2 | (with_reducible refine Kd.C_alloc ?_ _) | (with_reducible refine Kd.C_drewN ?_ _) | (with_reducible refine Kd.C_drew ?_)))
      (case aB => exact (oB HB))
      (case aF => exact (fun k_ hk => ⟨Kd.fresh' (Kd.R_lt (oR HO1045)) k_ hk, Kd.freshB (g := gb1039) (o := .cells #[.int .i64 a1_0, .int .i64 a1_1, .int .i64 a1_2, .int .i64 a1_3] 74 (0, 0)) (oK BK1039) k_ hk⟩))
      (case aO => exact (oR HO1042))
      (case aS => exact (below_size (oB HB)))
      (case aL => have := LMc4.out; omega)
      intro v1047 w40 ho hb hg hat
      rw [← Ny1046.out] at ho
      have n0_ := Aside0.mk (blk_grown (g := gb1039) (o := .cells #[.int .i64 a1_0, .int .i64 a1_1, .int .i64 a1_2, .int .i64 a1_3] 74 (0, 0)) (oK BK1039) hg (Kd.R_away HO1042.out (fun _ hk => hk.2)))
      have n1_ := Aside0.mk (Kd.R_after (ok := (fun k_ => k_ ≠ gb1039)) (by (with_reducible repeat (first | apply Kd.R_alloc | apply Kd.R_drewN | apply Kd.R_drew)); exact Kd.R_mono HO1045.out (fun _ hk => ⟨hk.2, hk.1⟩)) hg hat)
      have n2_ := Aside0.mk (hb)
      have n3_ := Aside0.mk (ho)
      clear BK1039
      clear HO1045
      clear HB
      clear HO1042
      have BK1039 := n0_
      have HO1045 := n1_
      have HB := n2_
      have HO1048 := n3_
      clear n0_ n1_ n2_ n3_
      clear ho hb hg hat
      refine hK.out _ _ ⟨(blk_cell BK1039.out 0).trans rfl, (blk_cell BK1039.out 1).trans rfl, (blk_cell BK1039.out 2).trans rfl, (blk_cell BK1039.out 3).trans rfl⟩ (fun hHeld => ?_)
      clear hK K
      refine norm_ (a' := ?_) ?_ ?_
      rotate_left
      · show Act.put _ (some 11) _ = _
        simp only [Act.put, List.setIfInBounds_toArray, List.set_cons_zero, List.set_cons_succ, i64_w, i32_w]
        rfl
      refine pure_ (i := 5) (N := some 6) (v := ?_) (a' := ?_) #[true, true, true, true, true, true] rfl rfl (by kernel_rfl) (fun _ _ _ h => h) (Or.inl ⟨by rfl, ?_⟩) ?_ ?_
      rotate_left
      · intro w'
        go_simp
        with_reducible rfl
      rotate_left
      · simp only [Act.put, List.setIfInBounds_toArray, List.set_cons_zero, List.set_cons_succ, i64_w, i32_w]
        rfl
      refine done_ (by kernel_rfl) ?_
      try go_wp2_with (first | ((with_reducible refine gate_callee (f := 65) rfl ?_); refine goesL_ (some 13) rfl rfl Try.func65 (by kernel_rfl) rfl #[.slice A0 l0.length c0] rfl (by (try simp only [List.map_toArray, List.map_cons, List.map_nil]); first | done | rfl | (simp only [List.length_drop, List.length_take]; rfl)) ?_; (with_reducible refine (impl_LogOk.calls k _ _ l0 false _ ?side1 ?side2 A5.out).mono ?_); (case side1 => exact oc_ HR0.out); (case side2 => exact HC0.out); rintro e w42 ⟨rfl, hb⟩; refine ⟨_, rfl, ?_⟩; have n0_ := Aside0.mk (Kd.R_below (oR HO1045) hb); have n1_ := Aside0.mk (Kd.R_below (oR HO1048) hb); have n2_ := Aside0.mk (blk_below (g := gb1039) (o := .cells #[.int .i64 a1_0, .int .i64 a1_1, .int .i64 a1_2, .int .i64 a1_3] 74 (0, 0)) (oK BK1039) hb); have n3_ := Aside0.mk (below_step (oB HB) hb); clear HO1045; clear HO1048; clear BK1039; clear HB; have HO1045 := n0_; have HO1048 := n1_; have BK1039 := n2_; have HB := n3_; clear n0_ n1_ n2_ n3_; (try clear hb); (try clear hb2); (try clear hk); (try clear hi)) | ((with_reducible refine gate_callee (f := 94) rfl ?_); refine goesL_ (some 21) rfl rfl Try.func94 (by kernel_rfl) rfl #[.slice A0 l0.length c0] rfl (by (try simp only [List.map_toArray, List.map_cons, List.map_nil]); first | done | rfl | (simp only [List.length_drop, List.length_take]; rfl)) ?_; (with_reducible refine (impl_copyLog.calls _ _ l0 t1054 _ ?side1 ?side2 A33.out).mono ?_); (case side1 => exact oc_ HR0.out); (case side2 => exact HC0.out); rintro e w43 ⟨v1055, rfl, ho0, hb⟩; refine ⟨_, rfl, ?_⟩; have n0_ := Aside0.mk (Kd.R_elder' (oR HO1045) (Kd.R_base ho0) hb); have n1_ := Aside0.mk (Kd.R_elder' (oR HO1048) (Kd.R_base ho0) hb); have n2_ := Aside0.mk (Kd.R_lower (Kd.R_newB (Kd.R_new' (Kd.R_new' ho0 (Kd.R_lt (oR HO1045))) (Kd.R_lt (oR HO1048))) (g := gb1039) (o := .cells #[.int .i64 a1_0, .int .i64 a1_1, .int .i64 a1_2, .int .i64 a1_3] 74 (0, 0)) (oK BK1039)) (below_size (oB HB))); have n3_ := Aside0.mk (blk_below (g := gb1039) (o := .cells #[.int .i64 a1_0, .int .i64 a1_1, .int .i64 a1_2, .int .i64 a1_3] 74 (0, 0)) (oK BK1039) hb); have n4_ := Aside0.mk (below_step (oB HB) hb); clear HO1045; clear HO1048; clear BK1039; clear HB; have HO1045 := n0_; have HO1048 := n1_; have HO1056 := n2_; have BK1039 := n3_; have HB := n4_; clear n0_ n1_ n2_ n3_ n4_; (try clear hb); (try clear hb2); (try clear hk); (try clear hi); (try clear ho0)))
      go_ret2
      exact ⟨_, by first | rfl | (simp [errW_none, errW_some] <;> rfl) | (simp [*, errW_none, errW_some] <;> rfl), by (with_reducible repeat (first | apply Kd.R_alloc | apply Kd.R_drewN | apply Kd.R_drew)); exact Kd.R_mono HO1056.out (fun _ hk => trivial), oB HB⟩
  · rw [if_neg c4] at H
    exact absurd H (by simp)
end Go.Proofs.Ytbkkpllejgedcaa.P
