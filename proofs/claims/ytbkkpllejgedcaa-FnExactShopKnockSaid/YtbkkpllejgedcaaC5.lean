/- What functions of the program come to (f), that their calls come to just this (calls), and the plain laws over lists and numbers. No condition but those of the given row. -/
import Derived.Test.YtbkkpllejgedcaaC4
namespace Go.Proofs.Ytbkkpllejgedcaa.P
open Go.RowKit Go.Proofs.YtbkkpllejgedcaaW.PrintWords Go.Proofs.YtbkkpllejgedcaaW.PrintLast Go.Proofs.YtbkkpllejgedcaaW.PrintMore
attribute [local go_sem] max2_int min2_int max_two min_two max_three min_three max_four min_four
set_option linter.unusedVariables false
set_option linter.unusedSimpArgs false
def impl_ShopOk.f (k : Nat) (l0_0 : List (S96)) (a0_1 : Int) (l0_2 : List Int) (a0_3 : Int) (a0_4 : Int) (l0_5 : List (S74)) : Option (Bool) := (impl_WorkOk.f l0_0 a0_1 l0_2).bind fun t198 => (if t198 = true then ((impl_LogOk.f k l0_5).bind fun t199 => (if t199 = true then ((impl_isWarmth.f a0_3).bind fun t200 => (if t200 = true then ((impl_within.f a0_4 0 100000).bind fun t201 => (if t201 = true then (if (l0_5.length : Int) = 0 then (some true) else (if 0 ≤ (wrap64 ((l0_5.length : Int) - 1)) then (if (wrap64 ((l0_5.length : Int) - 1)) < (l0_5.length : Int) then (some (decide (((rd_T74 l0_5 (wrap64 ((l0_5.length : Int) - 1))).f2) ≤ a0_4))) else (none)) else (none))) else (some false))) else (some false))) else (some false))) else (some false))
set_option maxHeartbeats 8000000 in
set_option maxRecDepth 100000 in
theorem impl_ShopOk.calls (k : Nat) (A0_0 : Option Addr) (c0_0 : Nat) (l0_0 : List (S96)) (a0_1 : Int) (A0_2 : Option Addr) (c0_2 : Nat) (l0_2 : List Int) (a0_3 : Int) (a0_4 : Int) (A0_5 : Option Addr) (c0_5 : Nat) (l0_5 : List (S74)) (r : Bool) (w : World) (hr0_0 : Kd.C k96 w A0_0 l0_0.length l0_0) (hc0_0 : l0_0.length ≤ c0_0) (hr0_2 : Kd.C (Kd.int .i64) w A0_2 l0_2.length l0_2) (hc0_2 : l0_2.length ≤ c0_2) (hr0_5 : Kd.C k74 w A0_5 l0_5.length l0_5) (hc0_5 : l0_5.length ≤ c0_5) (h : impl_ShopOk.f k l0_0 a0_1 l0_2 a0_3 a0_4 l0_5 = some r) :
    Calls Try.prog 18 #[.agg #[.slice A0_0 l0_0.length c0_0, .int .i64 a0_1, .slice A0_2 l0_2.length c0_2, .int .i64 a0_3, .int .i64 a0_4, .slice A0_5 l0_5.length c0_5]] w fun e w' => e = .returned (.bool r) ∧ Below w.heap.size w w' := by
  have hu36 := Try.underlying36
  have hu33 := Try.underlying33
  have HR0_0 := Aside0.mk hr0_0
  have HC0_0 := Aside0.mk hc0_0
  clear hr0_0 hc0_0
  have HR0_2 := Aside0.mk hr0_2
  have HC0_2 := Aside0.mk hc0_2
  clear hr0_2 hc0_2
  have HR0_5 := Aside0.mk hr0_5
  have HC0_5 := Aside0.mk hc0_5
  clear hr0_5 hc0_5
  have HB := Aside0.mk (Below.refl w.heap.size w)
  have H : ((impl_WorkOk.f l0_0 a0_1 l0_2).bind fun t198 => (if t198 = true then ((impl_LogOk.f k l0_5).bind fun t199 => (if t199 = true then ((impl_isWarmth.f a0_3).bind fun t200 => (if t200 = true then ((impl_within.f a0_4 0 100000).bind fun t201 => (if t201 = true then (if (l0_5.length : Int) = 0 then (some true) else (if 0 ≤ (wrap64 ((l0_5.length : Int) - 1)) then (if (wrap64 ((l0_5.length : Int) - 1)) < (l0_5.length : Int) then (some (decide (((rd_T74 l0_5 (wrap64 ((l0_5.length : Int) - 1))).f2) ≤ a0_4))) else (none)) else (none))) else (some false))) else (some false))) else (some false))) else (some false))) = some r := h
  clear h
  replace H := Option.bind_eq_some_iff.mp H
  obtain ⟨t198, A20, H⟩ := H
  (try dsimp only at H)
  have A2 := Aside0.mk A20
  clear A20
  by_cases c3 : t198 = true
  · subst c3
    rw [if_pos rfl] at H
    replace H := Option.bind_eq_some_iff.mp H
    obtain ⟨t199, A40, H⟩ := H
    (try dsimp only at H)
    have A4 := Aside0.mk A40
    clear A40
    by_cases c5 : t199 = true
    · subst c5
      rw [if_pos rfl] at H
      replace H := Option.bind_eq_some_iff.mp H
      obtain ⟨t200, A60, H⟩ := H
      (try dsimp only at H)
      have A6 := Aside0.mk A60
      clear A60
      by_cases c7 : t200 = true
      · subst c7
        rw [if_pos rfl] at H
        replace H := Option.bind_eq_some_iff.mp H
        obtain ⟨t201, A80, H⟩ := H
        (try dsimp only at H)
        have A8 := Aside0.mk A80
        clear A80
        by_cases c9 : t201 = true
        · subst c9
          rw [if_pos rfl] at H
          by_cases c10 : (l0_5.length : Int) = 0
          · rw [if_pos c10] at H
            have c10b0 : ((l0_5.length : Int) == 0) = true := beq_iff_eq.mpr c10
            have c10b1 : ((l0_5.length : Int) != 0) = false := bne_eq_false_iff_eq.mpr c10
            clear c10
            obtain rfl := Option.some.inj H
            go_enter Try.func18, Try.ntmps18
            go_wp2_with (first | ((with_reducible refine gate_dst (N := 1) rfl ?_); (try (refine gate_guard (by rfl) ?_; dsimp only)); refine box_event ?hg (N := 1) ?hd (cs := #[.slice A0_0 l0_0.length c0_0, .int .i64 a0_1, .slice A0_2 l0_2.length c0_2, .int .i64 a0_3, .int .i64 a0_4, .slice A0_5 l0_5.length c0_5]) (t := 36) ?hr ?_; (case hd => rfl); (case hg => rfl); (case hr => first | (go_simp; done) | (go_simp; rfl)); intro gb197 hg w11 hbox hb; have n0_ := Aside0.mk (below_step (oB HB) hb); have n1_ := Aside0.mk (hbox); have n2_ := Aside0.mk ((by rw [hg]; exact (below_size (oB HB)) : w.heap.size ≤ gb197)); have n3_ := Aside0.mk ((by rw [hg]; exact (below_size (oB HB)) : w.heap.size ≤ gb197)); clear HB; have HB := n0_; have BK197 := n1_; have GW197 := n2_; have GE197 := n3_; clear n0_ n1_ n2_ n3_; clear hb hbox hg; have hcz12_0 : w11.cell? ⟨gb197, 0, none⟩ = some (.slice A0_0 l0_0.length c0_0) := (blk_cell BK197.out 0).trans rfl; have hcz12_1 : w11.cell? ⟨gb197, 1, none⟩ = some (.int .i64 a0_1) := (blk_cell BK197.out 1).trans rfl; have hcz12_2 : w11.cell? ⟨gb197, 2, none⟩ = some (.slice A0_2 l0_2.length c0_2) := (blk_cell BK197.out 2).trans rfl; have hcz12_3 : w11.cell? ⟨gb197, 3, none⟩ = some (.int .i64 a0_3) := (blk_cell BK197.out 3).trans rfl; have hcz12_4 : w11.cell? ⟨gb197, 4, none⟩ = some (.int .i64 a0_4) := (blk_cell BK197.out 4).trans rfl; have hcz12_5 : w11.cell? ⟨gb197, 5, none⟩ = some (.slice A0_5 l0_5.length c0_5) := (blk_cell BK197.out 5).trans rfl; have hfz12_0 := blk_frozen BK197.out 0; have hfz12_1 := blk_frozen BK197.out 1; have hfz12_2 := blk_frozen BK197.out 2; have hfz12_3 := blk_frozen BK197.out 3; have hfz12_4 := blk_frozen BK197.out 4; have hfz12_5 := blk_frozen BK197.out 5) | (go_at_call 64; (with_reducible refine (impl_WorkOk.calls _ _ l0_0 a0_1 _ _ l0_2 true _ ?side1 ?side2 ?side3 ?side4 A2.out).mono ?_); (case side1 => exact oc_ HR0_0.out); (case side2 => exact HC0_0.out); (case side3 => exact oc_ HR0_2.out); (case side4 => exact HC0_2.out); rintro e w13 ⟨rfl, hb⟩; have n0_ := Aside0.mk (blk_below (g := gb197) (o := .cells #[.slice A0_0 l0_0.length c0_0, .int .i64 a0_1, .slice A0_2 l0_2.length c0_2, .int .i64 a0_3, .int .i64 a0_4, .slice A0_5 l0_5.length c0_5] 36 (0, 0)) (oK BK197) hb); have n1_ := Aside0.mk (below_step (oB HB) hb); clear BK197; clear HB; have BK197 := n0_; have HB := n1_; clear n0_ n1_; (try clear hb); (try clear hb2); (try clear hk); (try clear hi); have hcz14_0 : w13.cell? ⟨gb197, 0, none⟩ = some (.slice A0_0 l0_0.length c0_0) := (blk_cell BK197.out 0).trans rfl; have hcz14_1 : w13.cell? ⟨gb197, 1, none⟩ = some (.int .i64 a0_1) := (blk_cell BK197.out 1).trans rfl; have hcz14_2 : w13.cell? ⟨gb197, 2, none⟩ = some (.slice A0_2 l0_2.length c0_2) := (blk_cell BK197.out 2).trans rfl; have hcz14_3 : w13.cell? ⟨gb197, 3, none⟩ = some (.int .i64 a0_3) := (blk_cell BK197.out 3).trans rfl; have hcz14_4 : w13.cell? ⟨gb197, 4, none⟩ = some (.int .i64 a0_4) := (blk_cell BK197.out 4).trans rfl; have hcz14_5 : w13.cell? ⟨gb197, 5, none⟩ = some (.slice A0_5 l0_5.length c0_5) := (blk_cell BK197.out 5).trans rfl; have hfz14_0 := blk_frozen BK197.out 0; have hfz14_1 := blk_frozen BK197.out 1; have hfz14_2 := blk_frozen BK197.out 2; have hfz14_3 := blk_frozen BK197.out 3; have hfz14_4 := blk_frozen BK197.out 4; have hfz14_5 := blk_frozen BK197.out 5) | (go_at_call 65; (with_reducible refine (impl_LogOk.calls k _ _ l0_5 true _ ?side1 ?side2 A4.out).mono ?_); (case side1 => exact oc_ HR0_5.out); (case side2 => exact HC0_5.out); rintro e w15 ⟨rfl, hb⟩; have n0_ := Aside0.mk (blk_below (g := gb197) (o := .cells #[.slice A0_0 l0_0.length c0_0, .int .i64 a0_1, .slice A0_2 l0_2.length c0_2, .int .i64 a0_3, .int .i64 a0_4, .slice A0_5 l0_5.length c0_5] 36 (0, 0)) (oK BK197) hb); have n1_ := Aside0.mk (below_step (oB HB) hb); clear BK197; clear HB; have BK197 := n0_; have HB := n1_; clear n0_ n1_; (try clear hb); (try clear hb2); (try clear hk); (try clear hi); have hcz16_0 : w15.cell? ⟨gb197, 0, none⟩ = some (.slice A0_0 l0_0.length c0_0) := (blk_cell BK197.out 0).trans rfl; have hcz16_1 : w15.cell? ⟨gb197, 1, none⟩ = some (.int .i64 a0_1) := (blk_cell BK197.out 1).trans rfl; have hcz16_2 : w15.cell? ⟨gb197, 2, none⟩ = some (.slice A0_2 l0_2.length c0_2) := (blk_cell BK197.out 2).trans rfl; have hcz16_3 : w15.cell? ⟨gb197, 3, none⟩ = some (.int .i64 a0_3) := (blk_cell BK197.out 3).trans rfl; have hcz16_4 : w15.cell? ⟨gb197, 4, none⟩ = some (.int .i64 a0_4) := (blk_cell BK197.out 4).trans rfl; have hcz16_5 : w15.cell? ⟨gb197, 5, none⟩ = some (.slice A0_5 l0_5.length c0_5) := (blk_cell BK197.out 5).trans rfl; have hfz16_0 := blk_frozen BK197.out 0; have hfz16_1 := blk_frozen BK197.out 1; have hfz16_2 := blk_frozen BK197.out 2; have hfz16_3 := blk_frozen BK197.out 3; have hfz16_4 := blk_frozen BK197.out 4; have hfz16_5 := blk_frozen BK197.out 5) | (go_at_call 66; (with_reducible refine (impl_isWarmth.calls a0_3 true _ A6.out).mono ?_); rintro e w' ⟨rfl, ⟨nd, rfl⟩⟩; (try first | exact ⟨rfl, _, World.drewN_drewN _ _ _⟩ | exact ⟨rfl, _, Eq.trans (World.drewN_drewN _ _ _) (congrArg (World.drewN _) (Nat.add_assoc _ _ _))⟩)) | (go_at_call 67; (with_reducible refine (impl_within.calls a0_4 0 100000 true _ A8.out).mono ?_); rintro e w' ⟨rfl, ⟨nd, rfl⟩⟩; (try first | exact ⟨rfl, _, World.drewN_drewN _ _ _⟩ | exact ⟨rfl, _, Eq.trans (World.drewN_drewN _ _ _) (congrArg (World.drewN _) (Nat.add_assoc _ _ _))⟩)))
            repeat (go_quiet (first | ((with_reducible refine gate_dst (N := 1) rfl ?_); (try (refine gate_guard (by rfl) ?_; dsimp only)); refine box_event ?hg (N := 1) ?hd (cs := #[.slice A0_0 l0_0.length c0_0, .int .i64 a0_1, .slice A0_2 l0_2.length c0_2, .int .i64 a0_3, .int .i64 a0_4, .slice A0_5 l0_5.length c0_5]) (t := 36) ?hr ?_; (case hd => rfl); (case hg => rfl); (case hr => first | (go_simp; done) | (go_simp; rfl)); intro gb197 hg w11 hbox hb; have n0_ := Aside0.mk (below_step (oB HB) hb); have n1_ := Aside0.mk (hbox); have n2_ := Aside0.mk ((by rw [hg]; exact (below_size (oB HB)) : w.heap.size ≤ gb197)); have n3_ := Aside0.mk ((by rw [hg]; exact (below_size (oB HB)) : w.heap.size ≤ gb197)); clear HB; have HB := n0_; have BK197 := n1_; have GW197 := n2_; have GE197 := n3_; clear n0_ n1_ n2_ n3_; clear hb hbox hg; have hcz12_0 : w11.cell? ⟨gb197, 0, none⟩ = some (.slice A0_0 l0_0.length c0_0) := (blk_cell BK197.out 0).trans rfl; have hcz12_1 : w11.cell? ⟨gb197, 1, none⟩ = some (.int .i64 a0_1) := (blk_cell BK197.out 1).trans rfl; have hcz12_2 : w11.cell? ⟨gb197, 2, none⟩ = some (.slice A0_2 l0_2.length c0_2) := (blk_cell BK197.out 2).trans rfl; have hcz12_3 : w11.cell? ⟨gb197, 3, none⟩ = some (.int .i64 a0_3) := (blk_cell BK197.out 3).trans rfl; have hcz12_4 : w11.cell? ⟨gb197, 4, none⟩ = some (.int .i64 a0_4) := (blk_cell BK197.out 4).trans rfl; have hcz12_5 : w11.cell? ⟨gb197, 5, none⟩ = some (.slice A0_5 l0_5.length c0_5) := (blk_cell BK197.out 5).trans rfl; have hfz12_0 := blk_frozen BK197.out 0; have hfz12_1 := blk_frozen BK197.out 1; have hfz12_2 := blk_frozen BK197.out 2; have hfz12_3 := blk_frozen BK197.out 3; have hfz12_4 := blk_frozen BK197.out 4; have hfz12_5 := blk_frozen BK197.out 5) | (go_at_call 64; (with_reducible refine (impl_WorkOk.calls _ _ l0_0 a0_1 _ _ l0_2 true _ ?side1 ?side2 ?side3 ?side4 A2.out).mono ?_); (case side1 => exact oc_ HR0_0.out); (case side2 => exact HC0_0.out); (case side3 => exact oc_ HR0_2.out); (case side4 => exact HC0_2.out); rintro e w13 ⟨rfl, hb⟩; have n0_ := Aside0.mk (blk_below (g := gb197) (o := .cells #[.slice A0_0 l0_0.length c0_0, .int .i64 a0_1, .slice A0_2 l0_2.length c0_2, .int .i64 a0_3, .int .i64 a0_4, .slice A0_5 l0_5.length c0_5] 36 (0, 0)) (oK BK197) hb); have n1_ := Aside0.mk (below_step (oB HB) hb); clear BK197; clear HB; have BK197 := n0_; have HB := n1_; clear n0_ n1_; (try clear hb); (try clear hb2); (try clear hk); (try clear hi); have hcz14_0 : w13.cell? ⟨gb197, 0, none⟩ = some (.slice A0_0 l0_0.length c0_0) := (blk_cell BK197.out 0).trans rfl; have hcz14_1 : w13.cell? ⟨gb197, 1, none⟩ = some (.int .i64 a0_1) := (blk_cell BK197.out 1).trans rfl; have hcz14_2 : w13.cell? ⟨gb197, 2, none⟩ = some (.slice A0_2 l0_2.length c0_2) := (blk_cell BK197.out 2).trans rfl; have hcz14_3 : w13.cell? ⟨gb197, 3, none⟩ = some (.int .i64 a0_3) := (blk_cell BK197.out 3).trans rfl; have hcz14_4 : w13.cell? ⟨gb197, 4, none⟩ = some (.int .i64 a0_4) := (blk_cell BK197.out 4).trans rfl; have hcz14_5 : w13.cell? ⟨gb197, 5, none⟩ = some (.slice A0_5 l0_5.length c0_5) := (blk_cell BK197.out 5).trans rfl; have hfz14_0 := blk_frozen BK197.out 0; have hfz14_1 := blk_frozen BK197.out 1; have hfz14_2 := blk_frozen BK197.out 2; have hfz14_3 := blk_frozen BK197.out 3; have hfz14_4 := blk_frozen BK197.out 4; have hfz14_5 := blk_frozen BK197.out 5) | (go_at_call 65; (with_reducible refine (impl_LogOk.calls k _ _ l0_5 true _ ?side1 ?side2 A4.out).mono ?_); (case side1 => exact oc_ HR0_5.out); (case side2 => exact HC0_5.out); rintro e w15 ⟨rfl, hb⟩; have n0_ := Aside0.mk (blk_below (g := gb197) (o := .cells #[.slice A0_0 l0_0.length c0_0, .int .i64 a0_1, .slice A0_2 l0_2.length c0_2, .int .i64 a0_3, .int .i64 a0_4, .slice A0_5 l0_5.length c0_5] 36 (0, 0)) (oK BK197) hb); have n1_ := Aside0.mk (below_step (oB HB) hb); clear BK197; clear HB; have BK197 := n0_; have HB := n1_; clear n0_ n1_; (try clear hb); (try clear hb2); (try clear hk); (try clear hi); have hcz16_0 : w15.cell? ⟨gb197, 0, none⟩ = some (.slice A0_0 l0_0.length c0_0) := (blk_cell BK197.out 0).trans rfl; have hcz16_1 : w15.cell? ⟨gb197, 1, none⟩ = some (.int .i64 a0_1) := (blk_cell BK197.out 1).trans rfl; have hcz16_2 : w15.cell? ⟨gb197, 2, none⟩ = some (.slice A0_2 l0_2.length c0_2) := (blk_cell BK197.out 2).trans rfl; have hcz16_3 : w15.cell? ⟨gb197, 3, none⟩ = some (.int .i64 a0_3) := (blk_cell BK197.out 3).trans rfl; have hcz16_4 : w15.cell? ⟨gb197, 4, none⟩ = some (.int .i64 a0_4) := (blk_cell BK197.out 4).trans rfl; have hcz16_5 : w15.cell? ⟨gb197, 5, none⟩ = some (.slice A0_5 l0_5.length c0_5) := (blk_cell BK197.out 5).trans rfl; have hfz16_0 := blk_frozen BK197.out 0; have hfz16_1 := blk_frozen BK197.out 1; have hfz16_2 := blk_frozen BK197.out 2; have hfz16_3 := blk_frozen BK197.out 3; have hfz16_4 := blk_frozen BK197.out 4; have hfz16_5 := blk_frozen BK197.out 5) | (go_at_call 66; (with_reducible refine (impl_isWarmth.calls a0_3 true _ A6.out).mono ?_); rintro e w' ⟨rfl, ⟨nd, rfl⟩⟩; (try first | exact ⟨rfl, _, World.drewN_drewN _ _ _⟩ | exact ⟨rfl, _, Eq.trans (World.drewN_drewN _ _ _) (congrArg (World.drewN _) (Nat.add_assoc _ _ _))⟩)) | (go_at_call 67; (with_reducible refine (impl_within.calls a0_4 0 100000 true _ A8.out).mono ?_); rintro e w' ⟨rfl, ⟨nd, rfl⟩⟩; (try first | exact ⟨rfl, _, World.drewN_drewN _ _ _⟩ | exact ⟨rfl, _, Eq.trans (World.drewN_drewN _ _ _) (congrArg (World.drewN _) (Nat.add_assoc _ _ _))⟩))); try go_wp2_with (first | ((with_reducible refine gate_dst (N := 1) rfl ?_); (try (refine gate_guard (by rfl) ?_; dsimp only)); refine box_event ?hg (N := 1) ?hd (cs := #[.slice A0_0 l0_0.length c0_0, .int .i64 a0_1, .slice A0_2 l0_2.length c0_2, .int .i64 a0_3, .int .i64 a0_4, .slice A0_5 l0_5.length c0_5]) (t := 36) ?hr ?_; (case hd => rfl); (case hg => rfl); (case hr => first | (go_simp; done) | (go_simp; rfl)); intro gb197 hg w11 hbox hb; have n0_ := Aside0.mk (below_step (oB HB) hb); have n1_ := Aside0.mk (hbox); have n2_ := Aside0.mk ((by rw [hg]; exact (below_size (oB HB)) : w.heap.size ≤ gb197)); have n3_ := Aside0.mk ((by rw [hg]; exact (below_size (oB HB)) : w.heap.size ≤ gb197)); clear HB; have HB := n0_; have BK197 := n1_; have GW197 := n2_; have GE197 := n3_; clear n0_ n1_ n2_ n3_; clear hb hbox hg; have hcz12_0 : w11.cell? ⟨gb197, 0, none⟩ = some (.slice A0_0 l0_0.length c0_0) := (blk_cell BK197.out 0).trans rfl; have hcz12_1 : w11.cell? ⟨gb197, 1, none⟩ = some (.int .i64 a0_1) := (blk_cell BK197.out 1).trans rfl; have hcz12_2 : w11.cell? ⟨gb197, 2, none⟩ = some (.slice A0_2 l0_2.length c0_2) := (blk_cell BK197.out 2).trans rfl; have hcz12_3 : w11.cell? ⟨gb197, 3, none⟩ = some (.int .i64 a0_3) := (blk_cell BK197.out 3).trans rfl; have hcz12_4 : w11.cell? ⟨gb197, 4, none⟩ = some (.int .i64 a0_4) := (blk_cell BK197.out 4).trans rfl; have hcz12_5 : w11.cell? ⟨gb197, 5, none⟩ = some (.slice A0_5 l0_5.length c0_5) := (blk_cell BK197.out 5).trans rfl; have hfz12_0 := blk_frozen BK197.out 0; have hfz12_1 := blk_frozen BK197.out 1; have hfz12_2 := blk_frozen BK197.out 2; have hfz12_3 := blk_frozen BK197.out 3; have hfz12_4 := blk_frozen BK197.out 4; have hfz12_5 := blk_frozen BK197.out 5) | (go_at_call 64; (with_reducible refine (impl_WorkOk.calls _ _ l0_0 a0_1 _ _ l0_2 true _ ?side1 ?side2 ?side3 ?side4 A2.out).mono ?_); (case side1 => exact oc_ HR0_0.out); (case side2 => exact HC0_0.out); (case side3 => exact oc_ HR0_2.out); (case side4 => exact HC0_2.out); rintro e w13 ⟨rfl, hb⟩; have n0_ := Aside0.mk (blk_below (g := gb197) (o := .cells #[.slice A0_0 l0_0.length c0_0, .int .i64 a0_1, .slice A0_2 l0_2.length c0_2, .int .i64 a0_3, .int .i64 a0_4, .slice A0_5 l0_5.length c0_5] 36 (0, 0)) (oK BK197) hb); have n1_ := Aside0.mk (below_step (oB HB) hb); clear BK197; clear HB; have BK197 := n0_; have HB := n1_; clear n0_ n1_; (try clear hb); (try clear hb2); (try clear hk); (try clear hi); have hcz14_0 : w13.cell? ⟨gb197, 0, none⟩ = some (.slice A0_0 l0_0.length c0_0) := (blk_cell BK197.out 0).trans rfl; have hcz14_1 : w13.cell? ⟨gb197, 1, none⟩ = some (.int .i64 a0_1) := (blk_cell BK197.out 1).trans rfl; have hcz14_2 : w13.cell? ⟨gb197, 2, none⟩ = some (.slice A0_2 l0_2.length c0_2) := (blk_cell BK197.out 2).trans rfl; have hcz14_3 : w13.cell? ⟨gb197, 3, none⟩ = some (.int .i64 a0_3) := (blk_cell BK197.out 3).trans rfl; have hcz14_4 : w13.cell? ⟨gb197, 4, none⟩ = some (.int .i64 a0_4) := (blk_cell BK197.out 4).trans rfl; have hcz14_5 : w13.cell? ⟨gb197, 5, none⟩ = some (.slice A0_5 l0_5.length c0_5) := (blk_cell BK197.out 5).trans rfl; have hfz14_0 := blk_frozen BK197.out 0; have hfz14_1 := blk_frozen BK197.out 1; have hfz14_2 := blk_frozen BK197.out 2; have hfz14_3 := blk_frozen BK197.out 3; have hfz14_4 := blk_frozen BK197.out 4; have hfz14_5 := blk_frozen BK197.out 5) | (go_at_call 65; (with_reducible refine (impl_LogOk.calls k _ _ l0_5 true _ ?side1 ?side2 A4.out).mono ?_); (case side1 => exact oc_ HR0_5.out); (case side2 => exact HC0_5.out); rintro e w15 ⟨rfl, hb⟩; have n0_ := Aside0.mk (blk_below (g := gb197) (o := .cells #[.slice A0_0 l0_0.length c0_0, .int .i64 a0_1, .slice A0_2 l0_2.length c0_2, .int .i64 a0_3, .int .i64 a0_4, .slice A0_5 l0_5.length c0_5] 36 (0, 0)) (oK BK197) hb); have n1_ := Aside0.mk (below_step (oB HB) hb); clear BK197; clear HB; have BK197 := n0_; have HB := n1_; clear n0_ n1_; (try clear hb); (try clear hb2); (try clear hk); (try clear hi); have hcz16_0 : w15.cell? ⟨gb197, 0, none⟩ = some (.slice A0_0 l0_0.length c0_0) := (blk_cell BK197.out 0).trans rfl; have hcz16_1 : w15.cell? ⟨gb197, 1, none⟩ = some (.int .i64 a0_1) := (blk_cell BK197.out 1).trans rfl; have hcz16_2 : w15.cell? ⟨gb197, 2, none⟩ = some (.slice A0_2 l0_2.length c0_2) := (blk_cell BK197.out 2).trans rfl; have hcz16_3 : w15.cell? ⟨gb197, 3, none⟩ = some (.int .i64 a0_3) := (blk_cell BK197.out 3).trans rfl; have hcz16_4 : w15.cell? ⟨gb197, 4, none⟩ = some (.int .i64 a0_4) := (blk_cell BK197.out 4).trans rfl; have hcz16_5 : w15.cell? ⟨gb197, 5, none⟩ = some (.slice A0_5 l0_5.length c0_5) := (blk_cell BK197.out 5).trans rfl; have hfz16_0 := blk_frozen BK197.out 0; have hfz16_1 := blk_frozen BK197.out 1; have hfz16_2 := blk_frozen BK197.out 2; have hfz16_3 := blk_frozen BK197.out 3; have hfz16_4 := blk_frozen BK197.out 4; have hfz16_5 := blk_frozen BK197.out 5) | (go_at_call 66; (with_reducible refine (impl_isWarmth.calls a0_3 true _ A6.out).mono ?_); rintro e w' ⟨rfl, ⟨nd, rfl⟩⟩; (try first | exact ⟨rfl, _, World.drewN_drewN _ _ _⟩ | exact ⟨rfl, _, Eq.trans (World.drewN_drewN _ _ _) (congrArg (World.drewN _) (Nat.add_assoc _ _ _))⟩)) | (go_at_call 67; (with_reducible refine (impl_within.calls a0_4 0 100000 true _ A8.out).mono ?_); rintro e w' ⟨rfl, ⟨nd, rfl⟩⟩; (try first | exact ⟨rfl, _, World.drewN_drewN _ _ _⟩ | exact ⟨rfl, _, Eq.trans (World.drewN_drewN _ _ _) (congrArg (World.drewN _) (Nat.add_assoc _ _ _))⟩))))
            go_ret
            exact ⟨by first | rfl | (simp [errW_none, errW_some] <;> rfl) | (simp [*, errW_none, errW_some] <;> rfl), oB HB⟩
          · rw [if_neg c10] at H
            have c10b0 : ((l0_5.length : Int) == 0) = false := beq_eq_false_iff_ne.mpr c10
            have c10b1 : ((l0_5.length : Int) != 0) = true := bne_iff_ne.mpr c10
            have c10b2 : ¬ (l0_5 = []) := fun h_ => c10 (by rw [h_]; rfl)
            obtain ⟨ji17, hji17⟩ : ∃ j_ : Int, (wrap64 ((l0_5.length : Int) - 1)) = j_ := ⟨_, rfl⟩
            replace H : (if 0 ≤ (ji17) then (if (ji17) < (l0_5.length : Int) then (some (decide (((rd_T74 l0_5 (ji17)).f2) ≤ a0_4))) else (none)) else (none)) = some r := by first | (rw [hji17] at H; exact H) | (simp only [hji17] at H ⊢; exact H)
            (try rw [hji17] at A2)
            (try rw [hji17] at A4)
            (try rw [hji17] at A6)
            (try rw [hji17] at A8)
            have hji17w : (IntKind.i64.wrap ((l0_5.length : Int) - 1)) = ji17 := (i64_w _).trans hji17
            by_cases c18 : 0 ≤ (ji17)
            · rw [if_pos c18] at H
              have c18b0 : decide (0 ≤ (ji17)) = true := decide_eq_true c18
              clear c18
              by_cases c19 : (ji17) < (l0_5.length : Int)
              · rw [if_pos c19] at H
                have c19b0 : decide ((ji17) < (l0_5.length : Int)) = true := decide_eq_true c19
                clear c19
                obtain rfl := Option.some.inj H
                go_enter Try.func18, Try.ntmps18
                go_wp2_with (first | ((with_reducible refine gate_dst (N := 1) rfl ?_); (try (refine gate_guard (by rfl) ?_; dsimp only)); refine box_event ?hg (N := 1) ?hd (cs := #[.slice A0_0 l0_0.length c0_0, .int .i64 a0_1, .slice A0_2 l0_2.length c0_2, .int .i64 a0_3, .int .i64 a0_4, .slice A0_5 l0_5.length c0_5]) (t := 36) ?hr ?_; (case hd => rfl); (case hg => rfl); (case hr => first | (go_simp; done) | (go_simp; rfl)); intro gb197 hg w20 hbox hb; have n0_ := Aside0.mk (below_step (oB HB) hb); have n1_ := Aside0.mk (hbox); have n2_ := Aside0.mk ((by rw [hg]; exact (below_size (oB HB)) : w.heap.size ≤ gb197)); have n3_ := Aside0.mk ((by rw [hg]; exact (below_size (oB HB)) : w.heap.size ≤ gb197)); clear HB; have HB := n0_; have BK197 := n1_; have GW197 := n2_; have GE197 := n3_; clear n0_ n1_ n2_ n3_; clear hb hbox hg; have hcz21_0 : w20.cell? ⟨gb197, 0, none⟩ = some (.slice A0_0 l0_0.length c0_0) := (blk_cell BK197.out 0).trans rfl; have hcz21_1 : w20.cell? ⟨gb197, 1, none⟩ = some (.int .i64 a0_1) := (blk_cell BK197.out 1).trans rfl; have hcz21_2 : w20.cell? ⟨gb197, 2, none⟩ = some (.slice A0_2 l0_2.length c0_2) := (blk_cell BK197.out 2).trans rfl; have hcz21_3 : w20.cell? ⟨gb197, 3, none⟩ = some (.int .i64 a0_3) := (blk_cell BK197.out 3).trans rfl; have hcz21_4 : w20.cell? ⟨gb197, 4, none⟩ = some (.int .i64 a0_4) := (blk_cell BK197.out 4).trans rfl; have hcz21_5 : w20.cell? ⟨gb197, 5, none⟩ = some (.slice A0_5 l0_5.length c0_5) := (blk_cell BK197.out 5).trans rfl; have hfz21_0 := blk_frozen BK197.out 0; have hfz21_1 := blk_frozen BK197.out 1; have hfz21_2 := blk_frozen BK197.out 2; have hfz21_3 := blk_frozen BK197.out 3; have hfz21_4 := blk_frozen BK197.out 4; have hfz21_5 := blk_frozen BK197.out 5) | (go_at_call 64; (with_reducible refine (impl_WorkOk.calls _ _ l0_0 a0_1 _ _ l0_2 true _ ?side1 ?side2 ?side3 ?side4 A2.out).mono ?_); (case side1 => exact oc_ HR0_0.out); (case side2 => exact HC0_0.out); (case side3 => exact oc_ HR0_2.out); (case side4 => exact HC0_2.out); rintro e w22 ⟨rfl, hb⟩; have n0_ := Aside0.mk (blk_below (g := gb197) (o := .cells #[.slice A0_0 l0_0.length c0_0, .int .i64 a0_1, .slice A0_2 l0_2.length c0_2, .int .i64 a0_3, .int .i64 a0_4, .slice A0_5 l0_5.length c0_5] 36 (0, 0)) (oK BK197) hb); have n1_ := Aside0.mk (below_step (oB HB) hb); clear BK197; clear HB; have BK197 := n0_; have HB := n1_; clear n0_ n1_; (try clear hb); (try clear hb2); (try clear hk); (try clear hi); have hcz23_0 : w22.cell? ⟨gb197, 0, none⟩ = some (.slice A0_0 l0_0.length c0_0) := (blk_cell BK197.out 0).trans rfl; have hcz23_1 : w22.cell? ⟨gb197, 1, none⟩ = some (.int .i64 a0_1) := (blk_cell BK197.out 1).trans rfl; have hcz23_2 : w22.cell? ⟨gb197, 2, none⟩ = some (.slice A0_2 l0_2.length c0_2) := (blk_cell BK197.out 2).trans rfl; have hcz23_3 : w22.cell? ⟨gb197, 3, none⟩ = some (.int .i64 a0_3) := (blk_cell BK197.out 3).trans rfl; have hcz23_4 : w22.cell? ⟨gb197, 4, none⟩ = some (.int .i64 a0_4) := (blk_cell BK197.out 4).trans rfl; have hcz23_5 : w22.cell? ⟨gb197, 5, none⟩ = some (.slice A0_5 l0_5.length c0_5) := (blk_cell BK197.out 5).trans rfl; have hfz23_0 := blk_frozen BK197.out 0; have hfz23_1 := blk_frozen BK197.out 1; have hfz23_2 := blk_frozen BK197.out 2; have hfz23_3 := blk_frozen BK197.out 3; have hfz23_4 := blk_frozen BK197.out 4; have hfz23_5 := blk_frozen BK197.out 5) | (go_at_call 65; (with_reducible refine (impl_LogOk.calls k _ _ l0_5 true _ ?side1 ?side2 A4.out).mono ?_); (case side1 => exact oc_ HR0_5.out); (case side2 => exact HC0_5.out); rintro e w24 ⟨rfl, hb⟩; have n0_ := Aside0.mk (blk_below (g := gb197) (o := .cells #[.slice A0_0 l0_0.length c0_0, .int .i64 a0_1, .slice A0_2 l0_2.length c0_2, .int .i64 a0_3, .int .i64 a0_4, .slice A0_5 l0_5.length c0_5] 36 (0, 0)) (oK BK197) hb); have n1_ := Aside0.mk (below_step (oB HB) hb); clear BK197; clear HB; have BK197 := n0_; have HB := n1_; clear n0_ n1_; (try clear hb); (try clear hb2); (try clear hk); (try clear hi); have hcz25_0 : w24.cell? ⟨gb197, 0, none⟩ = some (.slice A0_0 l0_0.length c0_0) := (blk_cell BK197.out 0).trans rfl; have hcz25_1 : w24.cell? ⟨gb197, 1, none⟩ = some (.int .i64 a0_1) := (blk_cell BK197.out 1).trans rfl; have hcz25_2 : w24.cell? ⟨gb197, 2, none⟩ = some (.slice A0_2 l0_2.length c0_2) := (blk_cell BK197.out 2).trans rfl; have hcz25_3 : w24.cell? ⟨gb197, 3, none⟩ = some (.int .i64 a0_3) := (blk_cell BK197.out 3).trans rfl; have hcz25_4 : w24.cell? ⟨gb197, 4, none⟩ = some (.int .i64 a0_4) := (blk_cell BK197.out 4).trans rfl; have hcz25_5 : w24.cell? ⟨gb197, 5, none⟩ = some (.slice A0_5 l0_5.length c0_5) := (blk_cell BK197.out 5).trans rfl; have hfz25_0 := blk_frozen BK197.out 0; have hfz25_1 := blk_frozen BK197.out 1; have hfz25_2 := blk_frozen BK197.out 2; have hfz25_3 := blk_frozen BK197.out 3; have hfz25_4 := blk_frozen BK197.out 4; have hfz25_5 := blk_frozen BK197.out 5) | (go_at_call 66; (with_reducible refine (impl_isWarmth.calls a0_3 true _ A6.out).mono ?_); rintro e w' ⟨rfl, ⟨nd, rfl⟩⟩; (try first | exact ⟨rfl, _, World.drewN_drewN _ _ _⟩ | exact ⟨rfl, _, Eq.trans (World.drewN_drewN _ _ _) (congrArg (World.drewN _) (Nat.add_assoc _ _ _))⟩)) | (go_at_call 67; (with_reducible refine (impl_within.calls a0_4 0 100000 true _ A8.out).mono ?_); rintro e w' ⟨rfl, ⟨nd, rfl⟩⟩; (try first | exact ⟨rfl, _, World.drewN_drewN _ _ _⟩ | exact ⟨rfl, _, Eq.trans (World.drewN_drewN _ _ _) (congrArg (World.drewN _) (Nat.add_assoc _ _ _))⟩); have p202 : 0 ≤ ((ji17) : Int) := of_decide_eq_true (by first | (with_reducible assumption) | assumption); have q202 : (ji17) < (l0_5.length : Int) := of_decide_eq_true (by first | (with_reducible assumption) | assumption); obtain ⟨ad202, e202, hx202_0, hx202_1, hx202_2, hx202_3⟩ := at_T74 HR0_5.out (ji17) p202 q202; cases e202; replace hx202_0 := (HB.out.cell (World.block_lt_of_cell? w _ hx202_0)).trans hx202_0; replace hx202_1 := (HB.out.cell (World.block_lt_of_cell? w _ hx202_1)).trans hx202_1; replace hx202_2 := (HB.out.cell (World.block_lt_of_cell? w _ hx202_2)).trans hx202_2; replace hx202_3 := (HB.out.cell (World.block_lt_of_cell? w _ hx202_3)).trans hx202_3; replace p202 := eq_true p202; replace q202 := eq_true q202))
                repeat (go_quiet (first | ((with_reducible refine gate_dst (N := 1) rfl ?_); (try (refine gate_guard (by rfl) ?_; dsimp only)); refine box_event ?hg (N := 1) ?hd (cs := #[.slice A0_0 l0_0.length c0_0, .int .i64 a0_1, .slice A0_2 l0_2.length c0_2, .int .i64 a0_3, .int .i64 a0_4, .slice A0_5 l0_5.length c0_5]) (t := 36) ?hr ?_; (case hd => rfl); (case hg => rfl); (case hr => first | (go_simp; done) | (go_simp; rfl)); intro gb197 hg w20 hbox hb; have n0_ := Aside0.mk (below_step (oB HB) hb); have n1_ := Aside0.mk (hbox); have n2_ := Aside0.mk ((by rw [hg]; exact (below_size (oB HB)) : w.heap.size ≤ gb197)); have n3_ := Aside0.mk ((by rw [hg]; exact (below_size (oB HB)) : w.heap.size ≤ gb197)); clear HB; have HB := n0_; have BK197 := n1_; have GW197 := n2_; have GE197 := n3_; clear n0_ n1_ n2_ n3_; clear hb hbox hg; have hcz21_0 : w20.cell? ⟨gb197, 0, none⟩ = some (.slice A0_0 l0_0.length c0_0) := (blk_cell BK197.out 0).trans rfl; have hcz21_1 : w20.cell? ⟨gb197, 1, none⟩ = some (.int .i64 a0_1) := (blk_cell BK197.out 1).trans rfl; have hcz21_2 : w20.cell? ⟨gb197, 2, none⟩ = some (.slice A0_2 l0_2.length c0_2) := (blk_cell BK197.out 2).trans rfl; have hcz21_3 : w20.cell? ⟨gb197, 3, none⟩ = some (.int .i64 a0_3) := (blk_cell BK197.out 3).trans rfl; have hcz21_4 : w20.cell? ⟨gb197, 4, none⟩ = some (.int .i64 a0_4) := (blk_cell BK197.out 4).trans rfl; have hcz21_5 : w20.cell? ⟨gb197, 5, none⟩ = some (.slice A0_5 l0_5.length c0_5) := (blk_cell BK197.out 5).trans rfl; have hfz21_0 := blk_frozen BK197.out 0; have hfz21_1 := blk_frozen BK197.out 1; have hfz21_2 := blk_frozen BK197.out 2; have hfz21_3 := blk_frozen BK197.out 3; have hfz21_4 := blk_frozen BK197.out 4; have hfz21_5 := blk_frozen BK197.out 5) | (go_at_call 64; (with_reducible refine (impl_WorkOk.calls _ _ l0_0 a0_1 _ _ l0_2 true _ ?side1 ?side2 ?side3 ?side4 A2.out).mono ?_); (case side1 => exact oc_ HR0_0.out); (case side2 => exact HC0_0.out); (case side3 => exact oc_ HR0_2.out); (case side4 => exact HC0_2.out); rintro e w22 ⟨rfl, hb⟩; have n0_ := Aside0.mk (blk_below (g := gb197) (o := .cells #[.slice A0_0 l0_0.length c0_0, .int .i64 a0_1, .slice A0_2 l0_2.length c0_2, .int .i64 a0_3, .int .i64 a0_4, .slice A0_5 l0_5.length c0_5] 36 (0, 0)) (oK BK197) hb); have n1_ := Aside0.mk (below_step (oB HB) hb); clear BK197; clear HB; have BK197 := n0_; have HB := n1_; clear n0_ n1_; (try clear hb); (try clear hb2); (try clear hk); (try clear hi); have hcz23_0 : w22.cell? ⟨gb197, 0, none⟩ = some (.slice A0_0 l0_0.length c0_0) := (blk_cell BK197.out 0).trans rfl; have hcz23_1 : w22.cell? ⟨gb197, 1, none⟩ = some (.int .i64 a0_1) := (blk_cell BK197.out 1).trans rfl; have hcz23_2 : w22.cell? ⟨gb197, 2, none⟩ = some (.slice A0_2 l0_2.length c0_2) := (blk_cell BK197.out 2).trans rfl; have hcz23_3 : w22.cell? ⟨gb197, 3, none⟩ = some (.int .i64 a0_3) := (blk_cell BK197.out 3).trans rfl; have hcz23_4 : w22.cell? ⟨gb197, 4, none⟩ = some (.int .i64 a0_4) := (blk_cell BK197.out 4).trans rfl; have hcz23_5 : w22.cell? ⟨gb197, 5, none⟩ = some (.slice A0_5 l0_5.length c0_5) := (blk_cell BK197.out 5).trans rfl; have hfz23_0 := blk_frozen BK197.out 0; have hfz23_1 := blk_frozen BK197.out 1; have hfz23_2 := blk_frozen BK197.out 2; have hfz23_3 := blk_frozen BK197.out 3; have hfz23_4 := blk_frozen BK197.out 4; have hfz23_5 := blk_frozen BK197.out 5) | (go_at_call 65; (with_reducible refine (impl_LogOk.calls k _ _ l0_5 true _ ?side1 ?side2 A4.out).mono ?_); (case side1 => exact oc_ HR0_5.out); (case side2 => exact HC0_5.out); rintro e w24 ⟨rfl, hb⟩; have n0_ := Aside0.mk (blk_below (g := gb197) (o := .cells #[.slice A0_0 l0_0.length c0_0, .int .i64 a0_1, .slice A0_2 l0_2.length c0_2, .int .i64 a0_3, .int .i64 a0_4, .slice A0_5 l0_5.length c0_5] 36 (0, 0)) (oK BK197) hb); have n1_ := Aside0.mk (below_step (oB HB) hb); clear BK197; clear HB; have BK197 := n0_; have HB := n1_; clear n0_ n1_; (try clear hb); (try clear hb2); (try clear hk); (try clear hi); have hcz25_0 : w24.cell? ⟨gb197, 0, none⟩ = some (.slice A0_0 l0_0.length c0_0) := (blk_cell BK197.out 0).trans rfl; have hcz25_1 : w24.cell? ⟨gb197, 1, none⟩ = some (.int .i64 a0_1) := (blk_cell BK197.out 1).trans rfl; have hcz25_2 : w24.cell? ⟨gb197, 2, none⟩ = some (.slice A0_2 l0_2.length c0_2) := (blk_cell BK197.out 2).trans rfl; have hcz25_3 : w24.cell? ⟨gb197, 3, none⟩ = some (.int .i64 a0_3) := (blk_cell BK197.out 3).trans rfl; have hcz25_4 : w24.cell? ⟨gb197, 4, none⟩ = some (.int .i64 a0_4) := (blk_cell BK197.out 4).trans rfl; have hcz25_5 : w24.cell? ⟨gb197, 5, none⟩ = some (.slice A0_5 l0_5.length c0_5) := (blk_cell BK197.out 5).trans rfl; have hfz25_0 := blk_frozen BK197.out 0; have hfz25_1 := blk_frozen BK197.out 1; have hfz25_2 := blk_frozen BK197.out 2; have hfz25_3 := blk_frozen BK197.out 3; have hfz25_4 := blk_frozen BK197.out 4; have hfz25_5 := blk_frozen BK197.out 5) | (go_at_call 66; (with_reducible refine (impl_isWarmth.calls a0_3 true _ A6.out).mono ?_); rintro e w' ⟨rfl, ⟨nd, rfl⟩⟩; (try first | exact ⟨rfl, _, World.drewN_drewN _ _ _⟩ | exact ⟨rfl, _, Eq.trans (World.drewN_drewN _ _ _) (congrArg (World.drewN _) (Nat.add_assoc _ _ _))⟩)) | (go_at_call 67; (with_reducible refine (impl_within.calls a0_4 0 100000 true _ A8.out).mono ?_); rintro e w' ⟨rfl, ⟨nd, rfl⟩⟩; (try first | exact ⟨rfl, _, World.drewN_drewN _ _ _⟩ | exact ⟨rfl, _, Eq.trans (World.drewN_drewN _ _ _) (congrArg (World.drewN _) (Nat.add_assoc _ _ _))⟩); have p202 : 0 ≤ ((ji17) : Int) := of_decide_eq_true (by first | (with_reducible assumption) | assumption); have q202 : (ji17) < (l0_5.length : Int) := of_decide_eq_true (by first | (with_reducible assumption) | assumption); obtain ⟨ad202, e202, hx202_0, hx202_1, hx202_2, hx202_3⟩ := at_T74 HR0_5.out (ji17) p202 q202; cases e202; replace hx202_0 := (HB.out.cell (World.block_lt_of_cell? w _ hx202_0)).trans hx202_0; replace hx202_1 := (HB.out.cell (World.block_lt_of_cell? w _ hx202_1)).trans hx202_1; replace hx202_2 := (HB.out.cell (World.block_lt_of_cell? w _ hx202_2)).trans hx202_2; replace hx202_3 := (HB.out.cell (World.block_lt_of_cell? w _ hx202_3)).trans hx202_3; replace p202 := eq_true p202; replace q202 := eq_true q202)); try go_wp2_with (first | ((with_reducible refine gate_dst (N := 1) rfl ?_); (try (refine gate_guard (by rfl) ?_; dsimp only)); refine box_event ?hg (N := 1) ?hd (cs := #[.slice A0_0 l0_0.length c0_0, .int .i64 a0_1, .slice A0_2 l0_2.length c0_2, .int .i64 a0_3, .int .i64 a0_4, .slice A0_5 l0_5.length c0_5]) (t := 36) ?hr ?_; (case hd => rfl); (case hg => rfl); (case hr => first | (go_simp; done) | (go_simp; rfl)); intro gb197 hg w20 hbox hb; have n0_ := Aside0.mk (below_step (oB HB) hb); have n1_ := Aside0.mk (hbox); have n2_ := Aside0.mk ((by rw [hg]; exact (below_size (oB HB)) : w.heap.size ≤ gb197)); have n3_ := Aside0.mk ((by rw [hg]; exact (below_size (oB HB)) : w.heap.size ≤ gb197)); clear HB; have HB := n0_; have BK197 := n1_; have GW197 := n2_; have GE197 := n3_; clear n0_ n1_ n2_ n3_; clear hb hbox hg; have hcz21_0 : w20.cell? ⟨gb197, 0, none⟩ = some (.slice A0_0 l0_0.length c0_0) := (blk_cell BK197.out 0).trans rfl; have hcz21_1 : w20.cell? ⟨gb197, 1, none⟩ = some (.int .i64 a0_1) := (blk_cell BK197.out 1).trans rfl; have hcz21_2 : w20.cell? ⟨gb197, 2, none⟩ = some (.slice A0_2 l0_2.length c0_2) := (blk_cell BK197.out 2).trans rfl; have hcz21_3 : w20.cell? ⟨gb197, 3, none⟩ = some (.int .i64 a0_3) := (blk_cell BK197.out 3).trans rfl; have hcz21_4 : w20.cell? ⟨gb197, 4, none⟩ = some (.int .i64 a0_4) := (blk_cell BK197.out 4).trans rfl; have hcz21_5 : w20.cell? ⟨gb197, 5, none⟩ = some (.slice A0_5 l0_5.length c0_5) := (blk_cell BK197.out 5).trans rfl; have hfz21_0 := blk_frozen BK197.out 0; have hfz21_1 := blk_frozen BK197.out 1; have hfz21_2 := blk_frozen BK197.out 2; have hfz21_3 := blk_frozen BK197.out 3; have hfz21_4 := blk_frozen BK197.out 4; have hfz21_5 := blk_frozen BK197.out 5) | (go_at_call 64; (with_reducible refine (impl_WorkOk.calls _ _ l0_0 a0_1 _ _ l0_2 true _ ?side1 ?side2 ?side3 ?side4 A2.out).mono ?_); (case side1 => exact oc_ HR0_0.out); (case side2 => exact HC0_0.out); (case side3 => exact oc_ HR0_2.out); (case side4 => exact HC0_2.out); rintro e w22 ⟨rfl, hb⟩; have n0_ := Aside0.mk (blk_below (g := gb197) (o := .cells #[.slice A0_0 l0_0.length c0_0, .int .i64 a0_1, .slice A0_2 l0_2.length c0_2, .int .i64 a0_3, .int .i64 a0_4, .slice A0_5 l0_5.length c0_5] 36 (0, 0)) (oK BK197) hb); have n1_ := Aside0.mk (below_step (oB HB) hb); clear BK197; clear HB; have BK197 := n0_; have HB := n1_; clear n0_ n1_; (try clear hb); (try clear hb2); (try clear hk); (try clear hi); have hcz23_0 : w22.cell? ⟨gb197, 0, none⟩ = some (.slice A0_0 l0_0.length c0_0) := (blk_cell BK197.out 0).trans rfl; have hcz23_1 : w22.cell? ⟨gb197, 1, none⟩ = some (.int .i64 a0_1) := (blk_cell BK197.out 1).trans rfl; have hcz23_2 : w22.cell? ⟨gb197, 2, none⟩ = some (.slice A0_2 l0_2.length c0_2) := (blk_cell BK197.out 2).trans rfl; have hcz23_3 : w22.cell? ⟨gb197, 3, none⟩ = some (.int .i64 a0_3) := (blk_cell BK197.out 3).trans rfl; have hcz23_4 : w22.cell? ⟨gb197, 4, none⟩ = some (.int .i64 a0_4) := (blk_cell BK197.out 4).trans rfl; have hcz23_5 : w22.cell? ⟨gb197, 5, none⟩ = some (.slice A0_5 l0_5.length c0_5) := (blk_cell BK197.out 5).trans rfl; have hfz23_0 := blk_frozen BK197.out 0; have hfz23_1 := blk_frozen BK197.out 1; have hfz23_2 := blk_frozen BK197.out 2; have hfz23_3 := blk_frozen BK197.out 3; have hfz23_4 := blk_frozen BK197.out 4; have hfz23_5 := blk_frozen BK197.out 5) | (go_at_call 65; (with_reducible refine (impl_LogOk.calls k _ _ l0_5 true _ ?side1 ?side2 A4.out).mono ?_); (case side1 => exact oc_ HR0_5.out); (case side2 => exact HC0_5.out); rintro e w24 ⟨rfl, hb⟩; have n0_ := Aside0.mk (blk_below (g := gb197) (o := .cells #[.slice A0_0 l0_0.length c0_0, .int .i64 a0_1, .slice A0_2 l0_2.length c0_2, .int .i64 a0_3, .int .i64 a0_4, .slice A0_5 l0_5.length c0_5] 36 (0, 0)) (oK BK197) hb); have n1_ := Aside0.mk (below_step (oB HB) hb); clear BK197; clear HB; have BK197 := n0_; have HB := n1_; clear n0_ n1_; (try clear hb); (try clear hb2); (try clear hk); (try clear hi); have hcz25_0 : w24.cell? ⟨gb197, 0, none⟩ = some (.slice A0_0 l0_0.length c0_0) := (blk_cell BK197.out 0).trans rfl; have hcz25_1 : w24.cell? ⟨gb197, 1, none⟩ = some (.int .i64 a0_1) := (blk_cell BK197.out 1).trans rfl; have hcz25_2 : w24.cell? ⟨gb197, 2, none⟩ = some (.slice A0_2 l0_2.length c0_2) := (blk_cell BK197.out 2).trans rfl; have hcz25_3 : w24.cell? ⟨gb197, 3, none⟩ = some (.int .i64 a0_3) := (blk_cell BK197.out 3).trans rfl; have hcz25_4 : w24.cell? ⟨gb197, 4, none⟩ = some (.int .i64 a0_4) := (blk_cell BK197.out 4).trans rfl; have hcz25_5 : w24.cell? ⟨gb197, 5, none⟩ = some (.slice A0_5 l0_5.length c0_5) := (blk_cell BK197.out 5).trans rfl; have hfz25_0 := blk_frozen BK197.out 0; have hfz25_1 := blk_frozen BK197.out 1; have hfz25_2 := blk_frozen BK197.out 2; have hfz25_3 := blk_frozen BK197.out 3; have hfz25_4 := blk_frozen BK197.out 4; have hfz25_5 := blk_frozen BK197.out 5) | (go_at_call 66; (with_reducible refine (impl_isWarmth.calls a0_3 true _ A6.out).mono ?_); rintro e w' ⟨rfl, ⟨nd, rfl⟩⟩; (try first | exact ⟨rfl, _, World.drewN_drewN _ _ _⟩ | exact ⟨rfl, _, Eq.trans (World.drewN_drewN _ _ _) (congrArg (World.drewN _) (Nat.add_assoc _ _ _))⟩)) | (go_at_call 67; (with_reducible refine (impl_within.calls a0_4 0 100000 true _ A8.out).mono ?_); rintro e w' ⟨rfl, ⟨nd, rfl⟩⟩; (try first | exact ⟨rfl, _, World.drewN_drewN _ _ _⟩ | exact ⟨rfl, _, Eq.trans (World.drewN_drewN _ _ _) (congrArg (World.drewN _) (Nat.add_assoc _ _ _))⟩); have p202 : 0 ≤ ((ji17) : Int) := of_decide_eq_true (by first | (with_reducible assumption) | assumption); have q202 : (ji17) < (l0_5.length : Int) := of_decide_eq_true (by first | (with_reducible assumption) | assumption); obtain ⟨ad202, e202, hx202_0, hx202_1, hx202_2, hx202_3⟩ := at_T74 HR0_5.out (ji17) p202 q202; cases e202; replace hx202_0 := (HB.out.cell (World.block_lt_of_cell? w _ hx202_0)).trans hx202_0; replace hx202_1 := (HB.out.cell (World.block_lt_of_cell? w _ hx202_1)).trans hx202_1; replace hx202_2 := (HB.out.cell (World.block_lt_of_cell? w _ hx202_2)).trans hx202_2; replace hx202_3 := (HB.out.cell (World.block_lt_of_cell? w _ hx202_3)).trans hx202_3; replace p202 := eq_true p202; replace q202 := eq_true q202)))
                go_ret
                exact ⟨by first | rfl | (simp [errW_none, errW_some] <;> rfl) | (simp only [← hji17]; first | rfl | (simp [errW_none, errW_some] <;> rfl)) | (simp [*, errW_none, errW_some] <;> rfl), oB HB⟩
              · rw [if_neg c19] at H
                exact absurd H (by simp)
            · rw [if_neg c18] at H
              exact absurd H (by simp)
        · replace c9 := Bool.eq_false_iff.mpr c9
          subst c9
          rw [if_neg (show ¬ (false = true) by decide)] at H
          obtain rfl := Option.some.inj H
          go_enter Try.func18, Try.ntmps18
          go_wp2_with (first | ((with_reducible refine gate_dst (N := 1) rfl ?_); (try (refine gate_guard (by rfl) ?_; dsimp only)); refine box_event ?hg (N := 1) ?hd (cs := #[.slice A0_0 l0_0.length c0_0, .int .i64 a0_1, .slice A0_2 l0_2.length c0_2, .int .i64 a0_3, .int .i64 a0_4, .slice A0_5 l0_5.length c0_5]) (t := 36) ?hr ?_; (case hd => rfl); (case hg => rfl); (case hr => first | (go_simp; done) | (go_simp; rfl)); intro gb197 hg w26 hbox hb; have n0_ := Aside0.mk (below_step (oB HB) hb); have n1_ := Aside0.mk (hbox); have n2_ := Aside0.mk ((by rw [hg]; exact (below_size (oB HB)) : w.heap.size ≤ gb197)); have n3_ := Aside0.mk ((by rw [hg]; exact (below_size (oB HB)) : w.heap.size ≤ gb197)); clear HB; have HB := n0_; have BK197 := n1_; have GW197 := n2_; have GE197 := n3_; clear n0_ n1_ n2_ n3_; clear hb hbox hg; have hcz27_0 : w26.cell? ⟨gb197, 0, none⟩ = some (.slice A0_0 l0_0.length c0_0) := (blk_cell BK197.out 0).trans rfl; have hcz27_1 : w26.cell? ⟨gb197, 1, none⟩ = some (.int .i64 a0_1) := (blk_cell BK197.out 1).trans rfl; have hcz27_2 : w26.cell? ⟨gb197, 2, none⟩ = some (.slice A0_2 l0_2.length c0_2) := (blk_cell BK197.out 2).trans rfl; have hcz27_3 : w26.cell? ⟨gb197, 3, none⟩ = some (.int .i64 a0_3) := (blk_cell BK197.out 3).trans rfl; have hcz27_4 : w26.cell? ⟨gb197, 4, none⟩ = some (.int .i64 a0_4) := (blk_cell BK197.out 4).trans rfl; have hcz27_5 : w26.cell? ⟨gb197, 5, none⟩ = some (.slice A0_5 l0_5.length c0_5) := (blk_cell BK197.out 5).trans rfl; have hfz27_0 := blk_frozen BK197.out 0; have hfz27_1 := blk_frozen BK197.out 1; have hfz27_2 := blk_frozen BK197.out 2; have hfz27_3 := blk_frozen BK197.out 3; have hfz27_4 := blk_frozen BK197.out 4; have hfz27_5 := blk_frozen BK197.out 5) | (go_at_call 64; (with_reducible refine (impl_WorkOk.calls _ _ l0_0 a0_1 _ _ l0_2 true _ ?side1 ?side2 ?side3 ?side4 A2.out).mono ?_); (case side1 => exact oc_ HR0_0.out); (case side2 => exact HC0_0.out); (case side3 => exact oc_ HR0_2.out); (case side4 => exact HC0_2.out); rintro e w28 ⟨rfl, hb⟩; have n0_ := Aside0.mk (blk_below (g := gb197) (o := .cells #[.slice A0_0 l0_0.length c0_0, .int .i64 a0_1, .slice A0_2 l0_2.length c0_2, .int .i64 a0_3, .int .i64 a0_4, .slice A0_5 l0_5.length c0_5] 36 (0, 0)) (oK BK197) hb); have n1_ := Aside0.mk (below_step (oB HB) hb); clear BK197; clear HB; have BK197 := n0_; have HB := n1_; clear n0_ n1_; (try clear hb); (try clear hb2); (try clear hk); (try clear hi); have hcz29_0 : w28.cell? ⟨gb197, 0, none⟩ = some (.slice A0_0 l0_0.length c0_0) := (blk_cell BK197.out 0).trans rfl; have hcz29_1 : w28.cell? ⟨gb197, 1, none⟩ = some (.int .i64 a0_1) := (blk_cell BK197.out 1).trans rfl; have hcz29_2 : w28.cell? ⟨gb197, 2, none⟩ = some (.slice A0_2 l0_2.length c0_2) := (blk_cell BK197.out 2).trans rfl; have hcz29_3 : w28.cell? ⟨gb197, 3, none⟩ = some (.int .i64 a0_3) := (blk_cell BK197.out 3).trans rfl; have hcz29_4 : w28.cell? ⟨gb197, 4, none⟩ = some (.int .i64 a0_4) := (blk_cell BK197.out 4).trans rfl; have hcz29_5 : w28.cell? ⟨gb197, 5, none⟩ = some (.slice A0_5 l0_5.length c0_5) := (blk_cell BK197.out 5).trans rfl; have hfz29_0 := blk_frozen BK197.out 0; have hfz29_1 := blk_frozen BK197.out 1; have hfz29_2 := blk_frozen BK197.out 2; have hfz29_3 := blk_frozen BK197.out 3; have hfz29_4 := blk_frozen BK197.out 4; have hfz29_5 := blk_frozen BK197.out 5) | (go_at_call 65; (with_reducible refine (impl_LogOk.calls k _ _ l0_5 true _ ?side1 ?side2 A4.out).mono ?_); (case side1 => exact oc_ HR0_5.out); (case side2 => exact HC0_5.out); rintro e w30 ⟨rfl, hb⟩; have n0_ := Aside0.mk (blk_below (g := gb197) (o := .cells #[.slice A0_0 l0_0.length c0_0, .int .i64 a0_1, .slice A0_2 l0_2.length c0_2, .int .i64 a0_3, .int .i64 a0_4, .slice A0_5 l0_5.length c0_5] 36 (0, 0)) (oK BK197) hb); have n1_ := Aside0.mk (below_step (oB HB) hb); clear BK197; clear HB; have BK197 := n0_; have HB := n1_; clear n0_ n1_; (try clear hb); (try clear hb2); (try clear hk); (try clear hi); have hcz31_0 : w30.cell? ⟨gb197, 0, none⟩ = some (.slice A0_0 l0_0.length c0_0) := (blk_cell BK197.out 0).trans rfl; have hcz31_1 : w30.cell? ⟨gb197, 1, none⟩ = some (.int .i64 a0_1) := (blk_cell BK197.out 1).trans rfl; have hcz31_2 : w30.cell? ⟨gb197, 2, none⟩ = some (.slice A0_2 l0_2.length c0_2) := (blk_cell BK197.out 2).trans rfl; have hcz31_3 : w30.cell? ⟨gb197, 3, none⟩ = some (.int .i64 a0_3) := (blk_cell BK197.out 3).trans rfl; have hcz31_4 : w30.cell? ⟨gb197, 4, none⟩ = some (.int .i64 a0_4) := (blk_cell BK197.out 4).trans rfl; have hcz31_5 : w30.cell? ⟨gb197, 5, none⟩ = some (.slice A0_5 l0_5.length c0_5) := (blk_cell BK197.out 5).trans rfl; have hfz31_0 := blk_frozen BK197.out 0; have hfz31_1 := blk_frozen BK197.out 1; have hfz31_2 := blk_frozen BK197.out 2; have hfz31_3 := blk_frozen BK197.out 3; have hfz31_4 := blk_frozen BK197.out 4; have hfz31_5 := blk_frozen BK197.out 5) | (go_at_call 66; (with_reducible refine (impl_isWarmth.calls a0_3 true _ A6.out).mono ?_); rintro e w' ⟨rfl, ⟨nd, rfl⟩⟩; (try first | exact ⟨rfl, _, World.drewN_drewN _ _ _⟩ | exact ⟨rfl, _, Eq.trans (World.drewN_drewN _ _ _) (congrArg (World.drewN _) (Nat.add_assoc _ _ _))⟩)) | (go_at_call 67; (with_reducible refine (impl_within.calls a0_4 0 100000 false _ A8.out).mono ?_); rintro e w' ⟨rfl, ⟨nd, rfl⟩⟩; (try first | exact ⟨rfl, _, World.drewN_drewN _ _ _⟩ | exact ⟨rfl, _, Eq.trans (World.drewN_drewN _ _ _) (congrArg (World.drewN _) (Nat.add_assoc _ _ _))⟩)))
          repeat (go_quiet (first | ((with_reducible refine gate_dst (N := 1) rfl ?_); (try (refine gate_guard (by rfl) ?_; dsimp only)); refine box_event ?hg (N := 1) ?hd (cs := #[.slice A0_0 l0_0.length c0_0, .int .i64 a0_1, .slice A0_2 l0_2.length c0_2, .int .i64 a0_3, .int .i64 a0_4, .slice A0_5 l0_5.length c0_5]) (t := 36) ?hr ?_; (case hd => rfl); (case hg => rfl); (case hr => first | (go_simp; done) | (go_simp; rfl)); intro gb197 hg w26 hbox hb; have n0_ := Aside0.mk (below_step (oB HB) hb); have n1_ := Aside0.mk (hbox); have n2_ := Aside0.mk ((by rw [hg]; exact (below_size (oB HB)) : w.heap.size ≤ gb197)); have n3_ := Aside0.mk ((by rw [hg]; exact (below_size (oB HB)) : w.heap.size ≤ gb197)); clear HB; have HB := n0_; have BK197 := n1_; have GW197 := n2_; have GE197 := n3_; clear n0_ n1_ n2_ n3_; clear hb hbox hg; have hcz27_0 : w26.cell? ⟨gb197, 0, none⟩ = some (.slice A0_0 l0_0.length c0_0) := (blk_cell BK197.out 0).trans rfl; have hcz27_1 : w26.cell? ⟨gb197, 1, none⟩ = some (.int .i64 a0_1) := (blk_cell BK197.out 1).trans rfl; have hcz27_2 : w26.cell? ⟨gb197, 2, none⟩ = some (.slice A0_2 l0_2.length c0_2) := (blk_cell BK197.out 2).trans rfl; have hcz27_3 : w26.cell? ⟨gb197, 3, none⟩ = some (.int .i64 a0_3) := (blk_cell BK197.out 3).trans rfl; have hcz27_4 : w26.cell? ⟨gb197, 4, none⟩ = some (.int .i64 a0_4) := (blk_cell BK197.out 4).trans rfl; have hcz27_5 : w26.cell? ⟨gb197, 5, none⟩ = some (.slice A0_5 l0_5.length c0_5) := (blk_cell BK197.out 5).trans rfl; have hfz27_0 := blk_frozen BK197.out 0; have hfz27_1 := blk_frozen BK197.out 1; have hfz27_2 := blk_frozen BK197.out 2; have hfz27_3 := blk_frozen BK197.out 3; have hfz27_4 := blk_frozen BK197.out 4; have hfz27_5 := blk_frozen BK197.out 5) | (go_at_call 64; (with_reducible refine (impl_WorkOk.calls _ _ l0_0 a0_1 _ _ l0_2 true _ ?side1 ?side2 ?side3 ?side4 A2.out).mono ?_); (case side1 => exact oc_ HR0_0.out); (case side2 => exact HC0_0.out); (case side3 => exact oc_ HR0_2.out); (case side4 => exact HC0_2.out); rintro e w28 ⟨rfl, hb⟩; have n0_ := Aside0.mk (blk_below (g := gb197) (o := .cells #[.slice A0_0 l0_0.length c0_0, .int .i64 a0_1, .slice A0_2 l0_2.length c0_2, .int .i64 a0_3, .int .i64 a0_4, .slice A0_5 l0_5.length c0_5] 36 (0, 0)) (oK BK197) hb); have n1_ := Aside0.mk (below_step (oB HB) hb); clear BK197; clear HB; have BK197 := n0_; have HB := n1_; clear n0_ n1_; (try clear hb); (try clear hb2); (try clear hk); (try clear hi); have hcz29_0 : w28.cell? ⟨gb197, 0, none⟩ = some (.slice A0_0 l0_0.length c0_0) := (blk_cell BK197.out 0).trans rfl; have hcz29_1 : w28.cell? ⟨gb197, 1, none⟩ = some (.int .i64 a0_1) := (blk_cell BK197.out 1).trans rfl; have hcz29_2 : w28.cell? ⟨gb197, 2, none⟩ = some (.slice A0_2 l0_2.length c0_2) := (blk_cell BK197.out 2).trans rfl; have hcz29_3 : w28.cell? ⟨gb197, 3, none⟩ = some (.int .i64 a0_3) := (blk_cell BK197.out 3).trans rfl; have hcz29_4 : w28.cell? ⟨gb197, 4, none⟩ = some (.int .i64 a0_4) := (blk_cell BK197.out 4).trans rfl; have hcz29_5 : w28.cell? ⟨gb197, 5, none⟩ = some (.slice A0_5 l0_5.length c0_5) := (blk_cell BK197.out 5).trans rfl; have hfz29_0 := blk_frozen BK197.out 0; have hfz29_1 := blk_frozen BK197.out 1; have hfz29_2 := blk_frozen BK197.out 2; have hfz29_3 := blk_frozen BK197.out 3; have hfz29_4 := blk_frozen BK197.out 4; have hfz29_5 := blk_frozen BK197.out 5) | (go_at_call 65; (with_reducible refine (impl_LogOk.calls k _ _ l0_5 true _ ?side1 ?side2 A4.out).mono ?_); (case side1 => exact oc_ HR0_5.out); (case side2 => exact HC0_5.out); rintro e w30 ⟨rfl, hb⟩; have n0_ := Aside0.mk (blk_below (g := gb197) (o := .cells #[.slice A0_0 l0_0.length c0_0, .int .i64 a0_1, .slice A0_2 l0_2.length c0_2, .int .i64 a0_3, .int .i64 a0_4, .slice A0_5 l0_5.length c0_5] 36 (0, 0)) (oK BK197) hb); have n1_ := Aside0.mk (below_step (oB HB) hb); clear BK197; clear HB; have BK197 := n0_; have HB := n1_; clear n0_ n1_; (try clear hb); (try clear hb2); (try clear hk); (try clear hi); have hcz31_0 : w30.cell? ⟨gb197, 0, none⟩ = some (.slice A0_0 l0_0.length c0_0) := (blk_cell BK197.out 0).trans rfl; have hcz31_1 : w30.cell? ⟨gb197, 1, none⟩ = some (.int .i64 a0_1) := (blk_cell BK197.out 1).trans rfl; have hcz31_2 : w30.cell? ⟨gb197, 2, none⟩ = some (.slice A0_2 l0_2.length c0_2) := (blk_cell BK197.out 2).trans rfl; have hcz31_3 : w30.cell? ⟨gb197, 3, none⟩ = some (.int .i64 a0_3) := (blk_cell BK197.out 3).trans rfl; have hcz31_4 : w30.cell? ⟨gb197, 4, none⟩ = some (.int .i64 a0_4) := (blk_cell BK197.out 4).trans rfl; have hcz31_5 : w30.cell? ⟨gb197, 5, none⟩ = some (.slice A0_5 l0_5.length c0_5) := (blk_cell BK197.out 5).trans rfl; have hfz31_0 := blk_frozen BK197.out 0; have hfz31_1 := blk_frozen BK197.out 1; have hfz31_2 := blk_frozen BK197.out 2; have hfz31_3 := blk_frozen BK197.out 3; have hfz31_4 := blk_frozen BK197.out 4; have hfz31_5 := blk_frozen BK197.out 5) | (go_at_call 66; (with_reducible refine (impl_isWarmth.calls a0_3 true _ A6.out).mono ?_); rintro e w' ⟨rfl, ⟨nd, rfl⟩⟩; (try first | exact ⟨rfl, _, World.drewN_drewN _ _ _⟩ | exact ⟨rfl, _, Eq.trans (World.drewN_drewN _ _ _) (congrArg (World.drewN _) (Nat.add_assoc _ _ _))⟩)) | (go_at_call 67; (with_reducible refine (impl_within.calls a0_4 0 100000 false _ A8.out).mono ?_); rintro e w' ⟨rfl, ⟨nd, rfl⟩⟩; (try first | exact ⟨rfl, _, World.drewN_drewN _ _ _⟩ | exact ⟨rfl, _, Eq.trans (World.drewN_drewN _ _ _) (congrArg (World.drewN _) (Nat.add_assoc _ _ _))⟩))); try go_wp2_with (first | ((with_reducible refine gate_dst (N := 1) rfl ?_); (try (refine gate_guard (by rfl) ?_; dsimp only)); refine box_event ?hg (N := 1) ?hd (cs := #[.slice A0_0 l0_0.length c0_0, .int .i64 a0_1, .slice A0_2 l0_2.length c0_2, .int .i64 a0_3, .int .i64 a0_4, .slice A0_5 l0_5.length c0_5]) (t := 36) ?hr ?_; (case hd => rfl); (case hg => rfl); (case hr => first | (go_simp; done) | (go_simp; rfl)); intro gb197 hg w26 hbox hb; have n0_ := Aside0.mk (below_step (oB HB) hb); have n1_ := Aside0.mk (hbox); have n2_ := Aside0.mk ((by rw [hg]; exact (below_size (oB HB)) : w.heap.size ≤ gb197)); have n3_ := Aside0.mk ((by rw [hg]; exact (below_size (oB HB)) : w.heap.size ≤ gb197)); clear HB; have HB := n0_; have BK197 := n1_; have GW197 := n2_; have GE197 := n3_; clear n0_ n1_ n2_ n3_; clear hb hbox hg; have hcz27_0 : w26.cell? ⟨gb197, 0, none⟩ = some (.slice A0_0 l0_0.length c0_0) := (blk_cell BK197.out 0).trans rfl; have hcz27_1 : w26.cell? ⟨gb197, 1, none⟩ = some (.int .i64 a0_1) := (blk_cell BK197.out 1).trans rfl; have hcz27_2 : w26.cell? ⟨gb197, 2, none⟩ = some (.slice A0_2 l0_2.length c0_2) := (blk_cell BK197.out 2).trans rfl; have hcz27_3 : w26.cell? ⟨gb197, 3, none⟩ = some (.int .i64 a0_3) := (blk_cell BK197.out 3).trans rfl; have hcz27_4 : w26.cell? ⟨gb197, 4, none⟩ = some (.int .i64 a0_4) := (blk_cell BK197.out 4).trans rfl; have hcz27_5 : w26.cell? ⟨gb197, 5, none⟩ = some (.slice A0_5 l0_5.length c0_5) := (blk_cell BK197.out 5).trans rfl; have hfz27_0 := blk_frozen BK197.out 0; have hfz27_1 := blk_frozen BK197.out 1; have hfz27_2 := blk_frozen BK197.out 2; have hfz27_3 := blk_frozen BK197.out 3; have hfz27_4 := blk_frozen BK197.out 4; have hfz27_5 := blk_frozen BK197.out 5) | (go_at_call 64; (with_reducible refine (impl_WorkOk.calls _ _ l0_0 a0_1 _ _ l0_2 true _ ?side1 ?side2 ?side3 ?side4 A2.out).mono ?_); (case side1 => exact oc_ HR0_0.out); (case side2 => exact HC0_0.out); (case side3 => exact oc_ HR0_2.out); (case side4 => exact HC0_2.out); rintro e w28 ⟨rfl, hb⟩; have n0_ := Aside0.mk (blk_below (g := gb197) (o := .cells #[.slice A0_0 l0_0.length c0_0, .int .i64 a0_1, .slice A0_2 l0_2.length c0_2, .int .i64 a0_3, .int .i64 a0_4, .slice A0_5 l0_5.length c0_5] 36 (0, 0)) (oK BK197) hb); have n1_ := Aside0.mk (below_step (oB HB) hb); clear BK197; clear HB; have BK197 := n0_; have HB := n1_; clear n0_ n1_; (try clear hb); (try clear hb2); (try clear hk); (try clear hi); have hcz29_0 : w28.cell? ⟨gb197, 0, none⟩ = some (.slice A0_0 l0_0.length c0_0) := (blk_cell BK197.out 0).trans rfl; have hcz29_1 : w28.cell? ⟨gb197, 1, none⟩ = some (.int .i64 a0_1) := (blk_cell BK197.out 1).trans rfl; have hcz29_2 : w28.cell? ⟨gb197, 2, none⟩ = some (.slice A0_2 l0_2.length c0_2) := (blk_cell BK197.out 2).trans rfl; have hcz29_3 : w28.cell? ⟨gb197, 3, none⟩ = some (.int .i64 a0_3) := (blk_cell BK197.out 3).trans rfl; have hcz29_4 : w28.cell? ⟨gb197, 4, none⟩ = some (.int .i64 a0_4) := (blk_cell BK197.out 4).trans rfl; have hcz29_5 : w28.cell? ⟨gb197, 5, none⟩ = some (.slice A0_5 l0_5.length c0_5) := (blk_cell BK197.out 5).trans rfl; have hfz29_0 := blk_frozen BK197.out 0; have hfz29_1 := blk_frozen BK197.out 1; have hfz29_2 := blk_frozen BK197.out 2; have hfz29_3 := blk_frozen BK197.out 3; have hfz29_4 := blk_frozen BK197.out 4; have hfz29_5 := blk_frozen BK197.out 5) | (go_at_call 65; (with_reducible refine (impl_LogOk.calls k _ _ l0_5 true _ ?side1 ?side2 A4.out).mono ?_); (case side1 => exact oc_ HR0_5.out); (case side2 => exact HC0_5.out); rintro e w30 ⟨rfl, hb⟩; have n0_ := Aside0.mk (blk_below (g := gb197) (o := .cells #[.slice A0_0 l0_0.length c0_0, .int .i64 a0_1, .slice A0_2 l0_2.length c0_2, .int .i64 a0_3, .int .i64 a0_4, .slice A0_5 l0_5.length c0_5] 36 (0, 0)) (oK BK197) hb); have n1_ := Aside0.mk (below_step (oB HB) hb); clear BK197; clear HB; have BK197 := n0_; have HB := n1_; clear n0_ n1_; (try clear hb); (try clear hb2); (try clear hk); (try clear hi); have hcz31_0 : w30.cell? ⟨gb197, 0, none⟩ = some (.slice A0_0 l0_0.length c0_0) := (blk_cell BK197.out 0).trans rfl; have hcz31_1 : w30.cell? ⟨gb197, 1, none⟩ = some (.int .i64 a0_1) := (blk_cell BK197.out 1).trans rfl; have hcz31_2 : w30.cell? ⟨gb197, 2, none⟩ = some (.slice A0_2 l0_2.length c0_2) := (blk_cell BK197.out 2).trans rfl; have hcz31_3 : w30.cell? ⟨gb197, 3, none⟩ = some (.int .i64 a0_3) := (blk_cell BK197.out 3).trans rfl; have hcz31_4 : w30.cell? ⟨gb197, 4, none⟩ = some (.int .i64 a0_4) := (blk_cell BK197.out 4).trans rfl; have hcz31_5 : w30.cell? ⟨gb197, 5, none⟩ = some (.slice A0_5 l0_5.length c0_5) := (blk_cell BK197.out 5).trans rfl; have hfz31_0 := blk_frozen BK197.out 0; have hfz31_1 := blk_frozen BK197.out 1; have hfz31_2 := blk_frozen BK197.out 2; have hfz31_3 := blk_frozen BK197.out 3; have hfz31_4 := blk_frozen BK197.out 4; have hfz31_5 := blk_frozen BK197.out 5) | (go_at_call 66; (with_reducible refine (impl_isWarmth.calls a0_3 true _ A6.out).mono ?_); rintro e w' ⟨rfl, ⟨nd, rfl⟩⟩; (try first | exact ⟨rfl, _, World.drewN_drewN _ _ _⟩ | exact ⟨rfl, _, Eq.trans (World.drewN_drewN _ _ _) (congrArg (World.drewN _) (Nat.add_assoc _ _ _))⟩)) | (go_at_call 67; (with_reducible refine (impl_within.calls a0_4 0 100000 false _ A8.out).mono ?_); rintro e w' ⟨rfl, ⟨nd, rfl⟩⟩; (try first | exact ⟨rfl, _, World.drewN_drewN _ _ _⟩ | exact ⟨rfl, _, Eq.trans (World.drewN_drewN _ _ _) (congrArg (World.drewN _) (Nat.add_assoc _ _ _))⟩))))
          go_ret
          exact ⟨by first | rfl | (simp [errW_none, errW_some] <;> rfl) | (simp [*, errW_none, errW_some] <;> rfl), oB HB⟩
      · replace c7 := Bool.eq_false_iff.mpr c7
        subst c7
        rw [if_neg (show ¬ (false = true) by decide)] at H
        obtain rfl := Option.some.inj H
        go_enter Try.func18, Try.ntmps18
        go_wp2_with (first | ((with_reducible refine gate_dst (N := 1) rfl ?_); (try (refine gate_guard (by rfl) ?_; dsimp only)); refine box_event ?hg (N := 1) ?hd (cs := #[.slice A0_0 l0_0.length c0_0, .int .i64 a0_1, .slice A0_2 l0_2.length c0_2, .int .i64 a0_3, .int .i64 a0_4, .slice A0_5 l0_5.length c0_5]) (t := 36) ?hr ?_; (case hd => rfl); (case hg => rfl); (case hr => first | (go_simp; done) | (go_simp; rfl)); intro gb197 hg w32 hbox hb; have n0_ := Aside0.mk (below_step (oB HB) hb); have n1_ := Aside0.mk (hbox); have n2_ := Aside0.mk ((by rw [hg]; exact (below_size (oB HB)) : w.heap.size ≤ gb197)); have n3_ := Aside0.mk ((by rw [hg]; exact (below_size (oB HB)) : w.heap.size ≤ gb197)); clear HB; have HB := n0_; have BK197 := n1_; have GW197 := n2_; have GE197 := n3_; clear n0_ n1_ n2_ n3_; clear hb hbox hg; have hcz33_0 : w32.cell? ⟨gb197, 0, none⟩ = some (.slice A0_0 l0_0.length c0_0) := (blk_cell BK197.out 0).trans rfl; have hcz33_1 : w32.cell? ⟨gb197, 1, none⟩ = some (.int .i64 a0_1) := (blk_cell BK197.out 1).trans rfl; have hcz33_2 : w32.cell? ⟨gb197, 2, none⟩ = some (.slice A0_2 l0_2.length c0_2) := (blk_cell BK197.out 2).trans rfl; have hcz33_3 : w32.cell? ⟨gb197, 3, none⟩ = some (.int .i64 a0_3) := (blk_cell BK197.out 3).trans rfl; have hcz33_4 : w32.cell? ⟨gb197, 4, none⟩ = some (.int .i64 a0_4) := (blk_cell BK197.out 4).trans rfl; have hcz33_5 : w32.cell? ⟨gb197, 5, none⟩ = some (.slice A0_5 l0_5.length c0_5) := (blk_cell BK197.out 5).trans rfl; have hfz33_0 := blk_frozen BK197.out 0; have hfz33_1 := blk_frozen BK197.out 1; have hfz33_2 := blk_frozen BK197.out 2; have hfz33_3 := blk_frozen BK197.out 3; have hfz33_4 := blk_frozen BK197.out 4; have hfz33_5 := blk_frozen BK197.out 5) | (go_at_call 64; (with_reducible refine (impl_WorkOk.calls _ _ l0_0 a0_1 _ _ l0_2 true _ ?side1 ?side2 ?side3 ?side4 A2.out).mono ?_); (case side1 => exact oc_ HR0_0.out); (case side2 => exact HC0_0.out); (case side3 => exact oc_ HR0_2.out); (case side4 => exact HC0_2.out); rintro e w34 ⟨rfl, hb⟩; have n0_ := Aside0.mk (blk_below (g := gb197) (o := .cells #[.slice A0_0 l0_0.length c0_0, .int .i64 a0_1, .slice A0_2 l0_2.length c0_2, .int .i64 a0_3, .int .i64 a0_4, .slice A0_5 l0_5.length c0_5] 36 (0, 0)) (oK BK197) hb); have n1_ := Aside0.mk (below_step (oB HB) hb); clear BK197; clear HB; have BK197 := n0_; have HB := n1_; clear n0_ n1_; (try clear hb); (try clear hb2); (try clear hk); (try clear hi); have hcz35_0 : w34.cell? ⟨gb197, 0, none⟩ = some (.slice A0_0 l0_0.length c0_0) := (blk_cell BK197.out 0).trans rfl; have hcz35_1 : w34.cell? ⟨gb197, 1, none⟩ = some (.int .i64 a0_1) := (blk_cell BK197.out 1).trans rfl; have hcz35_2 : w34.cell? ⟨gb197, 2, none⟩ = some (.slice A0_2 l0_2.length c0_2) := (blk_cell BK197.out 2).trans rfl; have hcz35_3 : w34.cell? ⟨gb197, 3, none⟩ = some (.int .i64 a0_3) := (blk_cell BK197.out 3).trans rfl; have hcz35_4 : w34.cell? ⟨gb197, 4, none⟩ = some (.int .i64 a0_4) := (blk_cell BK197.out 4).trans rfl; have hcz35_5 : w34.cell? ⟨gb197, 5, none⟩ = some (.slice A0_5 l0_5.length c0_5) := (blk_cell BK197.out 5).trans rfl; have hfz35_0 := blk_frozen BK197.out 0; have hfz35_1 := blk_frozen BK197.out 1; have hfz35_2 := blk_frozen BK197.out 2; have hfz35_3 := blk_frozen BK197.out 3; have hfz35_4 := blk_frozen BK197.out 4; have hfz35_5 := blk_frozen BK197.out 5) | (go_at_call 65; (with_reducible refine (impl_LogOk.calls k _ _ l0_5 true _ ?side1 ?side2 A4.out).mono ?_); (case side1 => exact oc_ HR0_5.out); (case side2 => exact HC0_5.out); rintro e w36 ⟨rfl, hb⟩; have n0_ := Aside0.mk (blk_below (g := gb197) (o := .cells #[.slice A0_0 l0_0.length c0_0, .int .i64 a0_1, .slice A0_2 l0_2.length c0_2, .int .i64 a0_3, .int .i64 a0_4, .slice A0_5 l0_5.length c0_5] 36 (0, 0)) (oK BK197) hb); have n1_ := Aside0.mk (below_step (oB HB) hb); clear BK197; clear HB; have BK197 := n0_; have HB := n1_; clear n0_ n1_; (try clear hb); (try clear hb2); (try clear hk); (try clear hi); have hcz37_0 : w36.cell? ⟨gb197, 0, none⟩ = some (.slice A0_0 l0_0.length c0_0) := (blk_cell BK197.out 0).trans rfl; have hcz37_1 : w36.cell? ⟨gb197, 1, none⟩ = some (.int .i64 a0_1) := (blk_cell BK197.out 1).trans rfl; have hcz37_2 : w36.cell? ⟨gb197, 2, none⟩ = some (.slice A0_2 l0_2.length c0_2) := (blk_cell BK197.out 2).trans rfl; have hcz37_3 : w36.cell? ⟨gb197, 3, none⟩ = some (.int .i64 a0_3) := (blk_cell BK197.out 3).trans rfl; have hcz37_4 : w36.cell? ⟨gb197, 4, none⟩ = some (.int .i64 a0_4) := (blk_cell BK197.out 4).trans rfl; have hcz37_5 : w36.cell? ⟨gb197, 5, none⟩ = some (.slice A0_5 l0_5.length c0_5) := (blk_cell BK197.out 5).trans rfl; have hfz37_0 := blk_frozen BK197.out 0; have hfz37_1 := blk_frozen BK197.out 1; have hfz37_2 := blk_frozen BK197.out 2; have hfz37_3 := blk_frozen BK197.out 3; have hfz37_4 := blk_frozen BK197.out 4; have hfz37_5 := blk_frozen BK197.out 5) | (go_at_call 66; (with_reducible refine (impl_isWarmth.calls a0_3 false _ A6.out).mono ?_); rintro e w' ⟨rfl, ⟨nd, rfl⟩⟩; (try first | exact ⟨rfl, _, World.drewN_drewN _ _ _⟩ | exact ⟨rfl, _, Eq.trans (World.drewN_drewN _ _ _) (congrArg (World.drewN _) (Nat.add_assoc _ _ _))⟩)))
        repeat (go_quiet (first | ((with_reducible refine gate_dst (N := 1) rfl ?_); (try (refine gate_guard (by rfl) ?_; dsimp only)); refine box_event ?hg (N := 1) ?hd (cs := #[.slice A0_0 l0_0.length c0_0, .int .i64 a0_1, .slice A0_2 l0_2.length c0_2, .int .i64 a0_3, .int .i64 a0_4, .slice A0_5 l0_5.length c0_5]) (t := 36) ?hr ?_; (case hd => rfl); (case hg => rfl); (case hr => first | (go_simp; done) | (go_simp; rfl)); intro gb197 hg w32 hbox hb; have n0_ := Aside0.mk (below_step (oB HB) hb); have n1_ := Aside0.mk (hbox); have n2_ := Aside0.mk ((by rw [hg]; exact (below_size (oB HB)) : w.heap.size ≤ gb197)); have n3_ := Aside0.mk ((by rw [hg]; exact (below_size (oB HB)) : w.heap.size ≤ gb197)); clear HB; have HB := n0_; have BK197 := n1_; have GW197 := n2_; have GE197 := n3_; clear n0_ n1_ n2_ n3_; clear hb hbox hg; have hcz33_0 : w32.cell? ⟨gb197, 0, none⟩ = some (.slice A0_0 l0_0.length c0_0) := (blk_cell BK197.out 0).trans rfl; have hcz33_1 : w32.cell? ⟨gb197, 1, none⟩ = some (.int .i64 a0_1) := (blk_cell BK197.out 1).trans rfl; have hcz33_2 : w32.cell? ⟨gb197, 2, none⟩ = some (.slice A0_2 l0_2.length c0_2) := (blk_cell BK197.out 2).trans rfl; have hcz33_3 : w32.cell? ⟨gb197, 3, none⟩ = some (.int .i64 a0_3) := (blk_cell BK197.out 3).trans rfl; have hcz33_4 : w32.cell? ⟨gb197, 4, none⟩ = some (.int .i64 a0_4) := (blk_cell BK197.out 4).trans rfl; have hcz33_5 : w32.cell? ⟨gb197, 5, none⟩ = some (.slice A0_5 l0_5.length c0_5) := (blk_cell BK197.out 5).trans rfl; have hfz33_0 := blk_frozen BK197.out 0; have hfz33_1 := blk_frozen BK197.out 1; have hfz33_2 := blk_frozen BK197.out 2; have hfz33_3 := blk_frozen BK197.out 3; have hfz33_4 := blk_frozen BK197.out 4; have hfz33_5 := blk_frozen BK197.out 5) | (go_at_call 64; (with_reducible refine (impl_WorkOk.calls _ _ l0_0 a0_1 _ _ l0_2 true _ ?side1 ?side2 ?side3 ?side4 A2.out).mono ?_); (case side1 => exact oc_ HR0_0.out); (case side2 => exact HC0_0.out); (case side3 => exact oc_ HR0_2.out); (case side4 => exact HC0_2.out); rintro e w34 ⟨rfl, hb⟩; have n0_ := Aside0.mk (blk_below (g := gb197) (o := .cells #[.slice A0_0 l0_0.length c0_0, .int .i64 a0_1, .slice A0_2 l0_2.length c0_2, .int .i64 a0_3, .int .i64 a0_4, .slice A0_5 l0_5.length c0_5] 36 (0, 0)) (oK BK197) hb); have n1_ := Aside0.mk (below_step (oB HB) hb); clear BK197; clear HB; have BK197 := n0_; have HB := n1_; clear n0_ n1_; (try clear hb); (try clear hb2); (try clear hk); (try clear hi); have hcz35_0 : w34.cell? ⟨gb197, 0, none⟩ = some (.slice A0_0 l0_0.length c0_0) := (blk_cell BK197.out 0).trans rfl; have hcz35_1 : w34.cell? ⟨gb197, 1, none⟩ = some (.int .i64 a0_1) := (blk_cell BK197.out 1).trans rfl; have hcz35_2 : w34.cell? ⟨gb197, 2, none⟩ = some (.slice A0_2 l0_2.length c0_2) := (blk_cell BK197.out 2).trans rfl; have hcz35_3 : w34.cell? ⟨gb197, 3, none⟩ = some (.int .i64 a0_3) := (blk_cell BK197.out 3).trans rfl; have hcz35_4 : w34.cell? ⟨gb197, 4, none⟩ = some (.int .i64 a0_4) := (blk_cell BK197.out 4).trans rfl; have hcz35_5 : w34.cell? ⟨gb197, 5, none⟩ = some (.slice A0_5 l0_5.length c0_5) := (blk_cell BK197.out 5).trans rfl; have hfz35_0 := blk_frozen BK197.out 0; have hfz35_1 := blk_frozen BK197.out 1; have hfz35_2 := blk_frozen BK197.out 2; have hfz35_3 := blk_frozen BK197.out 3; have hfz35_4 := blk_frozen BK197.out 4; have hfz35_5 := blk_frozen BK197.out 5) | (go_at_call 65; (with_reducible refine (impl_LogOk.calls k _ _ l0_5 true _ ?side1 ?side2 A4.out).mono ?_); (case side1 => exact oc_ HR0_5.out); (case side2 => exact HC0_5.out); rintro e w36 ⟨rfl, hb⟩; have n0_ := Aside0.mk (blk_below (g := gb197) (o := .cells #[.slice A0_0 l0_0.length c0_0, .int .i64 a0_1, .slice A0_2 l0_2.length c0_2, .int .i64 a0_3, .int .i64 a0_4, .slice A0_5 l0_5.length c0_5] 36 (0, 0)) (oK BK197) hb); have n1_ := Aside0.mk (below_step (oB HB) hb); clear BK197; clear HB; have BK197 := n0_; have HB := n1_; clear n0_ n1_; (try clear hb); (try clear hb2); (try clear hk); (try clear hi); have hcz37_0 : w36.cell? ⟨gb197, 0, none⟩ = some (.slice A0_0 l0_0.length c0_0) := (blk_cell BK197.out 0).trans rfl; have hcz37_1 : w36.cell? ⟨gb197, 1, none⟩ = some (.int .i64 a0_1) := (blk_cell BK197.out 1).trans rfl; have hcz37_2 : w36.cell? ⟨gb197, 2, none⟩ = some (.slice A0_2 l0_2.length c0_2) := (blk_cell BK197.out 2).trans rfl; have hcz37_3 : w36.cell? ⟨gb197, 3, none⟩ = some (.int .i64 a0_3) := (blk_cell BK197.out 3).trans rfl; have hcz37_4 : w36.cell? ⟨gb197, 4, none⟩ = some (.int .i64 a0_4) := (blk_cell BK197.out 4).trans rfl; have hcz37_5 : w36.cell? ⟨gb197, 5, none⟩ = some (.slice A0_5 l0_5.length c0_5) := (blk_cell BK197.out 5).trans rfl; have hfz37_0 := blk_frozen BK197.out 0; have hfz37_1 := blk_frozen BK197.out 1; have hfz37_2 := blk_frozen BK197.out 2; have hfz37_3 := blk_frozen BK197.out 3; have hfz37_4 := blk_frozen BK197.out 4; have hfz37_5 := blk_frozen BK197.out 5) | (go_at_call 66; (with_reducible refine (impl_isWarmth.calls a0_3 false _ A6.out).mono ?_); rintro e w' ⟨rfl, ⟨nd, rfl⟩⟩; (try first | exact ⟨rfl, _, World.drewN_drewN _ _ _⟩ | exact ⟨rfl, _, Eq.trans (World.drewN_drewN _ _ _) (congrArg (World.drewN _) (Nat.add_assoc _ _ _))⟩))); try go_wp2_with (first | ((with_reducible refine gate_dst (N := 1) rfl ?_); (try (refine gate_guard (by rfl) ?_; dsimp only)); refine box_event ?hg (N := 1) ?hd (cs := #[.slice A0_0 l0_0.length c0_0, .int .i64 a0_1, .slice A0_2 l0_2.length c0_2, .int .i64 a0_3, .int .i64 a0_4, .slice A0_5 l0_5.length c0_5]) (t := 36) ?hr ?_; (case hd => rfl); (case hg => rfl); (case hr => first | (go_simp; done) | (go_simp; rfl)); intro gb197 hg w32 hbox hb; have n0_ := Aside0.mk (below_step (oB HB) hb); have n1_ := Aside0.mk (hbox); have n2_ := Aside0.mk ((by rw [hg]; exact (below_size (oB HB)) : w.heap.size ≤ gb197)); have n3_ := Aside0.mk ((by rw [hg]; exact (below_size (oB HB)) : w.heap.size ≤ gb197)); clear HB; have HB := n0_; have BK197 := n1_; have GW197 := n2_; have GE197 := n3_; clear n0_ n1_ n2_ n3_; clear hb hbox hg; have hcz33_0 : w32.cell? ⟨gb197, 0, none⟩ = some (.slice A0_0 l0_0.length c0_0) := (blk_cell BK197.out 0).trans rfl; have hcz33_1 : w32.cell? ⟨gb197, 1, none⟩ = some (.int .i64 a0_1) := (blk_cell BK197.out 1).trans rfl; have hcz33_2 : w32.cell? ⟨gb197, 2, none⟩ = some (.slice A0_2 l0_2.length c0_2) := (blk_cell BK197.out 2).trans rfl; have hcz33_3 : w32.cell? ⟨gb197, 3, none⟩ = some (.int .i64 a0_3) := (blk_cell BK197.out 3).trans rfl; have hcz33_4 : w32.cell? ⟨gb197, 4, none⟩ = some (.int .i64 a0_4) := (blk_cell BK197.out 4).trans rfl; have hcz33_5 : w32.cell? ⟨gb197, 5, none⟩ = some (.slice A0_5 l0_5.length c0_5) := (blk_cell BK197.out 5).trans rfl; have hfz33_0 := blk_frozen BK197.out 0; have hfz33_1 := blk_frozen BK197.out 1; have hfz33_2 := blk_frozen BK197.out 2; have hfz33_3 := blk_frozen BK197.out 3; have hfz33_4 := blk_frozen BK197.out 4; have hfz33_5 := blk_frozen BK197.out 5) | (go_at_call 64; (with_reducible refine (impl_WorkOk.calls _ _ l0_0 a0_1 _ _ l0_2 true _ ?side1 ?side2 ?side3 ?side4 A2.out).mono ?_); (case side1 => exact oc_ HR0_0.out); (case side2 => exact HC0_0.out); (case side3 => exact oc_ HR0_2.out); (case side4 => exact HC0_2.out); rintro e w34 ⟨rfl, hb⟩; have n0_ := Aside0.mk (blk_below (g := gb197) (o := .cells #[.slice A0_0 l0_0.length c0_0, .int .i64 a0_1, .slice A0_2 l0_2.length c0_2, .int .i64 a0_3, .int .i64 a0_4, .slice A0_5 l0_5.length c0_5] 36 (0, 0)) (oK BK197) hb); have n1_ := Aside0.mk (below_step (oB HB) hb); clear BK197; clear HB; have BK197 := n0_; have HB := n1_; clear n0_ n1_; (try clear hb); (try clear hb2); (try clear hk); (try clear hi); have hcz35_0 : w34.cell? ⟨gb197, 0, none⟩ = some (.slice A0_0 l0_0.length c0_0) := (blk_cell BK197.out 0).trans rfl; have hcz35_1 : w34.cell? ⟨gb197, 1, none⟩ = some (.int .i64 a0_1) := (blk_cell BK197.out 1).trans rfl; have hcz35_2 : w34.cell? ⟨gb197, 2, none⟩ = some (.slice A0_2 l0_2.length c0_2) := (blk_cell BK197.out 2).trans rfl; have hcz35_3 : w34.cell? ⟨gb197, 3, none⟩ = some (.int .i64 a0_3) := (blk_cell BK197.out 3).trans rfl; have hcz35_4 : w34.cell? ⟨gb197, 4, none⟩ = some (.int .i64 a0_4) := (blk_cell BK197.out 4).trans rfl; have hcz35_5 : w34.cell? ⟨gb197, 5, none⟩ = some (.slice A0_5 l0_5.length c0_5) := (blk_cell BK197.out 5).trans rfl; have hfz35_0 := blk_frozen BK197.out 0; have hfz35_1 := blk_frozen BK197.out 1; have hfz35_2 := blk_frozen BK197.out 2; have hfz35_3 := blk_frozen BK197.out 3; have hfz35_4 := blk_frozen BK197.out 4; have hfz35_5 := blk_frozen BK197.out 5) | (go_at_call 65; (with_reducible refine (impl_LogOk.calls k _ _ l0_5 true _ ?side1 ?side2 A4.out).mono ?_); (case side1 => exact oc_ HR0_5.out); (case side2 => exact HC0_5.out); rintro e w36 ⟨rfl, hb⟩; have n0_ := Aside0.mk (blk_below (g := gb197) (o := .cells #[.slice A0_0 l0_0.length c0_0, .int .i64 a0_1, .slice A0_2 l0_2.length c0_2, .int .i64 a0_3, .int .i64 a0_4, .slice A0_5 l0_5.length c0_5] 36 (0, 0)) (oK BK197) hb); have n1_ := Aside0.mk (below_step (oB HB) hb); clear BK197; clear HB; have BK197 := n0_; have HB := n1_; clear n0_ n1_; (try clear hb); (try clear hb2); (try clear hk); (try clear hi); have hcz37_0 : w36.cell? ⟨gb197, 0, none⟩ = some (.slice A0_0 l0_0.length c0_0) := (blk_cell BK197.out 0).trans rfl; have hcz37_1 : w36.cell? ⟨gb197, 1, none⟩ = some (.int .i64 a0_1) := (blk_cell BK197.out 1).trans rfl; have hcz37_2 : w36.cell? ⟨gb197, 2, none⟩ = some (.slice A0_2 l0_2.length c0_2) := (blk_cell BK197.out 2).trans rfl; have hcz37_3 : w36.cell? ⟨gb197, 3, none⟩ = some (.int .i64 a0_3) := (blk_cell BK197.out 3).trans rfl; have hcz37_4 : w36.cell? ⟨gb197, 4, none⟩ = some (.int .i64 a0_4) := (blk_cell BK197.out 4).trans rfl; have hcz37_5 : w36.cell? ⟨gb197, 5, none⟩ = some (.slice A0_5 l0_5.length c0_5) := (blk_cell BK197.out 5).trans rfl; have hfz37_0 := blk_frozen BK197.out 0; have hfz37_1 := blk_frozen BK197.out 1; have hfz37_2 := blk_frozen BK197.out 2; have hfz37_3 := blk_frozen BK197.out 3; have hfz37_4 := blk_frozen BK197.out 4; have hfz37_5 := blk_frozen BK197.out 5) | (go_at_call 66; (with_reducible refine (impl_isWarmth.calls a0_3 false _ A6.out).mono ?_); rintro e w' ⟨rfl, ⟨nd, rfl⟩⟩; (try first | exact ⟨rfl, _, World.drewN_drewN _ _ _⟩ | exact ⟨rfl, _, Eq.trans (World.drewN_drewN _ _ _) (congrArg (World.drewN _) (Nat.add_assoc _ _ _))⟩))))
        go_ret
        exact ⟨by first | rfl | (simp [errW_none, errW_some] <;> rfl) | (simp [*, errW_none, errW_some] <;> rfl), oB HB⟩
    · replace c5 := Bool.eq_false_iff.mpr c5
      subst c5
      rw [if_neg (show ¬ (false = true) by decide)] at H
      obtain rfl := Option.some.inj H
      go_enter Try.func18, Try.ntmps18
      go_wp2_with (first | ((with_reducible refine gate_dst (N := 1) rfl ?_); (try (refine gate_guard (by rfl) ?_; dsimp only)); refine box_event ?hg (N := 1) ?hd (cs := #[.slice A0_0 l0_0.length c0_0, .int .i64 a0_1, .slice A0_2 l0_2.length c0_2, .int .i64 a0_3, .int .i64 a0_4, .slice A0_5 l0_5.length c0_5]) (t := 36) ?hr ?_; (case hd => rfl); (case hg => rfl); (case hr => first | (go_simp; done) | (go_simp; rfl)); intro gb197 hg w38 hbox hb; have n0_ := Aside0.mk (below_step (oB HB) hb); have n1_ := Aside0.mk (hbox); have n2_ := Aside0.mk ((by rw [hg]; exact (below_size (oB HB)) : w.heap.size ≤ gb197)); have n3_ := Aside0.mk ((by rw [hg]; exact (below_size (oB HB)) : w.heap.size ≤ gb197)); clear HB; have HB := n0_; have BK197 := n1_; have GW197 := n2_; have GE197 := n3_; clear n0_ n1_ n2_ n3_; clear hb hbox hg; have hcz39_0 : w38.cell? ⟨gb197, 0, none⟩ = some (.slice A0_0 l0_0.length c0_0) := (blk_cell BK197.out 0).trans rfl; have hcz39_1 : w38.cell? ⟨gb197, 1, none⟩ = some (.int .i64 a0_1) := (blk_cell BK197.out 1).trans rfl; have hcz39_2 : w38.cell? ⟨gb197, 2, none⟩ = some (.slice A0_2 l0_2.length c0_2) := (blk_cell BK197.out 2).trans rfl; have hcz39_3 : w38.cell? ⟨gb197, 3, none⟩ = some (.int .i64 a0_3) := (blk_cell BK197.out 3).trans rfl; have hcz39_4 : w38.cell? ⟨gb197, 4, none⟩ = some (.int .i64 a0_4) := (blk_cell BK197.out 4).trans rfl; have hcz39_5 : w38.cell? ⟨gb197, 5, none⟩ = some (.slice A0_5 l0_5.length c0_5) := (blk_cell BK197.out 5).trans rfl; have hfz39_0 := blk_frozen BK197.out 0; have hfz39_1 := blk_frozen BK197.out 1; have hfz39_2 := blk_frozen BK197.out 2; have hfz39_3 := blk_frozen BK197.out 3; have hfz39_4 := blk_frozen BK197.out 4; have hfz39_5 := blk_frozen BK197.out 5) | (go_at_call 64; (with_reducible refine (impl_WorkOk.calls _ _ l0_0 a0_1 _ _ l0_2 true _ ?side1 ?side2 ?side3 ?side4 A2.out).mono ?_); (case side1 => exact oc_ HR0_0.out); (case side2 => exact HC0_0.out); (case side3 => exact oc_ HR0_2.out); (case side4 => exact HC0_2.out); rintro e w40 ⟨rfl, hb⟩; have n0_ := Aside0.mk (blk_below (g := gb197) (o := .cells #[.slice A0_0 l0_0.length c0_0, .int .i64 a0_1, .slice A0_2 l0_2.length c0_2, .int .i64 a0_3, .int .i64 a0_4, .slice A0_5 l0_5.length c0_5] 36 (0, 0)) (oK BK197) hb); have n1_ := Aside0.mk (below_step (oB HB) hb); clear BK197; clear HB; have BK197 := n0_; have HB := n1_; clear n0_ n1_; (try clear hb); (try clear hb2); (try clear hk); (try clear hi); have hcz41_0 : w40.cell? ⟨gb197, 0, none⟩ = some (.slice A0_0 l0_0.length c0_0) := (blk_cell BK197.out 0).trans rfl; have hcz41_1 : w40.cell? ⟨gb197, 1, none⟩ = some (.int .i64 a0_1) := (blk_cell BK197.out 1).trans rfl; have hcz41_2 : w40.cell? ⟨gb197, 2, none⟩ = some (.slice A0_2 l0_2.length c0_2) := (blk_cell BK197.out 2).trans rfl; have hcz41_3 : w40.cell? ⟨gb197, 3, none⟩ = some (.int .i64 a0_3) := (blk_cell BK197.out 3).trans rfl; have hcz41_4 : w40.cell? ⟨gb197, 4, none⟩ = some (.int .i64 a0_4) := (blk_cell BK197.out 4).trans rfl; have hcz41_5 : w40.cell? ⟨gb197, 5, none⟩ = some (.slice A0_5 l0_5.length c0_5) := (blk_cell BK197.out 5).trans rfl; have hfz41_0 := blk_frozen BK197.out 0; have hfz41_1 := blk_frozen BK197.out 1; have hfz41_2 := blk_frozen BK197.out 2; have hfz41_3 := blk_frozen BK197.out 3; have hfz41_4 := blk_frozen BK197.out 4; have hfz41_5 := blk_frozen BK197.out 5) | (go_at_call 65; (with_reducible refine (impl_LogOk.calls k _ _ l0_5 false _ ?side1 ?side2 A4.out).mono ?_); (case side1 => exact oc_ HR0_5.out); (case side2 => exact HC0_5.out); rintro e w42 ⟨rfl, hb⟩; have n0_ := Aside0.mk (blk_below (g := gb197) (o := .cells #[.slice A0_0 l0_0.length c0_0, .int .i64 a0_1, .slice A0_2 l0_2.length c0_2, .int .i64 a0_3, .int .i64 a0_4, .slice A0_5 l0_5.length c0_5] 36 (0, 0)) (oK BK197) hb); have n1_ := Aside0.mk (below_step (oB HB) hb); clear BK197; clear HB; have BK197 := n0_; have HB := n1_; clear n0_ n1_; (try clear hb); (try clear hb2); (try clear hk); (try clear hi)))
      repeat (go_quiet (first | ((with_reducible refine gate_dst (N := 1) rfl ?_); (try (refine gate_guard (by rfl) ?_; dsimp only)); refine box_event ?hg (N := 1) ?hd (cs := #[.slice A0_0 l0_0.length c0_0, .int .i64 a0_1, .slice A0_2 l0_2.length c0_2, .int .i64 a0_3, .int .i64 a0_4, .slice A0_5 l0_5.length c0_5]) (t := 36) ?hr ?_; (case hd => rfl); (case hg => rfl); (case hr => first | (go_simp; done) | (go_simp; rfl)); intro gb197 hg w38 hbox hb; have n0_ := Aside0.mk (below_step (oB HB) hb); have n1_ := Aside0.mk (hbox); have n2_ := Aside0.mk ((by rw [hg]; exact (below_size (oB HB)) : w.heap.size ≤ gb197)); have n3_ := Aside0.mk ((by rw [hg]; exact (below_size (oB HB)) : w.heap.size ≤ gb197)); clear HB; have HB := n0_; have BK197 := n1_; have GW197 := n2_; have GE197 := n3_; clear n0_ n1_ n2_ n3_; clear hb hbox hg; have hcz39_0 : w38.cell? ⟨gb197, 0, none⟩ = some (.slice A0_0 l0_0.length c0_0) := (blk_cell BK197.out 0).trans rfl; have hcz39_1 : w38.cell? ⟨gb197, 1, none⟩ = some (.int .i64 a0_1) := (blk_cell BK197.out 1).trans rfl; have hcz39_2 : w38.cell? ⟨gb197, 2, none⟩ = some (.slice A0_2 l0_2.length c0_2) := (blk_cell BK197.out 2).trans rfl; have hcz39_3 : w38.cell? ⟨gb197, 3, none⟩ = some (.int .i64 a0_3) := (blk_cell BK197.out 3).trans rfl; have hcz39_4 : w38.cell? ⟨gb197, 4, none⟩ = some (.int .i64 a0_4) := (blk_cell BK197.out 4).trans rfl; have hcz39_5 : w38.cell? ⟨gb197, 5, none⟩ = some (.slice A0_5 l0_5.length c0_5) := (blk_cell BK197.out 5).trans rfl; have hfz39_0 := blk_frozen BK197.out 0; have hfz39_1 := blk_frozen BK197.out 1; have hfz39_2 := blk_frozen BK197.out 2; have hfz39_3 := blk_frozen BK197.out 3; have hfz39_4 := blk_frozen BK197.out 4; have hfz39_5 := blk_frozen BK197.out 5) | (go_at_call 64; (with_reducible refine (impl_WorkOk.calls _ _ l0_0 a0_1 _ _ l0_2 true _ ?side1 ?side2 ?side3 ?side4 A2.out).mono ?_); (case side1 => exact oc_ HR0_0.out); (case side2 => exact HC0_0.out); (case side3 => exact oc_ HR0_2.out); (case side4 => exact HC0_2.out); rintro e w40 ⟨rfl, hb⟩; have n0_ := Aside0.mk (blk_below (g := gb197) (o := .cells #[.slice A0_0 l0_0.length c0_0, .int .i64 a0_1, .slice A0_2 l0_2.length c0_2, .int .i64 a0_3, .int .i64 a0_4, .slice A0_5 l0_5.length c0_5] 36 (0, 0)) (oK BK197) hb); have n1_ := Aside0.mk (below_step (oB HB) hb); clear BK197; clear HB; have BK197 := n0_; have HB := n1_; clear n0_ n1_; (try clear hb); (try clear hb2); (try clear hk); (try clear hi); have hcz41_0 : w40.cell? ⟨gb197, 0, none⟩ = some (.slice A0_0 l0_0.length c0_0) := (blk_cell BK197.out 0).trans rfl; have hcz41_1 : w40.cell? ⟨gb197, 1, none⟩ = some (.int .i64 a0_1) := (blk_cell BK197.out 1).trans rfl; have hcz41_2 : w40.cell? ⟨gb197, 2, none⟩ = some (.slice A0_2 l0_2.length c0_2) := (blk_cell BK197.out 2).trans rfl; have hcz41_3 : w40.cell? ⟨gb197, 3, none⟩ = some (.int .i64 a0_3) := (blk_cell BK197.out 3).trans rfl; have hcz41_4 : w40.cell? ⟨gb197, 4, none⟩ = some (.int .i64 a0_4) := (blk_cell BK197.out 4).trans rfl; have hcz41_5 : w40.cell? ⟨gb197, 5, none⟩ = some (.slice A0_5 l0_5.length c0_5) := (blk_cell BK197.out 5).trans rfl; have hfz41_0 := blk_frozen BK197.out 0; have hfz41_1 := blk_frozen BK197.out 1; have hfz41_2 := blk_frozen BK197.out 2; have hfz41_3 := blk_frozen BK197.out 3; have hfz41_4 := blk_frozen BK197.out 4; have hfz41_5 := blk_frozen BK197.out 5) | (go_at_call 65; (with_reducible refine (impl_LogOk.calls k _ _ l0_5 false _ ?side1 ?side2 A4.out).mono ?_); (case side1 => exact oc_ HR0_5.out); (case side2 => exact HC0_5.out); rintro e w42 ⟨rfl, hb⟩; have n0_ := Aside0.mk (blk_below (g := gb197) (o := .cells #[.slice A0_0 l0_0.length c0_0, .int .i64 a0_1, .slice A0_2 l0_2.length c0_2, .int .i64 a0_3, .int .i64 a0_4, .slice A0_5 l0_5.length c0_5] 36 (0, 0)) (oK BK197) hb); have n1_ := Aside0.mk (below_step (oB HB) hb); clear BK197; clear HB; have BK197 := n0_; have HB := n1_; clear n0_ n1_; (try clear hb); (try clear hb2); (try clear hk); (try clear hi))); try go_wp2_with (first | ((with_reducible refine gate_dst (N := 1) rfl ?_); (try (refine gate_guard (by rfl) ?_; dsimp only)); refine box_event ?hg (N := 1) ?hd (cs := #[.slice A0_0 l0_0.length c0_0, .int .i64 a0_1, .slice A0_2 l0_2.length c0_2, .int .i64 a0_3, .int .i64 a0_4, .slice A0_5 l0_5.length c0_5]) (t := 36) ?hr ?_; (case hd => rfl); (case hg => rfl); (case hr => first | (go_simp; done) | (go_simp; rfl)); intro gb197 hg w38 hbox hb; have n0_ := Aside0.mk (below_step (oB HB) hb); have n1_ := Aside0.mk (hbox); have n2_ := Aside0.mk ((by rw [hg]; exact (below_size (oB HB)) : w.heap.size ≤ gb197)); have n3_ := Aside0.mk ((by rw [hg]; exact (below_size (oB HB)) : w.heap.size ≤ gb197)); clear HB; have HB := n0_; have BK197 := n1_; have GW197 := n2_; have GE197 := n3_; clear n0_ n1_ n2_ n3_; clear hb hbox hg; have hcz39_0 : w38.cell? ⟨gb197, 0, none⟩ = some (.slice A0_0 l0_0.length c0_0) := (blk_cell BK197.out 0).trans rfl; have hcz39_1 : w38.cell? ⟨gb197, 1, none⟩ = some (.int .i64 a0_1) := (blk_cell BK197.out 1).trans rfl; have hcz39_2 : w38.cell? ⟨gb197, 2, none⟩ = some (.slice A0_2 l0_2.length c0_2) := (blk_cell BK197.out 2).trans rfl; have hcz39_3 : w38.cell? ⟨gb197, 3, none⟩ = some (.int .i64 a0_3) := (blk_cell BK197.out 3).trans rfl; have hcz39_4 : w38.cell? ⟨gb197, 4, none⟩ = some (.int .i64 a0_4) := (blk_cell BK197.out 4).trans rfl; have hcz39_5 : w38.cell? ⟨gb197, 5, none⟩ = some (.slice A0_5 l0_5.length c0_5) := (blk_cell BK197.out 5).trans rfl; have hfz39_0 := blk_frozen BK197.out 0; have hfz39_1 := blk_frozen BK197.out 1; have hfz39_2 := blk_frozen BK197.out 2; have hfz39_3 := blk_frozen BK197.out 3; have hfz39_4 := blk_frozen BK197.out 4; have hfz39_5 := blk_frozen BK197.out 5) | (go_at_call 64; (with_reducible refine (impl_WorkOk.calls _ _ l0_0 a0_1 _ _ l0_2 true _ ?side1 ?side2 ?side3 ?side4 A2.out).mono ?_); (case side1 => exact oc_ HR0_0.out); (case side2 => exact HC0_0.out); (case side3 => exact oc_ HR0_2.out); (case side4 => exact HC0_2.out); rintro e w40 ⟨rfl, hb⟩; have n0_ := Aside0.mk (blk_below (g := gb197) (o := .cells #[.slice A0_0 l0_0.length c0_0, .int .i64 a0_1, .slice A0_2 l0_2.length c0_2, .int .i64 a0_3, .int .i64 a0_4, .slice A0_5 l0_5.length c0_5] 36 (0, 0)) (oK BK197) hb); have n1_ := Aside0.mk (below_step (oB HB) hb); clear BK197; clear HB; have BK197 := n0_; have HB := n1_; clear n0_ n1_; (try clear hb); (try clear hb2); (try clear hk); (try clear hi); have hcz41_0 : w40.cell? ⟨gb197, 0, none⟩ = some (.slice A0_0 l0_0.length c0_0) := (blk_cell BK197.out 0).trans rfl; have hcz41_1 : w40.cell? ⟨gb197, 1, none⟩ = some (.int .i64 a0_1) := (blk_cell BK197.out 1).trans rfl; have hcz41_2 : w40.cell? ⟨gb197, 2, none⟩ = some (.slice A0_2 l0_2.length c0_2) := (blk_cell BK197.out 2).trans rfl; have hcz41_3 : w40.cell? ⟨gb197, 3, none⟩ = some (.int .i64 a0_3) := (blk_cell BK197.out 3).trans rfl; have hcz41_4 : w40.cell? ⟨gb197, 4, none⟩ = some (.int .i64 a0_4) := (blk_cell BK197.out 4).trans rfl; have hcz41_5 : w40.cell? ⟨gb197, 5, none⟩ = some (.slice A0_5 l0_5.length c0_5) := (blk_cell BK197.out 5).trans rfl; have hfz41_0 := blk_frozen BK197.out 0; have hfz41_1 := blk_frozen BK197.out 1; have hfz41_2 := blk_frozen BK197.out 2; have hfz41_3 := blk_frozen BK197.out 3; have hfz41_4 := blk_frozen BK197.out 4; have hfz41_5 := blk_frozen BK197.out 5) | (go_at_call 65; (with_reducible refine (impl_LogOk.calls k _ _ l0_5 false _ ?side1 ?side2 A4.out).mono ?_); (case side1 => exact oc_ HR0_5.out); (case side2 => exact HC0_5.out); rintro e w42 ⟨rfl, hb⟩; have n0_ := Aside0.mk (blk_below (g := gb197) (o := .cells #[.slice A0_0 l0_0.length c0_0, .int .i64 a0_1, .slice A0_2 l0_2.length c0_2, .int .i64 a0_3, .int .i64 a0_4, .slice A0_5 l0_5.length c0_5] 36 (0, 0)) (oK BK197) hb); have n1_ := Aside0.mk (below_step (oB HB) hb); clear BK197; clear HB; have BK197 := n0_; have HB := n1_; clear n0_ n1_; (try clear hb); (try clear hb2); (try clear hk); (try clear hi))))
      go_ret
      exact ⟨by first | rfl | (simp [errW_none, errW_some] <;> rfl) | (simp [*, errW_none, errW_some] <;> rfl), oB HB⟩
  · replace c3 := Bool.eq_false_iff.mpr c3
    subst c3
    rw [if_neg (show ¬ (false = true) by decide)] at H
    obtain rfl := Option.some.inj H
    go_enter Try.func18, Try.ntmps18
    go_wp2_with (first | ((with_reducible refine gate_dst (N := 1) rfl ?_); (try (refine gate_guard (by rfl) ?_; dsimp only)); refine box_event ?hg (N := 1) ?hd (cs := #[.slice A0_0 l0_0.length c0_0, .int .i64 a0_1, .slice A0_2 l0_2.length c0_2, .int .i64 a0_3, .int .i64 a0_4, .slice A0_5 l0_5.length c0_5]) (t := 36) ?hr ?_; (case hd => rfl); (case hg => rfl); (case hr => first | (go_simp; done) | (go_simp; rfl)); intro gb197 hg w43 hbox hb; have n0_ := Aside0.mk (below_step (oB HB) hb); have n1_ := Aside0.mk (hbox); have n2_ := Aside0.mk ((by rw [hg]; exact (below_size (oB HB)) : w.heap.size ≤ gb197)); have n3_ := Aside0.mk ((by rw [hg]; exact (below_size (oB HB)) : w.heap.size ≤ gb197)); clear HB; have HB := n0_; have BK197 := n1_; have GW197 := n2_; have GE197 := n3_; clear n0_ n1_ n2_ n3_; clear hb hbox hg; have hcz44_0 : w43.cell? ⟨gb197, 0, none⟩ = some (.slice A0_0 l0_0.length c0_0) := (blk_cell BK197.out 0).trans rfl; have hcz44_1 : w43.cell? ⟨gb197, 1, none⟩ = some (.int .i64 a0_1) := (blk_cell BK197.out 1).trans rfl; have hcz44_2 : w43.cell? ⟨gb197, 2, none⟩ = some (.slice A0_2 l0_2.length c0_2) := (blk_cell BK197.out 2).trans rfl; have hcz44_3 : w43.cell? ⟨gb197, 3, none⟩ = some (.int .i64 a0_3) := (blk_cell BK197.out 3).trans rfl; have hcz44_4 : w43.cell? ⟨gb197, 4, none⟩ = some (.int .i64 a0_4) := (blk_cell BK197.out 4).trans rfl; have hcz44_5 : w43.cell? ⟨gb197, 5, none⟩ = some (.slice A0_5 l0_5.length c0_5) := (blk_cell BK197.out 5).trans rfl; have hfz44_0 := blk_frozen BK197.out 0; have hfz44_1 := blk_frozen BK197.out 1; have hfz44_2 := blk_frozen BK197.out 2; have hfz44_3 := blk_frozen BK197.out 3; have hfz44_4 := blk_frozen BK197.out 4; have hfz44_5 := blk_frozen BK197.out 5) | (go_at_call 64; (with_reducible refine (impl_WorkOk.calls _ _ l0_0 a0_1 _ _ l0_2 false _ ?side1 ?side2 ?side3 ?side4 A2.out).mono ?_); (case side1 => exact oc_ HR0_0.out); (case side2 => exact HC0_0.out); (case side3 => exact oc_ HR0_2.out); (case side4 => exact HC0_2.out); rintro e w45 ⟨rfl, hb⟩; have n0_ := Aside0.mk (blk_below (g := gb197) (o := .cells #[.slice A0_0 l0_0.length c0_0, .int .i64 a0_1, .slice A0_2 l0_2.length c0_2, .int .i64 a0_3, .int .i64 a0_4, .slice A0_5 l0_5.length c0_5] 36 (0, 0)) (oK BK197) hb); have n1_ := Aside0.mk (below_step (oB HB) hb); clear BK197; clear HB; have BK197 := n0_; have HB := n1_; clear n0_ n1_; (try clear hb); (try clear hb2); (try clear hk); (try clear hi)))
    repeat (go_quiet (first | ((with_reducible refine gate_dst (N := 1) rfl ?_); (try (refine gate_guard (by rfl) ?_; dsimp only)); refine box_event ?hg (N := 1) ?hd (cs := #[.slice A0_0 l0_0.length c0_0, .int .i64 a0_1, .slice A0_2 l0_2.length c0_2, .int .i64 a0_3, .int .i64 a0_4, .slice A0_5 l0_5.length c0_5]) (t := 36) ?hr ?_; (case hd => rfl); (case hg => rfl); (case hr => first | (go_simp; done) | (go_simp; rfl)); intro gb197 hg w43 hbox hb; have n0_ := Aside0.mk (below_step (oB HB) hb); have n1_ := Aside0.mk (hbox); have n2_ := Aside0.mk ((by rw [hg]; exact (below_size (oB HB)) : w.heap.size ≤ gb197)); have n3_ := Aside0.mk ((by rw [hg]; exact (below_size (oB HB)) : w.heap.size ≤ gb197)); clear HB; have HB := n0_; have BK197 := n1_; have GW197 := n2_; have GE197 := n3_; clear n0_ n1_ n2_ n3_; clear hb hbox hg; have hcz44_0 : w43.cell? ⟨gb197, 0, none⟩ = some (.slice A0_0 l0_0.length c0_0) := (blk_cell BK197.out 0).trans rfl; have hcz44_1 : w43.cell? ⟨gb197, 1, none⟩ = some (.int .i64 a0_1) := (blk_cell BK197.out 1).trans rfl; have hcz44_2 : w43.cell? ⟨gb197, 2, none⟩ = some (.slice A0_2 l0_2.length c0_2) := (blk_cell BK197.out 2).trans rfl; have hcz44_3 : w43.cell? ⟨gb197, 3, none⟩ = some (.int .i64 a0_3) := (blk_cell BK197.out 3).trans rfl; have hcz44_4 : w43.cell? ⟨gb197, 4, none⟩ = some (.int .i64 a0_4) := (blk_cell BK197.out 4).trans rfl; have hcz44_5 : w43.cell? ⟨gb197, 5, none⟩ = some (.slice A0_5 l0_5.length c0_5) := (blk_cell BK197.out 5).trans rfl; have hfz44_0 := blk_frozen BK197.out 0; have hfz44_1 := blk_frozen BK197.out 1; have hfz44_2 := blk_frozen BK197.out 2; have hfz44_3 := blk_frozen BK197.out 3; have hfz44_4 := blk_frozen BK197.out 4; have hfz44_5 := blk_frozen BK197.out 5) | (go_at_call 64; (with_reducible refine (impl_WorkOk.calls _ _ l0_0 a0_1 _ _ l0_2 false _ ?side1 ?side2 ?side3 ?side4 A2.out).mono ?_); (case side1 => exact oc_ HR0_0.out); (case side2 => exact HC0_0.out); (case side3 => exact oc_ HR0_2.out); (case side4 => exact HC0_2.out); rintro e w45 ⟨rfl, hb⟩; have n0_ := Aside0.mk (blk_below (g := gb197) (o := .cells #[.slice A0_0 l0_0.length c0_0, .int .i64 a0_1, .slice A0_2 l0_2.length c0_2, .int .i64 a0_3, .int .i64 a0_4, .slice A0_5 l0_5.length c0_5] 36 (0, 0)) (oK BK197) hb); have n1_ := Aside0.mk (below_step (oB HB) hb); clear BK197; clear HB; have BK197 := n0_; have HB := n1_; clear n0_ n1_; (try clear hb); (try clear hb2); (try clear hk); (try clear hi))); try go_wp2_with (first | ((with_reducible refine gate_dst (N := 1) rfl ?_); (try (refine gate_guard (by rfl) ?_; dsimp only)); refine box_event ?hg (N := 1) ?hd (cs := #[.slice A0_0 l0_0.length c0_0, .int .i64 a0_1, .slice A0_2 l0_2.length c0_2, .int .i64 a0_3, .int .i64 a0_4, .slice A0_5 l0_5.length c0_5]) (t := 36) ?hr ?_; (case hd => rfl); (case hg => rfl); (case hr => first | (go_simp; done) | (go_simp; rfl)); intro gb197 hg w43 hbox hb; have n0_ := Aside0.mk (below_step (oB HB) hb); have n1_ := Aside0.mk (hbox); have n2_ := Aside0.mk ((by rw [hg]; exact (below_size (oB HB)) : w.heap.size ≤ gb197)); have n3_ := Aside0.mk ((by rw [hg]; exact (below_size (oB HB)) : w.heap.size ≤ gb197)); clear HB; have HB := n0_; have BK197 := n1_; have GW197 := n2_; have GE197 := n3_; clear n0_ n1_ n2_ n3_; clear hb hbox hg; have hcz44_0 : w43.cell? ⟨gb197, 0, none⟩ = some (.slice A0_0 l0_0.length c0_0) := (blk_cell BK197.out 0).trans rfl; have hcz44_1 : w43.cell? ⟨gb197, 1, none⟩ = some (.int .i64 a0_1) := (blk_cell BK197.out 1).trans rfl; have hcz44_2 : w43.cell? ⟨gb197, 2, none⟩ = some (.slice A0_2 l0_2.length c0_2) := (blk_cell BK197.out 2).trans rfl; have hcz44_3 : w43.cell? ⟨gb197, 3, none⟩ = some (.int .i64 a0_3) := (blk_cell BK197.out 3).trans rfl; have hcz44_4 : w43.cell? ⟨gb197, 4, none⟩ = some (.int .i64 a0_4) := (blk_cell BK197.out 4).trans rfl; have hcz44_5 : w43.cell? ⟨gb197, 5, none⟩ = some (.slice A0_5 l0_5.length c0_5) := (blk_cell BK197.out 5).trans rfl; have hfz44_0 := blk_frozen BK197.out 0; have hfz44_1 := blk_frozen BK197.out 1; have hfz44_2 := blk_frozen BK197.out 2; have hfz44_3 := blk_frozen BK197.out 3; have hfz44_4 := blk_frozen BK197.out 4; have hfz44_5 := blk_frozen BK197.out 5) | (go_at_call 64; (with_reducible refine (impl_WorkOk.calls _ _ l0_0 a0_1 _ _ l0_2 false _ ?side1 ?side2 ?side3 ?side4 A2.out).mono ?_); (case side1 => exact oc_ HR0_0.out); (case side2 => exact HC0_0.out); (case side3 => exact oc_ HR0_2.out); (case side4 => exact HC0_2.out); rintro e w45 ⟨rfl, hb⟩; have n0_ := Aside0.mk (blk_below (g := gb197) (o := .cells #[.slice A0_0 l0_0.length c0_0, .int .i64 a0_1, .slice A0_2 l0_2.length c0_2, .int .i64 a0_3, .int .i64 a0_4, .slice A0_5 l0_5.length c0_5] 36 (0, 0)) (oK BK197) hb); have n1_ := Aside0.mk (below_step (oB HB) hb); clear BK197; clear HB; have BK197 := n0_; have HB := n1_; clear n0_ n1_; (try clear hb); (try clear hb2); (try clear hk); (try clear hi))))
    go_ret
    exact ⟨by first | rfl | (simp [errW_none, errW_some] <;> rfl) | (simp [*, errW_none, errW_some] <;> rfl), oB HB⟩
end Go.Proofs.Ytbkkpllejgedcaa.P


namespace Go.Proofs.Ytbkkpllejgedcaa.P
open Go.RowKit Go.Proofs.YtbkkpllejgedcaaW.PrintWords Go.Proofs.YtbkkpllejgedcaaW.PrintLast Go.Proofs.YtbkkpllejgedcaaW.PrintMore
attribute [local go_sem] max2_int min2_int max_two min_two max_three min_three max_four min_four
set_option linter.unusedVariables false
set_option linter.unusedSimpArgs false
def impl_copyLog.f (l0 : List (S74)) : Option ((List (S74))) := (some (([] : List (S74)) : List (S74))).bind fun y823 => (if y823.length + l0.length < 4398046511104 then (some (y823 ++ l0)) else (none))
set_option maxHeartbeats 8000000 in
set_option maxRecDepth 100000 in
theorem impl_copyLog.calls (A0 : Option Addr) (c0 : Nat) (l0 : List (S74)) (r : List (S74)) (w : World) (hr0 : Kd.C k74 w A0 l0.length l0) (hc0 : l0.length ≤ c0) (h : impl_copyLog.f l0 = some r) :
    Calls Try.prog 94 #[.slice A0 l0.length c0] w fun e w' => ∃ v0_ : Value, e = .returned (v0_) ∧ Kd.R k74 74 w' w.heap.size (fun _ => True) v0_ r ∧ Below w.heap.size w w' := by
  have HR0 := Aside0.mk hr0
  have HC0 := Aside0.mk hc0
  clear hr0 hc0
  have HB := Aside0.mk (Below.refl w.heap.size w)
  have H : ((some (([] : List (S74)) : List (S74))).bind fun y823 => (if y823.length + l0.length < 4398046511104 then (some (y823 ++ l0)) else (none))) = some r := h
  clear h
  obtain ⟨y823, hy823⟩ : ∃ y_ : List (S74), y_ = (([] : List (S74))) := ⟨_, rfl⟩
  replace H : (if y823.length + l0.length < 4398046511104 then (some (y823 ++ l0)) else (none)) = some r := by first | (rw [hy823]; with_reducible exact H) | (have H2_ := (Option.bind_some _ _).symm.trans H; rw [hy823]; with_reducible exact H2_) | (have H2_ := (Option.bind_some _ _).symm.trans H; with_reducible exact H2_) | with_reducible exact H | (rw [hy823]; exact H) | exact H
  have Ny823 := Aside0.mk hy823
  clear hy823
  by_cases c2 : y823.length + l0.length < 4398046511104
  · rw [if_pos c2] at H
    have LMc2 := Aside0.mk c2
    clear c2
    obtain ⟨y826, hy826⟩ : ∃ y_ : List (S74), y_ = (y823 ++ l0) := ⟨_, rfl⟩
    replace H : (some y826) = some r := by first | (rw [hy826]; with_reducible exact H) | (have H2_ := (Option.bind_some _ _).symm.trans H; rw [hy826]; with_reducible exact H2_) | (have H2_ := (Option.bind_some _ _).symm.trans H; with_reducible exact H2_) | with_reducible exact H | (rw [hy826]; exact H) | exact H
    have Ny826 := Aside0.mk hy826
    clear hy826
    obtain rfl := Option.some.inj H
    go_enter Try.func94, Try.ntmps94
    go_wp2_with (first | ((with_reducible refine gate_dst (N := 3) rfl ?_); refine Kd.R_lit k74 _ 74 ?hg (N := 3) ?hd (xs := ([] : List (S74))) (inner := []) (ok := fun _ => True) (okp := fun _ => True) ?hr ?hp (fun _ hk => hk) trivial (Below.refl _ _) (Nat.le_refl _) (by simp) ?_; (case hd => rfl); (case hg => rfl); (case hr => first | (go_simp; done) | (go_simp; rfl)); (case hp => exact (Reps.none _ _)); intro v824 w3 ho4 hb hg_ hnew_; clear hg_ hnew_; (first | rw [← Ny823.out] at ho4 | (simp only [Int.reduceToNat] at ho4; rw [← Ny823.out] at ho4)); have n0_ := Aside0.mk (Kd.R_lower ho4 (below_size (oB HB))); have n1_ := Aside0.mk (below_step (oB HB) hb); clear HB; have HO825 := n0_; have HB := n1_; clear n0_ n1_; clear hb ho4) | ((with_reducible refine gate_builtin (b := .append) (xs := #[.tmp 3, .tmp 4]) rfl ?_); at_builtin; refine Kd.R_append_rows k74 (w0 := w) w.heap.size rfl (.tmp 3) (.tmp 4) 34 74 (.agg #[(.int .i64 0), (.int .i64 0), (.int .i64 0), (.int .i64 0)]) 32 rfl Try.underlying34 info74 rfl (by decide) (by omega) v824 y823 l0 _ _ _ (fun _ => True) (fun _ => False) rfl rfl ?aO ?aR (fun _ _ h => h) (fun _ h => h.elim) ?aF ?aB ?aS ?aL ?_; (case aR => exact oc_ HR0.out); (case aB => exact (oB HB)); (case aF => exact (fun _ _ => trivial)); (case aO => exact (oR HO825)); (case aS => exact (below_size (oB HB))); (case aL => have := LMc2.out; omega); intro v827 w5 ho hb hg hat; rw [← Ny826.out] at ho; have n0_ := Aside0.mk (hb); have n1_ := Aside0.mk (ho); clear HB; clear HO825; have HB := n0_; have HO828 := n1_; clear n0_ n1_; clear ho hb hg hat))
    go_ret
    exact ⟨_, by first | rfl | (simp [errW_none, errW_some] <;> rfl) | (simp [*, errW_none, errW_some] <;> rfl), oR HO828, oB HB⟩
  · rw [if_neg c2] at H
    exact absurd H (by simp)
end Go.Proofs.Ytbkkpllejgedcaa.P


namespace Go.Proofs.Ytbkkpllejgedcaa.P
open Go.RowKit Go.Proofs.YtbkkpllejgedcaaW.PrintWords Go.Proofs.YtbkkpllejgedcaaW.PrintLast Go.Proofs.YtbkkpllejgedcaaW.PrintMore
attribute [local go_sem] max2_int min2_int max_two min_two max_three min_three max_four min_four
set_option linter.unusedVariables false
set_option linter.unusedSimpArgs false
def impl_copyPlan.f (l0 : List (S96)) : Option ((List (S96))) := (some (([] : List (S96)) : List (S96))).bind fun y405 => (if y405.length + l0.length < 4398046511104 then (some (y405 ++ l0)) else (none))
set_option maxHeartbeats 8000000 in
set_option maxRecDepth 100000 in
theorem impl_copyPlan.calls (A0 : Option Addr) (c0 : Nat) (l0 : List (S96)) (r : List (S96)) (w : World) (hr0 : Kd.C k96 w A0 l0.length l0) (hc0 : l0.length ≤ c0) (h : impl_copyPlan.f l0 = some r) :
    Calls Try.prog 112 #[.slice A0 l0.length c0] w fun e w' => ∃ v0_ : Value, e = .returned (v0_) ∧ Kd.R k96 96 w' w.heap.size (fun _ => True) v0_ r ∧ Below w.heap.size w w' := by
  have HR0 := Aside0.mk hr0
  have HC0 := Aside0.mk hc0
  clear hr0 hc0
  have HB := Aside0.mk (Below.refl w.heap.size w)
  have H : ((some (([] : List (S96)) : List (S96))).bind fun y405 => (if y405.length + l0.length < 4398046511104 then (some (y405 ++ l0)) else (none))) = some r := h
  clear h
  obtain ⟨y405, hy405⟩ : ∃ y_ : List (S96), y_ = (([] : List (S96))) := ⟨_, rfl⟩
  replace H : (if y405.length + l0.length < 4398046511104 then (some (y405 ++ l0)) else (none)) = some r := by first | (rw [hy405]; with_reducible exact H) | (have H2_ := (Option.bind_some _ _).symm.trans H; rw [hy405]; with_reducible exact H2_) | (have H2_ := (Option.bind_some _ _).symm.trans H; with_reducible exact H2_) | with_reducible exact H | (rw [hy405]; exact H) | exact H
  have Ny405 := Aside0.mk hy405
  clear hy405
  by_cases c2 : y405.length + l0.length < 4398046511104
  · rw [if_pos c2] at H
    have LMc2 := Aside0.mk c2
    clear c2
    obtain ⟨y408, hy408⟩ : ∃ y_ : List (S96), y_ = (y405 ++ l0) := ⟨_, rfl⟩
    replace H : (some y408) = some r := by first | (rw [hy408]; with_reducible exact H) | (have H2_ := (Option.bind_some _ _).symm.trans H; rw [hy408]; with_reducible exact H2_) | (have H2_ := (Option.bind_some _ _).symm.trans H; with_reducible exact H2_) | with_reducible exact H | (rw [hy408]; exact H) | exact H
    have Ny408 := Aside0.mk hy408
    clear hy408
    obtain rfl := Option.some.inj H
    go_enter Try.func112, Try.ntmps112
    go_wp2_with (first | ((with_reducible refine gate_dst (N := 3) rfl ?_); refine Kd.R_lit k96 _ 96 ?hg (N := 3) ?hd (xs := ([] : List (S96))) (inner := []) (ok := fun _ => True) (okp := fun _ => True) ?hr ?hp (fun _ hk => hk) trivial (Below.refl _ _) (Nat.le_refl _) (by simp) ?_; (case hd => rfl); (case hg => rfl); (case hr => first | (go_simp; done) | (go_simp; rfl)); (case hp => exact (Reps.none _ _)); intro v406 w3 ho4 hb hg_ hnew_; clear hg_ hnew_; (first | rw [← Ny405.out] at ho4 | (simp only [Int.reduceToNat] at ho4; rw [← Ny405.out] at ho4)); have n0_ := Aside0.mk (Kd.R_lower ho4 (below_size (oB HB))); have n1_ := Aside0.mk (below_step (oB HB) hb); clear HB; have HO407 := n0_; have HB := n1_; clear n0_ n1_; clear hb ho4) | ((with_reducible refine gate_builtin (b := .append) (xs := #[.tmp 3, .tmp 4]) rfl ?_); at_builtin; refine Kd.R_append_rows k96 (w0 := w) w.heap.size rfl (.tmp 3) (.tmp 4) 31 96 (.agg #[(.int .i64 0), (.int .i64 0), (.int .i64 0), (.int .i64 0)]) 32 rfl Try.underlying31 info96 rfl (by decide) (by omega) v406 y405 l0 _ _ _ (fun _ => True) (fun _ => False) rfl rfl ?aO ?aR (fun _ _ h => h) (fun _ h => h.elim) ?aF ?aB ?aS ?aL ?_; (case aR => exact oc_ HR0.out); (case aB => exact (oB HB)); (case aF => exact (fun _ _ => trivial)); (case aO => exact (oR HO407)); (case aS => exact (below_size (oB HB))); (case aL => have := LMc2.out; omega); intro v409 w5 ho hb hg hat; rw [← Ny408.out] at ho; have n0_ := Aside0.mk (hb); have n1_ := Aside0.mk (ho); clear HB; clear HO407; have HB := n0_; have HO410 := n1_; clear n0_ n1_; clear ho hb hg hat))
    go_ret
    exact ⟨_, by first | rfl | (simp [errW_none, errW_some] <;> rfl) | (simp [*, errW_none, errW_some] <;> rfl), oR HO410, oB HB⟩
  · rw [if_neg c2] at H
    exact absurd H (by simp)
end Go.Proofs.Ytbkkpllejgedcaa.P


namespace Go.Proofs.Ytbkkpllejgedcaa.P
open Go.RowKit Go.Proofs.YtbkkpllejgedcaaW.PrintWords Go.Proofs.YtbkkpllejgedcaaW.PrintLast Go.Proofs.YtbkkpllejgedcaaW.PrintMore
attribute [local go_sem] max2_int min2_int max_two min_two max_three min_three max_four min_four
set_option linter.unusedVariables false
set_option linter.unusedSimpArgs false
def impl_copyWork.f (l0_0 : List (S96)) (a0_1 : Int) (l0_2 : List Int) : Option ((List (S96)) × Int × List Int) := (impl_copyPlan.f l0_0).bind fun t831 => ((some (([] : List Int) : List Int)).bind fun y834 => (if y834.length + l0_2.length < 17592186044416 then (some (t831, a0_1, (y834 ++ l0_2))) else (none)))
def impl_copyWork.T1 : Bool × List (List Nat × List Nat) := (true, [([], []), ([0], [0]), ([1], [1]), ([], []), ([3], [3]), ([], []), ([], []), ([6], [6]), ([5, 7, 2], [5, 7]), ([2, 4, 8], [2, 4, 8]), ([9, 8, 0, 1, 2, 3, 4, 5, 6, 7, 8, 9], [9])])
def impl_copyWork.B1 : List Nat := [0, 1, 3, 0, 8, 0, 0, 64, 231, 511, 1023]
theorem impl_copyWork.tab1 : rtab .any (opsOf Try.f119 1) = impl_copyWork.T1 := by kernel_rfl
theorem impl_copyWork.bits1 : waitsOk impl_copyWork.T1.2 impl_copyWork.B1 = true := by kernel_rfl
set_option maxHeartbeats 8000000 in
set_option maxRecDepth 100000 in
theorem impl_copyWork.calls (A0_0 : Option Addr) (c0_0 : Nat) (l0_0 : List (S96)) (a0_1 : Int) (A0_2 : Option Addr) (c0_2 : Nat) (l0_2 : List Int) (r1 : List (S96)) (r2 : Int) (r3 : List Int) (w : World) (hr0_0 : Kd.C k96 w A0_0 l0_0.length l0_0) (hc0_0 : l0_0.length ≤ c0_0) (hr0_2 : Kd.C (Kd.int .i64) w A0_2 l0_2.length l0_2) (hc0_2 : l0_2.length ≤ c0_2) (h : impl_copyWork.f l0_0 a0_1 l0_2 = some (r1, r2, r3)) :
    Calls Try.prog 119 #[.agg #[.slice A0_0 l0_0.length c0_0, .int .i64 a0_1, .slice A0_2 l0_2.length c0_2]] w fun e w' => ∃ v0_ v2_ : Value, e = .returned (.agg #[v0_, .int .i64 r2, v2_]) ∧ Kd.R k96 96 w' w.heap.size (fun _ => True) v0_ r1 ∧ Kd.R (Kd.int .i64) 3 w' w.heap.size (fun _ => True) v2_ r3 ∧ Below w.heap.size w w' := by
  have hu33 := Try.underlying33
  have HR0_0 := Aside0.mk hr0_0
  have HC0_0 := Aside0.mk hc0_0
  clear hr0_0 hc0_0
  have HR0_2 := Aside0.mk hr0_2
  have HC0_2 := Aside0.mk hc0_2
  clear hr0_2 hc0_2
  have HB := Aside0.mk (Below.refl w.heap.size w)
  have H : ((impl_copyPlan.f l0_0).bind fun t831 => ((some (([] : List Int) : List Int)).bind fun y834 => (if y834.length + l0_2.length < 17592186044416 then (some (t831, a0_1, (y834 ++ l0_2))) else (none)))) = some (r1, r2, r3) := h
  clear h
  replace H := Option.bind_eq_some_iff.mp H
  obtain ⟨t831, A20, H⟩ := H
  (try dsimp only at H)
  have A2 := Aside0.mk A20
  clear A20
  obtain ⟨y834, hy834⟩ : ∃ y_ : List Int, y_ = (([] : List Int)) := ⟨_, rfl⟩
  replace H : (if y834.length + l0_2.length < 17592186044416 then (some (t831, a0_1, (y834 ++ l0_2))) else (none)) = some (r1, r2, r3) := by first | (rw [hy834]; with_reducible exact H) | (have H2_ := (Option.bind_some _ _).symm.trans H; rw [hy834]; with_reducible exact H2_) | (have H2_ := (Option.bind_some _ _).symm.trans H; with_reducible exact H2_) | with_reducible exact H | (rw [hy834]; exact H) | exact H
  have Ny834 := Aside0.mk hy834
  clear hy834
  by_cases c3 : y834.length + l0_2.length < 17592186044416
  · rw [if_pos c3] at H
    have LMc3 := Aside0.mk c3
    clear c3
    obtain ⟨y837, hy837⟩ : ∃ y_ : List Int, y_ = (y834 ++ l0_2) := ⟨_, rfl⟩
    replace H : (some (t831, a0_1, y837)) = some (r1, r2, r3) := by first | (rw [hy837]; with_reducible exact H) | (have H2_ := (Option.bind_some _ _).symm.trans H; rw [hy837]; with_reducible exact H2_) | (have H2_ := (Option.bind_some _ _).symm.trans H; with_reducible exact H2_) | with_reducible exact H | (rw [hy837]; exact H) | exact H
    have Ny837 := Aside0.mk hy837
    clear hy837
    simp only [Option.some.injEq, Prod.mk.injEq] at H
    obtain ⟨rfl, rfl, rfl⟩ := H
    go_enter Try.func119, Try.ntmps119
    try go_wp2_with (first | ((with_reducible refine gate_dst (N := 1) rfl ?_); refine box_event ?hg (N := 1) ?hd (cs := #[.slice A0_0 l0_0.length c0_0, .int .i64 a0_1, .slice A0_2 l0_2.length c0_2]) (t := 33) ?hr ?_; (case hd => rfl); (case hg => rfl); (case hr => first | (go_simp; done) | (go_simp; rfl)); intro gb829 hg w4 hbox hb; have n0_ := Aside0.mk (below_step (oB HB) hb); have n1_ := Aside0.mk (hbox); have n2_ := Aside0.mk ((by rw [hg]; exact (below_size (oB HB)) : w.heap.size ≤ gb829)); have n3_ := Aside0.mk ((by rw [hg]; exact (below_size (oB HB)) : w.heap.size ≤ gb829)); clear HB; have HB := n0_; have BK829 := n1_; have GW829 := n2_; have GE829 := n3_; clear n0_ n1_ n2_ n3_; clear hb hbox hg) | ((with_reducible refine gate_dst (N := 2) rfl ?_); refine box_event ?hg (N := 2) ?hd (cs := #[.slice none 0 0, .int .i64 0, .slice none 0 0]) (t := 33) ?hr ?_; (case hd => rfl); (case hg => rfl); (case hr => first | (go_simp; done) | (go_simp; rfl)); intro gb830 hg w5 hbox hb; have n0_ := Aside0.mk (blk_below (g := gb829) (o := .cells #[.slice A0_0 l0_0.length c0_0, .int .i64 a0_1, .slice A0_2 l0_2.length c0_2] 33 (0, 0)) (oK BK829) hb); have n1_ := Aside0.mk (below_step (oB HB) hb); have n2_ := Aside0.mk (hbox); have n3_ := Aside0.mk ((by rw [hg]; exact (below_size (oB HB)) : w.heap.size ≤ gb830)); have n4_ := Aside0.mk ((by rw [hg]; exact (below_size (oB HB)) : w.heap.size ≤ gb830)); have n5_ := Aside0.mk ((by rw [hg]; exact Nat.ne_of_lt (blk_lt (g := gb829) (o := .cells #[.slice A0_0 l0_0.length c0_0, .int .i64 a0_1, .slice A0_2 l0_2.length c0_2] 33 (0, 0)) (oK BK829)) : gb829 ≠ gb830)); have n6_ := Aside0.mk ((by rw [hg]; exact Nat.ne_of_gt (blk_lt (g := gb829) (o := .cells #[.slice A0_0 l0_0.length c0_0, .int .i64 a0_1, .slice A0_2 l0_2.length c0_2] 33 (0, 0)) (oK BK829)) : gb830 ≠ gb829)); clear BK829; clear HB; have BK829 := n0_; have HB := n1_; have BK830 := n2_; have GW830 := n3_; have GE830 := n4_; have NB829_830 := n5_; have NB830_829 := n6_; clear n0_ n1_ n2_ n3_ n4_ n5_ n6_; clear hb hbox hg))
    have n0_ := Aside0.mk (blk_drew BK829.out)
    have n1_ := Aside0.mk (blk_drew BK830.out)
    have n2_ := Aside0.mk (below_drew1 HB.out)
    clear BK829
    clear BK830
    clear HB
    have BK829 := n0_
    have BK830 := n1_
    have HB := n2_
    clear n0_ n1_ n2_
    refine start_ (n := 11) (S := fun w' => w'.cell? ⟨gb829, 0, none⟩ = some (.slice A0_0 l0_0.length c0_0) ∧ w'.cell? ⟨gb829, 1, none⟩ = some (.int .i64 a0_1) ∧ w'.cell? ⟨gb829, 2, none⟩ = some (.slice A0_2 l0_2.length c0_2)) (ds := []) #[false, false, false, false, false, false, false, false, false, false, false] (by kernel_rfl) rfl rfl ⟨(blk_cell BK829.out 0).trans rfl, (blk_cell BK829.out 1).trans rfl, (blk_cell BK829.out 2).trans rfl⟩ (fun hHeld => ?_); refine with_tabW impl_copyWork.tab1 impl_copyWork.bits1 (fun HT_ HW_ => ?_)
    generalize w5.drew = w6 at BK829 BK830 HB hHeld ⊢
    refine pure_ (i := 0) (N := some 3) (v := ?_) (a' := ?_) #[true, false, false, false, false, false, false, false, false, false, false] rfl rfl (any_of HT_.out (by kernel_rfl)) (fun _ _ _ h => h) (Or.inl ⟨by rfl, ?_⟩) ?_ ?_
    rotate_left
    · intro w'
      go_simp
      with_reducible rfl
    rotate_left
    · simp only [Act.put, List.setIfInBounds_toArray, List.set_cons_zero, List.set_cons_succ, i64_w, i32_w]
      rfl
    refine pure_ (i := 3) (N := some 6) (v := ?_) (a' := ?_) #[true, false, false, true, false, false, false, false, false, false, false] rfl rfl (any_of HT_.out (by kernel_rfl)) (fun _ _ _ h => h) (Or.inl ⟨by rfl, ?_⟩) ?_ ?_
    rotate_left
    · intro w'
      go_simp
      with_reducible rfl
    rotate_left
    · simp only [Act.put, List.setIfInBounds_toArray, List.set_cons_zero, List.set_cons_succ, i64_w, i32_w]
      rfl
    refine pure_ (i := 6) (N := some 9) (v := ?_) (a' := ?_) #[true, false, false, true, false, false, true, false, false, false, false] rfl rfl (any_of HT_.out (by kernel_rfl)) (fun _ _ _ h => h) (Or.inl ⟨by rfl, ?_⟩) ?_ ?_
    rotate_left
    · intro w'
      go_simp
      with_reducible rfl
    rotate_left
    · simp only [Act.put, List.setIfInBounds_toArray, List.set_cons_zero, List.set_cons_succ, i64_w, i32_w]
      rfl
    refine take_ (i := 1) (N := some 4) (v := ?_) (a' := ?_) #[true, true, false, true, false, false, true, false, false, false, false] rfl rfl (take_ofW HT_.out HW_.out (by kernel_rfl)) (fun _ _ _ h => h) (Or.inl ⟨by rfl, ?_⟩) hHeld ?_ ?_
    rotate_left
    · rintro w' ⟨s0, s1, s2⟩
      go_simp
      with_reducible rfl
    rotate_left
    · simp only [Act.put, List.setIfInBounds_toArray, List.set_cons_zero, List.set_cons_succ, i64_w, i32_w]
      rfl
    refine take_ (i := 4) (N := some 7) (v := ?_) (a' := ?_) #[true, true, false, true, true, false, true, false, false, false, false] rfl rfl (take_ofW HT_.out HW_.out (by kernel_rfl)) (fun _ _ _ h => h) (Or.inl ⟨by rfl, ?_⟩) hHeld ?_ ?_
    rotate_left
    · rintro w' ⟨s0, s1, s2⟩
      go_simp
      with_reducible rfl
    rotate_left
    · simp only [Act.put, List.setIfInBounds_toArray, List.set_cons_zero, List.set_cons_succ, i64_w, i32_w]
      rfl
    refine take_ (i := 7) (N := some 10) (v := ?_) (a' := ?_) #[true, true, false, true, true, false, true, true, false, false, false] rfl rfl (take_ofW HT_.out HW_.out (by kernel_rfl)) (fun _ _ _ h => h) (Or.inl ⟨by rfl, ?_⟩) hHeld ?_ ?_
    rotate_left
    · rintro w' ⟨s0, s1, s2⟩
      go_simp
      with_reducible rfl
    rotate_left
    · simp only [Act.put, List.setIfInBounds_toArray, List.set_cons_zero, List.set_cons_succ, i64_w, i32_w]
      rfl
    refine join_ (σ := Value × Value) 3 #[true, true, true, true, true, true, true, true, false, false, false] (fun s_ => [(5, s_.1), (8, s_.2)]) (fun s_ w' => (w'.cell? ⟨gb829, 0, none⟩ = some (.slice A0_0 l0_0.length c0_0) ∧ w'.cell? ⟨gb829, 1, none⟩ = some (.int .i64 a0_1) ∧ w'.cell? ⟨gb829, 2, none⟩ = some (.slice A0_2 l0_2.length c0_2)) ∧ (Kd.R k96 96 w' w.heap.size (fun _ => True) s_.1 t831) ∧ (Kd.R (Kd.int .i64) 3 w' w.heap.size (fun _ => True) s_.2 y834) ∧ (w'.heap[gb829]? = some (.cells #[.slice A0_0 l0_0.length c0_0, .int .i64 a0_1, .slice A0_2 l0_2.length c0_2] 33 (0, 0))) ∧ (w'.heap[gb830]? = some (.cells #[.slice none 0 0, .int .i64 0, .slice none 0 0] 33 (0, 0))) ∧ (Below w.heap.size w w')) ?_ ?_
    rotate_left
    · intro hCont
      refine two_ (i := 2) (j := 5) (Ni := some 5) (Nj := some 8) #[true, true, true, true, true, false, true, true, false, false, false] #[true, true, false, true, true, true, true, true, false, false, false] rfl rfl rfl rfl (two_of HT_.out (by kernel_rfl)) (by decide) (by decide) (fun K hK => ?_) (fun K hK => ?_)
      · skip
        refine goes_ Try.func112 (by kernel_rfl) rfl #[.slice A0_0 l0_0.length c0_0] (by rfl) rfl rfl (by (try simp only [List.map_toArray, List.map_cons, List.map_nil]); first | done | rfl | (simp only [List.length_drop, List.length_take]; rfl)) ?_
        with_reducible refine (impl_copyPlan.calls _ _ l0_0 t831 _ ?side1 ?side2 A2.out).mono ?_
        (case side1 => exact oc_ HR0_0.out)
        (case side2 => exact HC0_0.out)
        rintro e w7 ⟨v832, rfl, ho0, hb⟩
        refine ⟨_, rfl, ?_⟩
        have n0_ := Aside0.mk (Kd.R_lower ho0 (below_size (oB HB)))
        have n1_ := Aside0.mk (blk_below (g := gb829) (o := .cells #[.slice A0_0 l0_0.length c0_0, .int .i64 a0_1, .slice A0_2 l0_2.length c0_2] 33 (0, 0)) (oK BK829) hb)
        have n2_ := Aside0.mk (blk_below (g := gb830) (o := .cells #[.slice none 0 0, .int .i64 0, .slice none 0 0] 33 (0, 0)) (oK BK830) hb)
        have n3_ := Aside0.mk (below_step (oB HB) hb)
        clear BK829
        clear BK830
        clear HB
        have HO833 := n0_
        have BK829 := n1_
        have BK830 := n2_
        have HB := n3_
        clear n0_ n1_ n2_ n3_
        (try clear hb)
        (try clear hb2)
        (try clear hk)
        (try clear hi)
        (try clear ho0)
        refine hK.out _ _ ⟨(blk_cell BK829.out 0).trans rfl, (blk_cell BK829.out 1).trans rfl, (blk_cell BK829.out 2).trans rfl⟩ (fun hHeld => ?_)
        clear hK K
        refine norm_ (a' := ?_) ?_ ?_
        rotate_left
        · show Act.put _ (some 5) _ = _
          simp only [Act.put, List.setIfInBounds_toArray, List.set_cons_zero, List.set_cons_succ, i64_w, i32_w]
          rfl
        refine one_ (i := 5) (N := some 8) #[true, true, true, true, true, true, true, true, false, false, false] rfl rfl (one_of HT_.out (by kernel_rfl)) (by decide) (fun K hK => ?_)
        refine Kd.R_lit_step (Kd.int .i64) _ 3 ?hg (N := 8) ?hd (xs := ([] : List Int)) (inner := []) (ok := fun _ => True) (okp := fun _ => True) ?hr ?hp (fun _ hk => hk) trivial (Below.refl _ _) (Nat.le_refl _) (by simp) ?_; (case hd => rfl); (case hg => rfl); (case hr => first | (go_simp; done) | (go_simp; rfl)); (case hp => exact (Reps.none _ _))
        intro v835 w8 ho9 hb hg_ hnew_
        clear hg_ hnew_
        (first | rw [← Ny834.out] at ho9 | (simp only [Int.reduceToNat] at ho9; rw [← Ny834.out] at ho9))
        have n0_ := Aside0.mk (Kd.R_below (oR HO833) hb)
        have n1_ := Aside0.mk (Kd.R_lower ho9 (below_size (oB HB)))
        have n2_ := Aside0.mk (blk_below (g := gb829) (o := .cells #[.slice A0_0 l0_0.length c0_0, .int .i64 a0_1, .slice A0_2 l0_2.length c0_2] 33 (0, 0)) (oK BK829) hb)
        have n3_ := Aside0.mk (blk_below (g := gb830) (o := .cells #[.slice none 0 0, .int .i64 0, .slice none 0 0] 33 (0, 0)) (oK BK830) hb)
        have n4_ := Aside0.mk (below_step (oB HB) hb)
        clear HO833
        clear BK829
        clear BK830
        clear HB
        have HO833 := n0_
        have HO836 := n1_
        have BK829 := n2_
        have BK830 := n3_
        have HB := n4_
        clear n0_ n1_ n2_ n3_ n4_
        clear hb ho9
        refine hK.out _ _ ⟨(blk_cell BK829.out 0).trans rfl, (blk_cell BK829.out 1).trans rfl, (blk_cell BK829.out 2).trans rfl⟩ (fun hHeld => ?_)
        clear hK K
        refine norm_ (a' := ?_) ?_ ?_
        rotate_left
        · show Act.put _ (some 8) _ = _
          simp only [Act.put, List.setIfInBounds_toArray, List.set_cons_zero, List.set_cons_succ, i64_w, i32_w]
          rfl
        exact norm_ (by simp only [putAll, Act.put, List.setIfInBounds_toArray, List.set_cons_zero, List.set_cons_succ]) (hCont (v832, v835) _ ⟨hHeld, (oR HO833), (oR HO836), (oK BK829), (oK BK830), (oB HB)⟩)
      · skip
        refine Kd.R_lit_step (Kd.int .i64) _ 3 ?hg (N := 8) ?hd (xs := ([] : List Int)) (inner := []) (ok := fun _ => True) (okp := fun _ => True) ?hr ?hp (fun _ hk => hk) trivial (Below.refl _ _) (Nat.le_refl _) (by simp) ?_; (case hd => rfl); (case hg => rfl); (case hr => first | (go_simp; done) | (go_simp; rfl)); (case hp => exact (Reps.none _ _))
        intro v835 w7 ho8 hb hg_ hnew_
        clear hg_ hnew_
        (first | rw [← Ny834.out] at ho8 | (simp only [Int.reduceToNat] at ho8; rw [← Ny834.out] at ho8))
        have n0_ := Aside0.mk (Kd.R_lower ho8 (below_size (oB HB)))
        have n1_ := Aside0.mk (blk_below (g := gb829) (o := .cells #[.slice A0_0 l0_0.length c0_0, .int .i64 a0_1, .slice A0_2 l0_2.length c0_2] 33 (0, 0)) (oK BK829) hb)
        have n2_ := Aside0.mk (blk_below (g := gb830) (o := .cells #[.slice none 0 0, .int .i64 0, .slice none 0 0] 33 (0, 0)) (oK BK830) hb)
        have n3_ := Aside0.mk (below_step (oB HB) hb)
        clear BK829
        clear BK830
        clear HB
        have HO836 := n0_
        have BK829 := n1_
        have BK830 := n2_
        have HB := n3_
        clear n0_ n1_ n2_ n3_
        clear hb ho8
        refine hK.out _ _ ⟨(blk_cell BK829.out 0).trans rfl, (blk_cell BK829.out 1).trans rfl, (blk_cell BK829.out 2).trans rfl⟩ (fun hHeld => ?_)
        clear hK K
        refine norm_ (a' := ?_) ?_ ?_
        rotate_left
        · show Act.put _ (some 8) _ = _
          simp only [Act.put, List.setIfInBounds_toArray, List.set_cons_zero, List.set_cons_succ, i64_w, i32_w]
          rfl
        refine one_ (i := 2) (N := some 5) #[true, true, true, true, true, true, true, true, false, false, false] rfl rfl (one_of HT_.out (by kernel_rfl)) (by decide) (fun K hK => ?_)
        refine goes_ Try.func112 (by kernel_rfl) rfl #[.slice A0_0 l0_0.length c0_0] (by rfl) rfl rfl (by (try simp only [List.map_toArray, List.map_cons, List.map_nil]); first | done | rfl | (simp only [List.length_drop, List.length_take]; rfl)) ?_
        with_reducible refine (impl_copyPlan.calls _ _ l0_0 t831 _ ?side1 ?side2 A2.out).mono ?_
        (case side1 => exact oc_ HR0_0.out)
        (case side2 => exact HC0_0.out)
        rintro e w9 ⟨v832, rfl, ho0, hb⟩
        refine ⟨_, rfl, ?_⟩
        have n0_ := Aside0.mk (Kd.R_below (oR HO836) hb)
        have n1_ := Aside0.mk (Kd.R_lower ho0 (below_size (oB HB)))
        have n2_ := Aside0.mk (blk_below (g := gb829) (o := .cells #[.slice A0_0 l0_0.length c0_0, .int .i64 a0_1, .slice A0_2 l0_2.length c0_2] 33 (0, 0)) (oK BK829) hb)
        have n3_ := Aside0.mk (blk_below (g := gb830) (o := .cells #[.slice none 0 0, .int .i64 0, .slice none 0 0] 33 (0, 0)) (oK BK830) hb)
        have n4_ := Aside0.mk (below_step (oB HB) hb)
        clear HO836
        clear BK829
        clear BK830
        clear HB
        have HO836 := n0_
        have HO833 := n1_
        have BK829 := n2_
        have BK830 := n3_
        have HB := n4_
        clear n0_ n1_ n2_ n3_ n4_
        (try clear hb)
        (try clear hb2)
        (try clear hk)
        (try clear hi)
        (try clear ho0)
        refine hK.out _ _ ⟨(blk_cell BK829.out 0).trans rfl, (blk_cell BK829.out 1).trans rfl, (blk_cell BK829.out 2).trans rfl⟩ (fun hHeld => ?_)
        clear hK K
        refine norm_ (a' := ?_) ?_ ?_
        rotate_left
        · show Act.put _ (some 5) _ = _
          simp only [Act.put, List.setIfInBounds_toArray, List.set_cons_zero, List.set_cons_succ, i64_w, i32_w]
          rfl
        exact norm_ (by simp only [putAll, Act.put, List.setIfInBounds_toArray, List.set_cons_zero, List.set_cons_succ]) (hCont (v832, v835) _ ⟨hHeld, (oR HO833), (oR HO836), (oK BK829), (oK BK830), (oB HB)⟩)
    rintro ⟨v832, v835⟩ w10 ⟨hS_, h0_, h1_, h2_, h3_, h4_⟩
    have n0_ : Aside0 (Kd.R k96 96 w10 w.heap.size (fun _ => True) v832 t831) := ⟨h0_⟩
    have n1_ : Aside0 (Kd.R (Kd.int .i64) 3 w10 w.heap.size (fun _ => True) v835 y834) := ⟨h1_⟩
    have n2_ : Aside0 (w10.heap[gb829]? = some (.cells #[.slice A0_0 l0_0.length c0_0, .int .i64 a0_1, .slice A0_2 l0_2.length c0_2] 33 (0, 0))) := ⟨h2_⟩
    have n3_ : Aside0 (w10.heap[gb830]? = some (.cells #[.slice none 0 0, .int .i64 0, .slice none 0 0] 33 (0, 0))) := ⟨h3_⟩
    have n4_ : Aside0 (Below w.heap.size w w10) := ⟨h4_⟩
    clear BK829
    clear BK830
    clear HB
    clear h0_ h1_ h2_ h3_ h4_
    have HO833 := n0_
    have HO836 := n1_
    have BK829 := n2_
    have BK830 := n3_
    have HB := n4_
    clear n0_ n1_ n2_ n3_ n4_
    have hHeld : w10.cell? ⟨gb829, 0, none⟩ = some (.slice A0_0 l0_0.length c0_0) ∧ w10.cell? ⟨gb829, 1, none⟩ = some (.int .i64 a0_1) ∧ w10.cell? ⟨gb829, 2, none⟩ = some (.slice A0_2 l0_2.length c0_2) := hS_
    refine norm_ (a' := ?_) ?_ ?_
    rotate_left
    · simp only [putAll, Act.put, List.setIfInBounds_toArray, List.set_cons_zero, List.set_cons_succ]
      rfl
    refine one_ (i := 8) (N := some 11) #[true, true, true, true, true, true, true, true, true, false, false] rfl rfl (one_of HT_.out (by kernel_rfl)) (by decide) (fun K hK => ?_)
    refine Kd.R_append_rows_step (Kd.int .i64) (w0 := w) w.heap.size (by rfl) (.tmp 8) (.tmp 10) 23 3 (.int .i64 0) 8 rfl Try.underlying23 info3 rfl (by decide) (by omega) v835 y834 l0_2 _ _ _ (fun _ => True) (fun _ => False) rfl rfl ?aO ?aR (fun _ _ h => h) (fun _ h => h.elim) ?aF ?aB ?aS ?aL ?_
    (case aR => exact oc_ HR0_2.out)
    (case aB => exact (oB HB))
    (case aF => exact (fun _ _ => trivial))
    (case aO => exact (oR HO836))
    (case aS => exact (below_size (oB HB)))
    (case aL => have := LMc3.out; omega)
    intro v838 w11 ho hb hg hat
    rw [← Ny837.out] at ho
    have n0_ := Aside0.mk (blk_grown (g := gb829) (o := .cells #[.slice A0_0 l0_0.length c0_0, .int .i64 a0_1, .slice A0_2 l0_2.length c0_2] 33 (0, 0)) (oK BK829) hg (Kd.R_ne HO836.out BK829.out (by decide)))
    have n1_ := Aside0.mk (blk_grown (g := gb830) (o := .cells #[.slice none 0 0, .int .i64 0, .slice none 0 0] 33 (0, 0)) (oK BK830) hg (Kd.R_ne HO836.out BK830.out (by decide)))
    have n2_ := Aside0.mk (Kd.R_over' (oR HO833) (Kd.R_typed (oR HO836)) (by decide) hg)
    have n3_ := Aside0.mk (hb)
    have n4_ := Aside0.mk (ho)
    clear BK829
    clear BK830
    clear HO833
    clear HB
    clear HO836
    have BK829 := n0_
    have BK830 := n1_
    have HO833 := n2_
    have HB := n3_
    have HO839 := n4_
    clear n0_ n1_ n2_ n3_ n4_
    clear ho hb hg hat
    obtain ⟨Ao12, co12, eo12⟩ := Kd.R_slice HO839.out
    (first | subst eo12 | (injection eo12 with f1_ f2_ f3_; have f4_ := f1_.symm; have f5_ := f3_.symm; clear f1_ f2_ f3_; subst f4_; subst f5_))
    obtain ⟨Ao13, co13, eo13⟩ := Kd.R_slice HO833.out
    (first | subst eo13 | (injection eo13 with f1_ f2_ f3_; have f4_ := f1_.symm; have f5_ := f3_.symm; clear f1_ f2_ f3_; subst f4_; subst f5_))
    refine hK.out _ _ ⟨(blk_cell BK829.out 0).trans rfl, (blk_cell BK829.out 1).trans rfl, (blk_cell BK829.out 2).trans rfl⟩ (fun hHeld => ?_)
    clear hK K
    refine norm_ (a' := ?_) ?_ ?_
    rotate_left
    · show Act.put _ (some 11) _ = _
      simp only [Act.put, List.setIfInBounds_toArray, List.set_cons_zero, List.set_cons_succ, i64_w, i32_w]
      rfl
    refine pure_ (i := 9) (N := some 12) (v := ?_) (a' := ?_) #[true, true, true, true, true, true, true, true, true, true, false] rfl rfl (any_of HT_.out (by kernel_rfl)) (fun _ _ _ h => h) (Or.inl ⟨by rfl, ?_⟩) ?_ ?_
    rotate_left
    · intro w'
      go_simp
      with_reducible rfl
    rotate_left
    · simp only [Act.put, List.setIfInBounds_toArray, List.set_cons_zero, List.set_cons_succ, i64_w, i32_w]
      rfl
    refine one_ (i := 10) (N := none) #[true, true, true, true, true, true, true, true, true, true, true] rfl rfl (one_of HT_.out (by kernel_rfl)) (by decide) (fun K hK => ?_)
    have hs14 : w11.cell? ⟨gb830, 0, none⟩ = some (.slice none 0 0) := (blk_cell BK830.out 0).trans rfl
    have hfs14 := blk_frozen BK830.out 0
    have hns14_0 := NB829_830.out
    have hms14_0 := NB830_829.out
    have hs15 : w11.cell? ⟨gb830, 1, none⟩ = some (.int .i64 0) := (blk_cell BK830.out 1).trans rfl
    have hfs15 := blk_frozen BK830.out 1
    have hns15_0 := NB829_830.out
    have hms15_0 := NB830_829.out
    have hs16 : w11.cell? ⟨gb830, 2, none⟩ = some (.slice none 0 0) := (blk_cell BK830.out 2).trans rfl
    have hfs16 := blk_frozen BK830.out 2
    have hns16_0 := NB829_830.out
    have hms16_0 := NB830_829.out
    refine skip_ (w1 := ?_) (by rfl) rfl ?_ ?_
    rotate_left
    · go_simp
      rfl
    refine hK.out _ _ ⟨((cell_far (p := ⟨gb830, _, none⟩) NB829_830.out _).trans (((cell_far (p := ⟨gb830, _, none⟩) NB829_830.out _).trans (((cell_far (p := ⟨gb830, _, none⟩) NB829_830.out _).trans (hHeld.1)))))), ((cell_far (p := ⟨gb830, _, none⟩) NB829_830.out _).trans (((cell_far (p := ⟨gb830, _, none⟩) NB829_830.out _).trans (((cell_far (p := ⟨gb830, _, none⟩) NB829_830.out _).trans (hHeld.2.1)))))), ((cell_far (p := ⟨gb830, _, none⟩) NB829_830.out _).trans (((cell_far (p := ⟨gb830, _, none⟩) NB829_830.out _).trans (((cell_far (p := ⟨gb830, _, none⟩) NB829_830.out _).trans (hHeld.2.2))))))⟩ (fun hHeld => ?_)
    clear hK K
    refine done_ (done_of HT_.out (by kernel_rfl)) ?_
    try go_wp2
    refine bodyPost_ret (results_cell_row rfl _ _ gb830 33 #[.slice Ao13 t831.length co13, .int .i64 a0_1, .slice Ao12 y837.length co12] (0, 0) _ rfl (by (with_reducible repeat (first | refine blk_drewN ?_ _ | refine blk_drew ?_ | refine blk_alloc ?_ _)); refine blk_put (cs := #[.slice Ao13 t831.length co13, .int .i64 a0_1, .slice none 0 0]) ?_ 2 _ rfl; (with_reducible repeat (first | refine blk_drewN ?_ _ | refine blk_drew ?_ | refine blk_alloc ?_ _)); refine blk_put (cs := #[.slice Ao13 t831.length co13, .int .i64 0, .slice none 0 0]) ?_ 1 _ rfl; (with_reducible repeat (first | refine blk_drewN ?_ _ | refine blk_drew ?_ | refine blk_alloc ?_ _)); refine blk_put (cs := #[.slice none 0 0, .int .i64 0, .slice none 0 0]) ?_ 0 _ rfl; (with_reducible repeat (first | refine blk_drewN ?_ _ | refine blk_drew ?_ | refine blk_alloc ?_ _)); exact BK830.out) Try.underlying33 rfl (by kernel_rfl)) rfl ?_
    exact ⟨_, _, by first | rfl | (simp [errW_none, errW_some] <;> rfl) | (simp [*, errW_none, errW_some] <;> rfl), by (with_reducible repeat (first | apply Kd.R_alloc | apply Kd.R_drewN | apply Kd.R_drew)); exact Kd.R_mono (Kd.R_far (p := ⟨gb830, 2, none⟩) (Kd.R_far (p := ⟨gb830, 1, none⟩) (Kd.R_far (p := ⟨gb830, 0, none⟩) (Kd.R_types HO833.out BK830.out (by decide)) (fun _ hk => hk.2) (.slice Ao13 t831.length co13)) (fun _ hk => hk.2) (.int .i64 a0_1)) (fun _ hk => hk.2) (.slice Ao12 y837.length co12)) (fun _ hk => trivial), by (with_reducible repeat (first | apply Kd.R_alloc | apply Kd.R_drewN | apply Kd.R_drew)); exact Kd.R_mono (Kd.R_far (p := ⟨gb830, 2, none⟩) (Kd.R_far (p := ⟨gb830, 1, none⟩) (Kd.R_far (p := ⟨gb830, 0, none⟩) (Kd.R_types HO839.out BK830.out (by decide)) (fun _ hk => hk.2) (.slice Ao13 t831.length co13)) (fun _ hk => hk.2) (.int .i64 a0_1)) (fun _ hk => hk.2) (.slice Ao12 y837.length co12)) (fun _ hk => trivial), oB HB⟩
  · rw [if_neg c3] at H
    exact absurd H (by simp)
end Go.Proofs.Ytbkkpllejgedcaa.P


namespace Go.Proofs.Ytbkkpllejgedcaa.P
open Go.RowKit Go.Proofs.YtbkkpllejgedcaaW.PrintWords Go.Proofs.YtbkkpllejgedcaaW.PrintLast Go.Proofs.YtbkkpllejgedcaaW.PrintMore Go.Proofs.Ytbkkpllejgedcaa.V
attribute [local go_sem] cell_b frozen_b
attribute [local go_sem] max2_int min2_int max_two min_two max_three min_three max_four min_four
set_option linter.unusedVariables false
set_option linter.unusedSimpArgs false
def impl_copyShop.f (l0_0 : List (S96)) (a0_1 : Int) (l0_2 : List Int) (a0_3 : Int) (a0_4 : Int) (l0_5 : List (S74)) : Option ((List (S96)) × Int × List Int × Int × Int × (List (S74))) := (impl_copyWork.f l0_0 a0_1 l0_2).bind fun bt842 => ((impl_copyLog.f l0_5).bind fun t849 => (some (bt842.1, bt842.2.1, bt842.2.2, a0_3, a0_4, t849)))
set_option maxHeartbeats 8000000 in
set_option maxRecDepth 100000 in
set_option synthInstance.maxHeartbeats 400000 in
set_option synthInstance.maxSize 100000 in
theorem impl_copyShop.calls (A0_0 : Option Addr) (c0_0 : Nat) (l0_0 : List (S96)) (a0_1 : Int) (A0_2 : Option Addr) (c0_2 : Nat) (l0_2 : List Int) (a0_3 : Int) (a0_4 : Int) (A0_5 : Option Addr) (c0_5 : Nat) (l0_5 : List (S74)) (r1 : List (S96)) (r2 : Int) (r3 : List Int) (r4 : Int) (r5 : Int) (r6 : List (S74)) (w : World) (hr0_0 : Kd.C k96 w A0_0 l0_0.length l0_0) (hc0_0 : l0_0.length ≤ c0_0) (hr0_2 : Kd.C (Kd.int .i64) w A0_2 l0_2.length l0_2) (hc0_2 : l0_2.length ≤ c0_2) (hr0_5 : Kd.C k74 w A0_5 l0_5.length l0_5) (hc0_5 : l0_5.length ≤ c0_5) (h : impl_copyShop.f l0_0 a0_1 l0_2 a0_3 a0_4 l0_5 = some (r1, r2, r3, r4, r5, r6)) :
    Calls Try.prog 84 #[.agg #[.slice A0_0 l0_0.length c0_0, .int .i64 a0_1, .slice A0_2 l0_2.length c0_2, .int .i64 a0_3, .int .i64 a0_4, .slice A0_5 l0_5.length c0_5]] w fun e w' => ∃ v0_ v2_ v5_ : Value, e = .returned (.agg #[v0_, .int .i64 r2, v2_, .int .i64 r4, .int .i64 r5, v5_]) ∧ Kd.R k96 96 w' w.heap.size (fun _ => True) v0_ r1 ∧ Kd.R (Kd.int .i64) 3 w' w.heap.size (fun _ => True) v2_ r3 ∧ Kd.R k74 74 w' w.heap.size (fun _ => True) v5_ r6 ∧ Below w.heap.size w w' := by
  have ihr0_0 := RdE.mk hr0_0
  have ihc0_0 := LeI.mk hc0_0
  have ihr0_2 := RdE.mk hr0_2
  have ihc0_2 := LeI.mk hc0_2
  have ihr0_5 := RdE.mk hr0_5
  have ihc0_5 := LeI.mk hc0_5
  clear hr0_0 hc0_0 hr0_2 hc0_2 hr0_5 hc0_5
  unfold impl_copyShop.f at h
  have hu36 := Try.underlying36
  (repeat' first | ((with_reducible replace h := ite_some h); rcases h with ⟨hc, h⟩ | ⟨hc, h⟩ <;> first | exact (none_some h).elim | exact absurd hc (by decide) | subst hc | (replace hc := Bool.eq_false_iff.mpr hc; subst hc) | (have hd := beq_iff_eq.mpr hc; have he := bne_eq_false_iff_eq.mpr hc; clear hc) | (have hd := beq_eq_false_iff_ne.mpr hc; have he := bne_iff_ne.mpr hc) | (have hd := decide_eq_false hc) | (have hd := decide_eq_true hc) | skip))
  all_goals go_enter Try.func84, Try.ntmps84
  all_goals go_wp2_with (first
    | ((with_reducible refine gate_dst (N := 1) rfl ?_); refine box_event rfl (N := 1) rfl (cs := #[.slice A0_0 l0_0.length c0_0, .int .i64 a0_1, .slice A0_2 l0_2.length c0_2, .int .i64 a0_3, .int .i64 a0_4, .slice A0_5 l0_5.length c0_5]) (t := 36) (by first | (go_simp; done) | (go_simp; rfl)) ?_; intro g hg w1 hk hb; have j1 := Born.mk hg; have j2 := Bel.mk hb; have j3 := Blk.mk hk; clear hg hb hk)
    | ((with_reducible refine gate_dst (N := 2) rfl ?_); refine box_event rfl (N := 2) rfl (cs := #[.slice none 0 0, .int .i64 0, .slice none 0 0, .int .i64 0, .int .i64 0, .slice none 0 0]) (t := 36) (by first | (go_simp; done) | (go_simp; rfl)) ?_; intro g hg w1 hk hb; have j1 := Born.mk hg; have j2 := Bel.mk hb; have j3 := Blk.mk hk; clear hg hb hk)
    | (go_at_call 119; replace h := Option.bind_eq_some_iff.mp h; obtain ⟨⟨t1, t2, t3⟩, A, h⟩ := h; (try dsimp only at h); refine (impl_copyWork.calls _ _ _ _ _ _ _ _ _ _ _ Rd.out LeI.out Rd.out LeI.out A).mono ?_; rintro e w2 ⟨v0, v1, rfl, ho0, ho1, hb⟩; obtain ⟨B0, b0, rfl⟩ := Kd.R_slice ho0; have j0 := RowE.mk ho0; have q0 := LeI.mk (rowLe j0); obtain ⟨B1, b1, rfl⟩ := Kd.R_slice ho1; have j1 := RowE.mk ho1; have q1 := LeI.mk (rowLe j1); have jb := Bel.mk hb; clear A ho0 ho1 hb; (repeat' first | ((with_reducible replace h := ite_some h); rcases h with ⟨hc, h⟩ | ⟨hc, h⟩ <;> first | exact (none_some h).elim | exact absurd hc (by decide) | subst hc | (replace hc := Bool.eq_false_iff.mpr hc; subst hc) | (have hd := beq_iff_eq.mpr hc; have he := bne_eq_false_iff_eq.mpr hc; clear hc) | (have hd := beq_eq_false_iff_ne.mpr hc; have he := bne_iff_ne.mpr hc) | (have hd := decide_eq_false hc) | (have hd := decide_eq_true hc) | skip)))
    | (go_at_call 94; replace h := Option.bind_eq_some_iff.mp h; obtain ⟨t, A, h⟩ := h; (try dsimp only at h); refine (impl_copyLog.calls _ _ _ _ _ Rd.out LeI.out A).mono ?_; rintro e w2 ⟨v0, rfl, ho0, hb⟩; obtain ⟨B0, b0, rfl⟩ := Kd.R_slice ho0; have j0 := RowE.mk ho0; have q0 := LeI.mk (rowLe j0); have jb := Bel.mk hb; clear A ho0 hb; (repeat' first | ((with_reducible replace h := ite_some h); rcases h with ⟨hc, h⟩ | ⟨hc, h⟩ <;> first | exact (none_some h).elim | exact absurd hc (by decide) | subst hc | (replace hc := Bool.eq_false_iff.mpr hc; subst hc) | (have hd := beq_iff_eq.mpr hc; have he := bne_eq_false_iff_eq.mpr hc; clear hc) | (have hd := beq_eq_false_iff_ne.mpr hc; have he := bne_iff_ne.mpr hc) | (have hd := decide_eq_false hc) | (have hd := decide_eq_true hc) | skip)); (try have hn : decide (0 < t.length) = true := decide_eq_true (by omega)); (try have hn : decide (0 < t.length) = false := decide_eq_false (by omega)))
    | ((with_reducible refine region_at ?_); intro w3 jw; refine region_st 2 (by rfl) ?_; intro g hg w4 jv; subst hg; go_region_held3 (fun w' => SinB g w4 w') (first | exact ⟨FromB.out⟩ | skip) (first | (go_at_call 119; replace h := Option.bind_eq_some_iff.mp h; obtain ⟨⟨t1, t2, t3⟩, A, h⟩ := h; (try dsimp only at h); refine (impl_copyWork.calls _ _ _ _ _ _ _ _ _ _ _ Rd.out LeI.out Rd.out LeI.out A).mono ?_; rintro e w2 ⟨v0, v1, rfl, ho0, ho1, hb⟩; obtain ⟨B0, b0, rfl⟩ := Kd.R_slice ho0; have j0 := RowE.mk ho0; have q0 := LeI.mk (rowLe j0); obtain ⟨B1, b1, rfl⟩ := Kd.R_slice ho1; have j1 := RowE.mk ho1; have q1 := LeI.mk (rowLe j1); have jb := Bel.mk hb; clear A ho0 ho1 hb; (repeat' first | ((with_reducible replace h := ite_some h); rcases h with ⟨hc, h⟩ | ⟨hc, h⟩ <;> first | exact (none_some h).elim | exact absurd hc (by decide) | subst hc | (replace hc := Bool.eq_false_iff.mpr hc; subst hc) | (have hd := beq_iff_eq.mpr hc; have he := bne_eq_false_iff_eq.mpr hc; clear hc) | (have hd := beq_eq_false_iff_ne.mpr hc; have he := bne_iff_ne.mpr hc) | (have hd := decide_eq_false hc) | (have hd := decide_eq_true hc) | skip))) | (go_at_call 94; replace h := Option.bind_eq_some_iff.mp h; obtain ⟨t, A, h⟩ := h; (try dsimp only at h); refine (impl_copyLog.calls _ _ _ _ _ Rd.out LeI.out A).mono ?_; rintro e w2 ⟨v0, rfl, ho0, hb⟩; obtain ⟨B0, b0, rfl⟩ := Kd.R_slice ho0; have j0 := RowE.mk ho0; have q0 := LeI.mk (rowLe j0); have jb := Bel.mk hb; clear A ho0 hb; (repeat' first | ((with_reducible replace h := ite_some h); rcases h with ⟨hc, h⟩ | ⟨hc, h⟩ <;> first | exact (none_some h).elim | exact absurd hc (by decide) | subst hc | (replace hc := Bool.eq_false_iff.mpr hc; subst hc) | (have hd := beq_iff_eq.mpr hc; have he := bne_eq_false_iff_eq.mpr hc; clear hc) | (have hd := beq_eq_false_iff_ne.mpr hc; have he := bne_iff_ne.mpr hc) | (have hd := decide_eq_false hc) | (have hd := decide_eq_true hc) | skip)); (try have hn : decide (0 < t.length) = true := decide_eq_true (by omega)); (try have hn : decide (0 < t.length) = false := decide_eq_false (by omega)))))
    | ((with_reducible refine region_at ?_); intro w3 jw; go_region_held3 (fun w' => Sin w3 w') (first | exact ⟨From.out⟩ | skip) (first | (go_at_call 119; replace h := Option.bind_eq_some_iff.mp h; obtain ⟨⟨t1, t2, t3⟩, A, h⟩ := h; (try dsimp only at h); refine (impl_copyWork.calls _ _ _ _ _ _ _ _ _ _ _ Rd.out LeI.out Rd.out LeI.out A).mono ?_; rintro e w2 ⟨v0, v1, rfl, ho0, ho1, hb⟩; obtain ⟨B0, b0, rfl⟩ := Kd.R_slice ho0; have j0 := RowE.mk ho0; have q0 := LeI.mk (rowLe j0); obtain ⟨B1, b1, rfl⟩ := Kd.R_slice ho1; have j1 := RowE.mk ho1; have q1 := LeI.mk (rowLe j1); have jb := Bel.mk hb; clear A ho0 ho1 hb; (repeat' first | ((with_reducible replace h := ite_some h); rcases h with ⟨hc, h⟩ | ⟨hc, h⟩ <;> first | exact (none_some h).elim | exact absurd hc (by decide) | subst hc | (replace hc := Bool.eq_false_iff.mpr hc; subst hc) | (have hd := beq_iff_eq.mpr hc; have he := bne_eq_false_iff_eq.mpr hc; clear hc) | (have hd := beq_eq_false_iff_ne.mpr hc; have he := bne_iff_ne.mpr hc) | (have hd := decide_eq_false hc) | (have hd := decide_eq_true hc) | skip))) | (go_at_call 94; replace h := Option.bind_eq_some_iff.mp h; obtain ⟨t, A, h⟩ := h; (try dsimp only at h); refine (impl_copyLog.calls _ _ _ _ _ Rd.out LeI.out A).mono ?_; rintro e w2 ⟨v0, rfl, ho0, hb⟩; obtain ⟨B0, b0, rfl⟩ := Kd.R_slice ho0; have j0 := RowE.mk ho0; have q0 := LeI.mk (rowLe j0); have jb := Bel.mk hb; clear A ho0 hb; (repeat' first | ((with_reducible replace h := ite_some h); rcases h with ⟨hc, h⟩ | ⟨hc, h⟩ <;> first | exact (none_some h).elim | exact absurd hc (by decide) | subst hc | (replace hc := Bool.eq_false_iff.mpr hc; subst hc) | (have hd := beq_iff_eq.mpr hc; have he := bne_eq_false_iff_eq.mpr hc; clear hc) | (have hd := beq_eq_false_iff_ne.mpr hc; have he := bne_iff_ne.mpr hc) | (have hd := decide_eq_false hc) | (have hd := decide_eq_true hc) | skip)); (try have hn : decide (0 < t.length) = true := decide_eq_true (by omega)); (try have hn : decide (0 < t.length) = false := decide_eq_false (by omega))))))
  all_goals (repeat' first | ((with_reducible replace h := ite_some h); rcases h with ⟨hc, h⟩ | ⟨hc, h⟩ <;> first | exact (none_some h).elim | exact absurd hc (by decide) | subst hc | (replace hc := Bool.eq_false_iff.mpr hc; subst hc) | (have hd := beq_iff_eq.mpr hc; have he := bne_eq_false_iff_eq.mpr hc; clear hc) | (have hd := beq_eq_false_iff_ne.mpr hc; have he := bne_iff_ne.mpr hc) | (have hd := decide_eq_false hc) | (have hd := decide_eq_true hc) | skip))
  all_goals simp only [Option.some.injEq, Prod.mk.injEq] at h
  all_goals obtain ⟨rfl, rfl, rfl, rfl, rfl, rfl⟩ := h
  all_goals refine bodyPost_ret (results_cell_row rfl _ _ _ _ _ (0, 0) _ rfl Blk.out Try.underlying36 rfl (by kernel_rfl)) rfl ?_
  all_goals exact ⟨_, _, _, rfl, (by first | exact rowFin | exact Kd.R_nil _ _ _ _ _), (by first | exact rowFin | exact Kd.R_nil _ _ _ _ _), (by first | exact rowFin | exact Kd.R_nil _ _ _ _ _), From.out⟩
end Go.Proofs.Ytbkkpllejgedcaa.P


namespace Go.Proofs.Ytbkkpllejgedcaa.P
open Go.RowKit Go.Proofs.YtbkkpllejgedcaaW.PrintWords Go.Proofs.YtbkkpllejgedcaaW.PrintLast Go.Proofs.YtbkkpllejgedcaaW.PrintMore
attribute [local go_sem] max2_int min2_int max_two min_two max_three min_three max_four min_four
set_option linter.unusedVariables false
set_option linter.unusedSimpArgs false
def impl_KnockKey.j0 : Nat → Int → Int → Bool → List (S96) → Int → List Int → List (S96) → Int → List Int → Option ((List (S96)) × Int × List Int × Bool)
  | 0, _, _, _, _, _, _, _, _, _ => none
  | k + 1, x1, x2, x31, x1242000, x1242001, x1242002, x1251000, x1251001, x1251002 => if x31 = true then (some (x1251000, x1251001, x1251002, false)) else (if 0 ≤ x1 then (if x1 < (x1251002.length : Int) then ((some (x1251002.set (x1 : Int).toNat (wrap64 ((rd x1251002 x1) + x2)) : List Int)).bind fun y1256 => ((impl_WorkOk.f x1251000 x1251001 y1256).bind fun t1257 => (if t1257 = true then (some (x1251000, x1251001, y1256, true)) else ((impl_copyWork.f x1242000 x1242001 x1242002).bind fun bt1258 => (some (bt1258.1, bt1258.2.1, bt1258.2.2, false)))))) else (none)) else (none))
def impl_KnockKey.f (k : Nat) (l0_0 : List (S96)) (a0_1 : Int) (l0_2 : List Int) (a1 : Int) (a2 : Int) : Option ((List (S96)) × Int × List Int × Bool) := (impl_copyWork.f l0_0 a0_1 l0_2).bind fun bt1243 => ((impl_WorkOk.f l0_0 a0_1 l0_2).bind fun t1251 => (if t1251 = true then ((impl_within.f a1 0 11).bind fun t1252 => (if t1252 = true then (if 0 ≤ a1 then (if a1 < (l0_2.length : Int) then (if (rd l0_2 a1) = 0 then (impl_KnockKey.j0 k a1 a2 true l0_0 a0_1 l0_2 bt1243.1 bt1243.2.1 bt1243.2.2) else ((impl_within.f a2 (-100000) 100000).bind fun t1254 => (impl_KnockKey.j0 k a1 a2 (!t1254) l0_0 a0_1 l0_2 bt1243.1 bt1243.2.1 bt1243.2.2))) else (none)) else (none)) else (impl_KnockKey.j0 k a1 a2 true l0_0 a0_1 l0_2 bt1243.1 bt1243.2.1 bt1243.2.2))) else (impl_KnockKey.j0 k a1 a2 true l0_0 a0_1 l0_2 bt1243.1 bt1243.2.1 bt1243.2.2)))
def impl_KnockKey.T4 : Bool × List (List Nat × List Nat) := (true, [([], []), ([0], [0]), ([], []), ([], []), ([3], [3]), ([], []), ([4, 5], [4, 5]), ([6], [6]), ([], []), ([7, 8], [7, 8]), ([1, 2, 0, 1, 2, 3, 4, 5, 6, 7, 8, 9], [1, 2]), ([10, 9, 0, 1, 2, 3, 4, 5, 6, 7, 8, 9], [9, 10])])
def impl_KnockKey.B4 : List Nat := [0, 1, 0, 0, 8, 0, 56, 120, 0, 504, 1023, 2047]
theorem impl_KnockKey.tab4 : rtab .any (opsOf Try.f86 4) = impl_KnockKey.T4 := by kernel_rfl
theorem impl_KnockKey.bits4 : waitsOk impl_KnockKey.T4.2 impl_KnockKey.B4 = true := by kernel_rfl
set_option maxHeartbeats 8000000 in
set_option maxRecDepth 100000 in
theorem impl_KnockKey.calls (k : Nat) (A0_0 : Option Addr) (c0_0 : Nat) (l0_0 : List (S96)) (a0_1 : Int) (A0_2 : Option Addr) (c0_2 : Nat) (l0_2 : List Int) (a1 : Int) (a2 : Int) (r1 : List (S96)) (r2 : Int) (r3 : List Int) (r4 : Bool) (w : World) (hr0_0 : Kd.C k96 w A0_0 l0_0.length l0_0) (hc0_0 : l0_0.length ≤ c0_0) (hr0_2 : Kd.C (Kd.int .i64) w A0_2 l0_2.length l0_2) (hc0_2 : l0_2.length ≤ c0_2) (h : impl_KnockKey.f k l0_0 a0_1 l0_2 a1 a2 = some (r1, r2, r3, r4)) :
    Calls Try.prog 86 #[.agg #[.slice A0_0 l0_0.length c0_0, .int .i64 a0_1, .slice A0_2 l0_2.length c0_2], .int .i64 a1, .int .i64 a2] w fun e w' => ∃ v0_ v2_ : Value, e = .returned (.tuple #[.agg #[v0_, .int .i64 r2, v2_], .bool r4]) ∧ Kd.R k96 96 w' w.heap.size (fun _ => True) v0_ r1 ∧ Kd.R (Kd.int .i64) 3 w' w.heap.size (fun _ => True) v2_ r3 ∧ Below w.heap.size w w' := by
  have hu33 := Try.underlying33
  have HR0_0 := Aside0.mk hr0_0
  have HC0_0 := Aside0.mk hc0_0
  clear hr0_0 hc0_0
  have HR0_2 := Aside0.mk hr0_2
  have HC0_2 := Aside0.mk hc0_2
  clear hr0_2 hc0_2
  have HB := Aside0.mk (Below.refl w.heap.size w)
  have H : ((impl_copyWork.f l0_0 a0_1 l0_2).bind fun bt1243 => ((impl_WorkOk.f l0_0 a0_1 l0_2).bind fun t1251 => (if t1251 = true then ((impl_within.f a1 0 11).bind fun t1252 => (if t1252 = true then (if 0 ≤ a1 then (if a1 < (l0_2.length : Int) then (if (rd l0_2 a1) = 0 then (impl_KnockKey.j0 k a1 a2 true l0_0 a0_1 l0_2 bt1243.1 bt1243.2.1 bt1243.2.2) else ((impl_within.f a2 (-100000) 100000).bind fun t1254 => (impl_KnockKey.j0 k a1 a2 (!t1254) l0_0 a0_1 l0_2 bt1243.1 bt1243.2.1 bt1243.2.2))) else (none)) else (none)) else (impl_KnockKey.j0 k a1 a2 true l0_0 a0_1 l0_2 bt1243.1 bt1243.2.1 bt1243.2.2))) else (impl_KnockKey.j0 k a1 a2 true l0_0 a0_1 l0_2 bt1243.1 bt1243.2.1 bt1243.2.2)))) = some (r1, r2, r3, r4) := h
  clear h
  replace H := Option.bind_eq_some_iff.mp H
  obtain ⟨⟨t1243, t1246, t1247⟩, A40, H⟩ := H
  (try dsimp only at H)
  have A4 := Aside0.mk A40
  clear A40
  have HC5 := Aside0.mk H
  clear H
  go_enter Try.func86, Try.ntmps86
  go_upto_region 2 with (first | ((with_reducible refine gate_dst (N := 3) rfl ?_); refine box_event ?hg (N := 3) ?hd (cs := #[.slice A0_0 l0_0.length c0_0, .int .i64 a0_1, .slice A0_2 l0_2.length c0_2]) (t := 33) ?hr ?_; (case hd => rfl); (case hg => rfl); (case hr => first | (go_simp; done) | (go_simp; rfl)); intro gb1241 hg w6 hbox hb; have n0_ := Aside0.mk (below_step (oB HB) hb); have n1_ := Aside0.mk (hbox); have n2_ := Aside0.mk ((by rw [hg]; exact (below_size (oB HB)) : w.heap.size ≤ gb1241)); have n3_ := Aside0.mk ((by rw [hg]; exact (below_size (oB HB)) : w.heap.size ≤ gb1241)); clear HB; have HB := n0_; have BK1241 := n1_; have GW1241 := n2_; have GE1241 := n3_; clear n0_ n1_ n2_ n3_; clear hb hbox hg) | ((with_reducible refine gate_dst (N := 6) rfl ?_); refine box_event ?hg (N := 6) ?hd (cs := #[.slice none 0 0, .int .i64 0, .slice none 0 0]) (t := 33) ?hr ?_; (case hd => rfl); (case hg => rfl); (case hr => first | (go_simp; done) | (go_simp; rfl)); intro gb1242 hg w7 hbox hb; have n0_ := Aside0.mk (blk_below (g := gb1241) (o := .cells #[.slice A0_0 l0_0.length c0_0, .int .i64 a0_1, .slice A0_2 l0_2.length c0_2] 33 (0, 0)) (oK BK1241) hb); have n1_ := Aside0.mk (below_step (oB HB) hb); have n2_ := Aside0.mk (hbox); have n3_ := Aside0.mk ((by rw [hg]; exact (below_size (oB HB)) : w.heap.size ≤ gb1242)); have n4_ := Aside0.mk ((by rw [hg]; exact (below_size (oB HB)) : w.heap.size ≤ gb1242)); have n5_ := Aside0.mk ((by rw [hg]; exact Nat.ne_of_lt (blk_lt (g := gb1241) (o := .cells #[.slice A0_0 l0_0.length c0_0, .int .i64 a0_1, .slice A0_2 l0_2.length c0_2] 33 (0, 0)) (oK BK1241)) : gb1241 ≠ gb1242)); have n6_ := Aside0.mk ((by rw [hg]; exact Nat.ne_of_gt (blk_lt (g := gb1241) (o := .cells #[.slice A0_0 l0_0.length c0_0, .int .i64 a0_1, .slice A0_2 l0_2.length c0_2] 33 (0, 0)) (oK BK1241)) : gb1242 ≠ gb1241)); clear BK1241; clear HB; have BK1241 := n0_; have HB := n1_; have BK1242 := n2_; have GW1242 := n3_; have GE1242 := n4_; have NB1241_1242 := n5_; have NB1242_1241 := n6_; clear n0_ n1_ n2_ n3_ n4_ n5_ n6_; clear hb hbox hg; have hnb8 := NB1241_1242.out; have hnc8 := NB1242_1241.out; have hcz9_0 : w7.cell? ⟨gb1241, 0, none⟩ = some (.slice A0_0 l0_0.length c0_0) := (blk_cell BK1241.out 0).trans rfl; have hcz9_1 : w7.cell? ⟨gb1241, 1, none⟩ = some (.int .i64 a0_1) := (blk_cell BK1241.out 1).trans rfl; have hcz9_2 : w7.cell? ⟨gb1241, 2, none⟩ = some (.slice A0_2 l0_2.length c0_2) := (blk_cell BK1241.out 2).trans rfl; have hfz9_0 := blk_frozen BK1241.out 0; have hfz9_1 := blk_frozen BK1241.out 1; have hfz9_2 := blk_frozen BK1241.out 2) | ((with_reducible refine gate_callee (f := 119) rfl ?_); refine goesL_ (some 10) rfl rfl Try.func119 (by kernel_rfl) rfl #[.agg #[.slice A0_0 l0_0.length c0_0, .int .i64 a0_1, .slice A0_2 l0_2.length c0_2]] rfl (by (try simp only [List.map_toArray, List.map_cons, List.map_nil]); first | done | rfl | (simp only [List.length_drop, List.length_take]; rfl)) ?_; (with_reducible refine (impl_copyWork.calls _ _ l0_0 a0_1 _ _ l0_2 t1243 t1246 t1247 _ ?side1 ?side2 ?side3 ?side4 A4.out).mono ?_); (case side1 => exact oc_ HR0_0.out); (case side2 => exact HC0_0.out); (case side3 => exact oc_ HR0_2.out); (case side4 => exact HC0_2.out); rintro e w10 ⟨v1244, v1248, rfl, ho0, ho1, hb⟩; refine ⟨_, rfl, ?_⟩; have n0_ := Aside0.mk (Kd.R_lower ho0 (below_size (oB HB))); have n1_ := Aside0.mk (Kd.R_lower ho1 (below_size (oB HB))); have n2_ := Aside0.mk (blk_below (g := gb1241) (o := .cells #[.slice A0_0 l0_0.length c0_0, .int .i64 a0_1, .slice A0_2 l0_2.length c0_2] 33 (0, 0)) (oK BK1241) hb); have n3_ := Aside0.mk (blk_below (g := gb1242) (o := .cells #[.slice none 0 0, .int .i64 0, .slice none 0 0] 33 (0, 0)) (oK BK1242) hb); have n4_ := Aside0.mk (below_step (oB HB) hb); clear BK1241; clear BK1242; clear HB; have HO1245 := n0_; have HO1249 := n1_; have BK1241 := n2_; have BK1242 := n3_; have HB := n4_; clear n0_ n1_ n2_ n3_ n4_; (try clear hb); (try clear hb2); (try clear hk); (try clear hi); (try clear ho0); (try clear ho1)) | ((with_reducible refine gate_dst (N := 8) rfl ?_); refine box_event ?hg (N := 8) ?hd (cs := #[.slice none 0 0, .int .i64 0, .slice none 0 0]) (t := 33) ?hr ?_; (case hd => rfl); (case hg => rfl); (case hr => first | (go_simp; done) | (go_simp; rfl)); intro gb1250 hg w11 hbox hb; have n0_ := Aside0.mk (Kd.R_below (oR HO1245) hb); have n1_ := Aside0.mk (Kd.R_below (oR HO1249) hb); have n2_ := Aside0.mk (blk_below (g := gb1241) (o := .cells #[.slice A0_0 l0_0.length c0_0, .int .i64 a0_1, .slice A0_2 l0_2.length c0_2] 33 (0, 0)) (oK BK1241) hb); have n3_ := Aside0.mk (blk_below (g := gb1242) (o := .cells #[.slice none 0 0, .int .i64 0, .slice none 0 0] 33 (0, 0)) (oK BK1242) hb); have n4_ := Aside0.mk (below_step (oB HB) hb); have n5_ := Aside0.mk (hbox); have n6_ := Aside0.mk ((by rw [hg]; exact (below_size (oB HB)) : w.heap.size ≤ gb1250)); have n7_ := Aside0.mk ((by rw [hg]; exact (below_size (oB HB)) : w.heap.size ≤ gb1250)); have n8_ := Aside0.mk ((by rw [hg]; exact Nat.ne_of_lt (blk_lt (g := gb1241) (o := .cells #[.slice A0_0 l0_0.length c0_0, .int .i64 a0_1, .slice A0_2 l0_2.length c0_2] 33 (0, 0)) (oK BK1241)) : gb1241 ≠ gb1250)); have n9_ := Aside0.mk ((by rw [hg]; exact Nat.ne_of_gt (blk_lt (g := gb1241) (o := .cells #[.slice A0_0 l0_0.length c0_0, .int .i64 a0_1, .slice A0_2 l0_2.length c0_2] 33 (0, 0)) (oK BK1241)) : gb1250 ≠ gb1241)); have n10_ := Aside0.mk ((by rw [hg]; exact Nat.ne_of_lt (blk_lt (g := gb1242) (o := .cells #[.slice none 0 0, .int .i64 0, .slice none 0 0] 33 (0, 0)) (oK BK1242)) : gb1242 ≠ gb1250)); have n11_ := Aside0.mk ((by rw [hg]; exact Nat.ne_of_gt (blk_lt (g := gb1242) (o := .cells #[.slice none 0 0, .int .i64 0, .slice none 0 0] 33 (0, 0)) (oK BK1242)) : gb1250 ≠ gb1242)); clear HO1245; clear HO1249; clear BK1241; clear BK1242; clear HB; have HO1245 := n0_; have HO1249 := n1_; have BK1241 := n2_; have BK1242 := n3_; have HB := n4_; have BK1250 := n5_; have GW1250 := n6_; have GE1250 := n7_; have NB1241_1250 := n8_; have NB1250_1241 := n9_; have NB1242_1250 := n10_; have NB1250_1242 := n11_; clear n0_ n1_ n2_ n3_ n4_ n5_ n6_ n7_ n8_ n9_ n10_ n11_; clear hb hbox hg; obtain ⟨Ao12, co12, eo12⟩ := Kd.R_slice HO1245.out; subst eo12; have hnb13 := NB1250_1241.out; have hnc13 := NB1241_1250.out; have hnb14 := NB1250_1242.out; have hnc14 := NB1242_1250.out; have hcz15_0 : w11.cell? ⟨gb1250, 0, none⟩ = some (.slice none 0 0) := (blk_cell BK1250.out 0).trans rfl; have hcz15_1 : w11.cell? ⟨gb1250, 1, none⟩ = some (.int .i64 0) := (blk_cell BK1250.out 1).trans rfl; have hcz15_2 : w11.cell? ⟨gb1250, 2, none⟩ = some (.slice none 0 0) := (blk_cell BK1250.out 2).trans rfl; have hfz15_0 := blk_frozen BK1250.out 0; have hfz15_1 := blk_frozen BK1250.out 1; have hfz15_2 := blk_frozen BK1250.out 2; obtain ⟨Ao16, co16, eo16⟩ := Kd.R_slice HO1249.out; subst eo16))
  (try simp only [Act.put, List.setIfInBounds_toArray, List.set_cons_zero, List.set_cons_succ])
  go_cut [31] (fun v31 wc => ∃ (kq : Nat) (x31_4 : Bool), v31 = .bool x31_4 ∧ Aside0 (impl_KnockKey.j0 kq a1 a2 x31_4 l0_0 a0_1 l0_2 t1243 t1246 t1247 = some (r1, r2, r3, r4)) ∧ Aside0 (kq ≤ k) ∧ Aside0 (Kd.R k96 96 wc w.heap.size (fun _ => True) (.slice Ao12 t1243.length co12) t1243) ∧ Aside0 (Kd.R (Kd.int .i64) 3 wc w.heap.size (fun _ => True) (.slice Ao16 t1247.length co16) t1247) ∧ Aside0 (wc.heap[gb1241]? = some (.cells #[(.slice A0_0 l0_0.length c0_0), .int .i64 a0_1, (.slice A0_2 l0_2.length c0_2)] 33 (0, 0))) ∧ Aside0 (wc.heap[gb1242]? = some (.cells #[(.slice none 0 0), .int .i64 0, (.slice none 0 0)] 33 (0, 0))) ∧ Aside0 (wc.heap[gb1250]? = some (.cells #[(.slice Ao12 t1243.length co12), .int .i64 t1246, (.slice Ao16 t1247.length co16)] 33 (0, 0))) ∧ Aside0 (Below w.heap.size w wc))
  case first =>
    have H := HC5.out
    clear HC5
    replace H := Option.bind_eq_some_iff.mp H
    obtain ⟨t1251, A170, H⟩ := H
    (try dsimp only at H)
    have A17 := Aside0.mk A170
    clear A170
    by_cases c18 : t1251 = true
    · subst c18
      rw [if_pos rfl] at H
      replace H := Option.bind_eq_some_iff.mp H
      obtain ⟨t1252, A190, H⟩ := H
      (try dsimp only at H)
      have A19 := Aside0.mk A190
      clear A190
      by_cases c20 : t1252 = true
      · subst c20
        rw [if_pos rfl] at H
        by_cases c21 : 0 ≤ a1
        · rw [if_pos c21] at H
          have c21b0 : decide (0 ≤ a1) = true := decide_eq_true c21
          clear c21
          (first | rw [c21b0] | (simp only [i64_w, i32_w]; rw [c21b0]) | skip)
          by_cases c22 : a1 < (l0_2.length : Int)
          · rw [if_pos c22] at H
            have c22b0 : decide (a1 < (l0_2.length : Int)) = true := decide_eq_true c22
            clear c22
            by_cases c23 : (rd l0_2 a1) = 0
            · rw [if_pos c23] at H
              have c23b0 : ((rd l0_2 a1) == 0) = true := beq_iff_eq.mpr c23
              have c23b1 : ((rd l0_2 a1) != 0) = false := bne_eq_false_iff_eq.mpr c23
              clear c23
              have H' := Aside0.mk H
              clear H
              have hnb24 := NB1241_1242.out
              have hnc24 := NB1242_1241.out
              have hnb25 := NB1241_1250.out
              have hnc25 := NB1250_1241.out
              have hcz26_0 : w11.cell? ⟨gb1241, 0, none⟩ = some (.slice A0_0 l0_0.length c0_0) := (blk_cell BK1241.out 0).trans rfl
              have hcz26_1 : w11.cell? ⟨gb1241, 1, none⟩ = some (.int .i64 a0_1) := (blk_cell BK1241.out 1).trans rfl
              have hcz26_2 : w11.cell? ⟨gb1241, 2, none⟩ = some (.slice A0_2 l0_2.length c0_2) := (blk_cell BK1241.out 2).trans rfl
              have hfz26_0 := blk_frozen BK1241.out 0
              have hfz26_1 := blk_frozen BK1241.out 1
              have hfz26_2 := blk_frozen BK1241.out 2
              go_wp2_with (first | ((with_reducible refine gate_callee (f := 64) rfl ?_); refine goesL_ (some 12) rfl rfl Try.func64 (by kernel_rfl) rfl #[.agg #[.slice A0_0 l0_0.length c0_0, .int .i64 a0_1, .slice A0_2 l0_2.length c0_2]] rfl (by (try simp only [List.map_toArray, List.map_cons, List.map_nil]); first | done | rfl | (simp only [List.length_drop, List.length_take]; rfl)) ?_; (with_reducible refine (impl_WorkOk.calls _ _ l0_0 a0_1 _ _ l0_2 true _ ?side1 ?side2 ?side3 ?side4 A17.out).mono ?_); (case side1 => exact Kd.C_below HR0_0.out (oB HB)); (case side2 => exact HC0_0.out); (case side3 => exact Kd.C_below HR0_2.out (oB HB)); (case side4 => exact HC0_2.out); rintro e w27 ⟨rfl, hb⟩; refine ⟨_, rfl, ?_⟩; have n0_ := Aside0.mk (Kd.R_below (by (with_reducible repeat (first | apply Kd.R_alloc | apply Kd.R_drewN | apply Kd.R_drew)); exact (Kd.R_mono (Kd.R_far (p := ⟨gb1250, 2, none⟩) (Kd.R_far (p := ⟨gb1250, 1, none⟩) (Kd.R_far (p := ⟨gb1250, 0, none⟩) (Kd.R_types HO1245.out BK1250.out (by decide)) (fun _ hk => hk.2) (.slice Ao12 t1243.length co12)) (fun _ hk => hk.2) (.int .i64 t1246)) (fun _ hk => hk.2) (.slice Ao16 t1247.length co16)) (fun _ h_ => h_.1))) hb); have n1_ := Aside0.mk (Kd.R_below (by (with_reducible repeat (first | apply Kd.R_alloc | apply Kd.R_drewN | apply Kd.R_drew)); exact (Kd.R_mono (Kd.R_far (p := ⟨gb1250, 2, none⟩) (Kd.R_far (p := ⟨gb1250, 1, none⟩) (Kd.R_far (p := ⟨gb1250, 0, none⟩) (Kd.R_types HO1249.out BK1250.out (by decide)) (fun _ hk => hk.2) (.slice Ao12 t1243.length co12)) (fun _ hk => hk.2) (.int .i64 t1246)) (fun _ hk => hk.2) (.slice Ao16 t1247.length co16)) (fun _ h_ => h_.1))) hb); have n2_ := Aside0.mk (blk_below (g := gb1241) (o := .cells #[.slice A0_0 l0_0.length c0_0, .int .i64 a0_1, .slice A0_2 l0_2.length c0_2] 33 (0, 0)) (by (with_reducible repeat (first | refine blk_drewN ?_ _ | refine blk_drew ?_ | refine blk_alloc ?_ _)); refine blk_far ?_ NB1241_1250.out _; (with_reducible repeat (first | refine blk_drewN ?_ _ | refine blk_drew ?_ | refine blk_alloc ?_ _)); refine blk_far ?_ NB1241_1250.out _; (with_reducible repeat (first | refine blk_drewN ?_ _ | refine blk_drew ?_ | refine blk_alloc ?_ _)); refine blk_far ?_ NB1241_1250.out _; (with_reducible repeat (first | refine blk_drewN ?_ _ | refine blk_drew ?_ | refine blk_alloc ?_ _)); exact BK1241.out) hb); have n3_ := Aside0.mk (blk_below (g := gb1242) (o := .cells #[.slice none 0 0, .int .i64 0, .slice none 0 0] 33 (0, 0)) (by (with_reducible repeat (first | refine blk_drewN ?_ _ | refine blk_drew ?_ | refine blk_alloc ?_ _)); refine blk_far ?_ NB1242_1250.out _; (with_reducible repeat (first | refine blk_drewN ?_ _ | refine blk_drew ?_ | refine blk_alloc ?_ _)); refine blk_far ?_ NB1242_1250.out _; (with_reducible repeat (first | refine blk_drewN ?_ _ | refine blk_drew ?_ | refine blk_alloc ?_ _)); refine blk_far ?_ NB1242_1250.out _; (with_reducible repeat (first | refine blk_drewN ?_ _ | refine blk_drew ?_ | refine blk_alloc ?_ _)); exact BK1242.out) hb); have n4_ := Aside0.mk (blk_below (g := gb1250) (o := .cells #[.slice Ao12 t1243.length co12, .int .i64 t1246, .slice Ao16 t1247.length co16] 33 (0, 0)) (by (with_reducible repeat (first | refine blk_drewN ?_ _ | refine blk_drew ?_ | refine blk_alloc ?_ _)); refine blk_put (cs := #[.slice Ao12 t1243.length co12, .int .i64 t1246, .slice none 0 0]) ?_ 2 _ rfl; (with_reducible repeat (first | refine blk_drewN ?_ _ | refine blk_drew ?_ | refine blk_alloc ?_ _)); refine blk_put (cs := #[.slice Ao12 t1243.length co12, .int .i64 0, .slice none 0 0]) ?_ 1 _ rfl; (with_reducible repeat (first | refine blk_drewN ?_ _ | refine blk_drew ?_ | refine blk_alloc ?_ _)); refine blk_put (cs := #[.slice none 0 0, .int .i64 0, .slice none 0 0]) ?_ 0 _ rfl; (with_reducible repeat (first | refine blk_drewN ?_ _ | refine blk_drew ?_ | refine blk_alloc ?_ _)); exact BK1250.out) hb); have n5_ := Aside0.mk (below_step (oB HB) hb); clear HO1245; clear HO1249; clear BK1241; clear BK1242; clear BK1250; clear HB; have HO1245 := n0_; have HO1249 := n1_; have BK1241 := n2_; have BK1242 := n3_; have BK1250 := n4_; have HB := n5_; clear n0_ n1_ n2_ n3_ n4_ n5_; (try clear hb); (try clear hb2); (try clear hk); (try clear hi)) | (go_at_call 67; (with_reducible refine (impl_within.calls a1 0 11 true _ A19.out).mono ?_); rintro e w' ⟨rfl, ⟨nd, rfl⟩⟩; have hcz28_0 : w27.cell? ⟨gb1241, 0, none⟩ = some (.slice A0_0 l0_0.length c0_0) := (blk_cell BK1241.out 0).trans rfl; have hcz28_1 : w27.cell? ⟨gb1241, 1, none⟩ = some (.int .i64 a0_1) := (blk_cell BK1241.out 1).trans rfl; have hcz28_2 : w27.cell? ⟨gb1241, 2, none⟩ = some (.slice A0_2 l0_2.length c0_2) := (blk_cell BK1241.out 2).trans rfl; have hfz28_0 := blk_frozen BK1241.out 0; have hfz28_1 := blk_frozen BK1241.out 1; have hfz28_2 := blk_frozen BK1241.out 2; have p1253 : 0 ≤ (a1 : Int) := of_decide_eq_true (by first | (with_reducible assumption) | assumption); have q1253 : a1 < (l0_2.length : Int) := of_decide_eq_true (by first | (with_reducible assumption) | assumption); obtain ⟨ad1253, e1253, hx1253_0⟩ := Kd.at_int HR0_2.out a1 p1253 q1253; cases e1253; replace hx1253_0 := (HB.out.cell (World.block_lt_of_cell? w _ hx1253_0)).trans hx1253_0; replace p1253 := eq_true p1253; replace q1253 := eq_true q1253))
              go_meet
              case rel => exact ⟨_, (true), (by first | rfl | (simp; done) | (simp [*]; done)), H', ⟨by first | omega | exact Nat.le_refl _⟩, ⟨oR HO1245⟩, ⟨oR HO1249⟩, ⟨oK BK1241⟩, ⟨oK BK1242⟩, ⟨oK BK1250⟩, ⟨oB HB⟩⟩
            · rw [if_neg c23] at H
              have c23b0 : ((rd l0_2 a1) == 0) = false := beq_eq_false_iff_ne.mpr c23
              have c23b1 : ((rd l0_2 a1) != 0) = true := bne_iff_ne.mpr c23
              replace H := Option.bind_eq_some_iff.mp H
              obtain ⟨t1254, A290, H⟩ := H
              (try dsimp only at H)
              have A29 := Aside0.mk A290
              clear A290
              have H' := Aside0.mk H
              clear H
              have hnb30 := NB1241_1242.out
              have hnc30 := NB1242_1241.out
              have hnb31 := NB1241_1250.out
              have hnc31 := NB1250_1241.out
              have hcz32_0 : w11.cell? ⟨gb1241, 0, none⟩ = some (.slice A0_0 l0_0.length c0_0) := (blk_cell BK1241.out 0).trans rfl
              have hcz32_1 : w11.cell? ⟨gb1241, 1, none⟩ = some (.int .i64 a0_1) := (blk_cell BK1241.out 1).trans rfl
              have hcz32_2 : w11.cell? ⟨gb1241, 2, none⟩ = some (.slice A0_2 l0_2.length c0_2) := (blk_cell BK1241.out 2).trans rfl
              have hfz32_0 := blk_frozen BK1241.out 0
              have hfz32_1 := blk_frozen BK1241.out 1
              have hfz32_2 := blk_frozen BK1241.out 2
              go_wp2_with (first | ((with_reducible refine gate_callee (f := 64) rfl ?_); refine goesL_ (some 12) rfl rfl Try.func64 (by kernel_rfl) rfl #[.agg #[.slice A0_0 l0_0.length c0_0, .int .i64 a0_1, .slice A0_2 l0_2.length c0_2]] rfl (by (try simp only [List.map_toArray, List.map_cons, List.map_nil]); first | done | rfl | (simp only [List.length_drop, List.length_take]; rfl)) ?_; (with_reducible refine (impl_WorkOk.calls _ _ l0_0 a0_1 _ _ l0_2 true _ ?side1 ?side2 ?side3 ?side4 A17.out).mono ?_); (case side1 => exact Kd.C_below HR0_0.out (oB HB)); (case side2 => exact HC0_0.out); (case side3 => exact Kd.C_below HR0_2.out (oB HB)); (case side4 => exact HC0_2.out); rintro e w33 ⟨rfl, hb⟩; refine ⟨_, rfl, ?_⟩; have n0_ := Aside0.mk (Kd.R_below (by (with_reducible repeat (first | apply Kd.R_alloc | apply Kd.R_drewN | apply Kd.R_drew)); exact (Kd.R_mono (Kd.R_far (p := ⟨gb1250, 2, none⟩) (Kd.R_far (p := ⟨gb1250, 1, none⟩) (Kd.R_far (p := ⟨gb1250, 0, none⟩) (Kd.R_types HO1245.out BK1250.out (by decide)) (fun _ hk => hk.2) (.slice Ao12 t1243.length co12)) (fun _ hk => hk.2) (.int .i64 t1246)) (fun _ hk => hk.2) (.slice Ao16 t1247.length co16)) (fun _ h_ => h_.1))) hb); have n1_ := Aside0.mk (Kd.R_below (by (with_reducible repeat (first | apply Kd.R_alloc | apply Kd.R_drewN | apply Kd.R_drew)); exact (Kd.R_mono (Kd.R_far (p := ⟨gb1250, 2, none⟩) (Kd.R_far (p := ⟨gb1250, 1, none⟩) (Kd.R_far (p := ⟨gb1250, 0, none⟩) (Kd.R_types HO1249.out BK1250.out (by decide)) (fun _ hk => hk.2) (.slice Ao12 t1243.length co12)) (fun _ hk => hk.2) (.int .i64 t1246)) (fun _ hk => hk.2) (.slice Ao16 t1247.length co16)) (fun _ h_ => h_.1))) hb); have n2_ := Aside0.mk (blk_below (g := gb1241) (o := .cells #[.slice A0_0 l0_0.length c0_0, .int .i64 a0_1, .slice A0_2 l0_2.length c0_2] 33 (0, 0)) (by (with_reducible repeat (first | refine blk_drewN ?_ _ | refine blk_drew ?_ | refine blk_alloc ?_ _)); refine blk_far ?_ NB1241_1250.out _; (with_reducible repeat (first | refine blk_drewN ?_ _ | refine blk_drew ?_ | refine blk_alloc ?_ _)); refine blk_far ?_ NB1241_1250.out _; (with_reducible repeat (first | refine blk_drewN ?_ _ | refine blk_drew ?_ | refine blk_alloc ?_ _)); refine blk_far ?_ NB1241_1250.out _; (with_reducible repeat (first | refine blk_drewN ?_ _ | refine blk_drew ?_ | refine blk_alloc ?_ _)); exact BK1241.out) hb); have n3_ := Aside0.mk (blk_below (g := gb1242) (o := .cells #[.slice none 0 0, .int .i64 0, .slice none 0 0] 33 (0, 0)) (by (with_reducible repeat (first | refine blk_drewN ?_ _ | refine blk_drew ?_ | refine blk_alloc ?_ _)); refine blk_far ?_ NB1242_1250.out _; (with_reducible repeat (first | refine blk_drewN ?_ _ | refine blk_drew ?_ | refine blk_alloc ?_ _)); refine blk_far ?_ NB1242_1250.out _; (with_reducible repeat (first | refine blk_drewN ?_ _ | refine blk_drew ?_ | refine blk_alloc ?_ _)); refine blk_far ?_ NB1242_1250.out _; (with_reducible repeat (first | refine blk_drewN ?_ _ | refine blk_drew ?_ | refine blk_alloc ?_ _)); exact BK1242.out) hb); have n4_ := Aside0.mk (blk_below (g := gb1250) (o := .cells #[.slice Ao12 t1243.length co12, .int .i64 t1246, .slice Ao16 t1247.length co16] 33 (0, 0)) (by (with_reducible repeat (first | refine blk_drewN ?_ _ | refine blk_drew ?_ | refine blk_alloc ?_ _)); refine blk_put (cs := #[.slice Ao12 t1243.length co12, .int .i64 t1246, .slice none 0 0]) ?_ 2 _ rfl; (with_reducible repeat (first | refine blk_drewN ?_ _ | refine blk_drew ?_ | refine blk_alloc ?_ _)); refine blk_put (cs := #[.slice Ao12 t1243.length co12, .int .i64 0, .slice none 0 0]) ?_ 1 _ rfl; (with_reducible repeat (first | refine blk_drewN ?_ _ | refine blk_drew ?_ | refine blk_alloc ?_ _)); refine blk_put (cs := #[.slice none 0 0, .int .i64 0, .slice none 0 0]) ?_ 0 _ rfl; (with_reducible repeat (first | refine blk_drewN ?_ _ | refine blk_drew ?_ | refine blk_alloc ?_ _)); exact BK1250.out) hb); have n5_ := Aside0.mk (below_step (oB HB) hb); clear HO1245; clear HO1249; clear BK1241; clear BK1242; clear BK1250; clear HB; have HO1245 := n0_; have HO1249 := n1_; have BK1241 := n2_; have BK1242 := n3_; have BK1250 := n4_; have HB := n5_; clear n0_ n1_ n2_ n3_ n4_ n5_; (try clear hb); (try clear hb2); (try clear hk); (try clear hi)) | (go_at_call 67; (with_reducible refine (impl_within.calls a1 0 11 true _ A19.out).mono ?_); rintro e w' ⟨rfl, ⟨nd, rfl⟩⟩; have hcz34_0 : w33.cell? ⟨gb1241, 0, none⟩ = some (.slice A0_0 l0_0.length c0_0) := (blk_cell BK1241.out 0).trans rfl; have hcz34_1 : w33.cell? ⟨gb1241, 1, none⟩ = some (.int .i64 a0_1) := (blk_cell BK1241.out 1).trans rfl; have hcz34_2 : w33.cell? ⟨gb1241, 2, none⟩ = some (.slice A0_2 l0_2.length c0_2) := (blk_cell BK1241.out 2).trans rfl; have hfz34_0 := blk_frozen BK1241.out 0; have hfz34_1 := blk_frozen BK1241.out 1; have hfz34_2 := blk_frozen BK1241.out 2; have p1253 : 0 ≤ (a1 : Int) := of_decide_eq_true (by first | (with_reducible assumption) | assumption); have q1253 : a1 < (l0_2.length : Int) := of_decide_eq_true (by first | (with_reducible assumption) | assumption); obtain ⟨ad1253, e1253, hx1253_0⟩ := Kd.at_int HR0_2.out a1 p1253 q1253; cases e1253; replace hx1253_0 := (HB.out.cell (World.block_lt_of_cell? w _ hx1253_0)).trans hx1253_0; replace p1253 := eq_true p1253; replace q1253 := eq_true q1253) | (go_at_call 67; (with_reducible refine (impl_within.calls a2 (-100000) 100000 t1254 _ A29.out).mono ?_); rintro e w' ⟨rfl, ⟨nd, rfl⟩⟩))
              go_meet
              case rel => exact ⟨_, (!t1254), (by first | rfl | (simp; done) | (simp [*]; done)), H', ⟨by first | omega | exact Nat.le_refl _⟩, ⟨oR HO1245⟩, ⟨oR HO1249⟩, ⟨oK BK1241⟩, ⟨oK BK1242⟩, ⟨oK BK1250⟩, ⟨oB HB⟩⟩
          · rw [if_neg c22] at H
            exact absurd H (by simp)
        · rw [if_neg c21] at H
          exact absurd H (by simp)
      · replace c20 := Bool.eq_false_iff.mpr c20
        subst c20
        rw [if_neg (show ¬ (false = true) by decide)] at H
        have H' := Aside0.mk H
        clear H
        have hnb35 := NB1241_1242.out
        have hnc35 := NB1242_1241.out
        have hnb36 := NB1241_1250.out
        have hnc36 := NB1250_1241.out
        have hcz37_0 : w11.cell? ⟨gb1241, 0, none⟩ = some (.slice A0_0 l0_0.length c0_0) := (blk_cell BK1241.out 0).trans rfl
        have hcz37_1 : w11.cell? ⟨gb1241, 1, none⟩ = some (.int .i64 a0_1) := (blk_cell BK1241.out 1).trans rfl
        have hcz37_2 : w11.cell? ⟨gb1241, 2, none⟩ = some (.slice A0_2 l0_2.length c0_2) := (blk_cell BK1241.out 2).trans rfl
        have hfz37_0 := blk_frozen BK1241.out 0
        have hfz37_1 := blk_frozen BK1241.out 1
        have hfz37_2 := blk_frozen BK1241.out 2
        go_wp2_with (first | ((with_reducible refine gate_callee (f := 64) rfl ?_); refine goesL_ (some 12) rfl rfl Try.func64 (by kernel_rfl) rfl #[.agg #[.slice A0_0 l0_0.length c0_0, .int .i64 a0_1, .slice A0_2 l0_2.length c0_2]] rfl (by (try simp only [List.map_toArray, List.map_cons, List.map_nil]); first | done | rfl | (simp only [List.length_drop, List.length_take]; rfl)) ?_; (with_reducible refine (impl_WorkOk.calls _ _ l0_0 a0_1 _ _ l0_2 true _ ?side1 ?side2 ?side3 ?side4 A17.out).mono ?_); (case side1 => exact Kd.C_below HR0_0.out (oB HB)); (case side2 => exact HC0_0.out); (case side3 => exact Kd.C_below HR0_2.out (oB HB)); (case side4 => exact HC0_2.out); rintro e w38 ⟨rfl, hb⟩; refine ⟨_, rfl, ?_⟩; have n0_ := Aside0.mk (Kd.R_below (by (with_reducible repeat (first | apply Kd.R_alloc | apply Kd.R_drewN | apply Kd.R_drew)); exact (Kd.R_mono (Kd.R_far (p := ⟨gb1250, 2, none⟩) (Kd.R_far (p := ⟨gb1250, 1, none⟩) (Kd.R_far (p := ⟨gb1250, 0, none⟩) (Kd.R_types HO1245.out BK1250.out (by decide)) (fun _ hk => hk.2) (.slice Ao12 t1243.length co12)) (fun _ hk => hk.2) (.int .i64 t1246)) (fun _ hk => hk.2) (.slice Ao16 t1247.length co16)) (fun _ h_ => h_.1))) hb); have n1_ := Aside0.mk (Kd.R_below (by (with_reducible repeat (first | apply Kd.R_alloc | apply Kd.R_drewN | apply Kd.R_drew)); exact (Kd.R_mono (Kd.R_far (p := ⟨gb1250, 2, none⟩) (Kd.R_far (p := ⟨gb1250, 1, none⟩) (Kd.R_far (p := ⟨gb1250, 0, none⟩) (Kd.R_types HO1249.out BK1250.out (by decide)) (fun _ hk => hk.2) (.slice Ao12 t1243.length co12)) (fun _ hk => hk.2) (.int .i64 t1246)) (fun _ hk => hk.2) (.slice Ao16 t1247.length co16)) (fun _ h_ => h_.1))) hb); have n2_ := Aside0.mk (blk_below (g := gb1241) (o := .cells #[.slice A0_0 l0_0.length c0_0, .int .i64 a0_1, .slice A0_2 l0_2.length c0_2] 33 (0, 0)) (by (with_reducible repeat (first | refine blk_drewN ?_ _ | refine blk_drew ?_ | refine blk_alloc ?_ _)); refine blk_far ?_ NB1241_1250.out _; (with_reducible repeat (first | refine blk_drewN ?_ _ | refine blk_drew ?_ | refine blk_alloc ?_ _)); refine blk_far ?_ NB1241_1250.out _; (with_reducible repeat (first | refine blk_drewN ?_ _ | refine blk_drew ?_ | refine blk_alloc ?_ _)); refine blk_far ?_ NB1241_1250.out _; (with_reducible repeat (first | refine blk_drewN ?_ _ | refine blk_drew ?_ | refine blk_alloc ?_ _)); exact BK1241.out) hb); have n3_ := Aside0.mk (blk_below (g := gb1242) (o := .cells #[.slice none 0 0, .int .i64 0, .slice none 0 0] 33 (0, 0)) (by (with_reducible repeat (first | refine blk_drewN ?_ _ | refine blk_drew ?_ | refine blk_alloc ?_ _)); refine blk_far ?_ NB1242_1250.out _; (with_reducible repeat (first | refine blk_drewN ?_ _ | refine blk_drew ?_ | refine blk_alloc ?_ _)); refine blk_far ?_ NB1242_1250.out _; (with_reducible repeat (first | refine blk_drewN ?_ _ | refine blk_drew ?_ | refine blk_alloc ?_ _)); refine blk_far ?_ NB1242_1250.out _; (with_reducible repeat (first | refine blk_drewN ?_ _ | refine blk_drew ?_ | refine blk_alloc ?_ _)); exact BK1242.out) hb); have n4_ := Aside0.mk (blk_below (g := gb1250) (o := .cells #[.slice Ao12 t1243.length co12, .int .i64 t1246, .slice Ao16 t1247.length co16] 33 (0, 0)) (by (with_reducible repeat (first | refine blk_drewN ?_ _ | refine blk_drew ?_ | refine blk_alloc ?_ _)); refine blk_put (cs := #[.slice Ao12 t1243.length co12, .int .i64 t1246, .slice none 0 0]) ?_ 2 _ rfl; (with_reducible repeat (first | refine blk_drewN ?_ _ | refine blk_drew ?_ | refine blk_alloc ?_ _)); refine blk_put (cs := #[.slice Ao12 t1243.length co12, .int .i64 0, .slice none 0 0]) ?_ 1 _ rfl; (with_reducible repeat (first | refine blk_drewN ?_ _ | refine blk_drew ?_ | refine blk_alloc ?_ _)); refine blk_put (cs := #[.slice none 0 0, .int .i64 0, .slice none 0 0]) ?_ 0 _ rfl; (with_reducible repeat (first | refine blk_drewN ?_ _ | refine blk_drew ?_ | refine blk_alloc ?_ _)); exact BK1250.out) hb); have n5_ := Aside0.mk (below_step (oB HB) hb); clear HO1245; clear HO1249; clear BK1241; clear BK1242; clear BK1250; clear HB; have HO1245 := n0_; have HO1249 := n1_; have BK1241 := n2_; have BK1242 := n3_; have BK1250 := n4_; have HB := n5_; clear n0_ n1_ n2_ n3_ n4_ n5_; (try clear hb); (try clear hb2); (try clear hk); (try clear hi)) | (go_at_call 67; (with_reducible refine (impl_within.calls a1 0 11 false _ A19.out).mono ?_); rintro e w' ⟨rfl, ⟨nd, rfl⟩⟩))
        go_meet
        case rel => exact ⟨_, (true), (by first | rfl | (simp; done) | (simp [*]; done)), H', ⟨by first | omega | exact Nat.le_refl _⟩, ⟨oR HO1245⟩, ⟨oR HO1249⟩, ⟨oK BK1241⟩, ⟨oK BK1242⟩, ⟨oK BK1250⟩, ⟨oB HB⟩⟩
    · replace c18 := Bool.eq_false_iff.mpr c18
      subst c18
      rw [if_neg (show ¬ (false = true) by decide)] at H
      have H' := Aside0.mk H
      clear H
      have hnb39 := NB1241_1242.out
      have hnc39 := NB1242_1241.out
      have hnb40 := NB1241_1250.out
      have hnc40 := NB1250_1241.out
      have hcz41_0 : w11.cell? ⟨gb1241, 0, none⟩ = some (.slice A0_0 l0_0.length c0_0) := (blk_cell BK1241.out 0).trans rfl
      have hcz41_1 : w11.cell? ⟨gb1241, 1, none⟩ = some (.int .i64 a0_1) := (blk_cell BK1241.out 1).trans rfl
      have hcz41_2 : w11.cell? ⟨gb1241, 2, none⟩ = some (.slice A0_2 l0_2.length c0_2) := (blk_cell BK1241.out 2).trans rfl
      have hfz41_0 := blk_frozen BK1241.out 0
      have hfz41_1 := blk_frozen BK1241.out 1
      have hfz41_2 := blk_frozen BK1241.out 2
      go_wp2_with (first | ((with_reducible refine gate_callee (f := 64) rfl ?_); refine goesL_ (some 12) rfl rfl Try.func64 (by kernel_rfl) rfl #[.agg #[.slice A0_0 l0_0.length c0_0, .int .i64 a0_1, .slice A0_2 l0_2.length c0_2]] rfl (by (try simp only [List.map_toArray, List.map_cons, List.map_nil]); first | done | rfl | (simp only [List.length_drop, List.length_take]; rfl)) ?_; (with_reducible refine (impl_WorkOk.calls _ _ l0_0 a0_1 _ _ l0_2 false _ ?side1 ?side2 ?side3 ?side4 A17.out).mono ?_); (case side1 => exact Kd.C_below HR0_0.out (oB HB)); (case side2 => exact HC0_0.out); (case side3 => exact Kd.C_below HR0_2.out (oB HB)); (case side4 => exact HC0_2.out); rintro e w42 ⟨rfl, hb⟩; refine ⟨_, rfl, ?_⟩; have n0_ := Aside0.mk (Kd.R_below (by (with_reducible repeat (first | apply Kd.R_alloc | apply Kd.R_drewN | apply Kd.R_drew)); exact (Kd.R_mono (Kd.R_far (p := ⟨gb1250, 2, none⟩) (Kd.R_far (p := ⟨gb1250, 1, none⟩) (Kd.R_far (p := ⟨gb1250, 0, none⟩) (Kd.R_types HO1245.out BK1250.out (by decide)) (fun _ hk => hk.2) (.slice Ao12 t1243.length co12)) (fun _ hk => hk.2) (.int .i64 t1246)) (fun _ hk => hk.2) (.slice Ao16 t1247.length co16)) (fun _ h_ => h_.1))) hb); have n1_ := Aside0.mk (Kd.R_below (by (with_reducible repeat (first | apply Kd.R_alloc | apply Kd.R_drewN | apply Kd.R_drew)); exact (Kd.R_mono (Kd.R_far (p := ⟨gb1250, 2, none⟩) (Kd.R_far (p := ⟨gb1250, 1, none⟩) (Kd.R_far (p := ⟨gb1250, 0, none⟩) (Kd.R_types HO1249.out BK1250.out (by decide)) (fun _ hk => hk.2) (.slice Ao12 t1243.length co12)) (fun _ hk => hk.2) (.int .i64 t1246)) (fun _ hk => hk.2) (.slice Ao16 t1247.length co16)) (fun _ h_ => h_.1))) hb); have n2_ := Aside0.mk (blk_below (g := gb1241) (o := .cells #[.slice A0_0 l0_0.length c0_0, .int .i64 a0_1, .slice A0_2 l0_2.length c0_2] 33 (0, 0)) (by (with_reducible repeat (first | refine blk_drewN ?_ _ | refine blk_drew ?_ | refine blk_alloc ?_ _)); refine blk_far ?_ NB1241_1250.out _; (with_reducible repeat (first | refine blk_drewN ?_ _ | refine blk_drew ?_ | refine blk_alloc ?_ _)); refine blk_far ?_ NB1241_1250.out _; (with_reducible repeat (first | refine blk_drewN ?_ _ | refine blk_drew ?_ | refine blk_alloc ?_ _)); refine blk_far ?_ NB1241_1250.out _; (with_reducible repeat (first | refine blk_drewN ?_ _ | refine blk_drew ?_ | refine blk_alloc ?_ _)); exact BK1241.out) hb); have n3_ := Aside0.mk (blk_below (g := gb1242) (o := .cells #[.slice none 0 0, .int .i64 0, .slice none 0 0] 33 (0, 0)) (by (with_reducible repeat (first | refine blk_drewN ?_ _ | refine blk_drew ?_ | refine blk_alloc ?_ _)); refine blk_far ?_ NB1242_1250.out _; (with_reducible repeat (first | refine blk_drewN ?_ _ | refine blk_drew ?_ | refine blk_alloc ?_ _)); refine blk_far ?_ NB1242_1250.out _; (with_reducible repeat (first | refine blk_drewN ?_ _ | refine blk_drew ?_ | refine blk_alloc ?_ _)); refine blk_far ?_ NB1242_1250.out _; (with_reducible repeat (first | refine blk_drewN ?_ _ | refine blk_drew ?_ | refine blk_alloc ?_ _)); exact BK1242.out) hb); have n4_ := Aside0.mk (blk_below (g := gb1250) (o := .cells #[.slice Ao12 t1243.length co12, .int .i64 t1246, .slice Ao16 t1247.length co16] 33 (0, 0)) (by (with_reducible repeat (first | refine blk_drewN ?_ _ | refine blk_drew ?_ | refine blk_alloc ?_ _)); refine blk_put (cs := #[.slice Ao12 t1243.length co12, .int .i64 t1246, .slice none 0 0]) ?_ 2 _ rfl; (with_reducible repeat (first | refine blk_drewN ?_ _ | refine blk_drew ?_ | refine blk_alloc ?_ _)); refine blk_put (cs := #[.slice Ao12 t1243.length co12, .int .i64 0, .slice none 0 0]) ?_ 1 _ rfl; (with_reducible repeat (first | refine blk_drewN ?_ _ | refine blk_drew ?_ | refine blk_alloc ?_ _)); refine blk_put (cs := #[.slice none 0 0, .int .i64 0, .slice none 0 0]) ?_ 0 _ rfl; (with_reducible repeat (first | refine blk_drewN ?_ _ | refine blk_drew ?_ | refine blk_alloc ?_ _)); exact BK1250.out) hb); have n5_ := Aside0.mk (below_step (oB HB) hb); clear HO1245; clear HO1249; clear BK1241; clear BK1242; clear BK1250; clear HB; have HO1245 := n0_; have HO1249 := n1_; have BK1241 := n2_; have BK1242 := n3_; have BK1250 := n4_; have HB := n5_; clear n0_ n1_ n2_ n3_ n4_ n5_; (try clear hb); (try clear hb2); (try clear hk); (try clear hi)))
      go_meet
      case rel => exact ⟨_, (true), (by first | rfl | (simp; done) | (simp [*]; done)), H', ⟨by first | omega | exact Nat.le_refl _⟩, ⟨oR HO1245⟩, ⟨oR HO1249⟩, ⟨oK BK1241⟩, ⟨oK BK1242⟩, ⟨oK BK1250⟩, ⟨oB HB⟩⟩
  case rest =>
    clear HC5
    try clear c1
    try clear p1
    try clear q1
    try clear hx1
    try clear c2
    try clear p2
    try clear c3
    try clear c4
    try clear c6
    try clear c8
    try clear c11
    try clear p12
    try clear q12
    try clear hx12
    try clear c13
    try clear c14
    try clear c18
    try clear c20
    try clear c21
    try clear c21b0
    try clear c22
    try clear c22b0
    try clear c23
    try clear c23b0
    try clear c23b1
    try clear c24
    try clear c25
    try clear c30
    try clear c31
    try clear c35
    try clear c36
    try clear c39
    try clear c40
    try clear hcz15_0
    try clear hcz15_1
    try clear hcz15_2
    try clear hcz26_0
    try clear hcz26_1
    try clear hcz26_2
    try clear hcz28_0
    try clear hcz28_1
    try clear hcz28_2
    try clear hcz32_0
    try clear hcz32_1
    try clear hcz32_2
    try clear hcz34_0
    try clear hcz34_1
    try clear hcz34_2
    try clear hcz37_0
    try clear hcz37_1
    try clear hcz37_2
    try clear hcz41_0
    try clear hcz41_1
    try clear hcz41_2
    try clear hcz9_0
    try clear hcz9_1
    try clear hcz9_2
    try clear hfz15_0
    try clear hfz15_1
    try clear hfz15_2
    try clear hfz26_0
    try clear hfz26_1
    try clear hfz26_2
    try clear hfz28_0
    try clear hfz28_1
    try clear hfz28_2
    try clear hfz32_0
    try clear hfz32_1
    try clear hfz32_2
    try clear hfz34_0
    try clear hfz34_1
    try clear hfz34_2
    try clear hfz37_0
    try clear hfz37_1
    try clear hfz37_2
    try clear hfz41_0
    try clear hfz41_1
    try clear hfz41_2
    try clear hfz9_0
    try clear hfz9_1
    try clear hfz9_2
    try clear hx1253_0
    try clear p1253
    try clear q1253
    obtain ⟨kq, x31_4, rfl, HA, HJ4, HO_1251000, HO_1251002, BK1241, BK1242, BK1250, HB⟩ := hcut
    cases kq with
    | zero => exact absurd HA.out (by simp [impl_KnockKey.j0])
    | succ kj4 =>
      have H := HA.out
      clear HA
      simp only [impl_KnockKey.j0] at H
      by_cases c43 : x31_4 = true
      · subst c43
        rw [if_pos rfl] at H
        simp only [Option.some.injEq, Prod.mk.injEq] at H
        obtain ⟨rfl, rfl, rfl, rfl⟩ := H
        have hnb44 := NB1250_1241.out
        have hnc44 := NB1241_1250.out
        have hnb45 := NB1250_1242.out
        have hnc45 := NB1242_1250.out
        have hcz46_0 : wc.cell? ⟨gb1250, 0, none⟩ = some (.slice Ao12 t1243.length co12) := (blk_cell BK1250.out 0).trans rfl
        have hcz46_1 : wc.cell? ⟨gb1250, 1, none⟩ = some (.int .i64 t1246) := (blk_cell BK1250.out 1).trans rfl
        have hcz46_2 : wc.cell? ⟨gb1250, 2, none⟩ = some (.slice Ao16 t1247.length co16) := (blk_cell BK1250.out 2).trans rfl
        have hfz46_0 := blk_frozen BK1250.out 0
        have hfz46_1 := blk_frozen BK1250.out 1
        have hfz46_2 := blk_frozen BK1250.out 2
        have hnb47 := NB1242_1241.out
        have hnc47 := NB1241_1242.out
        have hcz48_0 : wc.cell? ⟨gb1242, 0, none⟩ = some (.slice none 0 0) := (blk_cell BK1242.out 0).trans rfl
        have hcz48_1 : wc.cell? ⟨gb1242, 1, none⟩ = some (.int .i64 0) := (blk_cell BK1242.out 1).trans rfl
        have hcz48_2 : wc.cell? ⟨gb1242, 2, none⟩ = some (.slice none 0 0) := (blk_cell BK1242.out 2).trans rfl
        have hfz48_0 := blk_frozen BK1242.out 0
        have hfz48_1 := blk_frozen BK1242.out 1
        have hfz48_2 := blk_frozen BK1242.out 2
        go_wp2
        refine bodyPost_ret (results_ct rfl _ _ gb1242 33 #[.slice Ao12 t1243.length co12, .int .i64 t1246, .slice Ao16 t1247.length co16] (0, 0) _ rfl (by (with_reducible repeat (first | refine blk_drewN ?_ _ | refine blk_drew ?_ | refine blk_alloc ?_ _)); refine blk_put (cs := #[.slice Ao12 t1243.length co12, .int .i64 t1246, .slice none 0 0]) ?_ 2 _ rfl; (with_reducible repeat (first | refine blk_drewN ?_ _ | refine blk_drew ?_ | refine blk_alloc ?_ _)); refine blk_put (cs := #[.slice Ao12 t1243.length co12, .int .i64 0, .slice none 0 0]) ?_ 1 _ rfl; (with_reducible repeat (first | refine blk_drewN ?_ _ | refine blk_drew ?_ | refine blk_alloc ?_ _)); refine blk_put (cs := #[.slice none 0 0, .int .i64 0, .slice none 0 0]) ?_ 0 _ rfl; (with_reducible repeat (first | refine blk_drewN ?_ _ | refine blk_drew ?_ | refine blk_alloc ?_ _)); exact BK1242.out) Try.underlying33 rfl (by kernel_rfl)) rfl ?_
        exact ⟨_, _, by first | rfl | (simp [errW_none, errW_some] <;> rfl) | (simp [*, errW_none, errW_some] <;> rfl), by (with_reducible repeat (first | apply Kd.R_alloc | apply Kd.R_drewN | apply Kd.R_drew)); exact Kd.R_mono (Kd.R_far (p := ⟨gb1242, 2, none⟩) (Kd.R_far (p := ⟨gb1242, 1, none⟩) (Kd.R_far (p := ⟨gb1242, 0, none⟩) (Kd.R_types HO_1251000.out BK1242.out (by decide)) (fun _ hk => hk.2) (.slice Ao12 t1243.length co12)) (fun _ hk => hk.2) (.int .i64 t1246)) (fun _ hk => hk.2) (.slice Ao16 t1247.length co16)) (fun _ hk => trivial), by (with_reducible repeat (first | apply Kd.R_alloc | apply Kd.R_drewN | apply Kd.R_drew)); exact Kd.R_mono (Kd.R_far (p := ⟨gb1242, 2, none⟩) (Kd.R_far (p := ⟨gb1242, 1, none⟩) (Kd.R_far (p := ⟨gb1242, 0, none⟩) (Kd.R_types HO_1251002.out BK1242.out (by decide)) (fun _ hk => hk.2) (.slice Ao12 t1243.length co12)) (fun _ hk => hk.2) (.int .i64 t1246)) (fun _ hk => hk.2) (.slice Ao16 t1247.length co16)) (fun _ hk => trivial), oB HB⟩
      · replace c43 := Bool.eq_false_iff.mpr c43
        subst c43
        rw [if_neg (show ¬ (false = true) by decide)] at H
        by_cases c49 : 0 ≤ a1
        · rw [if_pos c49] at H
          have c49b0 : decide (0 ≤ a1) = true := decide_eq_true c49
          clear c49
          by_cases c50 : a1 < (t1247.length : Int)
          · rw [if_pos c50] at H
            have c50b0 : decide (a1 < (t1247.length : Int)) = true := decide_eq_true c50
            clear c50
            obtain ⟨y1256, hy1256⟩ : ∃ y_ : List Int, y_ = (t1247.set (a1 : Int).toNat (wrap64 ((rd t1247 a1) + a2))) := ⟨_, rfl⟩
            replace H : ((impl_WorkOk.f t1243 t1246 y1256).bind fun t1257 => (if t1257 = true then (some (t1243, t1246, y1256, true)) else ((impl_copyWork.f l0_0 a0_1 l0_2).bind fun bt1258 => (some (bt1258.1, bt1258.2.1, bt1258.2.2, false))))) = some (r1, r2, r3, r4) := by first | (rw [hy1256]; with_reducible exact H) | (have H2_ := (Option.bind_some _ _).symm.trans H; rw [hy1256]; with_reducible exact H2_) | (have H2_ := (Option.bind_some _ _).symm.trans H; with_reducible exact H2_) | with_reducible exact H | (rw [hy1256]; exact H) | exact H
            have Ny1256 := Aside0.mk hy1256
            clear hy1256
            replace H := Option.bind_eq_some_iff.mp H
            obtain ⟨t1257, A520, H⟩ := H
            (try dsimp only at H)
            have A52 := Aside0.mk A520
            clear A520
            by_cases c53 : t1257 = true
            · subst c53
              rw [if_pos rfl] at H
              simp only [Option.some.injEq, Prod.mk.injEq] at H
              obtain ⟨rfl, rfl, rfl, rfl⟩ := H
              try go_wp2
              have n0_ := Aside0.mk (Kd.R_drew HO_1251000.out)
              have n1_ := Aside0.mk (Kd.R_drew HO_1251002.out)
              have n2_ := Aside0.mk (blk_drew BK1241.out)
              have n3_ := Aside0.mk (blk_drew BK1242.out)
              have n4_ := Aside0.mk (blk_drew BK1250.out)
              have n5_ := Aside0.mk (below_drew1 HB.out)
              clear HO_1251000
              clear HO_1251002
              clear BK1241
              clear BK1242
              clear BK1250
              clear HB
              have HO_1251000 := n0_
              have HO_1251002 := n1_
              have BK1241 := n2_
              have BK1242 := n3_
              have BK1250 := n4_
              have HB := n5_
              clear n0_ n1_ n2_ n3_ n4_ n5_
              have p1255 : 0 ≤ (a1 : Int) := of_decide_eq_true (by first | (with_reducible assumption) | assumption)
              have q1255 : a1 < (t1247.length : Int) := of_decide_eq_true (by first | (with_reducible assumption) | assumption)
              obtain ⟨ad1255, e1255, hx1255_0⟩ := Kd.at_int (Kd.R_reads' HO_1251002.out).2.2 a1 p1255 q1255
              cases e1255
              replace p1255 := eq_true p1255
              replace q1255 := eq_true q1255
              have p51 : 0 ≤ (a1 : Int) := of_decide_eq_true (by first | (with_reducible assumption) | assumption)
              have q51 : (a1 : Int) < ((t1247.length : Int) : Int) := of_decide_eq_true (by first | (with_reducible assumption) | assumption)
              obtain ⟨go51, co51, eo51, gb51, gl51, cl51, HG51⟩ := Kd.R_form HO_1251002.out (by omega)
              (first | cases eo51 | (injection eo51 with ea_ en_ ec_; (first | subst ea_ | (injection ea_ with ea_; subst ea_)); subst ec_; clear en_))
              have GB51 := Aside0.mk gb51
              have GG51 := Aside0.mk HG51
              clear gb51 gl51 HG51
              (first | simp only [add_plain] at hx1255_0 | skip)
              obtain ⟨hx51_0, hf51_0⟩ := Kd.R_celln 0 HO_1251002.out (a1 : Int) p51 q51
              replace p51 := eq_true p51
              replace q51 := eq_true q51
              have HP55 := Kd.R_putn HO_1251002.out (a1 : Int) (wrap64 ((rd t1247 a1) + a2))
              rw [← Ny1256.out] at HP55
              have HQ55 := Aside0.mk HP55
              clear HP55
              refine start_ (n := 12) (S := fun w' => w'.cell? ⟨gb1250, 0, none⟩ = some (.slice Ao12 t1243.length co12) ∧ w'.cell? ⟨gb1250, 1, none⟩ = some (.int .i64 t1246) ∧ w'.cell? ⟨gb1250, 2, none⟩ = some (.slice (some ⟨go51, 0, none⟩) t1247.length co16) ∧ w'.cell? ⟨go51, (a1).toNat, none⟩ = some (.int .i64 (rd t1247 a1))) (ds := [11]) #[false, false, false, false, false, false, false, false, false, false, false, false] (by kernel_rfl) rfl rfl ⟨(blk_cell BK1250.out 0).trans rfl, (blk_cell BK1250.out 1).trans rfl, (blk_cell BK1250.out 2).trans rfl, hx1255_0⟩ (fun hHeld => ?_); refine with_tabW impl_KnockKey.tab4 impl_KnockKey.bits4 (fun HT_ HW_ => ?_)
              generalize wc.drew = w54 at HO_1251000 HO_1251002 BK1241 BK1242 BK1250 HB GG51 HQ55 hf51_0 hx1255_0 hx51_0 hHeld ⊢
              refine pure_ (i := 0) (N := some 33) (v := ?_) (a' := ?_) #[true, false, false, false, false, false, false, false, false, false, false, false] rfl rfl (any_of HT_.out (by kernel_rfl)) (fun _ _ _ h => h) (Or.inl ⟨by rfl, ?_⟩) ?_ ?_
              rotate_left
              · intro w'
                go_simp
                with_reducible rfl
              rotate_left
              · simp only [Act.put, List.setIfInBounds_toArray, List.set_cons_zero, List.set_cons_succ, i64_w, i32_w]
                rfl
              refine pure_ (i := 2) (N := some 35) (v := ?_) (a' := ?_) #[true, false, true, false, false, false, false, false, false, false, false, false] rfl rfl (any_of HT_.out (by kernel_rfl)) (fun _ _ _ h => h) (Or.inl ⟨by rfl, ?_⟩) ?_ ?_
              rotate_left
              · intro w'
                go_simp
                with_reducible rfl
              rotate_left
              · simp only [Act.put, List.setIfInBounds_toArray, List.set_cons_zero, List.set_cons_succ, i64_w, i32_w]
                rfl
              refine pure_ (i := 3) (N := some 36) (v := ?_) (a' := ?_) #[true, false, true, true, false, false, false, false, false, false, false, false] rfl rfl (any_of HT_.out (by kernel_rfl)) (fun _ _ _ h => h) (Or.inl ⟨by rfl, ?_⟩) ?_ ?_
              rotate_left
              · intro w'
                go_simp
                with_reducible rfl
              rotate_left
              · simp only [Act.put, List.setIfInBounds_toArray, List.set_cons_zero, List.set_cons_succ, i64_w, i32_w]
                rfl
              refine pure_ (i := 5) (N := some 38) (v := ?_) (a' := ?_) #[true, false, true, true, false, true, false, false, false, false, false, false] rfl rfl (any_of HT_.out (by kernel_rfl)) (fun _ _ _ h => h) (Or.inl ⟨by rfl, ?_⟩) ?_ ?_
              rotate_left
              · intro w'
                go_simp
                with_reducible rfl
              rotate_left
              · simp only [Act.put, List.setIfInBounds_toArray, List.set_cons_zero, List.set_cons_succ, i64_w, i32_w]
                rfl
              refine pure_ (i := 8) (N := some 41) (v := ?_) (a' := ?_) #[true, false, true, true, false, true, false, false, true, false, false, false] rfl rfl (any_of HT_.out (by kernel_rfl)) (fun _ _ _ h => h) (Or.inl ⟨by rfl, ?_⟩) ?_ ?_
              rotate_left
              · intro w'
                go_simp
                with_reducible rfl
              rotate_left
              · simp only [Act.put, List.setIfInBounds_toArray, List.set_cons_zero, List.set_cons_succ, i64_w, i32_w]
                rfl
              refine take_ (i := 1) (N := some 34) (v := ?_) (a' := ?_) #[true, true, true, true, false, true, false, false, true, false, false, false] rfl rfl (take_ofW HT_.out HW_.out (by kernel_rfl)) (fun _ _ _ h => h) (Or.inl ⟨by rfl, ?_⟩) hHeld ?_ ?_
              rotate_left
              · rintro w' ⟨s0, s1, s2, s3⟩
                go_simp
                with_reducible rfl
              rotate_left
              · simp only [Act.put, List.setIfInBounds_toArray, List.set_cons_zero, List.set_cons_succ, i64_w, i32_w]
                rfl
              refine take_ (i := 4) (N := some 37) (v := ?_) (a' := ?_) #[true, true, true, true, true, true, false, false, true, false, false, false] rfl rfl (take_ofW HT_.out HW_.out (by kernel_rfl)) (fun _ _ _ h => h) (Or.inl ⟨by rfl, ?_⟩) hHeld ?_ ?_
              rotate_left
              · rintro w' ⟨s0, s1, s2, s3⟩
                go_simp
                with_reducible rfl
              rotate_left
              · simp only [Act.put, List.setIfInBounds_toArray, List.set_cons_zero, List.set_cons_succ, i64_w, i32_w]
                rfl
              refine pure_ (i := 6) (N := some 39) (v := ?_) (a' := ?_) #[true, true, true, true, true, true, true, false, true, false, false, false] rfl rfl (any_of HT_.out (by kernel_rfl)) (fun _ _ _ h => h) (Or.inl ⟨by rfl, ?_⟩) ?_ ?_
              rotate_left
              · intro w'
                go_simp
                with_reducible rfl
              rotate_left
              · simp only [Act.put, List.setIfInBounds_toArray, List.set_cons_zero, List.set_cons_succ, i64_w, i32_w]
                rfl
              refine take_ (i := 7) (N := some 40) (v := ?_) (a' := ?_) #[true, true, true, true, true, true, true, true, true, false, false, false] rfl rfl (take_ofW HT_.out HW_.out (by kernel_rfl)) (fun _ _ _ h => h) (Or.inl ⟨by rfl, ?_⟩) hHeld ?_ ?_
              rotate_left
              · rintro w' ⟨s0, s1, s2, s3⟩
                go_simp
                with_reducible rfl
              rotate_left
              · simp only [Act.put, List.setIfInBounds_toArray, List.set_cons_zero, List.set_cons_succ, i64_w, i32_w]
                rfl
              refine pure_ (i := 9) (N := some 42) (v := ?_) (a' := ?_) #[true, true, true, true, true, true, true, true, true, true, false, false] rfl rfl (any_of HT_.out (by kernel_rfl)) (fun _ _ _ h => h) (Or.inl ⟨by rfl, ?_⟩) ?_ ?_
              rotate_left
              · intro w'
                go_simp
                with_reducible rfl
              rotate_left
              · simp only [Act.put, List.setIfInBounds_toArray, List.set_cons_zero, List.set_cons_succ, i64_w, i32_w]
                rfl
              refine pure_ (i := 10) (N := some 43) (v := ?_) (a' := ?_) #[true, true, true, true, true, true, true, true, true, true, true, false] rfl rfl (any_of HT_.out (by kernel_rfl)) (fun _ _ _ h => h) (Or.inl ⟨by rfl, ?_⟩) ?_ ?_
              rotate_left
              · intro w'
                go_simp
                with_reducible rfl
              rotate_left
              · simp only [Act.put, List.setIfInBounds_toArray, List.set_cons_zero, List.set_cons_succ, i64_w, i32_w]
                rfl
              refine last_ (i := 11) (N := none) #[true, true, true, true, true, true, true, true, true, true, true, true] rfl rfl (one_of HT_.out (by kernel_rfl)) (by decide) (fun K hK => ?_)
              refine skip_ (w1 := ?_) (by rfl) rfl ?_ ?_
              rotate_left
              · go_simp
                rfl
              refine hK.out _ _ ?_
              clear hK K
              refine done_ (done_of HT_.out (by kernel_rfl)) ?_
              have n0_ : Aside0 (Kd.R k96 96 (w54.setCell ⟨go51, (a1 : Int).toNat, none⟩ (.int .i64 (wrap64 ((rd t1247 a1) + a2)))) w.heap.size (fun _ => True) (.slice Ao12 t1243.length co12) t1243) := ⟨by (with_reducible repeat (first | apply Kd.R_alloc | apply Kd.R_drewN | apply Kd.R_drew)); exact Kd.R_mono (Kd.R_far (p := ⟨go51, (a1 : Int).toNat, none⟩) (Kd.R_types HO_1251000.out GG51.out (by decide)) (fun _ hk => hk.2) (.int .i64 (wrap64 ((rd t1247 a1) + a2)))) (fun _ hk => trivial)⟩
              have n1_ : Aside0 (Kd.R (Kd.int .i64) 3 (w54.setCell ⟨go51, (a1 : Int).toNat, none⟩ (.int .i64 (wrap64 ((rd t1247 a1) + a2)))) w.heap.size (fun _ => True) (.slice (some ⟨go51, 0, none⟩) t1247.length co16) y1256) := ⟨by (with_reducible repeat (first | apply Kd.R_alloc | apply Kd.R_drewN | apply Kd.R_drew)); exact HQ55.out⟩
              have n2_ : Aside0 ((w54.setCell ⟨go51, (a1 : Int).toNat, none⟩ (.int .i64 (wrap64 ((rd t1247 a1) + a2)))).heap[gb1241]? = some (.cells #[.slice A0_0 l0_0.length c0_0, .int .i64 a0_1, .slice A0_2 l0_2.length c0_2] 33 (0, 0))) := ⟨by (with_reducible repeat (first | refine blk_drewN ?_ _ | refine blk_drew ?_ | refine blk_alloc ?_ _)); refine blk_far ?_ (by have h_ := Kd.R_ne HO_1251002.out BK1241.out (by decide); intro e_; exact h_ (by rw [e_]; rfl)) _; (with_reducible repeat (first | refine blk_drewN ?_ _ | refine blk_drew ?_ | refine blk_alloc ?_ _)); exact BK1241.out⟩
              have n3_ : Aside0 ((w54.setCell ⟨go51, (a1 : Int).toNat, none⟩ (.int .i64 (wrap64 ((rd t1247 a1) + a2)))).heap[gb1242]? = some (.cells #[.slice none 0 0, .int .i64 0, .slice none 0 0] 33 (0, 0))) := ⟨by (with_reducible repeat (first | refine blk_drewN ?_ _ | refine blk_drew ?_ | refine blk_alloc ?_ _)); refine blk_far ?_ (by have h_ := Kd.R_ne HO_1251002.out BK1242.out (by decide); intro e_; exact h_ (by rw [e_]; rfl)) _; (with_reducible repeat (first | refine blk_drewN ?_ _ | refine blk_drew ?_ | refine blk_alloc ?_ _)); exact BK1242.out⟩
              have n4_ : Aside0 ((w54.setCell ⟨go51, (a1 : Int).toNat, none⟩ (.int .i64 (wrap64 ((rd t1247 a1) + a2)))).heap[gb1250]? = some (.cells #[.slice Ao12 t1243.length co12, .int .i64 t1246, .slice (some ⟨go51, 0, none⟩) t1247.length co16] 33 (0, 0))) := ⟨by (with_reducible repeat (first | refine blk_drewN ?_ _ | refine blk_drew ?_ | refine blk_alloc ?_ _)); refine blk_far ?_ (by have h_ := Kd.R_ne HO_1251002.out BK1250.out (by decide); intro e_; exact h_ (by rw [e_]; rfl)) _; (with_reducible repeat (first | refine blk_drewN ?_ _ | refine blk_drew ?_ | refine blk_alloc ?_ _)); exact BK1250.out⟩
              have n5_ : Aside0 (Below w.heap.size w (w54.setCell ⟨go51, (a1 : Int).toNat, none⟩ (.int .i64 (wrap64 ((rd t1247 a1) + a2))))) := ⟨oB HB⟩
              (try clear HO_1251000)
              (try clear HO_1251002)
              (try clear BK1241)
              (try clear BK1242)
              (try clear BK1250)
              (try clear HB)
              generalize (w54.setCell ⟨go51, (a1 : Int).toNat, none⟩ (.int .i64 (wrap64 ((rd t1247 a1) + a2)))) = w56 at n0_ n1_ n2_ n3_ n4_ n5_ ⊢
              have HO_1251000 := n0_
              have HO_1251002 := n1_
              have BK1241 := n2_
              have BK1242 := n3_
              have BK1250 := n4_
              have HB := n5_
              clear n0_ n1_ n2_ n3_ n4_ n5_
              have hnb57 := NB1250_1241.out
              have hnc57 := NB1241_1250.out
              have hnb58 := NB1250_1242.out
              have hnc58 := NB1242_1250.out
              have hcz59_0 : w56.cell? ⟨gb1250, 0, none⟩ = some (.slice Ao12 t1243.length co12) := (blk_cell BK1250.out 0).trans rfl
              have hcz59_1 : w56.cell? ⟨gb1250, 1, none⟩ = some (.int .i64 t1246) := (blk_cell BK1250.out 1).trans rfl
              have hcz59_2 : w56.cell? ⟨gb1250, 2, none⟩ = some (.slice (some ⟨go51, 0, none⟩) t1247.length co16) := (blk_cell BK1250.out 2).trans rfl
              have hfz59_0 := blk_frozen BK1250.out 0
              have hfz59_1 := blk_frozen BK1250.out 1
              have hfz59_2 := blk_frozen BK1250.out 2
              try go_wp2_with (first | ((with_reducible refine gate_callee (f := 64) rfl ?_); refine goesL_ (some 45) rfl rfl Try.func64 (by kernel_rfl) rfl #[.agg #[.slice Ao12 t1243.length co12, .int .i64 t1246, .slice (some ⟨go51, 0, none⟩) y1256.length co16]] rfl (by (try simp only [List.map_toArray, List.map_cons, List.map_nil]); first | done | (rw [show y1256.length = t1247.length from (Kd.R_reads' HO_1251002.out).1.symm] <;> rfl) | rfl | (simp only [List.length_drop, List.length_take]; rfl)) ?_; (with_reducible refine (impl_WorkOk.calls _ _ t1243 t1246 _ _ y1256 true _ ?side1 ?side2 ?side3 ?side4 A52.out).mono ?_); (case side1 => repeat (first | exact (Kd.R_reads' HO_1251000.out).2.2 | (with_reducible refine Kd.C_alloc ?_ _) | (with_reducible refine Kd.C_drewN ?_ _) | (with_reducible refine Kd.C_drew ?_))); (case side2 => exact (Kd.R_reads' HO_1251000.out).2.1); (case side3 => repeat (first | exact (Kd.R_reads' HO_1251002.out).2.2 | (with_reducible refine Kd.C_alloc ?_ _) | (with_reducible refine Kd.C_drewN ?_ _) | (with_reducible refine Kd.C_drew ?_))); (case side4 => rw [show y1256.length = t1247.length from (Kd.R_reads' HO_1251002.out).1.symm]; exact (Kd.R_reads' HO_1251002.out).2.1); rintro e w60 ⟨rfl, hb⟩; refine ⟨_, rfl, ?_⟩; have n0_ := Aside0.mk (Kd.R_below (oR HO_1251000) hb); have n1_ := Aside0.mk (Kd.R_below (oR HO_1251002) hb); have n2_ := Aside0.mk (blk_below (g := gb1241) (o := .cells #[.slice A0_0 l0_0.length c0_0, .int .i64 a0_1, .slice A0_2 l0_2.length c0_2] 33 (0, 0)) (oK BK1241) hb); have n3_ := Aside0.mk (blk_below (g := gb1242) (o := .cells #[.slice none 0 0, .int .i64 0, .slice none 0 0] 33 (0, 0)) (oK BK1242) hb); have n4_ := Aside0.mk (blk_below (g := gb1250) (o := .cells #[.slice Ao12 t1243.length co12, .int .i64 t1246, .slice (some ⟨go51, 0, none⟩) t1247.length co16] 33 (0, 0)) (oK BK1250) hb); have n5_ := Aside0.mk (below_step (oB HB) hb); clear HO_1251000; clear HO_1251002; clear BK1241; clear BK1242; clear BK1250; clear HB; have HO_1251000 := n0_; have HO_1251002 := n1_; have BK1241 := n2_; have BK1242 := n3_; have BK1250 := n4_; have HB := n5_; clear n0_ n1_ n2_ n3_ n4_ n5_; (try clear hb); (try clear hb2); (try clear hk); (try clear hi); have hcz61_0 : w60.cell? ⟨gb1250, 0, none⟩ = some (.slice Ao12 t1243.length co12) := (blk_cell BK1250.out 0).trans rfl; have hcz61_1 : w60.cell? ⟨gb1250, 1, none⟩ = some (.int .i64 t1246) := (blk_cell BK1250.out 1).trans rfl; have hcz61_2 : w60.cell? ⟨gb1250, 2, none⟩ = some (.slice (some ⟨go51, 0, none⟩) t1247.length co16) := (blk_cell BK1250.out 2).trans rfl; have hfz61_0 := blk_frozen BK1250.out 0; have hfz61_1 := blk_frozen BK1250.out 1; have hfz61_2 := blk_frozen BK1250.out 2; have hnb62 := NB1242_1241.out; have hnc62 := NB1241_1242.out; have hcz63_0 : w60.cell? ⟨gb1242, 0, none⟩ = some (.slice none 0 0) := (blk_cell BK1242.out 0).trans rfl; have hcz63_1 : w60.cell? ⟨gb1242, 1, none⟩ = some (.int .i64 0) := (blk_cell BK1242.out 1).trans rfl; have hcz63_2 : w60.cell? ⟨gb1242, 2, none⟩ = some (.slice none 0 0) := (blk_cell BK1242.out 2).trans rfl; have hfz63_0 := blk_frozen BK1242.out 0; have hfz63_1 := blk_frozen BK1242.out 1; have hfz63_2 := blk_frozen BK1242.out 2))
              refine bodyPost_ret (results_ct rfl _ _ gb1242 33 #[.slice Ao12 t1243.length co12, .int .i64 t1246, .slice (some ⟨go51, 0, none⟩) t1247.length co16] (0, 0) _ rfl (by (with_reducible repeat (first | refine blk_drewN ?_ _ | refine blk_drew ?_ | refine blk_alloc ?_ _)); refine blk_put (cs := #[.slice Ao12 t1243.length co12, .int .i64 t1246, .slice none 0 0]) ?_ 2 _ rfl; (with_reducible repeat (first | refine blk_drewN ?_ _ | refine blk_drew ?_ | refine blk_alloc ?_ _)); refine blk_put (cs := #[.slice Ao12 t1243.length co12, .int .i64 0, .slice none 0 0]) ?_ 1 _ rfl; (with_reducible repeat (first | refine blk_drewN ?_ _ | refine blk_drew ?_ | refine blk_alloc ?_ _)); refine blk_put (cs := #[.slice none 0 0, .int .i64 0, .slice none 0 0]) ?_ 0 _ rfl; (with_reducible repeat (first | refine blk_drewN ?_ _ | refine blk_drew ?_ | refine blk_alloc ?_ _)); exact BK1242.out) Try.underlying33 rfl (by kernel_rfl)) rfl ?_
              exact ⟨_, _, by first | rfl | (simp [errW_none, errW_some] <;> rfl) | (simp [*, errW_none, errW_some] <;> rfl), by (with_reducible repeat (first | apply Kd.R_alloc | apply Kd.R_drewN | apply Kd.R_drew)); exact Kd.R_mono (Kd.R_far (p := ⟨gb1242, 2, none⟩) (Kd.R_far (p := ⟨gb1242, 1, none⟩) (Kd.R_far (p := ⟨gb1242, 0, none⟩) (Kd.R_types HO_1251000.out BK1242.out (by decide)) (fun _ hk => hk.2) (.slice Ao12 t1243.length co12)) (fun _ hk => hk.2) (.int .i64 t1246)) (fun _ hk => hk.2) (.slice (some ⟨go51, 0, none⟩) t1247.length co16)) (fun _ hk => trivial), by (with_reducible repeat (first | apply Kd.R_alloc | apply Kd.R_drewN | apply Kd.R_drew)); exact Kd.R_mono (Kd.R_far (p := ⟨gb1242, 2, none⟩) (Kd.R_far (p := ⟨gb1242, 1, none⟩) (Kd.R_far (p := ⟨gb1242, 0, none⟩) (Kd.R_types HO_1251002.out BK1242.out (by decide)) (fun _ hk => hk.2) (.slice Ao12 t1243.length co12)) (fun _ hk => hk.2) (.int .i64 t1246)) (fun _ hk => hk.2) (.slice (some ⟨go51, 0, none⟩) t1247.length co16)) (fun _ hk => trivial), oB HB⟩
            · replace c53 := Bool.eq_false_iff.mpr c53
              subst c53
              rw [if_neg (show ¬ (false = true) by decide)] at H
              replace H := Option.bind_eq_some_iff.mp H
              obtain ⟨⟨t1258, t1261, t1262⟩, A640, H⟩ := H
              (try dsimp only at H)
              have A64 := Aside0.mk A640
              clear A640
              simp only [Option.some.injEq, Prod.mk.injEq] at H
              obtain ⟨rfl, rfl, rfl, rfl⟩ := H
              try go_wp2
              have n0_ := Aside0.mk (Kd.R_drew HO_1251000.out)
              have n1_ := Aside0.mk (Kd.R_drew HO_1251002.out)
              have n2_ := Aside0.mk (blk_drew BK1241.out)
              have n3_ := Aside0.mk (blk_drew BK1242.out)
              have n4_ := Aside0.mk (blk_drew BK1250.out)
              have n5_ := Aside0.mk (below_drew1 HB.out)
              clear HO_1251000
              clear HO_1251002
              clear BK1241
              clear BK1242
              clear BK1250
              clear HB
              have HO_1251000 := n0_
              have HO_1251002 := n1_
              have BK1241 := n2_
              have BK1242 := n3_
              have BK1250 := n4_
              have HB := n5_
              clear n0_ n1_ n2_ n3_ n4_ n5_
              have p1255 : 0 ≤ (a1 : Int) := of_decide_eq_true (by first | (with_reducible assumption) | assumption)
              have q1255 : a1 < (t1247.length : Int) := of_decide_eq_true (by first | (with_reducible assumption) | assumption)
              obtain ⟨ad1255, e1255, hx1255_0⟩ := Kd.at_int (Kd.R_reads' HO_1251002.out).2.2 a1 p1255 q1255
              cases e1255
              replace p1255 := eq_true p1255
              replace q1255 := eq_true q1255
              have p51 : 0 ≤ (a1 : Int) := of_decide_eq_true (by first | (with_reducible assumption) | assumption)
              have q51 : (a1 : Int) < ((t1247.length : Int) : Int) := of_decide_eq_true (by first | (with_reducible assumption) | assumption)
              obtain ⟨go51, co51, eo51, gb51, gl51, cl51, HG51⟩ := Kd.R_form HO_1251002.out (by omega)
              (first | cases eo51 | (injection eo51 with ea_ en_ ec_; (first | subst ea_ | (injection ea_ with ea_; subst ea_)); subst ec_; clear en_))
              have GB51 := Aside0.mk gb51
              have GG51 := Aside0.mk HG51
              clear gb51 gl51 HG51
              (first | simp only [add_plain] at hx1255_0 | skip)
              obtain ⟨hx51_0, hf51_0⟩ := Kd.R_celln 0 HO_1251002.out (a1 : Int) p51 q51
              replace p51 := eq_true p51
              replace q51 := eq_true q51
              have HP66 := Kd.R_putn HO_1251002.out (a1 : Int) (wrap64 ((rd t1247 a1) + a2))
              rw [← Ny1256.out] at HP66
              have HQ66 := Aside0.mk HP66
              clear HP66
              refine start_ (n := 12) (S := fun w' => w'.cell? ⟨gb1250, 0, none⟩ = some (.slice Ao12 t1243.length co12) ∧ w'.cell? ⟨gb1250, 1, none⟩ = some (.int .i64 t1246) ∧ w'.cell? ⟨gb1250, 2, none⟩ = some (.slice (some ⟨go51, 0, none⟩) t1247.length co16) ∧ w'.cell? ⟨go51, (a1).toNat, none⟩ = some (.int .i64 (rd t1247 a1))) (ds := [11]) #[false, false, false, false, false, false, false, false, false, false, false, false] (by kernel_rfl) rfl rfl ⟨(blk_cell BK1250.out 0).trans rfl, (blk_cell BK1250.out 1).trans rfl, (blk_cell BK1250.out 2).trans rfl, hx1255_0⟩ (fun hHeld => ?_); refine with_tabW impl_KnockKey.tab4 impl_KnockKey.bits4 (fun HT_ HW_ => ?_)
              generalize wc.drew = w65 at HO_1251000 HO_1251002 BK1241 BK1242 BK1250 HB GG51 HQ66 hf51_0 hx1255_0 hx51_0 hHeld ⊢
              refine pure_ (i := 0) (N := some 33) (v := ?_) (a' := ?_) #[true, false, false, false, false, false, false, false, false, false, false, false] rfl rfl (any_of HT_.out (by kernel_rfl)) (fun _ _ _ h => h) (Or.inl ⟨by rfl, ?_⟩) ?_ ?_
              rotate_left
              · intro w'
                go_simp
                with_reducible rfl
              rotate_left
              · simp only [Act.put, List.setIfInBounds_toArray, List.set_cons_zero, List.set_cons_succ, i64_w, i32_w]
                rfl
              refine pure_ (i := 2) (N := some 35) (v := ?_) (a' := ?_) #[true, false, true, false, false, false, false, false, false, false, false, false] rfl rfl (any_of HT_.out (by kernel_rfl)) (fun _ _ _ h => h) (Or.inl ⟨by rfl, ?_⟩) ?_ ?_
              rotate_left
              · intro w'
                go_simp
                with_reducible rfl
              rotate_left
              · simp only [Act.put, List.setIfInBounds_toArray, List.set_cons_zero, List.set_cons_succ, i64_w, i32_w]
                rfl
              refine pure_ (i := 3) (N := some 36) (v := ?_) (a' := ?_) #[true, false, true, true, false, false, false, false, false, false, false, false] rfl rfl (any_of HT_.out (by kernel_rfl)) (fun _ _ _ h => h) (Or.inl ⟨by rfl, ?_⟩) ?_ ?_
              rotate_left
              · intro w'
                go_simp
                with_reducible rfl
              rotate_left
              · simp only [Act.put, List.setIfInBounds_toArray, List.set_cons_zero, List.set_cons_succ, i64_w, i32_w]
                rfl
              refine pure_ (i := 5) (N := some 38) (v := ?_) (a' := ?_) #[true, false, true, true, false, true, false, false, false, false, false, false] rfl rfl (any_of HT_.out (by kernel_rfl)) (fun _ _ _ h => h) (Or.inl ⟨by rfl, ?_⟩) ?_ ?_
              rotate_left
              · intro w'
                go_simp
                with_reducible rfl
              rotate_left
              · simp only [Act.put, List.setIfInBounds_toArray, List.set_cons_zero, List.set_cons_succ, i64_w, i32_w]
                rfl
              refine pure_ (i := 8) (N := some 41) (v := ?_) (a' := ?_) #[true, false, true, true, false, true, false, false, true, false, false, false] rfl rfl (any_of HT_.out (by kernel_rfl)) (fun _ _ _ h => h) (Or.inl ⟨by rfl, ?_⟩) ?_ ?_
              rotate_left
              · intro w'
                go_simp
                with_reducible rfl
              rotate_left
              · simp only [Act.put, List.setIfInBounds_toArray, List.set_cons_zero, List.set_cons_succ, i64_w, i32_w]
                rfl
              refine take_ (i := 1) (N := some 34) (v := ?_) (a' := ?_) #[true, true, true, true, false, true, false, false, true, false, false, false] rfl rfl (take_ofW HT_.out HW_.out (by kernel_rfl)) (fun _ _ _ h => h) (Or.inl ⟨by rfl, ?_⟩) hHeld ?_ ?_
              rotate_left
              · rintro w' ⟨s0, s1, s2, s3⟩
                go_simp
                with_reducible rfl
              rotate_left
              · simp only [Act.put, List.setIfInBounds_toArray, List.set_cons_zero, List.set_cons_succ, i64_w, i32_w]
                rfl
              refine take_ (i := 4) (N := some 37) (v := ?_) (a' := ?_) #[true, true, true, true, true, true, false, false, true, false, false, false] rfl rfl (take_ofW HT_.out HW_.out (by kernel_rfl)) (fun _ _ _ h => h) (Or.inl ⟨by rfl, ?_⟩) hHeld ?_ ?_
              rotate_left
              · rintro w' ⟨s0, s1, s2, s3⟩
                go_simp
                with_reducible rfl
              rotate_left
              · simp only [Act.put, List.setIfInBounds_toArray, List.set_cons_zero, List.set_cons_succ, i64_w, i32_w]
                rfl
              refine pure_ (i := 6) (N := some 39) (v := ?_) (a' := ?_) #[true, true, true, true, true, true, true, false, true, false, false, false] rfl rfl (any_of HT_.out (by kernel_rfl)) (fun _ _ _ h => h) (Or.inl ⟨by rfl, ?_⟩) ?_ ?_
              rotate_left
              · intro w'
                go_simp
                with_reducible rfl
              rotate_left
              · simp only [Act.put, List.setIfInBounds_toArray, List.set_cons_zero, List.set_cons_succ, i64_w, i32_w]
                rfl
              refine take_ (i := 7) (N := some 40) (v := ?_) (a' := ?_) #[true, true, true, true, true, true, true, true, true, false, false, false] rfl rfl (take_ofW HT_.out HW_.out (by kernel_rfl)) (fun _ _ _ h => h) (Or.inl ⟨by rfl, ?_⟩) hHeld ?_ ?_
              rotate_left
              · rintro w' ⟨s0, s1, s2, s3⟩
                go_simp
                with_reducible rfl
              rotate_left
              · simp only [Act.put, List.setIfInBounds_toArray, List.set_cons_zero, List.set_cons_succ, i64_w, i32_w]
                rfl
              refine pure_ (i := 9) (N := some 42) (v := ?_) (a' := ?_) #[true, true, true, true, true, true, true, true, true, true, false, false] rfl rfl (any_of HT_.out (by kernel_rfl)) (fun _ _ _ h => h) (Or.inl ⟨by rfl, ?_⟩) ?_ ?_
              rotate_left
              · intro w'
                go_simp
                with_reducible rfl
              rotate_left
              · simp only [Act.put, List.setIfInBounds_toArray, List.set_cons_zero, List.set_cons_succ, i64_w, i32_w]
                rfl
              refine pure_ (i := 10) (N := some 43) (v := ?_) (a' := ?_) #[true, true, true, true, true, true, true, true, true, true, true, false] rfl rfl (any_of HT_.out (by kernel_rfl)) (fun _ _ _ h => h) (Or.inl ⟨by rfl, ?_⟩) ?_ ?_
              rotate_left
              · intro w'
                go_simp
                with_reducible rfl
              rotate_left
              · simp only [Act.put, List.setIfInBounds_toArray, List.set_cons_zero, List.set_cons_succ, i64_w, i32_w]
                rfl
              refine last_ (i := 11) (N := none) #[true, true, true, true, true, true, true, true, true, true, true, true] rfl rfl (one_of HT_.out (by kernel_rfl)) (by decide) (fun K hK => ?_)
              refine skip_ (w1 := ?_) (by rfl) rfl ?_ ?_
              rotate_left
              · go_simp
                rfl
              refine hK.out _ _ ?_
              clear hK K
              refine done_ (done_of HT_.out (by kernel_rfl)) ?_
              have n0_ : Aside0 (Kd.R k96 96 (w65.setCell ⟨go51, (a1 : Int).toNat, none⟩ (.int .i64 (wrap64 ((rd t1247 a1) + a2)))) w.heap.size (fun _ => True) (.slice Ao12 t1243.length co12) t1243) := ⟨by (with_reducible repeat (first | apply Kd.R_alloc | apply Kd.R_drewN | apply Kd.R_drew)); exact Kd.R_mono (Kd.R_far (p := ⟨go51, (a1 : Int).toNat, none⟩) (Kd.R_types HO_1251000.out GG51.out (by decide)) (fun _ hk => hk.2) (.int .i64 (wrap64 ((rd t1247 a1) + a2)))) (fun _ hk => trivial)⟩
              have n1_ : Aside0 (Kd.R (Kd.int .i64) 3 (w65.setCell ⟨go51, (a1 : Int).toNat, none⟩ (.int .i64 (wrap64 ((rd t1247 a1) + a2)))) w.heap.size (fun _ => True) (.slice (some ⟨go51, 0, none⟩) t1247.length co16) y1256) := ⟨by (with_reducible repeat (first | apply Kd.R_alloc | apply Kd.R_drewN | apply Kd.R_drew)); exact HQ66.out⟩
              have n2_ : Aside0 ((w65.setCell ⟨go51, (a1 : Int).toNat, none⟩ (.int .i64 (wrap64 ((rd t1247 a1) + a2)))).heap[gb1241]? = some (.cells #[.slice A0_0 l0_0.length c0_0, .int .i64 a0_1, .slice A0_2 l0_2.length c0_2] 33 (0, 0))) := ⟨by (with_reducible repeat (first | refine blk_drewN ?_ _ | refine blk_drew ?_ | refine blk_alloc ?_ _)); refine blk_far ?_ (by have h_ := Kd.R_ne HO_1251002.out BK1241.out (by decide); intro e_; exact h_ (by rw [e_]; rfl)) _; (with_reducible repeat (first | refine blk_drewN ?_ _ | refine blk_drew ?_ | refine blk_alloc ?_ _)); exact BK1241.out⟩
              have n3_ : Aside0 ((w65.setCell ⟨go51, (a1 : Int).toNat, none⟩ (.int .i64 (wrap64 ((rd t1247 a1) + a2)))).heap[gb1242]? = some (.cells #[.slice none 0 0, .int .i64 0, .slice none 0 0] 33 (0, 0))) := ⟨by (with_reducible repeat (first | refine blk_drewN ?_ _ | refine blk_drew ?_ | refine blk_alloc ?_ _)); refine blk_far ?_ (by have h_ := Kd.R_ne HO_1251002.out BK1242.out (by decide); intro e_; exact h_ (by rw [e_]; rfl)) _; (with_reducible repeat (first | refine blk_drewN ?_ _ | refine blk_drew ?_ | refine blk_alloc ?_ _)); exact BK1242.out⟩
              have n4_ : Aside0 ((w65.setCell ⟨go51, (a1 : Int).toNat, none⟩ (.int .i64 (wrap64 ((rd t1247 a1) + a2)))).heap[gb1250]? = some (.cells #[.slice Ao12 t1243.length co12, .int .i64 t1246, .slice (some ⟨go51, 0, none⟩) t1247.length co16] 33 (0, 0))) := ⟨by (with_reducible repeat (first | refine blk_drewN ?_ _ | refine blk_drew ?_ | refine blk_alloc ?_ _)); refine blk_far ?_ (by have h_ := Kd.R_ne HO_1251002.out BK1250.out (by decide); intro e_; exact h_ (by rw [e_]; rfl)) _; (with_reducible repeat (first | refine blk_drewN ?_ _ | refine blk_drew ?_ | refine blk_alloc ?_ _)); exact BK1250.out⟩
              have n5_ : Aside0 (Below w.heap.size w (w65.setCell ⟨go51, (a1 : Int).toNat, none⟩ (.int .i64 (wrap64 ((rd t1247 a1) + a2))))) := ⟨oB HB⟩
              (try clear HO_1251000)
              (try clear HO_1251002)
              (try clear BK1241)
              (try clear BK1242)
              (try clear BK1250)
              (try clear HB)
              generalize (w65.setCell ⟨go51, (a1 : Int).toNat, none⟩ (.int .i64 (wrap64 ((rd t1247 a1) + a2)))) = w67 at n0_ n1_ n2_ n3_ n4_ n5_ ⊢
              have HO_1251000 := n0_
              have HO_1251002 := n1_
              have BK1241 := n2_
              have BK1242 := n3_
              have BK1250 := n4_
              have HB := n5_
              clear n0_ n1_ n2_ n3_ n4_ n5_
              have hnb68 := NB1250_1241.out
              have hnc68 := NB1241_1250.out
              have hnb69 := NB1250_1242.out
              have hnc69 := NB1242_1250.out
              have hcz70_0 : w67.cell? ⟨gb1250, 0, none⟩ = some (.slice Ao12 t1243.length co12) := (blk_cell BK1250.out 0).trans rfl
              have hcz70_1 : w67.cell? ⟨gb1250, 1, none⟩ = some (.int .i64 t1246) := (blk_cell BK1250.out 1).trans rfl
              have hcz70_2 : w67.cell? ⟨gb1250, 2, none⟩ = some (.slice (some ⟨go51, 0, none⟩) t1247.length co16) := (blk_cell BK1250.out 2).trans rfl
              have hfz70_0 := blk_frozen BK1250.out 0
              have hfz70_1 := blk_frozen BK1250.out 1
              have hfz70_2 := blk_frozen BK1250.out 2
              try go_wp2_with (first | ((with_reducible refine gate_callee (f := 64) rfl ?_); refine goesL_ (some 45) rfl rfl Try.func64 (by kernel_rfl) rfl #[.agg #[.slice Ao12 t1243.length co12, .int .i64 t1246, .slice (some ⟨go51, 0, none⟩) y1256.length co16]] rfl (by (try simp only [List.map_toArray, List.map_cons, List.map_nil]); first | done | (rw [show y1256.length = t1247.length from (Kd.R_reads' HO_1251002.out).1.symm] <;> rfl) | rfl | (simp only [List.length_drop, List.length_take]; rfl)) ?_; (with_reducible refine (impl_WorkOk.calls _ _ t1243 t1246 _ _ y1256 false _ ?side1 ?side2 ?side3 ?side4 A52.out).mono ?_); (case side1 => repeat (first | exact (Kd.R_reads' HO_1251000.out).2.2 | (with_reducible refine Kd.C_alloc ?_ _) | (with_reducible refine Kd.C_drewN ?_ _) | (with_reducible refine Kd.C_drew ?_))); (case side2 => exact (Kd.R_reads' HO_1251000.out).2.1); (case side3 => repeat (first | exact (Kd.R_reads' HO_1251002.out).2.2 | (with_reducible refine Kd.C_alloc ?_ _) | (with_reducible refine Kd.C_drewN ?_ _) | (with_reducible refine Kd.C_drew ?_))); (case side4 => rw [show y1256.length = t1247.length from (Kd.R_reads' HO_1251002.out).1.symm]; exact (Kd.R_reads' HO_1251002.out).2.1); rintro e w71 ⟨rfl, hb⟩; refine ⟨_, rfl, ?_⟩; have n0_ := Aside0.mk (Kd.R_below (oR HO_1251000) hb); have n1_ := Aside0.mk (Kd.R_below (oR HO_1251002) hb); have n2_ := Aside0.mk (blk_below (g := gb1241) (o := .cells #[.slice A0_0 l0_0.length c0_0, .int .i64 a0_1, .slice A0_2 l0_2.length c0_2] 33 (0, 0)) (oK BK1241) hb); have n3_ := Aside0.mk (blk_below (g := gb1242) (o := .cells #[.slice none 0 0, .int .i64 0, .slice none 0 0] 33 (0, 0)) (oK BK1242) hb); have n4_ := Aside0.mk (blk_below (g := gb1250) (o := .cells #[.slice Ao12 t1243.length co12, .int .i64 t1246, .slice (some ⟨go51, 0, none⟩) t1247.length co16] 33 (0, 0)) (oK BK1250) hb); have n5_ := Aside0.mk (below_step (oB HB) hb); clear HO_1251000; clear HO_1251002; clear BK1241; clear BK1242; clear BK1250; clear HB; have HO_1251000 := n0_; have HO_1251002 := n1_; have BK1241 := n2_; have BK1242 := n3_; have BK1250 := n4_; have HB := n5_; clear n0_ n1_ n2_ n3_ n4_ n5_; (try clear hb); (try clear hb2); (try clear hk); (try clear hi); have hnb72 := NB1241_1242.out; have hnc72 := NB1242_1241.out; have hcz73_0 : w71.cell? ⟨gb1241, 0, none⟩ = some (.slice A0_0 l0_0.length c0_0) := (blk_cell BK1241.out 0).trans rfl; have hcz73_1 : w71.cell? ⟨gb1241, 1, none⟩ = some (.int .i64 a0_1) := (blk_cell BK1241.out 1).trans rfl; have hcz73_2 : w71.cell? ⟨gb1241, 2, none⟩ = some (.slice A0_2 l0_2.length c0_2) := (blk_cell BK1241.out 2).trans rfl; have hfz73_0 := blk_frozen BK1241.out 0; have hfz73_1 := blk_frozen BK1241.out 1; have hfz73_2 := blk_frozen BK1241.out 2) | ((with_reducible refine gate_callee (f := 119) rfl ?_); refine goesL_ (some 48) rfl rfl Try.func119 (by kernel_rfl) rfl #[.agg #[.slice A0_0 l0_0.length c0_0, .int .i64 a0_1, .slice A0_2 l0_2.length c0_2]] rfl (by (try simp only [List.map_toArray, List.map_cons, List.map_nil]); first | done | rfl | (simp only [List.length_drop, List.length_take]; rfl)) ?_; (with_reducible refine (impl_copyWork.calls _ _ l0_0 a0_1 _ _ l0_2 t1258 t1261 t1262 _ ?side1 ?side2 ?side3 ?side4 A64.out).mono ?_); (case side1 => exact oc_ HR0_0.out); (case side2 => exact HC0_0.out); (case side3 => exact oc_ HR0_2.out); (case side4 => exact HC0_2.out); rintro e w74 ⟨v1259, v1263, rfl, ho0, ho1, hb⟩; refine ⟨_, rfl, ?_⟩; have n0_ := Aside0.mk (Kd.R_elder' (oR HO_1251000) (Kd.R_base ho0) hb); have n1_ := Aside0.mk (Kd.R_elder' (oR HO_1251002) (Kd.R_base ho1) hb); have n2_ := Aside0.mk (Kd.R_lower (Kd.R_new' ho0 (Kd.R_lt (oR HO_1251000))) (below_size (oB HB))); have n3_ := Aside0.mk (Kd.R_lower (Kd.R_new' ho1 (Kd.R_lt (oR HO_1251002))) (below_size (oB HB))); have n4_ := Aside0.mk (blk_below (g := gb1241) (o := .cells #[.slice A0_0 l0_0.length c0_0, .int .i64 a0_1, .slice A0_2 l0_2.length c0_2] 33 (0, 0)) (oK BK1241) hb); have n5_ := Aside0.mk (blk_below (g := gb1242) (o := .cells #[.slice none 0 0, .int .i64 0, .slice none 0 0] 33 (0, 0)) (oK BK1242) hb); have n6_ := Aside0.mk (blk_below (g := gb1250) (o := .cells #[.slice Ao12 t1243.length co12, .int .i64 t1246, .slice (some ⟨go51, 0, none⟩) t1247.length co16] 33 (0, 0)) (oK BK1250) hb); have n7_ := Aside0.mk (below_step (oB HB) hb); clear HO_1251000; clear HO_1251002; clear BK1241; clear BK1242; clear BK1250; clear HB; have HO_1251000 := n0_; have HO_1251002 := n1_; have HO1260 := n2_; have HO1264 := n3_; have BK1241 := n4_; have BK1242 := n5_; have BK1250 := n6_; have HB := n7_; clear n0_ n1_ n2_ n3_ n4_ n5_ n6_ n7_; (try clear hb); (try clear hb2); (try clear hk); (try clear hi); (try clear ho0); (try clear ho1); obtain ⟨Ao75, co75, eo75⟩ := Kd.R_slice HO1260.out; subst eo75; have hcz76_0 : w74.cell? ⟨gb1242, 0, none⟩ = some (.slice none 0 0) := (blk_cell BK1242.out 0).trans rfl; have hcz76_1 : w74.cell? ⟨gb1242, 1, none⟩ = some (.int .i64 0) := (blk_cell BK1242.out 1).trans rfl; have hcz76_2 : w74.cell? ⟨gb1242, 2, none⟩ = some (.slice none 0 0) := (blk_cell BK1242.out 2).trans rfl; have hfz76_0 := blk_frozen BK1242.out 0; have hfz76_1 := blk_frozen BK1242.out 1; have hfz76_2 := blk_frozen BK1242.out 2; obtain ⟨Ao77, co77, eo77⟩ := Kd.R_slice HO1264.out; subst eo77))
              refine bodyPost_ret (results_ct rfl _ _ gb1242 33 #[.slice Ao75 t1258.length co75, .int .i64 t1261, .slice Ao77 t1262.length co77] (0, 0) _ rfl (by (with_reducible repeat (first | refine blk_drewN ?_ _ | refine blk_drew ?_ | refine blk_alloc ?_ _)); refine blk_put (cs := #[.slice Ao75 t1258.length co75, .int .i64 t1261, .slice none 0 0]) ?_ 2 _ rfl; (with_reducible repeat (first | refine blk_drewN ?_ _ | refine blk_drew ?_ | refine blk_alloc ?_ _)); refine blk_put (cs := #[.slice Ao75 t1258.length co75, .int .i64 0, .slice none 0 0]) ?_ 1 _ rfl; (with_reducible repeat (first | refine blk_drewN ?_ _ | refine blk_drew ?_ | refine blk_alloc ?_ _)); refine blk_put (cs := #[.slice none 0 0, .int .i64 0, .slice none 0 0]) ?_ 0 _ rfl; (with_reducible repeat (first | refine blk_drewN ?_ _ | refine blk_drew ?_ | refine blk_alloc ?_ _)); exact BK1242.out) Try.underlying33 rfl (by kernel_rfl)) rfl ?_
              exact ⟨_, _, by first | rfl | (simp [errW_none, errW_some] <;> rfl) | (simp [*, errW_none, errW_some] <;> rfl), by (with_reducible repeat (first | apply Kd.R_alloc | apply Kd.R_drewN | apply Kd.R_drew)); exact Kd.R_mono (Kd.R_far (p := ⟨gb1242, 2, none⟩) (Kd.R_far (p := ⟨gb1242, 1, none⟩) (Kd.R_far (p := ⟨gb1242, 0, none⟩) (Kd.R_types HO1260.out BK1242.out (by decide)) (fun _ hk => hk.2) (.slice Ao75 t1258.length co75)) (fun _ hk => hk.2) (.int .i64 t1261)) (fun _ hk => hk.2) (.slice Ao77 t1262.length co77)) (fun _ hk => trivial), by (with_reducible repeat (first | apply Kd.R_alloc | apply Kd.R_drewN | apply Kd.R_drew)); exact Kd.R_mono (Kd.R_far (p := ⟨gb1242, 2, none⟩) (Kd.R_far (p := ⟨gb1242, 1, none⟩) (Kd.R_far (p := ⟨gb1242, 0, none⟩) (Kd.R_types HO1264.out BK1242.out (by decide)) (fun _ hk => hk.2) (.slice Ao75 t1258.length co75)) (fun _ hk => hk.2) (.int .i64 t1261)) (fun _ hk => hk.2) (.slice Ao77 t1262.length co77)) (fun _ hk => trivial), oB HB⟩
          · rw [if_neg c50] at H
            exact absurd H (by simp)
        · rw [if_neg c49] at H
          exact absurd H (by simp)
end Go.Proofs.Ytbkkpllejgedcaa.P


namespace Go.Proofs.Ytbkkpllejgedcaa.P
open Go.RowKit Go.Proofs.YtbkkpllejgedcaaW.PrintWords Go.Proofs.YtbkkpllejgedcaaW.PrintLast Go.Proofs.YtbkkpllejgedcaaW.PrintMore Go.Proofs.Ytbkkpllejgedcaa.V
attribute [local go_sem] cell_b frozen_b
attribute [local go_sem] max2_int min2_int max_two min_two max_three min_three max_four min_four
set_option linter.unusedVariables false
set_option linter.unusedSimpArgs false
def impl_ShopKnock.f (k : Nat) (l0_0 : List (S96)) (a0_1 : Int) (l0_2 : List Int) (a0_3 : Int) (a0_4 : Int) (l0_5 : List (S74)) (a1 : Int) (a2 : Int) : Option ((List (S96)) × Int × List Int × Int × Int × (List (S74)) × Bool) := (impl_copyShop.f l0_0 a0_1 l0_2 a0_3 a0_4 l0_5).bind fun bt1267 => ((impl_ShopOk.f k l0_0 a0_1 l0_2 a0_3 a0_4 l0_5).bind fun t1280 => (if t1280 = true then ((impl_KnockKey.f k l0_0 a0_1 l0_2 a1 a2).bind fun bt1281 => (some (bt1281.1, bt1281.2.1, bt1281.2.2.1, bt1267.2.2.2.1, bt1267.2.2.2.2.1, bt1267.2.2.2.2.2, bt1281.2.2.2))) else (some (bt1267.1, bt1267.2.1, bt1267.2.2.1, bt1267.2.2.2.1, bt1267.2.2.2.2.1, bt1267.2.2.2.2.2, false))))
set_option maxHeartbeats 8000000 in
set_option maxRecDepth 100000 in
set_option synthInstance.maxHeartbeats 400000 in
set_option synthInstance.maxSize 100000 in
theorem impl_ShopKnock.calls (k : Nat) (A0_0 : Option Addr) (c0_0 : Nat) (l0_0 : List (S96)) (a0_1 : Int) (A0_2 : Option Addr) (c0_2 : Nat) (l0_2 : List Int) (a0_3 : Int) (a0_4 : Int) (A0_5 : Option Addr) (c0_5 : Nat) (l0_5 : List (S74)) (a1 : Int) (a2 : Int) (r1 : List (S96)) (r2 : Int) (r3 : List Int) (r4 : Int) (r5 : Int) (r6 : List (S74)) (r7 : Bool) (w : World) (hr0_0 : Kd.C k96 w A0_0 l0_0.length l0_0) (hc0_0 : l0_0.length ≤ c0_0) (hr0_2 : Kd.C (Kd.int .i64) w A0_2 l0_2.length l0_2) (hc0_2 : l0_2.length ≤ c0_2) (hr0_5 : Kd.C k74 w A0_5 l0_5.length l0_5) (hc0_5 : l0_5.length ≤ c0_5) (h : impl_ShopKnock.f k l0_0 a0_1 l0_2 a0_3 a0_4 l0_5 a1 a2 = some (r1, r2, r3, r4, r5, r6, r7)) :
    Calls Try.prog 40 #[.agg #[.slice A0_0 l0_0.length c0_0, .int .i64 a0_1, .slice A0_2 l0_2.length c0_2, .int .i64 a0_3, .int .i64 a0_4, .slice A0_5 l0_5.length c0_5], .int .i64 a1, .int .i64 a2] w fun e w' => ∃ v0_ v2_ v5_ : Value, e = .returned (.tuple #[.agg #[v0_, .int .i64 r2, v2_, .int .i64 r4, .int .i64 r5, v5_], .bool r7]) ∧ Kd.R k96 96 w' w.heap.size (fun _ => True) v0_ r1 ∧ Kd.R (Kd.int .i64) 3 w' w.heap.size (fun _ => True) v2_ r3 ∧ Kd.R k74 74 w' w.heap.size (fun _ => True) v5_ r6 ∧ Below w.heap.size w w' := by
  have ihr0_0 := RdE.mk hr0_0
  have ihc0_0 := LeI.mk hc0_0
  have ihr0_2 := RdE.mk hr0_2
  have ihc0_2 := LeI.mk hc0_2
  have ihr0_5 := RdE.mk hr0_5
  have ihc0_5 := LeI.mk hc0_5
  clear hr0_0 hc0_0 hr0_2 hc0_2 hr0_5 hc0_5
  unfold impl_ShopKnock.f at h
  have hu33 := Try.underlying33
  have hu36 := Try.underlying36
  (repeat' first | ((with_reducible replace h := ite_some h); rcases h with ⟨hc, h⟩ | ⟨hc, h⟩ <;> first | exact (none_some h).elim | exact absurd hc (by decide) | subst hc | (replace hc := Bool.eq_false_iff.mpr hc; subst hc) | (have hd := beq_iff_eq.mpr hc; have he := bne_eq_false_iff_eq.mpr hc; clear hc) | (have hd := beq_eq_false_iff_ne.mpr hc; have he := bne_iff_ne.mpr hc) | (have hd := decide_eq_false hc) | (have hd := decide_eq_true hc) | skip))
  all_goals go_enter Try.func40, Try.ntmps40
  all_goals go_wp2_with (first
    | ((with_reducible refine gate_dst (N := 3) rfl ?_); refine box_event rfl (N := 3) rfl (cs := #[.slice A0_0 l0_0.length c0_0, .int .i64 a0_1, .slice A0_2 l0_2.length c0_2, .int .i64 a0_3, .int .i64 a0_4, .slice A0_5 l0_5.length c0_5]) (t := 36) (by first | (go_simp; done) | (go_simp; rfl)) ?_; intro g hg w1 hk hb; have j1 := Born.mk hg; have j2 := Bel.mk hb; have j3 := Blk.mk hk; clear hg hb hk)
    | ((with_reducible refine gate_dst (N := 6) rfl ?_); refine box_event rfl (N := 6) rfl (cs := #[.slice none 0 0, .int .i64 0, .slice none 0 0, .int .i64 0, .int .i64 0, .slice none 0 0]) (t := 36) (by first | (go_simp; done) | (go_simp; rfl)) ?_; intro g hg w1 hk hb; have j1 := Born.mk hg; have j2 := Bel.mk hb; have j3 := Blk.mk hk; clear hg hb hk)
    | ((with_reducible refine gate_dst (N := 8) rfl ?_); refine box_event rfl (N := 8) rfl (cs := #[.slice none 0 0, .int .i64 0, .slice none 0 0, .int .i64 0, .int .i64 0, .slice none 0 0]) (t := 36) (by first | (go_simp; done) | (go_simp; rfl)) ?_; intro g hg w1 hk hb; have j1 := Born.mk hg; have j2 := Bel.mk hb; have j3 := Blk.mk hk; clear hg hb hk)
    | ((with_reducible refine gate_dst (N := 9) rfl ?_); refine box_event rfl (N := 9) rfl (cs := #[.slice none 0 0, .int .i64 0, .slice none 0 0]) (t := 33) (by first | (go_simp; done) | (go_simp; rfl)) ?_; intro g hg w1 hk hb; have j1 := Born.mk hg; have j2 := Bel.mk hb; have j3 := Blk.mk hk; clear hg hb hk)
    | (go_at_call 84; replace h := Option.bind_eq_some_iff.mp h; obtain ⟨⟨t1, t2, t3, t4, t5, t6⟩, A, h⟩ := h; (try dsimp only at h); refine (impl_copyShop.calls _ _ _ _ _ _ _ _ _ _ _ _ _ _ _ _ _ _ _ Rd.out LeI.out Rd.out LeI.out Rd.out LeI.out A).mono ?_; rintro e w2 ⟨v0, v1, v2, rfl, ho0, ho1, ho2, hb⟩; obtain ⟨B0, b0, rfl⟩ := Kd.R_slice ho0; have j0 := RowE.mk ho0; have q0 := LeI.mk (rowLe j0); obtain ⟨B1, b1, rfl⟩ := Kd.R_slice ho1; have j1 := RowE.mk ho1; have q1 := LeI.mk (rowLe j1); obtain ⟨B2, b2, rfl⟩ := Kd.R_slice ho2; have j2 := RowE.mk ho2; have q2 := LeI.mk (rowLe j2); have jb := Bel.mk hb; clear A ho0 ho1 ho2 hb; (repeat' first | ((with_reducible replace h := ite_some h); rcases h with ⟨hc, h⟩ | ⟨hc, h⟩ <;> first | exact (none_some h).elim | exact absurd hc (by decide) | subst hc | (replace hc := Bool.eq_false_iff.mpr hc; subst hc) | (have hd := beq_iff_eq.mpr hc; have he := bne_eq_false_iff_eq.mpr hc; clear hc) | (have hd := beq_eq_false_iff_ne.mpr hc; have he := bne_iff_ne.mpr hc) | (have hd := decide_eq_false hc) | (have hd := decide_eq_true hc) | skip)))
    | (go_at_call 18; replace h := Option.bind_eq_some_iff.mp h; obtain ⟨t, A, h⟩ := h; (try dsimp only at h); refine (impl_ShopOk.calls _ _ _ _ _ _ _ _ _ _ _ _ _ _ _ Rd.out LeI.out Rd.out LeI.out Rd.out LeI.out A).mono ?_; rintro e w2 ⟨rfl, hb⟩; have jb := Bel.mk hb; clear A hb; (repeat' first | ((with_reducible replace h := ite_some h); rcases h with ⟨hc, h⟩ | ⟨hc, h⟩ <;> first | exact (none_some h).elim | exact absurd hc (by decide) | subst hc | (replace hc := Bool.eq_false_iff.mpr hc; subst hc) | (have hd := beq_iff_eq.mpr hc; have he := bne_eq_false_iff_eq.mpr hc; clear hc) | (have hd := beq_eq_false_iff_ne.mpr hc; have he := bne_iff_ne.mpr hc) | (have hd := decide_eq_false hc) | (have hd := decide_eq_true hc) | skip)))
    | (go_at_call 86; replace h := Option.bind_eq_some_iff.mp h; obtain ⟨⟨t1, t2, t3, t4⟩, A, h⟩ := h; (try dsimp only at h); refine (impl_KnockKey.calls _ _ _ _ _ _ _ _ _ _ _ _ _ _ _ Rd.out LeI.out Rd.out LeI.out A).mono ?_; rintro e w2 ⟨v0, v1, rfl, ho0, ho1, hb⟩; obtain ⟨B0, b0, rfl⟩ := Kd.R_slice ho0; have j0 := RowE.mk ho0; have q0 := LeI.mk (rowLe j0); obtain ⟨B1, b1, rfl⟩ := Kd.R_slice ho1; have j1 := RowE.mk ho1; have q1 := LeI.mk (rowLe j1); have jb := Bel.mk hb; clear A ho0 ho1 hb; (repeat' first | ((with_reducible replace h := ite_some h); rcases h with ⟨hc, h⟩ | ⟨hc, h⟩ <;> first | exact (none_some h).elim | exact absurd hc (by decide) | subst hc | (replace hc := Bool.eq_false_iff.mpr hc; subst hc) | (have hd := beq_iff_eq.mpr hc; have he := bne_eq_false_iff_eq.mpr hc; clear hc) | (have hd := beq_eq_false_iff_ne.mpr hc; have he := bne_iff_ne.mpr hc) | (have hd := decide_eq_false hc) | (have hd := decide_eq_true hc) | skip))))
  all_goals (repeat' first | ((with_reducible replace h := ite_some h); rcases h with ⟨hc, h⟩ | ⟨hc, h⟩ <;> first | exact (none_some h).elim | exact absurd hc (by decide) | subst hc | (replace hc := Bool.eq_false_iff.mpr hc; subst hc) | (have hd := beq_iff_eq.mpr hc; have he := bne_eq_false_iff_eq.mpr hc; clear hc) | (have hd := beq_eq_false_iff_ne.mpr hc; have he := bne_iff_ne.mpr hc) | (have hd := decide_eq_false hc) | (have hd := decide_eq_true hc) | skip))
  all_goals simp only [Option.some.injEq, Prod.mk.injEq] at h
  all_goals obtain ⟨rfl, rfl, rfl, rfl, rfl, rfl, rfl⟩ := h
  all_goals refine bodyPost_ret (results_ct rfl _ _ _ _ _ (0, 0) _ rfl Blk.out Try.underlying36 rfl (by kernel_rfl)) rfl ?_
  all_goals exact ⟨_, _, _, rfl, (by first | exact rowFin | exact Kd.R_nil _ _ _ _ _), (by first | exact rowFin | exact Kd.R_nil _ _ _ _ _), (by first | exact rowFin | exact Kd.R_nil _ _ _ _ _), From.out⟩
end Go.Proofs.Ytbkkpllejgedcaa.P


namespace Go.Proofs.Ytbkkpllejgedcaa.P
open Go.RowKit Go.Proofs.YtbkkpllejgedcaaW.PrintWords Go.Proofs.YtbkkpllejgedcaaW.PrintLast Go.Proofs.YtbkkpllejgedcaaW.PrintMore Go.Proofs.Ytbkkpllejgedcaa.V
attribute [local go_sem] cell_b frozen_b
attribute [local go_sem] max2_int min2_int max_two min_two max_three min_three max_four min_four
set_option linter.unusedVariables false
set_option linter.unusedSimpArgs false
mutual
def laws_FnExactShopKnock.j0 : Nat → Int → Int → Bool → Bool → Bool → List (S98) → Int → List Int → Int → Int → List (S68) → List (S96) → Int → List Int → Int → Int → List (S74) → List (S96) → Int → List Int → Int → Int → List (S74) → List (S96) → Int → List Int → Int → Int → List (S74) → Option (Bool)
  | 0, _, _, _, _, _, _, _, _, _, _, _, _, _, _, _, _, _, _, _, _, _, _, _, _, _, _, _, _, _ => none
  | k + 1, x1, x2, x9, x12, x48, x1291000, x1291001, x1291002, x1291003, x1291004, x1291005, x1318000, x1318001, x1318002, x1318003, x1318004, x1318005, x1331000, x1331001, x1331002, x1331003, x1331004, x1331005, x1345000, x1345001, x1345002, x1345003, x1345004, x1345005 => if x48 = true then (some false) else ((laws_toShop.f k x1291000 x1291001 x1291002 x1291003 x1291004 x1291005).bind fun bt1346 => ((laws_eqShop.f k x1331000 x1331001 x1331002 x1331003 x1331004 x1331005 bt1346.1 bt1346.2.1 bt1346.2.2.1 bt1346.2.2.2.1 bt1346.2.2.2.2.1 bt1346.2.2.2.2.2).bind fun t1358 => (if t1358 = true then ((laws_markShop.f k x1331000 x1331001 x1331002 x1331003 x1331004 x1331005 1).bind fun bt1359 => (if bt1359.1 < 0 then (laws_FnExactShopKnock.j1 k x1 x2 x9 true x1291000 x1291001 x1291002 x1291003 x1291004 x1291005 x1318000 x1318001 x1318002 x1318003 x1318004 x1318005 x1345000 x1345001 x1345002 x1345003 x1345004 x1345005) else ((laws_eqShop.f k x1345000 x1345001 x1345002 x1345003 x1345004 x1345005 x1318000 x1318001 x1318002 x1318003 x1318004 x1318005).bind fun t1363 => (if t1363 = true then (laws_FnExactShopKnock.j1 k x1 x2 x9 (x12 != x9) x1291000 x1291001 x1291002 x1291003 x1291004 x1291005 x1318000 x1318001 x1318002 x1318003 x1318004 x1318005 x1345000 x1345001 x1345002 x1345003 x1345004 x1345005) else (laws_FnExactShopKnock.j1 k x1 x2 x9 true x1291000 x1291001 x1291002 x1291003 x1291004 x1291005 x1318000 x1318001 x1318002 x1318003 x1318004 x1318005 x1345000 x1345001 x1345002 x1345003 x1345004 x1345005))))) else (some false))))
def laws_FnExactShopKnock.j1 : Nat → Int → Int → Bool → Bool → List (S98) → Int → List Int → Int → Int → List (S68) → List (S96) → Int → List Int → Int → Int → List (S74) → List (S96) → Int → List Int → Int → Int → List (S74) → Option (Bool)
  | 0, _, _, _, _, _, _, _, _, _, _, _, _, _, _, _, _, _, _, _, _, _, _ => none
  | k + 1, x1, x2, x9, x69, x1291000, x1291001, x1291002, x1291003, x1291004, x1291005, x1318000, x1318001, x1318002, x1318003, x1318004, x1318005, x1345000, x1345001, x1345002, x1345003, x1345004, x1345005 => if x69 = true then (some false) else ((laws_markShop.f k x1345000 x1345001 x1345002 x1345003 x1345004 x1345005 1).bind fun bt1364 => ((laws_heldShop.f k bt1364.2.1 x1345001 bt1364.2.2.1 x1345003 x1345004 bt1364.2.2.2 1).bind fun t1368 => (if t1368 < 0 then (some false) else (if t1368 = bt1364.1 then ((laws_toShop.f k x1291000 x1291001 x1291002 x1291003 x1291004 x1291005).bind fun bt1369 => ((impl_ShopKnock.f k bt1369.1 bt1369.2.1 bt1369.2.2.1 bt1369.2.2.2.1 bt1369.2.2.2.2.1 bt1369.2.2.2.2.2 x1 x2).bind fun bt1381 => ((laws_eqShop.f k bt1381.1 bt1381.2.1 bt1381.2.2.1 bt1381.2.2.2.1 bt1381.2.2.2.2.1 bt1381.2.2.2.2.2.1 x1318000 x1318001 x1318002 x1318003 x1318004 x1318005).bind fun t1395 => (if t1395 = true then (laws_FnExactShopKnock.j2 k bt1364.1 (bt1381.2.2.2.2.2.2 != x9) bt1364.2.1 x1345001 bt1364.2.2.1 x1345003 x1345004 bt1364.2.2.2) else (laws_FnExactShopKnock.j2 k bt1364.1 true bt1364.2.1 x1345001 bt1364.2.2.1 x1345003 x1345004 bt1364.2.2.2))))) else (some false)))))
def laws_FnExactShopKnock.j2 : Nat → Int → Bool → List (S96) → Int → List Int → Int → Int → List (S74) → Option (Bool)
  | 0, _, _, _, _, _, _, _, _ => none
  | k + 1, x14, x97, x1345000, x1345001, x1345002, x1345003, x1345004, x1345005 => if x97 = true then (some false) else ((laws_heldShop.f k x1345000 x1345001 x1345002 x1345003 x1345004 x1345005 1).bind fun t1396 => (if t1396 < 0 then (some false) else (if t1396 = x14 then (some true) else (some false))))
end
def laws_FnExactShopKnock.f (k : Nat) (l0_0 : List (S98)) (a0_1 : Int) (l0_2 : List Int) (a0_3 : Int) (a0_4 : Int) (l0_5 : List (S68)) (a1 : Int) (a2 : Int) : Option (Bool) := (laws_szShop.f l0_0 a0_1 l0_2 a0_3 a0_4 l0_5 1048576).bind fun t1291 => (if t1291 < 0 then (some true) else ((laws_toShop.f k l0_0 a0_1 l0_2 a0_3 a0_4 l0_5).bind fun bt1292 => ((spec_ShopKnock.f k bt1292.1 bt1292.2.1 bt1292.2.2.1 bt1292.2.2.2.1 bt1292.2.2.2.2.1 bt1292.2.2.2.2.2 a1 a2).bind fun bt1304 => ((laws_toShop.f k l0_0 a0_1 l0_2 a0_3 a0_4 l0_5).bind fun bt1318 => ((impl_ShopKnock.f k bt1318.1 bt1318.2.1 bt1318.2.2.1 bt1318.2.2.2.1 bt1318.2.2.2.2.1 bt1318.2.2.2.2.2 a1 a2).bind fun bt1331 => ((laws_eqShop.f k bt1331.1 bt1331.2.1 bt1331.2.2.1 bt1331.2.2.2.1 bt1331.2.2.2.2.1 bt1331.2.2.2.2.2.1 bt1304.1 bt1304.2.1 bt1304.2.2.1 bt1304.2.2.2.1 bt1304.2.2.2.2.1 bt1304.2.2.2.2.2.1).bind fun t1345 => (if t1345 = true then (laws_FnExactShopKnock.j0 k a1 a2 bt1304.2.2.2.2.2.2 bt1331.2.2.2.2.2.2 (bt1331.2.2.2.2.2.2 != bt1304.2.2.2.2.2.2) l0_0 a0_1 l0_2 a0_3 a0_4 l0_5 bt1304.1 bt1304.2.1 bt1304.2.2.1 bt1304.2.2.2.1 bt1304.2.2.2.2.1 bt1304.2.2.2.2.2.1 bt1318.1 bt1318.2.1 bt1318.2.2.1 bt1318.2.2.2.1 bt1318.2.2.2.2.1 bt1318.2.2.2.2.2 bt1331.1 bt1331.2.1 bt1331.2.2.1 bt1331.2.2.2.1 bt1331.2.2.2.2.1 bt1331.2.2.2.2.2.1) else (laws_FnExactShopKnock.j0 k a1 a2 bt1304.2.2.2.2.2.2 bt1331.2.2.2.2.2.2 true l0_0 a0_1 l0_2 a0_3 a0_4 l0_5 bt1304.1 bt1304.2.1 bt1304.2.2.1 bt1304.2.2.2.1 bt1304.2.2.2.2.1 bt1304.2.2.2.2.2.1 bt1318.1 bt1318.2.1 bt1318.2.2.1 bt1318.2.2.2.1 bt1318.2.2.2.2.1 bt1318.2.2.2.2.2 bt1331.1 bt1331.2.1 bt1331.2.2.1 bt1331.2.2.2.1 bt1331.2.2.2.2.1 bt1331.2.2.2.2.2.1))))))))
set_option maxHeartbeats 8000000 in
set_option maxRecDepth 100000 in
set_option synthInstance.maxHeartbeats 400000 in
set_option synthInstance.maxSize 100000 in
theorem laws_FnExactShopKnock.calls (k : Nat) (A0_0 : Option Addr) (c0_0 : Nat) (l0_0 : List (S98)) (a0_1 : Int) (A0_2 : Option Addr) (c0_2 : Nat) (l0_2 : List Int) (a0_3 : Int) (a0_4 : Int) (A0_5 : Option Addr) (c0_5 : Nat) (l0_5 : List (S68)) (a1 : Int) (a2 : Int) (r : Bool) (w : World) (hr0_0 : Kd.C k98 w A0_0 l0_0.length l0_0) (hc0_0 : l0_0.length ≤ c0_0) (hr0_2 : Kd.C (Kd.int .i64) w A0_2 l0_2.length l0_2) (hc0_2 : l0_2.length ≤ c0_2) (hr0_5 : Kd.C k68 w A0_5 l0_5.length l0_5) (hc0_5 : l0_5.length ≤ c0_5) (h : laws_FnExactShopKnock.f k l0_0 a0_1 l0_2 a0_3 a0_4 l0_5 a1 a2 = some r) (hrt_ : Aside0 (r = true)) :
    Calls Try.prog 10 #[.agg #[.slice A0_0 l0_0.length c0_0, .int .i64 a0_1, .slice A0_2 l0_2.length c0_2, .int .i64 a0_3, .int .i64 a0_4, .slice A0_5 l0_5.length c0_5], .int .i64 a1, .int .i64 a2] w fun e w' => e = .returned (.bool r) ∧ Below w.heap.size w w' := by
  have ihr0_0 := RdE.mk hr0_0
  have ihc0_0 := LeI.mk hc0_0
  have ihr0_2 := RdE.mk hr0_2
  have ihc0_2 := LeI.mk hc0_2
  have ihr0_5 := RdE.mk hr0_5
  have ihc0_5 := LeI.mk hc0_5
  clear hr0_0 hc0_0 hr0_2 hc0_2 hr0_5 hc0_5
  obtain rfl := hrt_.out
  clear hrt_
  unfold laws_FnExactShopKnock.f at h
  have hu28 := Try.underlying28
  have hu36 := Try.underlying36
  (repeat' first | ((with_reducible replace h := ite_some h); rcases h with ⟨hc, h⟩ | ⟨hc, h⟩ <;> first | exact (none_some h).elim | exact absurd (Option.some.inj h) (by decide) | exact absurd hc (by decide) | subst hc | (replace hc := Bool.eq_false_iff.mpr hc; subst hc) | (have hd := Bool.eq_false_iff.mpr hc) | (have hd := beq_iff_eq.mpr hc; have he := bne_eq_false_iff_eq.mpr hc; clear hc) | (have hd := beq_eq_false_iff_ne.mpr hc; have he := bne_iff_ne.mpr hc) | (have hd := decide_eq_false hc) | (have hd := decide_eq_true hc) | skip) | ((have hj : laws_FnExactShopKnock.j0 k _ _ _ _ _ _ _ _ _ _ _ _ _ _ _ _ _ _ _ _ _ _ _ _ _ _ _ _ _ = _ := h); clear hj; rcases k with _ | k <;> rw [laws_FnExactShopKnock.j0] at h <;> first | exact (none_some h).elim | skip) | ((have hj : laws_FnExactShopKnock.j1 k _ _ _ _ _ _ _ _ _ _ _ _ _ _ _ _ _ _ _ _ _ _ = _ := h); clear hj; rcases k with _ | k <;> rw [laws_FnExactShopKnock.j1] at h <;> first | exact (none_some h).elim | skip) | ((have hj : laws_FnExactShopKnock.j2 k _ _ _ _ _ _ _ _ = _ := h); clear hj; rcases k with _ | k <;> rw [laws_FnExactShopKnock.j2] at h <;> first | exact (none_some h).elim | skip))
  all_goals go_enter Try.func10, Try.ntmps10
  all_goals go_wp2_with (first
    | ((with_reducible refine gate_dst (N := 3) rfl ?_); refine box_event rfl (N := 3) rfl (cs := #[.slice A0_0 l0_0.length c0_0, .int .i64 a0_1, .slice A0_2 l0_2.length c0_2, .int .i64 a0_3, .int .i64 a0_4, .slice A0_5 l0_5.length c0_5]) (t := 28) (by first | (go_simp; done) | (go_simp; rfl)) ?_; intro g hg w1 hk hb; have j1 := Born.mk hg; have j2 := Bel.mk hb; have j3 := Blk.mk hk; clear hg hb hk)
    | ((with_reducible refine gate_dst (N := 8) rfl ?_); refine box_event rfl (N := 8) rfl (cs := #[.slice none 0 0, .int .i64 0, .slice none 0 0, .int .i64 0, .int .i64 0, .slice none 0 0]) (t := 36) (by first | (go_simp; done) | (go_simp; rfl)) ?_; intro g hg w1 hk hb; have j1 := Born.mk hg; have j2 := Bel.mk hb; have j3 := Blk.mk hk; clear hg hb hk)
    | ((with_reducible refine gate_dst (N := 10) rfl ?_); refine box_event rfl (N := 10) rfl (cs := #[.slice none 0 0, .int .i64 0, .slice none 0 0, .int .i64 0, .int .i64 0, .slice none 0 0]) (t := 36) (by first | (go_simp; done) | (go_simp; rfl)) ?_; intro g hg w1 hk hb; have j1 := Born.mk hg; have j2 := Bel.mk hb; have j3 := Blk.mk hk; clear hg hb hk)
    | ((with_reducible refine gate_dst (N := 11) rfl ?_); refine box_event rfl (N := 11) rfl (cs := #[.slice none 0 0, .int .i64 0, .slice none 0 0, .int .i64 0, .int .i64 0, .slice none 0 0]) (t := 36) (by first | (go_simp; done) | (go_simp; rfl)) ?_; intro g hg w1 hk hb; have j1 := Born.mk hg; have j2 := Bel.mk hb; have j3 := Blk.mk hk; clear hg hb hk)
    | ((with_reducible refine gate_dst (N := 16) rfl ?_); refine box_event rfl (N := 16) rfl (cs := #[.slice none 0 0, .int .i64 0, .slice none 0 0, .int .i64 0, .int .i64 0, .slice none 0 0]) (t := 36) (by first | (go_simp; done) | (go_simp; rfl)) ?_; intro g hg w1 hk hb; have j1 := Born.mk hg; have j2 := Bel.mk hb; have j3 := Blk.mk hk; clear hg hb hk)
    | (go_at_call 15; replace h := Option.bind_eq_some_iff.mp h; obtain ⟨t, A, h⟩ := h; (try dsimp only at h); refine (laws_szShop.calls _ _ _ _ _ _ _ _ _ _ _ _ _ _ _ Rd.out LeI.out Rd.out LeI.out Rd.out LeI.out A).mono ?_; rintro e w2 ⟨rfl, hb⟩; have jb := Bel.mk hb; clear A hb; (repeat' first | ((with_reducible replace h := ite_some h); rcases h with ⟨hc, h⟩ | ⟨hc, h⟩ <;> first | exact (none_some h).elim | exact absurd (Option.some.inj h) (by decide) | exact absurd hc (by decide) | subst hc | (replace hc := Bool.eq_false_iff.mpr hc; subst hc) | (have hd := Bool.eq_false_iff.mpr hc) | (have hd := beq_iff_eq.mpr hc; have he := bne_eq_false_iff_eq.mpr hc; clear hc) | (have hd := beq_eq_false_iff_ne.mpr hc; have he := bne_iff_ne.mpr hc) | (have hd := decide_eq_false hc) | (have hd := decide_eq_true hc) | skip) | ((have hj : laws_FnExactShopKnock.j0 k _ _ _ _ _ _ _ _ _ _ _ _ _ _ _ _ _ _ _ _ _ _ _ _ _ _ _ _ _ = _ := h); clear hj; rcases k with _ | k <;> rw [laws_FnExactShopKnock.j0] at h <;> first | exact (none_some h).elim | skip) | ((have hj : laws_FnExactShopKnock.j1 k _ _ _ _ _ _ _ _ _ _ _ _ _ _ _ _ _ _ _ _ _ _ = _ := h); clear hj; rcases k with _ | k <;> rw [laws_FnExactShopKnock.j1] at h <;> first | exact (none_some h).elim | skip) | ((have hj : laws_FnExactShopKnock.j2 k _ _ _ _ _ _ _ _ = _ := h); clear hj; rcases k with _ | k <;> rw [laws_FnExactShopKnock.j2] at h <;> first | exact (none_some h).elim | skip)))
    | (go_at_call 17; replace h := Option.bind_eq_some_iff.mp h; obtain ⟨⟨t1, t2, t3, t4, t5, t6⟩, A, h⟩ := h; (try dsimp only at h); refine (laws_toShop.calls _ _ _ _ _ _ _ _ _ _ _ _ _ _ _ _ _ _ _ _ Rd.out LeI.out Rd.out LeI.out Rd.out LeI.out A).mono ?_; rintro e w2 ⟨v0, v1, v2, rfl, ho0, ho1, ho2, hb⟩; obtain ⟨B0, b0, rfl⟩ := Kd.R_slice ho0; have j0 := RowE.mk ho0; have q0 := LeI.mk (rowLe j0); obtain ⟨B1, b1, rfl⟩ := Kd.R_slice ho1; have j1 := RowE.mk ho1; have q1 := LeI.mk (rowLe j1); obtain ⟨B2, b2, rfl⟩ := Kd.R_slice ho2; have j2 := RowE.mk ho2; have q2 := LeI.mk (rowLe j2); have jb := Bel.mk hb; clear A ho0 ho1 ho2 hb; (repeat' first | ((with_reducible replace h := ite_some h); rcases h with ⟨hc, h⟩ | ⟨hc, h⟩ <;> first | exact (none_some h).elim | exact absurd (Option.some.inj h) (by decide) | exact absurd hc (by decide) | subst hc | (replace hc := Bool.eq_false_iff.mpr hc; subst hc) | (have hd := Bool.eq_false_iff.mpr hc) | (have hd := beq_iff_eq.mpr hc; have he := bne_eq_false_iff_eq.mpr hc; clear hc) | (have hd := beq_eq_false_iff_ne.mpr hc; have he := bne_iff_ne.mpr hc) | (have hd := decide_eq_false hc) | (have hd := decide_eq_true hc) | skip) | ((have hj : laws_FnExactShopKnock.j0 k _ _ _ _ _ _ _ _ _ _ _ _ _ _ _ _ _ _ _ _ _ _ _ _ _ _ _ _ _ = _ := h); clear hj; rcases k with _ | k <;> rw [laws_FnExactShopKnock.j0] at h <;> first | exact (none_some h).elim | skip) | ((have hj : laws_FnExactShopKnock.j1 k _ _ _ _ _ _ _ _ _ _ _ _ _ _ _ _ _ _ _ _ _ _ = _ := h); clear hj; rcases k with _ | k <;> rw [laws_FnExactShopKnock.j1] at h <;> first | exact (none_some h).elim | skip) | ((have hj : laws_FnExactShopKnock.j2 k _ _ _ _ _ _ _ _ = _ := h); clear hj; rcases k with _ | k <;> rw [laws_FnExactShopKnock.j2] at h <;> first | exact (none_some h).elim | skip)))
    | (go_at_call 39; replace h := Option.bind_eq_some_iff.mp h; obtain ⟨⟨t1, t2, t3, t4, t5, t6, t7⟩, A, h⟩ := h; (try dsimp only at h); refine (spec_ShopKnock.calls _ _ _ _ _ _ _ _ _ _ _ _ _ _ _ _ _ _ _ _ _ _ _ Rd.out LeI.out Rd.out LeI.out Rd.out LeI.out A).mono ?_; rintro e w2 ⟨v0, v1, v2, rfl, ho0, ho1, ho2, hb⟩; obtain ⟨B0, b0, rfl⟩ := Kd.R_slice ho0; have j0 := RowE.mk ho0; have q0 := LeI.mk (rowLe j0); obtain ⟨B1, b1, rfl⟩ := Kd.R_slice ho1; have j1 := RowE.mk ho1; have q1 := LeI.mk (rowLe j1); obtain ⟨B2, b2, rfl⟩ := Kd.R_slice ho2; have j2 := RowE.mk ho2; have q2 := LeI.mk (rowLe j2); have jb := Bel.mk hb; clear A ho0 ho1 ho2 hb; (repeat' first | ((with_reducible replace h := ite_some h); rcases h with ⟨hc, h⟩ | ⟨hc, h⟩ <;> first | exact (none_some h).elim | exact absurd (Option.some.inj h) (by decide) | exact absurd hc (by decide) | subst hc | (replace hc := Bool.eq_false_iff.mpr hc; subst hc) | (have hd := Bool.eq_false_iff.mpr hc) | (have hd := beq_iff_eq.mpr hc; have he := bne_eq_false_iff_eq.mpr hc; clear hc) | (have hd := beq_eq_false_iff_ne.mpr hc; have he := bne_iff_ne.mpr hc) | (have hd := decide_eq_false hc) | (have hd := decide_eq_true hc) | skip) | ((have hj : laws_FnExactShopKnock.j0 k _ _ _ _ _ _ _ _ _ _ _ _ _ _ _ _ _ _ _ _ _ _ _ _ _ _ _ _ _ = _ := h); clear hj; rcases k with _ | k <;> rw [laws_FnExactShopKnock.j0] at h <;> first | exact (none_some h).elim | skip) | ((have hj : laws_FnExactShopKnock.j1 k _ _ _ _ _ _ _ _ _ _ _ _ _ _ _ _ _ _ _ _ _ _ = _ := h); clear hj; rcases k with _ | k <;> rw [laws_FnExactShopKnock.j1] at h <;> first | exact (none_some h).elim | skip) | ((have hj : laws_FnExactShopKnock.j2 k _ _ _ _ _ _ _ _ = _ := h); clear hj; rcases k with _ | k <;> rw [laws_FnExactShopKnock.j2] at h <;> first | exact (none_some h).elim | skip)))
    | (go_at_call 40; replace h := Option.bind_eq_some_iff.mp h; obtain ⟨⟨t1, t2, t3, t4, t5, t6, t7⟩, A, h⟩ := h; (try dsimp only at h); refine (impl_ShopKnock.calls _ _ _ _ _ _ _ _ _ _ _ _ _ _ _ _ _ _ _ _ _ _ _ Rd.out LeI.out Rd.out LeI.out Rd.out LeI.out A).mono ?_; rintro e w2 ⟨v0, v1, v2, rfl, ho0, ho1, ho2, hb⟩; obtain ⟨B0, b0, rfl⟩ := Kd.R_slice ho0; have j0 := RowE.mk ho0; have q0 := LeI.mk (rowLe j0); obtain ⟨B1, b1, rfl⟩ := Kd.R_slice ho1; have j1 := RowE.mk ho1; have q1 := LeI.mk (rowLe j1); obtain ⟨B2, b2, rfl⟩ := Kd.R_slice ho2; have j2 := RowE.mk ho2; have q2 := LeI.mk (rowLe j2); have jb := Bel.mk hb; clear A ho0 ho1 ho2 hb; (repeat' first | ((with_reducible replace h := ite_some h); rcases h with ⟨hc, h⟩ | ⟨hc, h⟩ <;> first | exact (none_some h).elim | exact absurd (Option.some.inj h) (by decide) | exact absurd hc (by decide) | subst hc | (replace hc := Bool.eq_false_iff.mpr hc; subst hc) | (have hd := Bool.eq_false_iff.mpr hc) | (have hd := beq_iff_eq.mpr hc; have he := bne_eq_false_iff_eq.mpr hc; clear hc) | (have hd := beq_eq_false_iff_ne.mpr hc; have he := bne_iff_ne.mpr hc) | (have hd := decide_eq_false hc) | (have hd := decide_eq_true hc) | skip) | ((have hj : laws_FnExactShopKnock.j0 k _ _ _ _ _ _ _ _ _ _ _ _ _ _ _ _ _ _ _ _ _ _ _ _ _ _ _ _ _ = _ := h); clear hj; rcases k with _ | k <;> rw [laws_FnExactShopKnock.j0] at h <;> first | exact (none_some h).elim | skip) | ((have hj : laws_FnExactShopKnock.j1 k _ _ _ _ _ _ _ _ _ _ _ _ _ _ _ _ _ _ _ _ _ _ = _ := h); clear hj; rcases k with _ | k <;> rw [laws_FnExactShopKnock.j1] at h <;> first | exact (none_some h).elim | skip) | ((have hj : laws_FnExactShopKnock.j2 k _ _ _ _ _ _ _ _ = _ := h); clear hj; rcases k with _ | k <;> rw [laws_FnExactShopKnock.j2] at h <;> first | exact (none_some h).elim | skip)))
    | (go_at_call 19; replace h := Option.bind_eq_some_iff.mp h; obtain ⟨t, A, h⟩ := h; (try dsimp only at h); refine (laws_eqShop.calls _ _ _ _ _ _ _ _ _ _ _ _ _ _ _ _ _ _ _ _ _ _ _ _ _ _ _ Rd.out LeI.out Rd.out LeI.out Rd.out LeI.out Rd.out LeI.out Rd.out LeI.out Rd.out LeI.out A).mono ?_; rintro e w2 ⟨rfl, hb⟩; have jb := Bel.mk hb; clear A hb; (repeat' first | ((with_reducible replace h := ite_some h); rcases h with ⟨hc, h⟩ | ⟨hc, h⟩ <;> first | exact (none_some h).elim | exact absurd (Option.some.inj h) (by decide) | exact absurd hc (by decide) | subst hc | (replace hc := Bool.eq_false_iff.mpr hc; subst hc) | (have hd := Bool.eq_false_iff.mpr hc) | (have hd := beq_iff_eq.mpr hc; have he := bne_eq_false_iff_eq.mpr hc; clear hc) | (have hd := beq_eq_false_iff_ne.mpr hc; have he := bne_iff_ne.mpr hc) | (have hd := decide_eq_false hc) | (have hd := decide_eq_true hc) | skip) | ((have hj : laws_FnExactShopKnock.j0 k _ _ _ _ _ _ _ _ _ _ _ _ _ _ _ _ _ _ _ _ _ _ _ _ _ _ _ _ _ = _ := h); clear hj; rcases k with _ | k <;> rw [laws_FnExactShopKnock.j0] at h <;> first | exact (none_some h).elim | skip) | ((have hj : laws_FnExactShopKnock.j1 k _ _ _ _ _ _ _ _ _ _ _ _ _ _ _ _ _ _ _ _ _ _ = _ := h); clear hj; rcases k with _ | k <;> rw [laws_FnExactShopKnock.j1] at h <;> first | exact (none_some h).elim | skip) | ((have hj : laws_FnExactShopKnock.j2 k _ _ _ _ _ _ _ _ = _ := h); clear hj; rcases k with _ | k <;> rw [laws_FnExactShopKnock.j2] at h <;> first | exact (none_some h).elim | skip)))
    | (go_at_call 28; replace h := Option.bind_eq_some_iff.mp h; obtain ⟨⟨t1, t2, t3, t4⟩, A, h⟩ := h; (try dsimp only at h); refine (laws_markShop.calls _ _ _ _ _ _ _ _ _ _ _ _ _ _ _ _ _ _ w _ From.out rowP rowP rowP A).mono ?_; rintro e w2 ⟨rfl, m0, m1, m2, hb, hk⟩; obtain ⟨e0, q0, c0⟩ := Kd.R_reads' m0; replace q0 := LeI.mk (e0 ▸ q0); have j0 := RdE.mk c0; (try simp only [e0] at *); clear e0 c0 m0; obtain ⟨e1, q1, c1⟩ := Kd.R_reads' m1; replace q1 := LeI.mk (e1 ▸ q1); have j1 := RdE.mk c1; (try simp only [e1] at *); clear e1 c1 m1; obtain ⟨e2, q2, c2⟩ := Kd.R_reads' m2; replace q2 := LeI.mk (e2 ▸ q2); have j2 := RdE.mk c2; (try simp only [e2] at *); clear e2 c2 m2; have jf : From w w2 := ⟨hb⟩; clear hb; have jm := mk3 hk; clear hk; clear A; (repeat' first | ((with_reducible replace h := ite_some h); rcases h with ⟨hc, h⟩ | ⟨hc, h⟩ <;> first | exact (none_some h).elim | exact absurd (Option.some.inj h) (by decide) | exact absurd hc (by decide) | subst hc | (replace hc := Bool.eq_false_iff.mpr hc; subst hc) | (have hd := Bool.eq_false_iff.mpr hc) | (have hd := beq_iff_eq.mpr hc; have he := bne_eq_false_iff_eq.mpr hc; clear hc) | (have hd := beq_eq_false_iff_ne.mpr hc; have he := bne_iff_ne.mpr hc) | (have hd := decide_eq_false hc) | (have hd := decide_eq_true hc) | skip) | ((have hj : laws_FnExactShopKnock.j0 k _ _ _ _ _ _ _ _ _ _ _ _ _ _ _ _ _ _ _ _ _ _ _ _ _ _ _ _ _ = _ := h); clear hj; rcases k with _ | k <;> rw [laws_FnExactShopKnock.j0] at h <;> first | exact (none_some h).elim | skip) | ((have hj : laws_FnExactShopKnock.j1 k _ _ _ _ _ _ _ _ _ _ _ _ _ _ _ _ _ _ _ _ _ _ = _ := h); clear hj; rcases k with _ | k <;> rw [laws_FnExactShopKnock.j1] at h <;> first | exact (none_some h).elim | skip) | ((have hj : laws_FnExactShopKnock.j2 k _ _ _ _ _ _ _ _ = _ := h); clear hj; rcases k with _ | k <;> rw [laws_FnExactShopKnock.j2] at h <;> first | exact (none_some h).elim | skip)))
    | (go_at_call 29; replace h := Option.bind_eq_some_iff.mp h; obtain ⟨t, A, h⟩ := h; (try dsimp only at h); refine (laws_heldShop.calls _ _ _ _ _ _ _ _ _ _ _ _ _ _ _ _ Rd.out LeI.out Rd.out LeI.out Rd.out LeI.out A).mono ?_; rintro e w2 ⟨rfl, hb⟩; have jb := Bel.mk hb; clear A hb; (repeat' first | ((with_reducible replace h := ite_some h); rcases h with ⟨hc, h⟩ | ⟨hc, h⟩ <;> first | exact (none_some h).elim | exact absurd (Option.some.inj h) (by decide) | exact absurd hc (by decide) | subst hc | (replace hc := Bool.eq_false_iff.mpr hc; subst hc) | (have hd := Bool.eq_false_iff.mpr hc) | (have hd := beq_iff_eq.mpr hc; have he := bne_eq_false_iff_eq.mpr hc; clear hc) | (have hd := beq_eq_false_iff_ne.mpr hc; have he := bne_iff_ne.mpr hc) | (have hd := decide_eq_false hc) | (have hd := decide_eq_true hc) | skip) | ((have hj : laws_FnExactShopKnock.j0 k _ _ _ _ _ _ _ _ _ _ _ _ _ _ _ _ _ _ _ _ _ _ _ _ _ _ _ _ _ = _ := h); clear hj; rcases k with _ | k <;> rw [laws_FnExactShopKnock.j0] at h <;> first | exact (none_some h).elim | skip) | ((have hj : laws_FnExactShopKnock.j1 k _ _ _ _ _ _ _ _ _ _ _ _ _ _ _ _ _ _ _ _ _ _ = _ := h); clear hj; rcases k with _ | k <;> rw [laws_FnExactShopKnock.j1] at h <;> first | exact (none_some h).elim | skip) | ((have hj : laws_FnExactShopKnock.j2 k _ _ _ _ _ _ _ _ = _ := h); clear hj; rcases k with _ | k <;> rw [laws_FnExactShopKnock.j2] at h <;> first | exact (none_some h).elim | skip)))
    | ((with_reducible refine region_at ?_); intro w3 jw; go_region_held3 (fun w' => Sin w3 w') (first | exact ⟨From.out⟩ | skip) (first | (go_at_call 15; replace h := Option.bind_eq_some_iff.mp h; obtain ⟨t, A, h⟩ := h; (try dsimp only at h); refine (laws_szShop.calls _ _ _ _ _ _ _ _ _ _ _ _ _ _ _ Rd.out LeI.out Rd.out LeI.out Rd.out LeI.out A).mono ?_; rintro e w2 ⟨rfl, hb⟩; have jb := Bel.mk hb; clear A hb; (repeat' first | ((with_reducible replace h := ite_some h); rcases h with ⟨hc, h⟩ | ⟨hc, h⟩ <;> first | exact (none_some h).elim | exact absurd (Option.some.inj h) (by decide) | exact absurd hc (by decide) | subst hc | (replace hc := Bool.eq_false_iff.mpr hc; subst hc) | (have hd := Bool.eq_false_iff.mpr hc) | (have hd := beq_iff_eq.mpr hc; have he := bne_eq_false_iff_eq.mpr hc; clear hc) | (have hd := beq_eq_false_iff_ne.mpr hc; have he := bne_iff_ne.mpr hc) | (have hd := decide_eq_false hc) | (have hd := decide_eq_true hc) | skip) | ((have hj : laws_FnExactShopKnock.j0 k _ _ _ _ _ _ _ _ _ _ _ _ _ _ _ _ _ _ _ _ _ _ _ _ _ _ _ _ _ = _ := h); clear hj; rcases k with _ | k <;> rw [laws_FnExactShopKnock.j0] at h <;> first | exact (none_some h).elim | skip) | ((have hj : laws_FnExactShopKnock.j1 k _ _ _ _ _ _ _ _ _ _ _ _ _ _ _ _ _ _ _ _ _ _ = _ := h); clear hj; rcases k with _ | k <;> rw [laws_FnExactShopKnock.j1] at h <;> first | exact (none_some h).elim | skip) | ((have hj : laws_FnExactShopKnock.j2 k _ _ _ _ _ _ _ _ = _ := h); clear hj; rcases k with _ | k <;> rw [laws_FnExactShopKnock.j2] at h <;> first | exact (none_some h).elim | skip))) | (go_at_call 17; replace h := Option.bind_eq_some_iff.mp h; obtain ⟨⟨t1, t2, t3, t4, t5, t6⟩, A, h⟩ := h; (try dsimp only at h); refine (laws_toShop.calls _ _ _ _ _ _ _ _ _ _ _ _ _ _ _ _ _ _ _ _ Rd.out LeI.out Rd.out LeI.out Rd.out LeI.out A).mono ?_; rintro e w2 ⟨v0, v1, v2, rfl, ho0, ho1, ho2, hb⟩; obtain ⟨B0, b0, rfl⟩ := Kd.R_slice ho0; have j0 := RowE.mk ho0; have q0 := LeI.mk (rowLe j0); obtain ⟨B1, b1, rfl⟩ := Kd.R_slice ho1; have j1 := RowE.mk ho1; have q1 := LeI.mk (rowLe j1); obtain ⟨B2, b2, rfl⟩ := Kd.R_slice ho2; have j2 := RowE.mk ho2; have q2 := LeI.mk (rowLe j2); have jb := Bel.mk hb; clear A ho0 ho1 ho2 hb; (repeat' first | ((with_reducible replace h := ite_some h); rcases h with ⟨hc, h⟩ | ⟨hc, h⟩ <;> first | exact (none_some h).elim | exact absurd (Option.some.inj h) (by decide) | exact absurd hc (by decide) | subst hc | (replace hc := Bool.eq_false_iff.mpr hc; subst hc) | (have hd := Bool.eq_false_iff.mpr hc) | (have hd := beq_iff_eq.mpr hc; have he := bne_eq_false_iff_eq.mpr hc; clear hc) | (have hd := beq_eq_false_iff_ne.mpr hc; have he := bne_iff_ne.mpr hc) | (have hd := decide_eq_false hc) | (have hd := decide_eq_true hc) | skip) | ((have hj : laws_FnExactShopKnock.j0 k _ _ _ _ _ _ _ _ _ _ _ _ _ _ _ _ _ _ _ _ _ _ _ _ _ _ _ _ _ = _ := h); clear hj; rcases k with _ | k <;> rw [laws_FnExactShopKnock.j0] at h <;> first | exact (none_some h).elim | skip) | ((have hj : laws_FnExactShopKnock.j1 k _ _ _ _ _ _ _ _ _ _ _ _ _ _ _ _ _ _ _ _ _ _ = _ := h); clear hj; rcases k with _ | k <;> rw [laws_FnExactShopKnock.j1] at h <;> first | exact (none_some h).elim | skip) | ((have hj : laws_FnExactShopKnock.j2 k _ _ _ _ _ _ _ _ = _ := h); clear hj; rcases k with _ | k <;> rw [laws_FnExactShopKnock.j2] at h <;> first | exact (none_some h).elim | skip))) | (go_at_call 39; replace h := Option.bind_eq_some_iff.mp h; obtain ⟨⟨t1, t2, t3, t4, t5, t6, t7⟩, A, h⟩ := h; (try dsimp only at h); refine (spec_ShopKnock.calls _ _ _ _ _ _ _ _ _ _ _ _ _ _ _ _ _ _ _ _ _ _ _ Rd.out LeI.out Rd.out LeI.out Rd.out LeI.out A).mono ?_; rintro e w2 ⟨v0, v1, v2, rfl, ho0, ho1, ho2, hb⟩; obtain ⟨B0, b0, rfl⟩ := Kd.R_slice ho0; have j0 := RowE.mk ho0; have q0 := LeI.mk (rowLe j0); obtain ⟨B1, b1, rfl⟩ := Kd.R_slice ho1; have j1 := RowE.mk ho1; have q1 := LeI.mk (rowLe j1); obtain ⟨B2, b2, rfl⟩ := Kd.R_slice ho2; have j2 := RowE.mk ho2; have q2 := LeI.mk (rowLe j2); have jb := Bel.mk hb; clear A ho0 ho1 ho2 hb; (repeat' first | ((with_reducible replace h := ite_some h); rcases h with ⟨hc, h⟩ | ⟨hc, h⟩ <;> first | exact (none_some h).elim | exact absurd (Option.some.inj h) (by decide) | exact absurd hc (by decide) | subst hc | (replace hc := Bool.eq_false_iff.mpr hc; subst hc) | (have hd := Bool.eq_false_iff.mpr hc) | (have hd := beq_iff_eq.mpr hc; have he := bne_eq_false_iff_eq.mpr hc; clear hc) | (have hd := beq_eq_false_iff_ne.mpr hc; have he := bne_iff_ne.mpr hc) | (have hd := decide_eq_false hc) | (have hd := decide_eq_true hc) | skip) | ((have hj : laws_FnExactShopKnock.j0 k _ _ _ _ _ _ _ _ _ _ _ _ _ _ _ _ _ _ _ _ _ _ _ _ _ _ _ _ _ = _ := h); clear hj; rcases k with _ | k <;> rw [laws_FnExactShopKnock.j0] at h <;> first | exact (none_some h).elim | skip) | ((have hj : laws_FnExactShopKnock.j1 k _ _ _ _ _ _ _ _ _ _ _ _ _ _ _ _ _ _ _ _ _ _ = _ := h); clear hj; rcases k with _ | k <;> rw [laws_FnExactShopKnock.j1] at h <;> first | exact (none_some h).elim | skip) | ((have hj : laws_FnExactShopKnock.j2 k _ _ _ _ _ _ _ _ = _ := h); clear hj; rcases k with _ | k <;> rw [laws_FnExactShopKnock.j2] at h <;> first | exact (none_some h).elim | skip))) | (go_at_call 40; replace h := Option.bind_eq_some_iff.mp h; obtain ⟨⟨t1, t2, t3, t4, t5, t6, t7⟩, A, h⟩ := h; (try dsimp only at h); refine (impl_ShopKnock.calls _ _ _ _ _ _ _ _ _ _ _ _ _ _ _ _ _ _ _ _ _ _ _ Rd.out LeI.out Rd.out LeI.out Rd.out LeI.out A).mono ?_; rintro e w2 ⟨v0, v1, v2, rfl, ho0, ho1, ho2, hb⟩; obtain ⟨B0, b0, rfl⟩ := Kd.R_slice ho0; have j0 := RowE.mk ho0; have q0 := LeI.mk (rowLe j0); obtain ⟨B1, b1, rfl⟩ := Kd.R_slice ho1; have j1 := RowE.mk ho1; have q1 := LeI.mk (rowLe j1); obtain ⟨B2, b2, rfl⟩ := Kd.R_slice ho2; have j2 := RowE.mk ho2; have q2 := LeI.mk (rowLe j2); have jb := Bel.mk hb; clear A ho0 ho1 ho2 hb; (repeat' first | ((with_reducible replace h := ite_some h); rcases h with ⟨hc, h⟩ | ⟨hc, h⟩ <;> first | exact (none_some h).elim | exact absurd (Option.some.inj h) (by decide) | exact absurd hc (by decide) | subst hc | (replace hc := Bool.eq_false_iff.mpr hc; subst hc) | (have hd := Bool.eq_false_iff.mpr hc) | (have hd := beq_iff_eq.mpr hc; have he := bne_eq_false_iff_eq.mpr hc; clear hc) | (have hd := beq_eq_false_iff_ne.mpr hc; have he := bne_iff_ne.mpr hc) | (have hd := decide_eq_false hc) | (have hd := decide_eq_true hc) | skip) | ((have hj : laws_FnExactShopKnock.j0 k _ _ _ _ _ _ _ _ _ _ _ _ _ _ _ _ _ _ _ _ _ _ _ _ _ _ _ _ _ = _ := h); clear hj; rcases k with _ | k <;> rw [laws_FnExactShopKnock.j0] at h <;> first | exact (none_some h).elim | skip) | ((have hj : laws_FnExactShopKnock.j1 k _ _ _ _ _ _ _ _ _ _ _ _ _ _ _ _ _ _ _ _ _ _ = _ := h); clear hj; rcases k with _ | k <;> rw [laws_FnExactShopKnock.j1] at h <;> first | exact (none_some h).elim | skip) | ((have hj : laws_FnExactShopKnock.j2 k _ _ _ _ _ _ _ _ = _ := h); clear hj; rcases k with _ | k <;> rw [laws_FnExactShopKnock.j2] at h <;> first | exact (none_some h).elim | skip))) | (go_at_call 19; replace h := Option.bind_eq_some_iff.mp h; obtain ⟨t, A, h⟩ := h; (try dsimp only at h); refine (laws_eqShop.calls _ _ _ _ _ _ _ _ _ _ _ _ _ _ _ _ _ _ _ _ _ _ _ _ _ _ _ Rd.out LeI.out Rd.out LeI.out Rd.out LeI.out Rd.out LeI.out Rd.out LeI.out Rd.out LeI.out A).mono ?_; rintro e w2 ⟨rfl, hb⟩; have jb := Bel.mk hb; clear A hb; (repeat' first | ((with_reducible replace h := ite_some h); rcases h with ⟨hc, h⟩ | ⟨hc, h⟩ <;> first | exact (none_some h).elim | exact absurd (Option.some.inj h) (by decide) | exact absurd hc (by decide) | subst hc | (replace hc := Bool.eq_false_iff.mpr hc; subst hc) | (have hd := Bool.eq_false_iff.mpr hc) | (have hd := beq_iff_eq.mpr hc; have he := bne_eq_false_iff_eq.mpr hc; clear hc) | (have hd := beq_eq_false_iff_ne.mpr hc; have he := bne_iff_ne.mpr hc) | (have hd := decide_eq_false hc) | (have hd := decide_eq_true hc) | skip) | ((have hj : laws_FnExactShopKnock.j0 k _ _ _ _ _ _ _ _ _ _ _ _ _ _ _ _ _ _ _ _ _ _ _ _ _ _ _ _ _ = _ := h); clear hj; rcases k with _ | k <;> rw [laws_FnExactShopKnock.j0] at h <;> first | exact (none_some h).elim | skip) | ((have hj : laws_FnExactShopKnock.j1 k _ _ _ _ _ _ _ _ _ _ _ _ _ _ _ _ _ _ _ _ _ _ = _ := h); clear hj; rcases k with _ | k <;> rw [laws_FnExactShopKnock.j1] at h <;> first | exact (none_some h).elim | skip) | ((have hj : laws_FnExactShopKnock.j2 k _ _ _ _ _ _ _ _ = _ := h); clear hj; rcases k with _ | k <;> rw [laws_FnExactShopKnock.j2] at h <;> first | exact (none_some h).elim | skip))) | (go_at_call 28; replace h := Option.bind_eq_some_iff.mp h; obtain ⟨⟨t1, t2, t3, t4⟩, A, h⟩ := h; (try dsimp only at h); refine (laws_markShop.calls _ _ _ _ _ _ _ _ _ _ _ _ _ _ _ _ _ _ w _ From.out rowP rowP rowP A).mono ?_; rintro e w2 ⟨rfl, m0, m1, m2, hb, hk⟩; obtain ⟨e0, q0, c0⟩ := Kd.R_reads' m0; replace q0 := LeI.mk (e0 ▸ q0); have j0 := RdE.mk c0; (try simp only [e0] at *); clear e0 c0 m0; obtain ⟨e1, q1, c1⟩ := Kd.R_reads' m1; replace q1 := LeI.mk (e1 ▸ q1); have j1 := RdE.mk c1; (try simp only [e1] at *); clear e1 c1 m1; obtain ⟨e2, q2, c2⟩ := Kd.R_reads' m2; replace q2 := LeI.mk (e2 ▸ q2); have j2 := RdE.mk c2; (try simp only [e2] at *); clear e2 c2 m2; have jf : From w w2 := ⟨hb⟩; clear hb; have jm := mk3 hk; clear hk; clear A; (repeat' first | ((with_reducible replace h := ite_some h); rcases h with ⟨hc, h⟩ | ⟨hc, h⟩ <;> first | exact (none_some h).elim | exact absurd (Option.some.inj h) (by decide) | exact absurd hc (by decide) | subst hc | (replace hc := Bool.eq_false_iff.mpr hc; subst hc) | (have hd := Bool.eq_false_iff.mpr hc) | (have hd := beq_iff_eq.mpr hc; have he := bne_eq_false_iff_eq.mpr hc; clear hc) | (have hd := beq_eq_false_iff_ne.mpr hc; have he := bne_iff_ne.mpr hc) | (have hd := decide_eq_false hc) | (have hd := decide_eq_true hc) | skip) | ((have hj : laws_FnExactShopKnock.j0 k _ _ _ _ _ _ _ _ _ _ _ _ _ _ _ _ _ _ _ _ _ _ _ _ _ _ _ _ _ = _ := h); clear hj; rcases k with _ | k <;> rw [laws_FnExactShopKnock.j0] at h <;> first | exact (none_some h).elim | skip) | ((have hj : laws_FnExactShopKnock.j1 k _ _ _ _ _ _ _ _ _ _ _ _ _ _ _ _ _ _ _ _ _ _ = _ := h); clear hj; rcases k with _ | k <;> rw [laws_FnExactShopKnock.j1] at h <;> first | exact (none_some h).elim | skip) | ((have hj : laws_FnExactShopKnock.j2 k _ _ _ _ _ _ _ _ = _ := h); clear hj; rcases k with _ | k <;> rw [laws_FnExactShopKnock.j2] at h <;> first | exact (none_some h).elim | skip))) | (go_at_call 29; replace h := Option.bind_eq_some_iff.mp h; obtain ⟨t, A, h⟩ := h; (try dsimp only at h); refine (laws_heldShop.calls _ _ _ _ _ _ _ _ _ _ _ _ _ _ _ _ Rd.out LeI.out Rd.out LeI.out Rd.out LeI.out A).mono ?_; rintro e w2 ⟨rfl, hb⟩; have jb := Bel.mk hb; clear A hb; (repeat' first | ((with_reducible replace h := ite_some h); rcases h with ⟨hc, h⟩ | ⟨hc, h⟩ <;> first | exact (none_some h).elim | exact absurd (Option.some.inj h) (by decide) | exact absurd hc (by decide) | subst hc | (replace hc := Bool.eq_false_iff.mpr hc; subst hc) | (have hd := Bool.eq_false_iff.mpr hc) | (have hd := beq_iff_eq.mpr hc; have he := bne_eq_false_iff_eq.mpr hc; clear hc) | (have hd := beq_eq_false_iff_ne.mpr hc; have he := bne_iff_ne.mpr hc) | (have hd := decide_eq_false hc) | (have hd := decide_eq_true hc) | skip) | ((have hj : laws_FnExactShopKnock.j0 k _ _ _ _ _ _ _ _ _ _ _ _ _ _ _ _ _ _ _ _ _ _ _ _ _ _ _ _ _ = _ := h); clear hj; rcases k with _ | k <;> rw [laws_FnExactShopKnock.j0] at h <;> first | exact (none_some h).elim | skip) | ((have hj : laws_FnExactShopKnock.j1 k _ _ _ _ _ _ _ _ _ _ _ _ _ _ _ _ _ _ _ _ _ _ = _ := h); clear hj; rcases k with _ | k <;> rw [laws_FnExactShopKnock.j1] at h <;> first | exact (none_some h).elim | skip) | ((have hj : laws_FnExactShopKnock.j2 k _ _ _ _ _ _ _ _ = _ := h); clear hj; rcases k with _ | k <;> rw [laws_FnExactShopKnock.j2] at h <;> first | exact (none_some h).elim | skip))))))
  all_goals (repeat' first | ((with_reducible replace h := ite_some h); rcases h with ⟨hc, h⟩ | ⟨hc, h⟩ <;> first | exact (none_some h).elim | exact absurd (Option.some.inj h) (by decide) | exact absurd hc (by decide) | subst hc | (replace hc := Bool.eq_false_iff.mpr hc; subst hc) | (have hd := Bool.eq_false_iff.mpr hc) | (have hd := beq_iff_eq.mpr hc; have he := bne_eq_false_iff_eq.mpr hc; clear hc) | (have hd := beq_eq_false_iff_ne.mpr hc; have he := bne_iff_ne.mpr hc) | (have hd := decide_eq_false hc) | (have hd := decide_eq_true hc) | skip) | ((have hj : laws_FnExactShopKnock.j0 k _ _ _ _ _ _ _ _ _ _ _ _ _ _ _ _ _ _ _ _ _ _ _ _ _ _ _ _ _ = _ := h); clear hj; rcases k with _ | k <;> rw [laws_FnExactShopKnock.j0] at h <;> first | exact (none_some h).elim | skip) | ((have hj : laws_FnExactShopKnock.j1 k _ _ _ _ _ _ _ _ _ _ _ _ _ _ _ _ _ _ _ _ _ _ = _ := h); clear hj; rcases k with _ | k <;> rw [laws_FnExactShopKnock.j1] at h <;> first | exact (none_some h).elim | skip) | ((have hj : laws_FnExactShopKnock.j2 k _ _ _ _ _ _ _ _ = _ := h); clear hj; rcases k with _ | k <;> rw [laws_FnExactShopKnock.j2] at h <;> first | exact (none_some h).elim | skip))
  all_goals go_ret
  all_goals exact ⟨rfl, From.out⟩
end Go.Proofs.Ytbkkpllejgedcaa.P


namespace Go.Proofs.Ytbkkpllejgedcaa.Q
set_option linter.unusedVariables false
set_option linter.unusedSimpArgs false
open Go.RowKit Go.Proofs.YtbkkpllejgedcaaW.PrintWords
theorem evp {α : Type} {c : Prop} [Decidable c] (h : c) {f g : Nat → Option α} {r : α} (k : Ev f r) : Ev (fun n => if c then f n else g n) r := by
  simp only [if_pos h]; exact k
theorem evn {α : Type} {c : Prop} [Decidable c] (h : ¬ c) {f g : Nat → Option α} {r : α} (k : Ev g r) : Ev (fun n => if c then f n else g n) r := by
  simp only [if_neg h]; exact k
theorem evb {α β : Type} {x : Option α} {f : Nat → α → Option β} {a : α} {r : β} (h : x = some a) (k : Ev (fun n => f n a) r) : Ev (fun n => x.bind (f n)) r := by
  simp only [h, Option.bind_some]; exact k
theorem evs {α : Type} {a b : α} (h : a = b) : Ev (fun _ => some a) b := h ▸ Ev.now a
theorem rpos {α : Type} {c : Prop} [Decidable c] (h : c) {f : Nat → Option α} {r s : α} (k : Ev f r) : Ev f (if c then r else s) := by rw [if_pos h]; exact k
theorem rneg {α : Type} {c : Prop} [Decidable c] (h : ¬ c) {f : Nat → Option α} {r s : α} (k : Ev f s) : Ev f (if c then r else s) := by rw [if_neg h]; exact k
theorem btrue {c : Prop} [Decidable c] (h : c) : decide c = true := decide_eq_true h
theorem bfalse {c : Prop} [Decidable c] (h : ¬ c) : ¬ decide c = true := by simpa using h
theorem down {P : Nat → Prop} {n : Nat} (he : P n) (hs : ∀ i, i < n → P (i + 1) → P i) (i : Nat) (h : i ≤ n) : P i := by
  obtain ⟨d, rfl⟩ : ∃ d, n = i + d := ⟨n - i, by omega⟩
  clear h
  induction d generalizing i with
  | zero => exact he
  | succ d ih =>
    refine hs i (by omega) (ih (i + 1) ?_ ?_)
    · rw [show i + 1 + d = i + (d + 1) by omega]; exact he
    · intro j hj; exact hs j (by omega)
theorem w64 {n : Int} (h1 : -9223372036854775808 ≤ n) (h2 : n ≤ 9223372036854775807) : wrap64 n = n := by unfold wrap64; omega
theorem rd_nat (l : List Int) (i : Nat) (h : i < l.length) : rd l (i : Int) = l[i] := by
  unfold rd; simp [List.getD_eq_getElem?_getD, h]
theorem drop_cons {α : Type} (l : List α) (i : Nat) (h : i < l.length) : l.drop i = l[i] :: l.drop (i + 1) := List.drop_eq_getElem_cons h
theorem drop_end {α : Type} (l : List α) : l.drop l.length = [] := List.drop_eq_nil_of_le (Nat.le_refl _)
theorem set_take {α : Type} (l : List α) (i : Nat) (v : α) (h : i < l.length) : (l.set i v).take (i + 1) = l.take i ++ [v] := by
  rw [List.take_set, List.take_succ_eq_append_getElem h, List.set_append_right _ _ (by simp; omega)]
  simp [Nat.min_eq_left (Nat.le_of_lt h)]
end Go.Proofs.Ytbkkpllejgedcaa.Q


namespace Go.Proofs.Ytbkkpllejgedcaa.Q
set_option linter.unusedVariables false
set_option linter.unusedSimpArgs false
open Go.RowKit Go.Proofs.Ytbkkpllejgedcaa.P Go.Proofs.YtbkkpllejgedcaaW.PrintWords
theorem within_eq (a b c : Int) : impl_within.f a b c = some (decide (b ≤ a ∧ a ≤ c)) := by
  unfold impl_within.f; by_cases h : b ≤ a <;> simp [h]
theorem l01In_eq (a b c : Int) : spec_l01In.f a b c = some (decide (b ≤ a ∧ a ≤ c)) := by
  unfold spec_l01In.f; by_cases h : a ≥ b
  · rw [if_pos h]; simp [show b ≤ a from h]
  · rw [if_neg h]; simp [show ¬ b ≤ a from h]
end Go.Proofs.Ytbkkpllejgedcaa.Q


namespace Go.Proofs.Ytbkkpllejgedcaa.Q
set_option linter.unusedVariables false
set_option linter.unusedSimpArgs false
open Go.RowKit Go.Proofs.Ytbkkpllejgedcaa.P Go.Proofs.YtbkkpllejgedcaaW.PrintWords Go.Proofs.YtbkkpllejgedcaaW.PrintMore
def fine (n : Int) : Bool := decide (1 ≤ n ∧ n ≤ 10000000)
theorem pitch_eq (n : Int) : spec_l18Pitch.f n = some (fine n) := by unfold spec_l18Pitch.f; rw [l01In_eq]; rfl
end Go.Proofs.Ytbkkpllejgedcaa.Q


namespace Go.Proofs.Ytbkkpllejgedcaa.Q
set_option linter.unusedVariables false
set_option linter.unusedSimpArgs false
open Go.RowKit Go.Proofs.Ytbkkpllejgedcaa.P Go.Proofs.YtbkkpllejgedcaaW.PrintWords Go.Proofs.YtbkkpllejgedcaaW.PrintMore
def cStep (x : S98) : S96 := ⟨x.f0, x.f1, x.f2, x.f3⟩
theorem rdS (l : List S96) (i : Nat) (h : i < l.length) : rd_T96 l (i : Int) = l[i] := by
  unfold rd_T96; simp [List.getD_eq_getElem?_getD, h]
theorem rdLS (l : List S98) (i : Nat) (h : i < l.length) : rd_T98 l (i : Int) = l[i] := by
  unfold rd_T98; simp [List.getD_eq_getElem?_getD, h]
theorem toStepS_ev (l : List S98) (hl : l.length ≤ 1048576) : Ev (fun k => laws_toStepS.f k l) (l.map cStep) := by
  have key : ∀ i, i ≤ l.length → ∀ acc : List S96, acc.length = l.length → Ev (fun k => laws_toStepS.l0 k l acc (i : Int)) (acc.take i ++ (l.drop i).map cStep) := by
    refine down (n := l.length) ?_ ?_
    · intro acc ha
      refine Ev.step (fun k => by rw [laws_toStepS.l0]) (evn (by omega) (evs ?_))
      rw [drop_end, List.map_nil, List.append_nil, List.take_of_length_le (by omega)]
    · intro i hi ih acc ha
      refine Ev.step (fun k => by rw [laws_toStepS.l0]) (evp (by omega) (evp (by omega) ?_))
      rw [rdLS l i hi]
      refine evb (a := (l[i].f0, l[i].f1, l[i].f2, l[i].f3)) rfl (evp (by omega) ?_)
      rw [w64 (by omega) (by omega), Int.toNat_natCast]
      have := ih (acc.set i (cStep l[i])) (by simpa using ha)
      rw [set_take _ _ _ (by omega), List.append_assoc] at this
      rw [drop_cons l i hi, List.map_cons]
      exact this
  have := key 0 (Nat.zero_le _) (List.replicate l.length z96) (by simp)
  unfold laws_toStepS.f
  refine evp (by omega) (evp (by omega) ?_)
  simpa using this
theorem eqStep_self (a b c d : Int) : laws_eqStep.f a b c d a b c d = some true := by unfold laws_eqStep.f; simp
theorem eqStepS_ev (l : List S96) (hl : l.length ≤ 9000000000000000000) : Ev (fun k => laws_eqStepS.f k l l) true := by
  have key : ∀ i, i ≤ l.length → Ev (fun k => laws_eqStepS.l0 k l l (i : Int)) true := by
    refine down (n := l.length) ?_ ?_
    · refine Ev.step (fun k => by rw [laws_eqStepS.l0]) (evn (by omega) ?_)
      exact Ev.now _
    · intro i hi ih
      refine Ev.step (fun k => by rw [laws_eqStepS.l0]) (evp (by omega) (evp (by omega) (evp (by omega) ?_)))
      refine evb (eqStep_self _ _ _ _) (evp rfl ?_)
      rw [w64 (by omega) (by omega)]
      exact ih
  unfold laws_eqStepS.f
  refine evp rfl ?_
  exact key 0 (Nat.zero_le _)
theorem szStepS_eq (l : List S98) (m : Int) (h0 : 0 ≤ m) (hm : m ≤ 1048576) (hl : l.length ≤ 9223372036854775807) : laws_szStepS.f l m = some (if m < l.length then -1 else m - l.length) := by
  unfold laws_szStepS.f
  rw [w64 (by omega) (by omega)]
  by_cases h : m < l.length
  · rw [if_pos (by omega), if_pos h]
  · rw [if_neg (by omega), if_neg h]
def runsS (m : Int) (n : Nat) : List S96 := (List.range n).map (fun (j : Nat) => ⟨m + 4 * j, m + 4 * j + 1, m + 4 * j + 2, m + 4 * j + 3⟩)
theorem runsS_len (m : Int) (n : Nat) : (runsS m n).length = n := by simp [runsS]
theorem rd_set_self (l : List S96) (i : Nat) (v : S96) (h : i < l.length) : rd_T96 (l.set i v) (i : Int) = v := by
  rw [rdS _ _ (by simpa using h)]; simp
theorem markStepS_ev (l : List S96) (m : Int) (h0 : 0 ≤ m) (hm : m + 4 * l.length ≤ 4000000000000000000) : Ev (fun k => laws_markStepS.f k l m) (m + 4 * l.length, runsS m l.length) := by
  have key : ∀ i, i ≤ l.length → ∀ acc : List S96, acc.length = l.length → acc.take i = runsS m i → Ev (fun k => laws_markStepS.l0 k acc (m + 4 * i) (i : Int)) (m + 4 * l.length, runsS m l.length) := by
    refine down (n := l.length) ?_ ?_
    · intro acc ha ht
      refine Ev.step (fun k => by rw [laws_markStepS.l0]) (evn (by omega) (evs ?_))
      rw [← ht, List.take_of_length_le (by omega)]
    · intro i hi ih acc ha ht
      refine Ev.step (fun k => by rw [laws_markStepS.l0]) ?_
      refine evp (by omega) (evp (by omega) ?_)
      simp only [Option.bind_some]
      rw [w64 (n := m + 4 * i + 1) (by omega) (by omega), w64 (n := m + 4 * i + 1 + 1) (by omega) (by omega), w64 (n := m + 4 * i + 1 + 1 + 1) (by omega) (by omega), w64 (n := m + 4 * i + 1 + 1 + 1 + 1) (by omega) (by omega), w64 (n := (i : Int) + 1) (by omega) (by omega), Int.toNat_natCast]
      have := ih (acc.set i ⟨m + 4 * i, m + 4 * i + 1, m + 4 * i + 2, m + 4 * i + 3⟩) (by simpa using ha) (by
        rw [set_take _ _ _ (by omega), ht]
        simp [runsS, List.range_succ])
      have rs : ∀ (L : List S96) (v : S96), L.length = l.length → rd_T96 (L.set i v) (i : Int) = v := fun L v hL => rd_set_self L i v (by omega)
      simp only [rs _ _ ha, List.set_set]
      rw [show m + 4 * (i : Int) + 1 + 1 = m + 4 * i + 2 by omega, show m + 4 * (i : Int) + 2 + 1 = m + 4 * i + 3 by omega, show m + 4 * (i : Int) + 3 + 1 = m + 4 * ((i + 1 : Nat) : Int) by omega]
      exact this
  have := key 0 (Nat.zero_le _) l rfl (by simp [runsS])
  unfold laws_markStepS.f
  simpa using this
theorem heldStepS_ev (n : Nat) (m : Int) (h0 : 0 ≤ m) (hm : m + 4 * n ≤ 4000000000000000000) : Ev (fun k => laws_heldStepS.f k (runsS m n) m) (m + 4 * n) := by
  have key : ∀ i, i ≤ n → Ev (fun k => laws_heldStepS.l0 k (runsS m n) (m + 4 * i) (i : Int)) (m + 4 * n) := by
    refine down (n := n) ?_ ?_
    · exact Ev.step (fun k => by rw [laws_heldStepS.l0]) (evn (by rw [runsS_len]; omega) (evs rfl))
    · intro i hi ih
      refine Ev.step (fun k => by rw [laws_heldStepS.l0]) (evp (by rw [runsS_len]; omega) (evp (by omega) ?_))
      rw [rdS _ _ (by rw [runsS_len]; exact hi), show (runsS m n)[i]'(by rw [runsS_len]; exact hi) = ⟨m + 4 * i, m + 4 * i + 1, m + 4 * i + 2, m + 4 * i + 3⟩ by simp [runsS]]
      rw [w64 (n := m + 4 * i + 1) (by omega) (by omega), w64 (n := m + 4 * i + 1 + 1) (by omega) (by omega), w64 (n := m + 4 * i + 1 + 1 + 1) (by omega) (by omega), w64 (n := m + 4 * i + 1 + 1 + 1 + 1) (by omega) (by omega), w64 (n := (i : Int) + 1) (by omega) (by omega)]
      refine evp rfl (evp rfl (evp ?_ (evp ?_ ?_)))
      · show m + 4 * (i : Int) + 2 = _; omega
      · show m + 4 * (i : Int) + 3 = _; omega
      rw [show m + 4 * (i : Int) + 1 + 1 + 1 + 1 = m + 4 * ((i + 1 : Nat) : Int) by omega]
      exact ih
  have := key 0 (Nat.zero_le _)
  unfold laws_heldStepS.f
  simpa using this
end Go.Proofs.Ytbkkpllejgedcaa.Q


namespace Go.Proofs.Ytbkkpllejgedcaa.Q
set_option linter.unusedVariables false
set_option linter.unusedSimpArgs false
open Go.RowKit Go.Proofs.Ytbkkpllejgedcaa.P Go.Proofs.YtbkkpllejgedcaaW.PrintWords Go.Proofs.YtbkkpllejgedcaaW.PrintMore
theorem planGoS_eq (l : List S96) (t : List Bool) : planGoS l t = planGo l t := by
  induction l generalizing t with
  | nil => rfl
  | cons x r ih => simp only [planGoS, planGo, ih]; rfl
theorem planSpec_eq (l : List S96) : spec_PlanOk.f l = some (planOk l) := by
  show some (planOkS l) = some (planOk l)
  unfold planOkS planOk
  rw [planGoS_eq, Bool.and_comm]; rfl
def inKeys (x : S96) : Prop := 0 ≤ x.f0 ∧ x.f0 ≤ 11 ∧ 0 ≤ x.f1 ∧ x.f1 ≤ 11 ∧ x.f1 = (x.f0 + 1) % 12
theorem stepOk_in {x : S96} {t : List Bool} (h : stepOk x t = true) : inKeys x := by
  simp [stepOk] at h; unfold inKeys; omega
theorem planGo_in {l : List S96} {t : List Bool} (h : planGo l t = true) : ∀ x ∈ l, inKeys x := by
  induction l generalizing t with
  | nil => simp
  | cons y r ih =>
    simp only [planGo, Bool.and_eq_true] at h
    intro x hx
    rcases List.mem_cons.1 hx with rfl | hx
    · exact stepOk_in h.1
    · exact ih h.2 x hx
theorem planOk_in {l : List S96} (h : planOk l = true) : ∀ x ∈ l, inKeys x := by
  simp only [planOk, Bool.and_eq_true] at h; exact planGo_in h.2
theorem planOk_len {l : List S96} (h : planOk l = true) : l.length ≤ 11 := by
  simp only [planOk, Bool.and_eq_true, decide_eq_true_eq] at h; exact h.1
theorem rd_get (l : List Int) (i : Int) : rd l i = l.getD i.toNat 0 := rfl
end Go.Proofs.Ytbkkpllejgedcaa.Q

