/- What functions of the program come to (f), that their calls come to just this (calls), and the plain laws over lists and numbers. No condition but those of the given row. -/
import Derived.Test.YtnknnbpodpfljaaC1
import Derived.Maps.RangeWalk
import Derived.Maps.OwnSet
import Derived.Maps.OwnOps
import Derived.Maps.Ext
import Derived.DeepKeys5
namespace Go.Proofs.Ytnknnbpodpfljaa.P
open Go.RowKit Go.Proofs.YtnknnbpodpfljaaW.PrintWords Go.Proofs.YtnknnbpodpfljaaW.PrintLast Go.Proofs.YtnknnbpodpfljaaW.PrintMore
attribute [local go_sem] max2_int min2_int max_two min_two max_three min_three max_four min_four
set_option linter.unusedVariables false
set_option linter.unusedSimpArgs false
def spec_LogOk.l0 : Nat → List (S36) → Int → Option (Bool)
  | 0, _, _ => none
  | k + 1, x0, x3 => if x3 < (x0.length : Int) then (if 0 ≤ x3 then ((spec_l01In.f ((rd_T36 x0 x3).f0.f0) 0 3).bind fun t251 => (if t251 = true then ((spec_l01In.f ((rd_T36 x0 x3).f0.f1) 0 39).bind fun t252 => (if t252 = true then ((spec_l01In.f ((rd_T36 x0 x3).f1) 0 2).bind fun t253 => (if t253 = true then ((spec_l01In.f ((rd_T36 x0 x3).f2) 0 100000).bind fun t254 => (if t254 = true then (if x3 > 0 then (if 0 ≤ (wrap64 (x3 - 1)) then (if (wrap64 (x3 - 1)) < (x0.length : Int) then (if ((rd_T36 x0 x3).f2) < ((rd_T36 x0 (wrap64 (x3 - 1))).f2) then (some false) else (spec_LogOk.l0 k x0 (wrap64 (x3 + 1)))) else (none)) else (none)) else (spec_LogOk.l0 k x0 (wrap64 (x3 + 1)))) else (some false))) else (some false))) else (some false))) else (some false))) else (none)) else (some (decide ((x0.length : Int) ≤ 30)))
def spec_LogOk.f (k : Nat) (l0 : List (S36)) : Option (Bool) := spec_LogOk.l0 k l0 0
set_option maxHeartbeats 8000000 in
set_option maxRecDepth 100000 in
theorem spec_LogOk.calls (k : Nat) (A0 : Option Addr) (c0 : Nat) (l0 : List (S36)) (r : Bool) (w : World) (hr0 : Kd.C k36 w A0 l0.length l0) (hc0 : l0.length ≤ c0) (h : spec_LogOk.f k l0 = some r) :
    Calls Try.prog 51 #[.slice A0 l0.length c0] w fun e w' => e = .returned (.bool r) ∧ Below w.heap.size w w' := by
  have hu36 := Try.underlying36
  have HR0 := Aside0.mk hr0
  have HC0 := Aside0.mk hc0
  clear hr0 hc0
  have HB := Aside0.mk (Below.refl w.heap.size w)
  have H : (spec_LogOk.l0 k l0 0) = some r := h
  clear h
  have H' := Aside0.mk H
  clear H
  go_enter Try.func51, Try.ntmps51
  go_wp2
  repeat (go_quiet (fail); try go_wp2)
  go_loopg [3] k (fun kq v3 w' => ∃ (x3_1 : Int), v3 = .int .i64 x3_1 ∧ Aside0 (spec_LogOk.l0 kq l0 x3_1 = some r) ∧ Aside0 (kq ≤ k) ∧ Aside0 (Below w.heap.size w w'))
  case atStart => exact ⟨(0), (by first | rfl | (simp; done) | (simp [*]; done)), H', ⟨Nat.le_refl _⟩, ⟨oB HB⟩⟩
  case round =>
    clear H'
    obtain ⟨x3_1, rfl, HA, HK1, HB⟩ := hrel
    cases gk with
    | zero => exact absurd HA.out (by simp [spec_LogOk.l0])
    | succ k1 =>
      have H := HA.out
      clear HA
      simp only [spec_LogOk.l0] at H
      by_cases c2 : x3_1 < (l0.length : Int)
      · rw [if_pos c2] at H
        have c2b0 : decide (x3_1 < (l0.length : Int)) = true := decide_eq_true c2
        clear c2
        by_cases c3 : 0 ≤ x3_1
        · rw [if_pos c3] at H
          have c3b0 : decide (0 ≤ x3_1) = true := decide_eq_true c3
          clear c3
          replace H := Option.bind_eq_some_iff.mp H
          obtain ⟨t251, A40, H⟩ := H
          (try dsimp only at H)
          have A4 := Aside0.mk A40
          clear A40
          by_cases c5 : t251 = true
          · subst c5
            rw [if_pos rfl] at H
            replace H := Option.bind_eq_some_iff.mp H
            obtain ⟨t252, A60, H⟩ := H
            (try dsimp only at H)
            have A6 := Aside0.mk A60
            clear A60
            by_cases c7 : t252 = true
            · subst c7
              rw [if_pos rfl] at H
              replace H := Option.bind_eq_some_iff.mp H
              obtain ⟨t253, A80, H⟩ := H
              (try dsimp only at H)
              have A8 := Aside0.mk A80
              clear A80
              by_cases c9 : t253 = true
              · subst c9
                rw [if_pos rfl] at H
                replace H := Option.bind_eq_some_iff.mp H
                obtain ⟨t254, A100, H⟩ := H
                (try dsimp only at H)
                have A10 := Aside0.mk A100
                clear A100
                by_cases c11 : t254 = true
                · subst c11
                  rw [if_pos rfl] at H
                  by_cases c12 : x3_1 > 0
                  · rw [if_pos c12] at H
                    have c12b0 : decide (0 < x3_1) = true := decide_eq_true c12
                    clear c12
                    obtain ⟨ji13, hji13⟩ : ∃ j_ : Int, (wrap64 (x3_1 - 1)) = j_ := ⟨_, rfl⟩
                    replace H : (if 0 ≤ (ji13) then (if (ji13) < (l0.length : Int) then (if ((rd_T36 l0 x3_1).f2) < ((rd_T36 l0 (ji13)).f2) then (some false) else (spec_LogOk.l0 k1 l0 (wrap64 (x3_1 + 1)))) else (none)) else (none)) = some r := by first | (rw [hji13] at H; exact H) | (simp only [hji13] at H ⊢; exact H)
                    (try rw [hji13] at A4)
                    (try rw [hji13] at A6)
                    (try rw [hji13] at A8)
                    (try rw [hji13] at A10)
                    have hji13w : (IntKind.i64.wrap (x3_1 - 1)) = ji13 := (i64_w _).trans hji13
                    by_cases c14 : 0 ≤ (ji13)
                    · rw [if_pos c14] at H
                      have c14b0 : decide (0 ≤ (ji13)) = true := decide_eq_true c14
                      clear c14
                      by_cases c15 : (ji13) < (l0.length : Int)
                      · rw [if_pos c15] at H
                        have c15b0 : decide ((ji13) < (l0.length : Int)) = true := decide_eq_true c15
                        clear c15
                        by_cases c16 : ((rd_T36 l0 x3_1).f2) < ((rd_T36 l0 (ji13)).f2)
                        · rw [if_pos c16] at H
                          have c16b0 : decide (((rd_T36 l0 x3_1).f2) < ((rd_T36 l0 (ji13)).f2)) = true := decide_eq_true c16
                          clear c16
                          obtain rfl := Option.some.inj H
                          have p249 : 0 ≤ (x3_1 : Int) := of_decide_eq_true (by first | (with_reducible assumption) | assumption)
                          have q249 : x3_1 < (l0.length : Int) := of_decide_eq_true (by first | (with_reducible assumption) | assumption)
                          obtain ⟨ad249, e249, hx249_0, hx249_1, hx249_2, hx249_3⟩ := at_T36 HR0.out x3_1 p249 q249
                          cases e249
                          replace hx249_0 := (HB.out.cell (World.block_lt_of_cell? w _ hx249_0)).trans hx249_0
                          replace hx249_1 := (HB.out.cell (World.block_lt_of_cell? w _ hx249_1)).trans hx249_1
                          replace hx249_2 := (HB.out.cell (World.block_lt_of_cell? w _ hx249_2)).trans hx249_2
                          replace hx249_3 := (HB.out.cell (World.block_lt_of_cell? w _ hx249_3)).trans hx249_3
                          replace p249 := eq_true p249
                          replace q249 := eq_true q249
                          go_wp2_with (first | ((with_reducible refine gate_dst (N := 4) rfl ?_); refine box_event ?hg (N := 4) ?hd (cs := #[.int .i64 0, .int .i64 0, .int .i64 0, .int .i64 0]) (t := 36) ?hr ?_; (case hd => rfl); (case hg => rfl); (case hr => first | (go_simp; done) | (go_simp; rfl)); intro gb250 hg w17 hbox hb; have n0_ := Aside0.mk (below_step (oB HB) hb); have n1_ := Aside0.mk (hbox); have n2_ := Aside0.mk ((by rw [hg]; exact (below_size (oB HB)) : w.heap.size ≤ gb250)); have n3_ := Aside0.mk ((by rw [hg]; exact (below_size (oB HB)) : w.heap.size ≤ gb250)); clear HB; have HB := n0_; have BK250 := n1_; have GW250 := n2_; have GE250 := n3_; clear n0_ n1_ n2_ n3_; clear hb hbox hg; have hcz18_0 : w17.cell? ⟨gb250, 0, none⟩ = some (.int .i64 0) := (blk_cell BK250.out 0).trans rfl; have hcz18_1 : w17.cell? ⟨gb250, 1, none⟩ = some (.int .i64 0) := (blk_cell BK250.out 1).trans rfl; have hcz18_2 : w17.cell? ⟨gb250, 2, none⟩ = some (.int .i64 0) := (blk_cell BK250.out 2).trans rfl; have hcz18_3 : w17.cell? ⟨gb250, 3, none⟩ = some (.int .i64 0) := (blk_cell BK250.out 3).trans rfl; have hfz18_0 := blk_frozen BK250.out 0; have hfz18_1 := blk_frozen BK250.out 1; have hfz18_2 := blk_frozen BK250.out 2; have hfz18_3 := blk_frozen BK250.out 3) | (go_at_call 53; (with_reducible refine (spec_l01In.calls ((rd_T36 l0 x3_1).f0.f0) 0 3 true _ A4.out).mono ?_); rintro e w' ⟨rfl, ⟨nd, rfl⟩⟩; (try first | exact ⟨rfl, _, World.drewN_drewN _ _ _⟩ | exact ⟨rfl, _, Eq.trans (World.drewN_drewN _ _ _) (congrArg (World.drewN _) (Nat.add_assoc _ _ _))⟩)) | (go_at_call 53; (with_reducible refine (spec_l01In.calls ((rd_T36 l0 x3_1).f0.f1) 0 39 true _ A6.out).mono ?_); rintro e w' ⟨rfl, ⟨nd, rfl⟩⟩; (try first | exact ⟨rfl, _, World.drewN_drewN _ _ _⟩ | exact ⟨rfl, _, Eq.trans (World.drewN_drewN _ _ _) (congrArg (World.drewN _) (Nat.add_assoc _ _ _))⟩)) | (go_at_call 53; (with_reducible refine (spec_l01In.calls ((rd_T36 l0 x3_1).f1) 0 2 true _ A8.out).mono ?_); rintro e w' ⟨rfl, ⟨nd, rfl⟩⟩; (try first | exact ⟨rfl, _, World.drewN_drewN _ _ _⟩ | exact ⟨rfl, _, Eq.trans (World.drewN_drewN _ _ _) (congrArg (World.drewN _) (Nat.add_assoc _ _ _))⟩)) | (go_at_call 53; (with_reducible refine (spec_l01In.calls ((rd_T36 l0 x3_1).f2) 0 100000 true _ A10.out).mono ?_); rintro e w' ⟨rfl, ⟨nd, rfl⟩⟩; (try first | exact ⟨rfl, _, World.drewN_drewN _ _ _⟩ | exact ⟨rfl, _, Eq.trans (World.drewN_drewN _ _ _) (congrArg (World.drewN _) (Nat.add_assoc _ _ _))⟩); have p255 : 0 ≤ ((ji13) : Int) := of_decide_eq_true (by first | (with_reducible assumption) | assumption); have q255 : (ji13) < (l0.length : Int) := of_decide_eq_true (by first | (with_reducible assumption) | assumption); obtain ⟨ad255, e255, hx255_0, hx255_1, hx255_2, hx255_3⟩ := at_T36 HR0.out (ji13) p255 q255; obtain rfl : ad249 = ad255 := (by injection e255); have hn255_0 : ad249.block ≠ gb250 := Nat.ne_of_lt (Nat.lt_of_lt_of_le (by have := World.block_lt_of_cell? _ _ hx255_0; first | rwa [add_block] at this | exact this) GW250.out); have hn255_1 : ad249.block ≠ gb250 := Nat.ne_of_lt (Nat.lt_of_lt_of_le (by have := World.block_lt_of_cell? _ _ hx255_0; first | rwa [add_block] at this | exact this) GW250.out); have hn255_2 : ad249.block ≠ gb250 := Nat.ne_of_lt (Nat.lt_of_lt_of_le (by have := World.block_lt_of_cell? _ _ hx255_0; first | rwa [add_block] at this | exact this) GW250.out); have hn255_3 : ad249.block ≠ gb250 := Nat.ne_of_lt (Nat.lt_of_lt_of_le (by have := World.block_lt_of_cell? _ _ hx255_0; first | rwa [add_block] at this | exact this) GW250.out); replace hx255_0 := (HB.out.cell (World.block_lt_of_cell? w _ hx255_0)).trans hx255_0; replace hx255_1 := (HB.out.cell (World.block_lt_of_cell? w _ hx255_1)).trans hx255_1; replace hx255_2 := (HB.out.cell (World.block_lt_of_cell? w _ hx255_2)).trans hx255_2; replace hx255_3 := (HB.out.cell (World.block_lt_of_cell? w _ hx255_3)).trans hx255_3; replace hx255_0 := (cell_far (p := ⟨gb250, 0, none⟩) (by first | (rw [add_block]; exact hn255_0) | (show (Addr.add _ _).block ≠ _; rw [add_block]; exact hn255_0) | exact hn255_0) (.int .i64 ((rd_T36 l0 x3_1).f0.f0))).trans hx255_0; replace hx255_1 := (cell_far (p := ⟨gb250, 0, none⟩) (by first | (rw [add_block]; exact hn255_0) | (show (Addr.add _ _).block ≠ _; rw [add_block]; exact hn255_0) | exact hn255_0) (.int .i64 ((rd_T36 l0 x3_1).f0.f0))).trans hx255_1; replace hx255_2 := (cell_far (p := ⟨gb250, 0, none⟩) (by first | (rw [add_block]; exact hn255_0) | (show (Addr.add _ _).block ≠ _; rw [add_block]; exact hn255_0) | exact hn255_0) (.int .i64 ((rd_T36 l0 x3_1).f0.f0))).trans hx255_2; replace hx255_3 := (cell_far (p := ⟨gb250, 0, none⟩) (by first | (rw [add_block]; exact hn255_0) | (show (Addr.add _ _).block ≠ _; rw [add_block]; exact hn255_0) | exact hn255_0) (.int .i64 ((rd_T36 l0 x3_1).f0.f0))).trans hx255_3; replace hx255_0 := (cell_far (p := ⟨gb250, 1, none⟩) (by first | (rw [add_block]; exact hn255_1) | (show (Addr.add _ _).block ≠ _; rw [add_block]; exact hn255_1) | exact hn255_1) (.int .i64 ((rd_T36 l0 x3_1).f0.f1))).trans hx255_0; replace hx255_1 := (cell_far (p := ⟨gb250, 1, none⟩) (by first | (rw [add_block]; exact hn255_1) | (show (Addr.add _ _).block ≠ _; rw [add_block]; exact hn255_1) | exact hn255_1) (.int .i64 ((rd_T36 l0 x3_1).f0.f1))).trans hx255_1; replace hx255_2 := (cell_far (p := ⟨gb250, 1, none⟩) (by first | (rw [add_block]; exact hn255_1) | (show (Addr.add _ _).block ≠ _; rw [add_block]; exact hn255_1) | exact hn255_1) (.int .i64 ((rd_T36 l0 x3_1).f0.f1))).trans hx255_2; replace hx255_3 := (cell_far (p := ⟨gb250, 1, none⟩) (by first | (rw [add_block]; exact hn255_1) | (show (Addr.add _ _).block ≠ _; rw [add_block]; exact hn255_1) | exact hn255_1) (.int .i64 ((rd_T36 l0 x3_1).f0.f1))).trans hx255_3; replace hx255_0 := (cell_far (p := ⟨gb250, 2, none⟩) (by first | (rw [add_block]; exact hn255_2) | (show (Addr.add _ _).block ≠ _; rw [add_block]; exact hn255_2) | exact hn255_2) (.int .i64 ((rd_T36 l0 x3_1).f1))).trans hx255_0; replace hx255_1 := (cell_far (p := ⟨gb250, 2, none⟩) (by first | (rw [add_block]; exact hn255_2) | (show (Addr.add _ _).block ≠ _; rw [add_block]; exact hn255_2) | exact hn255_2) (.int .i64 ((rd_T36 l0 x3_1).f1))).trans hx255_1; replace hx255_2 := (cell_far (p := ⟨gb250, 2, none⟩) (by first | (rw [add_block]; exact hn255_2) | (show (Addr.add _ _).block ≠ _; rw [add_block]; exact hn255_2) | exact hn255_2) (.int .i64 ((rd_T36 l0 x3_1).f1))).trans hx255_2; replace hx255_3 := (cell_far (p := ⟨gb250, 2, none⟩) (by first | (rw [add_block]; exact hn255_2) | (show (Addr.add _ _).block ≠ _; rw [add_block]; exact hn255_2) | exact hn255_2) (.int .i64 ((rd_T36 l0 x3_1).f1))).trans hx255_3; replace hx255_0 := (cell_far (p := ⟨gb250, 3, none⟩) (by first | (rw [add_block]; exact hn255_3) | (show (Addr.add _ _).block ≠ _; rw [add_block]; exact hn255_3) | exact hn255_3) (.int .i64 ((rd_T36 l0 x3_1).f2))).trans hx255_0; replace hx255_1 := (cell_far (p := ⟨gb250, 3, none⟩) (by first | (rw [add_block]; exact hn255_3) | (show (Addr.add _ _).block ≠ _; rw [add_block]; exact hn255_3) | exact hn255_3) (.int .i64 ((rd_T36 l0 x3_1).f2))).trans hx255_1; replace hx255_2 := (cell_far (p := ⟨gb250, 3, none⟩) (by first | (rw [add_block]; exact hn255_3) | (show (Addr.add _ _).block ≠ _; rw [add_block]; exact hn255_3) | exact hn255_3) (.int .i64 ((rd_T36 l0 x3_1).f2))).trans hx255_2; replace hx255_3 := (cell_far (p := ⟨gb250, 3, none⟩) (by first | (rw [add_block]; exact hn255_3) | (show (Addr.add _ _).block ≠ _; rw [add_block]; exact hn255_3) | exact hn255_3) (.int .i64 ((rd_T36 l0 x3_1).f2))).trans hx255_3; (try have hy255_0 := fun (n_ : Nat) => (show ((((((w17.drewN n_).setCell ⟨gb250, 0, none⟩ (.int .i64 ((rd_T36 l0 x3_1).f0.f0))).setCell ⟨gb250, 1, none⟩ (.int .i64 ((rd_T36 l0 x3_1).f0.f1))).setCell ⟨gb250, 2, none⟩ (.int .i64 ((rd_T36 l0 x3_1).f1))).setCell ⟨gb250, 3, none⟩ (.int .i64 ((rd_T36 l0 x3_1).f2)))).cell? _ = some _ from hx255_0)); (try have hy255_1 := fun (n_ : Nat) => (show ((((((w17.drewN n_).setCell ⟨gb250, 0, none⟩ (.int .i64 ((rd_T36 l0 x3_1).f0.f0))).setCell ⟨gb250, 1, none⟩ (.int .i64 ((rd_T36 l0 x3_1).f0.f1))).setCell ⟨gb250, 2, none⟩ (.int .i64 ((rd_T36 l0 x3_1).f1))).setCell ⟨gb250, 3, none⟩ (.int .i64 ((rd_T36 l0 x3_1).f2)))).cell? _ = some _ from hx255_1)); (try have hy255_2 := fun (n_ : Nat) => (show ((((((w17.drewN n_).setCell ⟨gb250, 0, none⟩ (.int .i64 ((rd_T36 l0 x3_1).f0.f0))).setCell ⟨gb250, 1, none⟩ (.int .i64 ((rd_T36 l0 x3_1).f0.f1))).setCell ⟨gb250, 2, none⟩ (.int .i64 ((rd_T36 l0 x3_1).f1))).setCell ⟨gb250, 3, none⟩ (.int .i64 ((rd_T36 l0 x3_1).f2)))).cell? _ = some _ from hx255_2)); (try have hy255_3 := fun (n_ : Nat) => (show ((((((w17.drewN n_).setCell ⟨gb250, 0, none⟩ (.int .i64 ((rd_T36 l0 x3_1).f0.f0))).setCell ⟨gb250, 1, none⟩ (.int .i64 ((rd_T36 l0 x3_1).f0.f1))).setCell ⟨gb250, 2, none⟩ (.int .i64 ((rd_T36 l0 x3_1).f1))).setCell ⟨gb250, 3, none⟩ (.int .i64 ((rd_T36 l0 x3_1).f2)))).cell? _ = some _ from hx255_3)); clear hn255_0; clear hn255_1; clear hn255_2; clear hn255_3; replace p255 := eq_true p255; replace q255 := eq_true q255))
                          repeat (go_quiet (first | ((with_reducible refine gate_dst (N := 4) rfl ?_); refine box_event ?hg (N := 4) ?hd (cs := #[.int .i64 0, .int .i64 0, .int .i64 0, .int .i64 0]) (t := 36) ?hr ?_; (case hd => rfl); (case hg => rfl); (case hr => first | (go_simp; done) | (go_simp; rfl)); intro gb250 hg w17 hbox hb; have n0_ := Aside0.mk (below_step (oB HB) hb); have n1_ := Aside0.mk (hbox); have n2_ := Aside0.mk ((by rw [hg]; exact (below_size (oB HB)) : w.heap.size ≤ gb250)); have n3_ := Aside0.mk ((by rw [hg]; exact (below_size (oB HB)) : w.heap.size ≤ gb250)); clear HB; have HB := n0_; have BK250 := n1_; have GW250 := n2_; have GE250 := n3_; clear n0_ n1_ n2_ n3_; clear hb hbox hg; have hcz18_0 : w17.cell? ⟨gb250, 0, none⟩ = some (.int .i64 0) := (blk_cell BK250.out 0).trans rfl; have hcz18_1 : w17.cell? ⟨gb250, 1, none⟩ = some (.int .i64 0) := (blk_cell BK250.out 1).trans rfl; have hcz18_2 : w17.cell? ⟨gb250, 2, none⟩ = some (.int .i64 0) := (blk_cell BK250.out 2).trans rfl; have hcz18_3 : w17.cell? ⟨gb250, 3, none⟩ = some (.int .i64 0) := (blk_cell BK250.out 3).trans rfl; have hfz18_0 := blk_frozen BK250.out 0; have hfz18_1 := blk_frozen BK250.out 1; have hfz18_2 := blk_frozen BK250.out 2; have hfz18_3 := blk_frozen BK250.out 3) | (go_at_call 53; (with_reducible refine (spec_l01In.calls ((rd_T36 l0 x3_1).f0.f0) 0 3 true _ A4.out).mono ?_); rintro e w' ⟨rfl, ⟨nd, rfl⟩⟩; (try first | exact ⟨rfl, _, World.drewN_drewN _ _ _⟩ | exact ⟨rfl, _, Eq.trans (World.drewN_drewN _ _ _) (congrArg (World.drewN _) (Nat.add_assoc _ _ _))⟩)) | (go_at_call 53; (with_reducible refine (spec_l01In.calls ((rd_T36 l0 x3_1).f0.f1) 0 39 true _ A6.out).mono ?_); rintro e w' ⟨rfl, ⟨nd, rfl⟩⟩; (try first | exact ⟨rfl, _, World.drewN_drewN _ _ _⟩ | exact ⟨rfl, _, Eq.trans (World.drewN_drewN _ _ _) (congrArg (World.drewN _) (Nat.add_assoc _ _ _))⟩)) | (go_at_call 53; (with_reducible refine (spec_l01In.calls ((rd_T36 l0 x3_1).f1) 0 2 true _ A8.out).mono ?_); rintro e w' ⟨rfl, ⟨nd, rfl⟩⟩; (try first | exact ⟨rfl, _, World.drewN_drewN _ _ _⟩ | exact ⟨rfl, _, Eq.trans (World.drewN_drewN _ _ _) (congrArg (World.drewN _) (Nat.add_assoc _ _ _))⟩)) | (go_at_call 53; (with_reducible refine (spec_l01In.calls ((rd_T36 l0 x3_1).f2) 0 100000 true _ A10.out).mono ?_); rintro e w' ⟨rfl, ⟨nd, rfl⟩⟩; (try first | exact ⟨rfl, _, World.drewN_drewN _ _ _⟩ | exact ⟨rfl, _, Eq.trans (World.drewN_drewN _ _ _) (congrArg (World.drewN _) (Nat.add_assoc _ _ _))⟩); have p255 : 0 ≤ ((ji13) : Int) := of_decide_eq_true (by first | (with_reducible assumption) | assumption); have q255 : (ji13) < (l0.length : Int) := of_decide_eq_true (by first | (with_reducible assumption) | assumption); obtain ⟨ad255, e255, hx255_0, hx255_1, hx255_2, hx255_3⟩ := at_T36 HR0.out (ji13) p255 q255; obtain rfl : ad249 = ad255 := (by injection e255); have hn255_0 : ad249.block ≠ gb250 := Nat.ne_of_lt (Nat.lt_of_lt_of_le (by have := World.block_lt_of_cell? _ _ hx255_0; first | rwa [add_block] at this | exact this) GW250.out); have hn255_1 : ad249.block ≠ gb250 := Nat.ne_of_lt (Nat.lt_of_lt_of_le (by have := World.block_lt_of_cell? _ _ hx255_0; first | rwa [add_block] at this | exact this) GW250.out); have hn255_2 : ad249.block ≠ gb250 := Nat.ne_of_lt (Nat.lt_of_lt_of_le (by have := World.block_lt_of_cell? _ _ hx255_0; first | rwa [add_block] at this | exact this) GW250.out); have hn255_3 : ad249.block ≠ gb250 := Nat.ne_of_lt (Nat.lt_of_lt_of_le (by have := World.block_lt_of_cell? _ _ hx255_0; first | rwa [add_block] at this | exact this) GW250.out); replace hx255_0 := (HB.out.cell (World.block_lt_of_cell? w _ hx255_0)).trans hx255_0; replace hx255_1 := (HB.out.cell (World.block_lt_of_cell? w _ hx255_1)).trans hx255_1; replace hx255_2 := (HB.out.cell (World.block_lt_of_cell? w _ hx255_2)).trans hx255_2; replace hx255_3 := (HB.out.cell (World.block_lt_of_cell? w _ hx255_3)).trans hx255_3; replace hx255_0 := (cell_far (p := ⟨gb250, 0, none⟩) (by first | (rw [add_block]; exact hn255_0) | (show (Addr.add _ _).block ≠ _; rw [add_block]; exact hn255_0) | exact hn255_0) (.int .i64 ((rd_T36 l0 x3_1).f0.f0))).trans hx255_0; replace hx255_1 := (cell_far (p := ⟨gb250, 0, none⟩) (by first | (rw [add_block]; exact hn255_0) | (show (Addr.add _ _).block ≠ _; rw [add_block]; exact hn255_0) | exact hn255_0) (.int .i64 ((rd_T36 l0 x3_1).f0.f0))).trans hx255_1; replace hx255_2 := (cell_far (p := ⟨gb250, 0, none⟩) (by first | (rw [add_block]; exact hn255_0) | (show (Addr.add _ _).block ≠ _; rw [add_block]; exact hn255_0) | exact hn255_0) (.int .i64 ((rd_T36 l0 x3_1).f0.f0))).trans hx255_2; replace hx255_3 := (cell_far (p := ⟨gb250, 0, none⟩) (by first | (rw [add_block]; exact hn255_0) | (show (Addr.add _ _).block ≠ _; rw [add_block]; exact hn255_0) | exact hn255_0) (.int .i64 ((rd_T36 l0 x3_1).f0.f0))).trans hx255_3; replace hx255_0 := (cell_far (p := ⟨gb250, 1, none⟩) (by first | (rw [add_block]; exact hn255_1) | (show (Addr.add _ _).block ≠ _; rw [add_block]; exact hn255_1) | exact hn255_1) (.int .i64 ((rd_T36 l0 x3_1).f0.f1))).trans hx255_0; replace hx255_1 := (cell_far (p := ⟨gb250, 1, none⟩) (by first | (rw [add_block]; exact hn255_1) | (show (Addr.add _ _).block ≠ _; rw [add_block]; exact hn255_1) | exact hn255_1) (.int .i64 ((rd_T36 l0 x3_1).f0.f1))).trans hx255_1; replace hx255_2 := (cell_far (p := ⟨gb250, 1, none⟩) (by first | (rw [add_block]; exact hn255_1) | (show (Addr.add _ _).block ≠ _; rw [add_block]; exact hn255_1) | exact hn255_1) (.int .i64 ((rd_T36 l0 x3_1).f0.f1))).trans hx255_2; replace hx255_3 := (cell_far (p := ⟨gb250, 1, none⟩) (by first | (rw [add_block]; exact hn255_1) | (show (Addr.add _ _).block ≠ _; rw [add_block]; exact hn255_1) | exact hn255_1) (.int .i64 ((rd_T36 l0 x3_1).f0.f1))).trans hx255_3; replace hx255_0 := (cell_far (p := ⟨gb250, 2, none⟩) (by first | (rw [add_block]; exact hn255_2) | (show (Addr.add _ _).block ≠ _; rw [add_block]; exact hn255_2) | exact hn255_2) (.int .i64 ((rd_T36 l0 x3_1).f1))).trans hx255_0; replace hx255_1 := (cell_far (p := ⟨gb250, 2, none⟩) (by first | (rw [add_block]; exact hn255_2) | (show (Addr.add _ _).block ≠ _; rw [add_block]; exact hn255_2) | exact hn255_2) (.int .i64 ((rd_T36 l0 x3_1).f1))).trans hx255_1; replace hx255_2 := (cell_far (p := ⟨gb250, 2, none⟩) (by first | (rw [add_block]; exact hn255_2) | (show (Addr.add _ _).block ≠ _; rw [add_block]; exact hn255_2) | exact hn255_2) (.int .i64 ((rd_T36 l0 x3_1).f1))).trans hx255_2; replace hx255_3 := (cell_far (p := ⟨gb250, 2, none⟩) (by first | (rw [add_block]; exact hn255_2) | (show (Addr.add _ _).block ≠ _; rw [add_block]; exact hn255_2) | exact hn255_2) (.int .i64 ((rd_T36 l0 x3_1).f1))).trans hx255_3; replace hx255_0 := (cell_far (p := ⟨gb250, 3, none⟩) (by first | (rw [add_block]; exact hn255_3) | (show (Addr.add _ _).block ≠ _; rw [add_block]; exact hn255_3) | exact hn255_3) (.int .i64 ((rd_T36 l0 x3_1).f2))).trans hx255_0; replace hx255_1 := (cell_far (p := ⟨gb250, 3, none⟩) (by first | (rw [add_block]; exact hn255_3) | (show (Addr.add _ _).block ≠ _; rw [add_block]; exact hn255_3) | exact hn255_3) (.int .i64 ((rd_T36 l0 x3_1).f2))).trans hx255_1; replace hx255_2 := (cell_far (p := ⟨gb250, 3, none⟩) (by first | (rw [add_block]; exact hn255_3) | (show (Addr.add _ _).block ≠ _; rw [add_block]; exact hn255_3) | exact hn255_3) (.int .i64 ((rd_T36 l0 x3_1).f2))).trans hx255_2; replace hx255_3 := (cell_far (p := ⟨gb250, 3, none⟩) (by first | (rw [add_block]; exact hn255_3) | (show (Addr.add _ _).block ≠ _; rw [add_block]; exact hn255_3) | exact hn255_3) (.int .i64 ((rd_T36 l0 x3_1).f2))).trans hx255_3; (try have hy255_0 := fun (n_ : Nat) => (show ((((((w17.drewN n_).setCell ⟨gb250, 0, none⟩ (.int .i64 ((rd_T36 l0 x3_1).f0.f0))).setCell ⟨gb250, 1, none⟩ (.int .i64 ((rd_T36 l0 x3_1).f0.f1))).setCell ⟨gb250, 2, none⟩ (.int .i64 ((rd_T36 l0 x3_1).f1))).setCell ⟨gb250, 3, none⟩ (.int .i64 ((rd_T36 l0 x3_1).f2)))).cell? _ = some _ from hx255_0)); (try have hy255_1 := fun (n_ : Nat) => (show ((((((w17.drewN n_).setCell ⟨gb250, 0, none⟩ (.int .i64 ((rd_T36 l0 x3_1).f0.f0))).setCell ⟨gb250, 1, none⟩ (.int .i64 ((rd_T36 l0 x3_1).f0.f1))).setCell ⟨gb250, 2, none⟩ (.int .i64 ((rd_T36 l0 x3_1).f1))).setCell ⟨gb250, 3, none⟩ (.int .i64 ((rd_T36 l0 x3_1).f2)))).cell? _ = some _ from hx255_1)); (try have hy255_2 := fun (n_ : Nat) => (show ((((((w17.drewN n_).setCell ⟨gb250, 0, none⟩ (.int .i64 ((rd_T36 l0 x3_1).f0.f0))).setCell ⟨gb250, 1, none⟩ (.int .i64 ((rd_T36 l0 x3_1).f0.f1))).setCell ⟨gb250, 2, none⟩ (.int .i64 ((rd_T36 l0 x3_1).f1))).setCell ⟨gb250, 3, none⟩ (.int .i64 ((rd_T36 l0 x3_1).f2)))).cell? _ = some _ from hx255_2)); (try have hy255_3 := fun (n_ : Nat) => (show ((((((w17.drewN n_).setCell ⟨gb250, 0, none⟩ (.int .i64 ((rd_T36 l0 x3_1).f0.f0))).setCell ⟨gb250, 1, none⟩ (.int .i64 ((rd_T36 l0 x3_1).f0.f1))).setCell ⟨gb250, 2, none⟩ (.int .i64 ((rd_T36 l0 x3_1).f1))).setCell ⟨gb250, 3, none⟩ (.int .i64 ((rd_T36 l0 x3_1).f2)))).cell? _ = some _ from hx255_3)); clear hn255_0; clear hn255_1; clear hn255_2; clear hn255_3; replace p255 := eq_true p255; replace q255 := eq_true q255)); try go_wp2_with (first | ((with_reducible refine gate_dst (N := 4) rfl ?_); refine box_event ?hg (N := 4) ?hd (cs := #[.int .i64 0, .int .i64 0, .int .i64 0, .int .i64 0]) (t := 36) ?hr ?_; (case hd => rfl); (case hg => rfl); (case hr => first | (go_simp; done) | (go_simp; rfl)); intro gb250 hg w17 hbox hb; have n0_ := Aside0.mk (below_step (oB HB) hb); have n1_ := Aside0.mk (hbox); have n2_ := Aside0.mk ((by rw [hg]; exact (below_size (oB HB)) : w.heap.size ≤ gb250)); have n3_ := Aside0.mk ((by rw [hg]; exact (below_size (oB HB)) : w.heap.size ≤ gb250)); clear HB; have HB := n0_; have BK250 := n1_; have GW250 := n2_; have GE250 := n3_; clear n0_ n1_ n2_ n3_; clear hb hbox hg; have hcz18_0 : w17.cell? ⟨gb250, 0, none⟩ = some (.int .i64 0) := (blk_cell BK250.out 0).trans rfl; have hcz18_1 : w17.cell? ⟨gb250, 1, none⟩ = some (.int .i64 0) := (blk_cell BK250.out 1).trans rfl; have hcz18_2 : w17.cell? ⟨gb250, 2, none⟩ = some (.int .i64 0) := (blk_cell BK250.out 2).trans rfl; have hcz18_3 : w17.cell? ⟨gb250, 3, none⟩ = some (.int .i64 0) := (blk_cell BK250.out 3).trans rfl; have hfz18_0 := blk_frozen BK250.out 0; have hfz18_1 := blk_frozen BK250.out 1; have hfz18_2 := blk_frozen BK250.out 2; have hfz18_3 := blk_frozen BK250.out 3) | (go_at_call 53; (with_reducible refine (spec_l01In.calls ((rd_T36 l0 x3_1).f0.f0) 0 3 true _ A4.out).mono ?_); rintro e w' ⟨rfl, ⟨nd, rfl⟩⟩; (try first | exact ⟨rfl, _, World.drewN_drewN _ _ _⟩ | exact ⟨rfl, _, Eq.trans (World.drewN_drewN _ _ _) (congrArg (World.drewN _) (Nat.add_assoc _ _ _))⟩)) | (go_at_call 53; (with_reducible refine (spec_l01In.calls ((rd_T36 l0 x3_1).f0.f1) 0 39 true _ A6.out).mono ?_); rintro e w' ⟨rfl, ⟨nd, rfl⟩⟩; (try first | exact ⟨rfl, _, World.drewN_drewN _ _ _⟩ | exact ⟨rfl, _, Eq.trans (World.drewN_drewN _ _ _) (congrArg (World.drewN _) (Nat.add_assoc _ _ _))⟩)) | (go_at_call 53; (with_reducible refine (spec_l01In.calls ((rd_T36 l0 x3_1).f1) 0 2 true _ A8.out).mono ?_); rintro e w' ⟨rfl, ⟨nd, rfl⟩⟩; (try first | exact ⟨rfl, _, World.drewN_drewN _ _ _⟩ | exact ⟨rfl, _, Eq.trans (World.drewN_drewN _ _ _) (congrArg (World.drewN _) (Nat.add_assoc _ _ _))⟩)) | (go_at_call 53; (with_reducible refine (spec_l01In.calls ((rd_T36 l0 x3_1).f2) 0 100000 true _ A10.out).mono ?_); rintro e w' ⟨rfl, ⟨nd, rfl⟩⟩; (try first | exact ⟨rfl, _, World.drewN_drewN _ _ _⟩ | exact ⟨rfl, _, Eq.trans (World.drewN_drewN _ _ _) (congrArg (World.drewN _) (Nat.add_assoc _ _ _))⟩); have p255 : 0 ≤ ((ji13) : Int) := of_decide_eq_true (by first | (with_reducible assumption) | assumption); have q255 : (ji13) < (l0.length : Int) := of_decide_eq_true (by first | (with_reducible assumption) | assumption); obtain ⟨ad255, e255, hx255_0, hx255_1, hx255_2, hx255_3⟩ := at_T36 HR0.out (ji13) p255 q255; obtain rfl : ad249 = ad255 := (by injection e255); have hn255_0 : ad249.block ≠ gb250 := Nat.ne_of_lt (Nat.lt_of_lt_of_le (by have := World.block_lt_of_cell? _ _ hx255_0; first | rwa [add_block] at this | exact this) GW250.out); have hn255_1 : ad249.block ≠ gb250 := Nat.ne_of_lt (Nat.lt_of_lt_of_le (by have := World.block_lt_of_cell? _ _ hx255_0; first | rwa [add_block] at this | exact this) GW250.out); have hn255_2 : ad249.block ≠ gb250 := Nat.ne_of_lt (Nat.lt_of_lt_of_le (by have := World.block_lt_of_cell? _ _ hx255_0; first | rwa [add_block] at this | exact this) GW250.out); have hn255_3 : ad249.block ≠ gb250 := Nat.ne_of_lt (Nat.lt_of_lt_of_le (by have := World.block_lt_of_cell? _ _ hx255_0; first | rwa [add_block] at this | exact this) GW250.out); replace hx255_0 := (HB.out.cell (World.block_lt_of_cell? w _ hx255_0)).trans hx255_0; replace hx255_1 := (HB.out.cell (World.block_lt_of_cell? w _ hx255_1)).trans hx255_1; replace hx255_2 := (HB.out.cell (World.block_lt_of_cell? w _ hx255_2)).trans hx255_2; replace hx255_3 := (HB.out.cell (World.block_lt_of_cell? w _ hx255_3)).trans hx255_3; replace hx255_0 := (cell_far (p := ⟨gb250, 0, none⟩) (by first | (rw [add_block]; exact hn255_0) | (show (Addr.add _ _).block ≠ _; rw [add_block]; exact hn255_0) | exact hn255_0) (.int .i64 ((rd_T36 l0 x3_1).f0.f0))).trans hx255_0; replace hx255_1 := (cell_far (p := ⟨gb250, 0, none⟩) (by first | (rw [add_block]; exact hn255_0) | (show (Addr.add _ _).block ≠ _; rw [add_block]; exact hn255_0) | exact hn255_0) (.int .i64 ((rd_T36 l0 x3_1).f0.f0))).trans hx255_1; replace hx255_2 := (cell_far (p := ⟨gb250, 0, none⟩) (by first | (rw [add_block]; exact hn255_0) | (show (Addr.add _ _).block ≠ _; rw [add_block]; exact hn255_0) | exact hn255_0) (.int .i64 ((rd_T36 l0 x3_1).f0.f0))).trans hx255_2; replace hx255_3 := (cell_far (p := ⟨gb250, 0, none⟩) (by first | (rw [add_block]; exact hn255_0) | (show (Addr.add _ _).block ≠ _; rw [add_block]; exact hn255_0) | exact hn255_0) (.int .i64 ((rd_T36 l0 x3_1).f0.f0))).trans hx255_3; replace hx255_0 := (cell_far (p := ⟨gb250, 1, none⟩) (by first | (rw [add_block]; exact hn255_1) | (show (Addr.add _ _).block ≠ _; rw [add_block]; exact hn255_1) | exact hn255_1) (.int .i64 ((rd_T36 l0 x3_1).f0.f1))).trans hx255_0; replace hx255_1 := (cell_far (p := ⟨gb250, 1, none⟩) (by first | (rw [add_block]; exact hn255_1) | (show (Addr.add _ _).block ≠ _; rw [add_block]; exact hn255_1) | exact hn255_1) (.int .i64 ((rd_T36 l0 x3_1).f0.f1))).trans hx255_1; replace hx255_2 := (cell_far (p := ⟨gb250, 1, none⟩) (by first | (rw [add_block]; exact hn255_1) | (show (Addr.add _ _).block ≠ _; rw [add_block]; exact hn255_1) | exact hn255_1) (.int .i64 ((rd_T36 l0 x3_1).f0.f1))).trans hx255_2; replace hx255_3 := (cell_far (p := ⟨gb250, 1, none⟩) (by first | (rw [add_block]; exact hn255_1) | (show (Addr.add _ _).block ≠ _; rw [add_block]; exact hn255_1) | exact hn255_1) (.int .i64 ((rd_T36 l0 x3_1).f0.f1))).trans hx255_3; replace hx255_0 := (cell_far (p := ⟨gb250, 2, none⟩) (by first | (rw [add_block]; exact hn255_2) | (show (Addr.add _ _).block ≠ _; rw [add_block]; exact hn255_2) | exact hn255_2) (.int .i64 ((rd_T36 l0 x3_1).f1))).trans hx255_0; replace hx255_1 := (cell_far (p := ⟨gb250, 2, none⟩) (by first | (rw [add_block]; exact hn255_2) | (show (Addr.add _ _).block ≠ _; rw [add_block]; exact hn255_2) | exact hn255_2) (.int .i64 ((rd_T36 l0 x3_1).f1))).trans hx255_1; replace hx255_2 := (cell_far (p := ⟨gb250, 2, none⟩) (by first | (rw [add_block]; exact hn255_2) | (show (Addr.add _ _).block ≠ _; rw [add_block]; exact hn255_2) | exact hn255_2) (.int .i64 ((rd_T36 l0 x3_1).f1))).trans hx255_2; replace hx255_3 := (cell_far (p := ⟨gb250, 2, none⟩) (by first | (rw [add_block]; exact hn255_2) | (show (Addr.add _ _).block ≠ _; rw [add_block]; exact hn255_2) | exact hn255_2) (.int .i64 ((rd_T36 l0 x3_1).f1))).trans hx255_3; replace hx255_0 := (cell_far (p := ⟨gb250, 3, none⟩) (by first | (rw [add_block]; exact hn255_3) | (show (Addr.add _ _).block ≠ _; rw [add_block]; exact hn255_3) | exact hn255_3) (.int .i64 ((rd_T36 l0 x3_1).f2))).trans hx255_0; replace hx255_1 := (cell_far (p := ⟨gb250, 3, none⟩) (by first | (rw [add_block]; exact hn255_3) | (show (Addr.add _ _).block ≠ _; rw [add_block]; exact hn255_3) | exact hn255_3) (.int .i64 ((rd_T36 l0 x3_1).f2))).trans hx255_1; replace hx255_2 := (cell_far (p := ⟨gb250, 3, none⟩) (by first | (rw [add_block]; exact hn255_3) | (show (Addr.add _ _).block ≠ _; rw [add_block]; exact hn255_3) | exact hn255_3) (.int .i64 ((rd_T36 l0 x3_1).f2))).trans hx255_2; replace hx255_3 := (cell_far (p := ⟨gb250, 3, none⟩) (by first | (rw [add_block]; exact hn255_3) | (show (Addr.add _ _).block ≠ _; rw [add_block]; exact hn255_3) | exact hn255_3) (.int .i64 ((rd_T36 l0 x3_1).f2))).trans hx255_3; (try have hy255_0 := fun (n_ : Nat) => (show ((((((w17.drewN n_).setCell ⟨gb250, 0, none⟩ (.int .i64 ((rd_T36 l0 x3_1).f0.f0))).setCell ⟨gb250, 1, none⟩ (.int .i64 ((rd_T36 l0 x3_1).f0.f1))).setCell ⟨gb250, 2, none⟩ (.int .i64 ((rd_T36 l0 x3_1).f1))).setCell ⟨gb250, 3, none⟩ (.int .i64 ((rd_T36 l0 x3_1).f2)))).cell? _ = some _ from hx255_0)); (try have hy255_1 := fun (n_ : Nat) => (show ((((((w17.drewN n_).setCell ⟨gb250, 0, none⟩ (.int .i64 ((rd_T36 l0 x3_1).f0.f0))).setCell ⟨gb250, 1, none⟩ (.int .i64 ((rd_T36 l0 x3_1).f0.f1))).setCell ⟨gb250, 2, none⟩ (.int .i64 ((rd_T36 l0 x3_1).f1))).setCell ⟨gb250, 3, none⟩ (.int .i64 ((rd_T36 l0 x3_1).f2)))).cell? _ = some _ from hx255_1)); (try have hy255_2 := fun (n_ : Nat) => (show ((((((w17.drewN n_).setCell ⟨gb250, 0, none⟩ (.int .i64 ((rd_T36 l0 x3_1).f0.f0))).setCell ⟨gb250, 1, none⟩ (.int .i64 ((rd_T36 l0 x3_1).f0.f1))).setCell ⟨gb250, 2, none⟩ (.int .i64 ((rd_T36 l0 x3_1).f1))).setCell ⟨gb250, 3, none⟩ (.int .i64 ((rd_T36 l0 x3_1).f2)))).cell? _ = some _ from hx255_2)); (try have hy255_3 := fun (n_ : Nat) => (show ((((((w17.drewN n_).setCell ⟨gb250, 0, none⟩ (.int .i64 ((rd_T36 l0 x3_1).f0.f0))).setCell ⟨gb250, 1, none⟩ (.int .i64 ((rd_T36 l0 x3_1).f0.f1))).setCell ⟨gb250, 2, none⟩ (.int .i64 ((rd_T36 l0 x3_1).f1))).setCell ⟨gb250, 3, none⟩ (.int .i64 ((rd_T36 l0 x3_1).f2)))).cell? _ = some _ from hx255_3)); clear hn255_0; clear hn255_1; clear hn255_2; clear hn255_3; replace p255 := eq_true p255; replace q255 := eq_true q255)))
                          go_ret
                          exact ⟨by first | rfl | (simp [errW_none, errW_some] <;> rfl) | (simp only [← hji13]; first | rfl | (simp [errW_none, errW_some] <;> rfl)) | (simp [*, errW_none, errW_some] <;> rfl), oB HB⟩
                        · rw [if_neg c16] at H
                          have c16b0 : decide (((rd_T36 l0 x3_1).f2) < ((rd_T36 l0 (ji13)).f2)) = false := decide_eq_false c16
                          clear c16
                          have H' := Aside0.mk H
                          clear H
                          have p249 : 0 ≤ (x3_1 : Int) := of_decide_eq_true (by first | (with_reducible assumption) | assumption)
                          have q249 : x3_1 < (l0.length : Int) := of_decide_eq_true (by first | (with_reducible assumption) | assumption)
                          obtain ⟨ad249, e249, hx249_0, hx249_1, hx249_2, hx249_3⟩ := at_T36 HR0.out x3_1 p249 q249
                          cases e249
                          replace hx249_0 := (HB.out.cell (World.block_lt_of_cell? w _ hx249_0)).trans hx249_0
                          replace hx249_1 := (HB.out.cell (World.block_lt_of_cell? w _ hx249_1)).trans hx249_1
                          replace hx249_2 := (HB.out.cell (World.block_lt_of_cell? w _ hx249_2)).trans hx249_2
                          replace hx249_3 := (HB.out.cell (World.block_lt_of_cell? w _ hx249_3)).trans hx249_3
                          replace p249 := eq_true p249
                          replace q249 := eq_true q249
                          go_wp2_with (first | ((with_reducible refine gate_dst (N := 4) rfl ?_); refine box_event ?hg (N := 4) ?hd (cs := #[.int .i64 0, .int .i64 0, .int .i64 0, .int .i64 0]) (t := 36) ?hr ?_; (case hd => rfl); (case hg => rfl); (case hr => first | (go_simp; done) | (go_simp; rfl)); intro gb250 hg w19 hbox hb; have n0_ := Aside0.mk (below_step (oB HB) hb); have n1_ := Aside0.mk (hbox); have n2_ := Aside0.mk ((by rw [hg]; exact (below_size (oB HB)) : w.heap.size ≤ gb250)); have n3_ := Aside0.mk ((by rw [hg]; exact (below_size (oB HB)) : w.heap.size ≤ gb250)); clear HB; have HB := n0_; have BK250 := n1_; have GW250 := n2_; have GE250 := n3_; clear n0_ n1_ n2_ n3_; clear hb hbox hg; have hcz20_0 : w19.cell? ⟨gb250, 0, none⟩ = some (.int .i64 0) := (blk_cell BK250.out 0).trans rfl; have hcz20_1 : w19.cell? ⟨gb250, 1, none⟩ = some (.int .i64 0) := (blk_cell BK250.out 1).trans rfl; have hcz20_2 : w19.cell? ⟨gb250, 2, none⟩ = some (.int .i64 0) := (blk_cell BK250.out 2).trans rfl; have hcz20_3 : w19.cell? ⟨gb250, 3, none⟩ = some (.int .i64 0) := (blk_cell BK250.out 3).trans rfl; have hfz20_0 := blk_frozen BK250.out 0; have hfz20_1 := blk_frozen BK250.out 1; have hfz20_2 := blk_frozen BK250.out 2; have hfz20_3 := blk_frozen BK250.out 3) | (go_at_call 53; (with_reducible refine (spec_l01In.calls ((rd_T36 l0 x3_1).f0.f0) 0 3 true _ A4.out).mono ?_); rintro e w' ⟨rfl, ⟨nd, rfl⟩⟩; (try first | exact ⟨rfl, _, World.drewN_drewN _ _ _⟩ | exact ⟨rfl, _, Eq.trans (World.drewN_drewN _ _ _) (congrArg (World.drewN _) (Nat.add_assoc _ _ _))⟩)) | (go_at_call 53; (with_reducible refine (spec_l01In.calls ((rd_T36 l0 x3_1).f0.f1) 0 39 true _ A6.out).mono ?_); rintro e w' ⟨rfl, ⟨nd, rfl⟩⟩; (try first | exact ⟨rfl, _, World.drewN_drewN _ _ _⟩ | exact ⟨rfl, _, Eq.trans (World.drewN_drewN _ _ _) (congrArg (World.drewN _) (Nat.add_assoc _ _ _))⟩)) | (go_at_call 53; (with_reducible refine (spec_l01In.calls ((rd_T36 l0 x3_1).f1) 0 2 true _ A8.out).mono ?_); rintro e w' ⟨rfl, ⟨nd, rfl⟩⟩; (try first | exact ⟨rfl, _, World.drewN_drewN _ _ _⟩ | exact ⟨rfl, _, Eq.trans (World.drewN_drewN _ _ _) (congrArg (World.drewN _) (Nat.add_assoc _ _ _))⟩)) | (go_at_call 53; (with_reducible refine (spec_l01In.calls ((rd_T36 l0 x3_1).f2) 0 100000 true _ A10.out).mono ?_); rintro e w' ⟨rfl, ⟨nd, rfl⟩⟩; (try first | exact ⟨rfl, _, World.drewN_drewN _ _ _⟩ | exact ⟨rfl, _, Eq.trans (World.drewN_drewN _ _ _) (congrArg (World.drewN _) (Nat.add_assoc _ _ _))⟩); have p255 : 0 ≤ ((ji13) : Int) := of_decide_eq_true (by first | (with_reducible assumption) | assumption); have q255 : (ji13) < (l0.length : Int) := of_decide_eq_true (by first | (with_reducible assumption) | assumption); obtain ⟨ad255, e255, hx255_0, hx255_1, hx255_2, hx255_3⟩ := at_T36 HR0.out (ji13) p255 q255; obtain rfl : ad249 = ad255 := (by injection e255); have hn255_0 : ad249.block ≠ gb250 := Nat.ne_of_lt (Nat.lt_of_lt_of_le (by have := World.block_lt_of_cell? _ _ hx255_0; first | rwa [add_block] at this | exact this) GW250.out); have hn255_1 : ad249.block ≠ gb250 := Nat.ne_of_lt (Nat.lt_of_lt_of_le (by have := World.block_lt_of_cell? _ _ hx255_0; first | rwa [add_block] at this | exact this) GW250.out); have hn255_2 : ad249.block ≠ gb250 := Nat.ne_of_lt (Nat.lt_of_lt_of_le (by have := World.block_lt_of_cell? _ _ hx255_0; first | rwa [add_block] at this | exact this) GW250.out); have hn255_3 : ad249.block ≠ gb250 := Nat.ne_of_lt (Nat.lt_of_lt_of_le (by have := World.block_lt_of_cell? _ _ hx255_0; first | rwa [add_block] at this | exact this) GW250.out); replace hx255_0 := (HB.out.cell (World.block_lt_of_cell? w _ hx255_0)).trans hx255_0; replace hx255_1 := (HB.out.cell (World.block_lt_of_cell? w _ hx255_1)).trans hx255_1; replace hx255_2 := (HB.out.cell (World.block_lt_of_cell? w _ hx255_2)).trans hx255_2; replace hx255_3 := (HB.out.cell (World.block_lt_of_cell? w _ hx255_3)).trans hx255_3; replace hx255_0 := (cell_far (p := ⟨gb250, 0, none⟩) (by first | (rw [add_block]; exact hn255_0) | (show (Addr.add _ _).block ≠ _; rw [add_block]; exact hn255_0) | exact hn255_0) (.int .i64 ((rd_T36 l0 x3_1).f0.f0))).trans hx255_0; replace hx255_1 := (cell_far (p := ⟨gb250, 0, none⟩) (by first | (rw [add_block]; exact hn255_0) | (show (Addr.add _ _).block ≠ _; rw [add_block]; exact hn255_0) | exact hn255_0) (.int .i64 ((rd_T36 l0 x3_1).f0.f0))).trans hx255_1; replace hx255_2 := (cell_far (p := ⟨gb250, 0, none⟩) (by first | (rw [add_block]; exact hn255_0) | (show (Addr.add _ _).block ≠ _; rw [add_block]; exact hn255_0) | exact hn255_0) (.int .i64 ((rd_T36 l0 x3_1).f0.f0))).trans hx255_2; replace hx255_3 := (cell_far (p := ⟨gb250, 0, none⟩) (by first | (rw [add_block]; exact hn255_0) | (show (Addr.add _ _).block ≠ _; rw [add_block]; exact hn255_0) | exact hn255_0) (.int .i64 ((rd_T36 l0 x3_1).f0.f0))).trans hx255_3; replace hx255_0 := (cell_far (p := ⟨gb250, 1, none⟩) (by first | (rw [add_block]; exact hn255_1) | (show (Addr.add _ _).block ≠ _; rw [add_block]; exact hn255_1) | exact hn255_1) (.int .i64 ((rd_T36 l0 x3_1).f0.f1))).trans hx255_0; replace hx255_1 := (cell_far (p := ⟨gb250, 1, none⟩) (by first | (rw [add_block]; exact hn255_1) | (show (Addr.add _ _).block ≠ _; rw [add_block]; exact hn255_1) | exact hn255_1) (.int .i64 ((rd_T36 l0 x3_1).f0.f1))).trans hx255_1; replace hx255_2 := (cell_far (p := ⟨gb250, 1, none⟩) (by first | (rw [add_block]; exact hn255_1) | (show (Addr.add _ _).block ≠ _; rw [add_block]; exact hn255_1) | exact hn255_1) (.int .i64 ((rd_T36 l0 x3_1).f0.f1))).trans hx255_2; replace hx255_3 := (cell_far (p := ⟨gb250, 1, none⟩) (by first | (rw [add_block]; exact hn255_1) | (show (Addr.add _ _).block ≠ _; rw [add_block]; exact hn255_1) | exact hn255_1) (.int .i64 ((rd_T36 l0 x3_1).f0.f1))).trans hx255_3; replace hx255_0 := (cell_far (p := ⟨gb250, 2, none⟩) (by first | (rw [add_block]; exact hn255_2) | (show (Addr.add _ _).block ≠ _; rw [add_block]; exact hn255_2) | exact hn255_2) (.int .i64 ((rd_T36 l0 x3_1).f1))).trans hx255_0; replace hx255_1 := (cell_far (p := ⟨gb250, 2, none⟩) (by first | (rw [add_block]; exact hn255_2) | (show (Addr.add _ _).block ≠ _; rw [add_block]; exact hn255_2) | exact hn255_2) (.int .i64 ((rd_T36 l0 x3_1).f1))).trans hx255_1; replace hx255_2 := (cell_far (p := ⟨gb250, 2, none⟩) (by first | (rw [add_block]; exact hn255_2) | (show (Addr.add _ _).block ≠ _; rw [add_block]; exact hn255_2) | exact hn255_2) (.int .i64 ((rd_T36 l0 x3_1).f1))).trans hx255_2; replace hx255_3 := (cell_far (p := ⟨gb250, 2, none⟩) (by first | (rw [add_block]; exact hn255_2) | (show (Addr.add _ _).block ≠ _; rw [add_block]; exact hn255_2) | exact hn255_2) (.int .i64 ((rd_T36 l0 x3_1).f1))).trans hx255_3; replace hx255_0 := (cell_far (p := ⟨gb250, 3, none⟩) (by first | (rw [add_block]; exact hn255_3) | (show (Addr.add _ _).block ≠ _; rw [add_block]; exact hn255_3) | exact hn255_3) (.int .i64 ((rd_T36 l0 x3_1).f2))).trans hx255_0; replace hx255_1 := (cell_far (p := ⟨gb250, 3, none⟩) (by first | (rw [add_block]; exact hn255_3) | (show (Addr.add _ _).block ≠ _; rw [add_block]; exact hn255_3) | exact hn255_3) (.int .i64 ((rd_T36 l0 x3_1).f2))).trans hx255_1; replace hx255_2 := (cell_far (p := ⟨gb250, 3, none⟩) (by first | (rw [add_block]; exact hn255_3) | (show (Addr.add _ _).block ≠ _; rw [add_block]; exact hn255_3) | exact hn255_3) (.int .i64 ((rd_T36 l0 x3_1).f2))).trans hx255_2; replace hx255_3 := (cell_far (p := ⟨gb250, 3, none⟩) (by first | (rw [add_block]; exact hn255_3) | (show (Addr.add _ _).block ≠ _; rw [add_block]; exact hn255_3) | exact hn255_3) (.int .i64 ((rd_T36 l0 x3_1).f2))).trans hx255_3; (try have hy255_0 := fun (n_ : Nat) => (show ((((((w19.drewN n_).setCell ⟨gb250, 0, none⟩ (.int .i64 ((rd_T36 l0 x3_1).f0.f0))).setCell ⟨gb250, 1, none⟩ (.int .i64 ((rd_T36 l0 x3_1).f0.f1))).setCell ⟨gb250, 2, none⟩ (.int .i64 ((rd_T36 l0 x3_1).f1))).setCell ⟨gb250, 3, none⟩ (.int .i64 ((rd_T36 l0 x3_1).f2)))).cell? _ = some _ from hx255_0)); (try have hy255_1 := fun (n_ : Nat) => (show ((((((w19.drewN n_).setCell ⟨gb250, 0, none⟩ (.int .i64 ((rd_T36 l0 x3_1).f0.f0))).setCell ⟨gb250, 1, none⟩ (.int .i64 ((rd_T36 l0 x3_1).f0.f1))).setCell ⟨gb250, 2, none⟩ (.int .i64 ((rd_T36 l0 x3_1).f1))).setCell ⟨gb250, 3, none⟩ (.int .i64 ((rd_T36 l0 x3_1).f2)))).cell? _ = some _ from hx255_1)); (try have hy255_2 := fun (n_ : Nat) => (show ((((((w19.drewN n_).setCell ⟨gb250, 0, none⟩ (.int .i64 ((rd_T36 l0 x3_1).f0.f0))).setCell ⟨gb250, 1, none⟩ (.int .i64 ((rd_T36 l0 x3_1).f0.f1))).setCell ⟨gb250, 2, none⟩ (.int .i64 ((rd_T36 l0 x3_1).f1))).setCell ⟨gb250, 3, none⟩ (.int .i64 ((rd_T36 l0 x3_1).f2)))).cell? _ = some _ from hx255_2)); (try have hy255_3 := fun (n_ : Nat) => (show ((((((w19.drewN n_).setCell ⟨gb250, 0, none⟩ (.int .i64 ((rd_T36 l0 x3_1).f0.f0))).setCell ⟨gb250, 1, none⟩ (.int .i64 ((rd_T36 l0 x3_1).f0.f1))).setCell ⟨gb250, 2, none⟩ (.int .i64 ((rd_T36 l0 x3_1).f1))).setCell ⟨gb250, 3, none⟩ (.int .i64 ((rd_T36 l0 x3_1).f2)))).cell? _ = some _ from hx255_3)); clear hn255_0; clear hn255_1; clear hn255_2; clear hn255_3; replace p255 := eq_true p255; replace q255 := eq_true q255))
                          repeat (go_quiet (first | ((with_reducible refine gate_dst (N := 4) rfl ?_); refine box_event ?hg (N := 4) ?hd (cs := #[.int .i64 0, .int .i64 0, .int .i64 0, .int .i64 0]) (t := 36) ?hr ?_; (case hd => rfl); (case hg => rfl); (case hr => first | (go_simp; done) | (go_simp; rfl)); intro gb250 hg w19 hbox hb; have n0_ := Aside0.mk (below_step (oB HB) hb); have n1_ := Aside0.mk (hbox); have n2_ := Aside0.mk ((by rw [hg]; exact (below_size (oB HB)) : w.heap.size ≤ gb250)); have n3_ := Aside0.mk ((by rw [hg]; exact (below_size (oB HB)) : w.heap.size ≤ gb250)); clear HB; have HB := n0_; have BK250 := n1_; have GW250 := n2_; have GE250 := n3_; clear n0_ n1_ n2_ n3_; clear hb hbox hg; have hcz20_0 : w19.cell? ⟨gb250, 0, none⟩ = some (.int .i64 0) := (blk_cell BK250.out 0).trans rfl; have hcz20_1 : w19.cell? ⟨gb250, 1, none⟩ = some (.int .i64 0) := (blk_cell BK250.out 1).trans rfl; have hcz20_2 : w19.cell? ⟨gb250, 2, none⟩ = some (.int .i64 0) := (blk_cell BK250.out 2).trans rfl; have hcz20_3 : w19.cell? ⟨gb250, 3, none⟩ = some (.int .i64 0) := (blk_cell BK250.out 3).trans rfl; have hfz20_0 := blk_frozen BK250.out 0; have hfz20_1 := blk_frozen BK250.out 1; have hfz20_2 := blk_frozen BK250.out 2; have hfz20_3 := blk_frozen BK250.out 3) | (go_at_call 53; (with_reducible refine (spec_l01In.calls ((rd_T36 l0 x3_1).f0.f0) 0 3 true _ A4.out).mono ?_); rintro e w' ⟨rfl, ⟨nd, rfl⟩⟩; (try first | exact ⟨rfl, _, World.drewN_drewN _ _ _⟩ | exact ⟨rfl, _, Eq.trans (World.drewN_drewN _ _ _) (congrArg (World.drewN _) (Nat.add_assoc _ _ _))⟩)) | (go_at_call 53; (with_reducible refine (spec_l01In.calls ((rd_T36 l0 x3_1).f0.f1) 0 39 true _ A6.out).mono ?_); rintro e w' ⟨rfl, ⟨nd, rfl⟩⟩; (try first | exact ⟨rfl, _, World.drewN_drewN _ _ _⟩ | exact ⟨rfl, _, Eq.trans (World.drewN_drewN _ _ _) (congrArg (World.drewN _) (Nat.add_assoc _ _ _))⟩)) | (go_at_call 53; (with_reducible refine (spec_l01In.calls ((rd_T36 l0 x3_1).f1) 0 2 true _ A8.out).mono ?_); rintro e w' ⟨rfl, ⟨nd, rfl⟩⟩; (try first | exact ⟨rfl, _, World.drewN_drewN _ _ _⟩ | exact ⟨rfl, _, Eq.trans (World.drewN_drewN _ _ _) (congrArg (World.drewN _) (Nat.add_assoc _ _ _))⟩)) | (go_at_call 53; (with_reducible refine (spec_l01In.calls ((rd_T36 l0 x3_1).f2) 0 100000 true _ A10.out).mono ?_); rintro e w' ⟨rfl, ⟨nd, rfl⟩⟩; (try first | exact ⟨rfl, _, World.drewN_drewN _ _ _⟩ | exact ⟨rfl, _, Eq.trans (World.drewN_drewN _ _ _) (congrArg (World.drewN _) (Nat.add_assoc _ _ _))⟩); have p255 : 0 ≤ ((ji13) : Int) := of_decide_eq_true (by first | (with_reducible assumption) | assumption); have q255 : (ji13) < (l0.length : Int) := of_decide_eq_true (by first | (with_reducible assumption) | assumption); obtain ⟨ad255, e255, hx255_0, hx255_1, hx255_2, hx255_3⟩ := at_T36 HR0.out (ji13) p255 q255; obtain rfl : ad249 = ad255 := (by injection e255); have hn255_0 : ad249.block ≠ gb250 := Nat.ne_of_lt (Nat.lt_of_lt_of_le (by have := World.block_lt_of_cell? _ _ hx255_0; first | rwa [add_block] at this | exact this) GW250.out); have hn255_1 : ad249.block ≠ gb250 := Nat.ne_of_lt (Nat.lt_of_lt_of_le (by have := World.block_lt_of_cell? _ _ hx255_0; first | rwa [add_block] at this | exact this) GW250.out); have hn255_2 : ad249.block ≠ gb250 := Nat.ne_of_lt (Nat.lt_of_lt_of_le (by have := World.block_lt_of_cell? _ _ hx255_0; first | rwa [add_block] at this | exact this) GW250.out); have hn255_3 : ad249.block ≠ gb250 := Nat.ne_of_lt (Nat.lt_of_lt_of_le (by have := World.block_lt_of_cell? _ _ hx255_0; first | rwa [add_block] at this | exact this) GW250.out); replace hx255_0 := (HB.out.cell (World.block_lt_of_cell? w _ hx255_0)).trans hx255_0; replace hx255_1 := (HB.out.cell (World.block_lt_of_cell? w _ hx255_1)).trans hx255_1; replace hx255_2 := (HB.out.cell (World.block_lt_of_cell? w _ hx255_2)).trans hx255_2; replace hx255_3 := (HB.out.cell (World.block_lt_of_cell? w _ hx255_3)).trans hx255_3; replace hx255_0 := (cell_far (p := ⟨gb250, 0, none⟩) (by first | (rw [add_block]; exact hn255_0) | (show (Addr.add _ _).block ≠ _; rw [add_block]; exact hn255_0) | exact hn255_0) (.int .i64 ((rd_T36 l0 x3_1).f0.f0))).trans hx255_0; replace hx255_1 := (cell_far (p := ⟨gb250, 0, none⟩) (by first | (rw [add_block]; exact hn255_0) | (show (Addr.add _ _).block ≠ _; rw [add_block]; exact hn255_0) | exact hn255_0) (.int .i64 ((rd_T36 l0 x3_1).f0.f0))).trans hx255_1; replace hx255_2 := (cell_far (p := ⟨gb250, 0, none⟩) (by first | (rw [add_block]; exact hn255_0) | (show (Addr.add _ _).block ≠ _; rw [add_block]; exact hn255_0) | exact hn255_0) (.int .i64 ((rd_T36 l0 x3_1).f0.f0))).trans hx255_2; replace hx255_3 := (cell_far (p := ⟨gb250, 0, none⟩) (by first | (rw [add_block]; exact hn255_0) | (show (Addr.add _ _).block ≠ _; rw [add_block]; exact hn255_0) | exact hn255_0) (.int .i64 ((rd_T36 l0 x3_1).f0.f0))).trans hx255_3; replace hx255_0 := (cell_far (p := ⟨gb250, 1, none⟩) (by first | (rw [add_block]; exact hn255_1) | (show (Addr.add _ _).block ≠ _; rw [add_block]; exact hn255_1) | exact hn255_1) (.int .i64 ((rd_T36 l0 x3_1).f0.f1))).trans hx255_0; replace hx255_1 := (cell_far (p := ⟨gb250, 1, none⟩) (by first | (rw [add_block]; exact hn255_1) | (show (Addr.add _ _).block ≠ _; rw [add_block]; exact hn255_1) | exact hn255_1) (.int .i64 ((rd_T36 l0 x3_1).f0.f1))).trans hx255_1; replace hx255_2 := (cell_far (p := ⟨gb250, 1, none⟩) (by first | (rw [add_block]; exact hn255_1) | (show (Addr.add _ _).block ≠ _; rw [add_block]; exact hn255_1) | exact hn255_1) (.int .i64 ((rd_T36 l0 x3_1).f0.f1))).trans hx255_2; replace hx255_3 := (cell_far (p := ⟨gb250, 1, none⟩) (by first | (rw [add_block]; exact hn255_1) | (show (Addr.add _ _).block ≠ _; rw [add_block]; exact hn255_1) | exact hn255_1) (.int .i64 ((rd_T36 l0 x3_1).f0.f1))).trans hx255_3; replace hx255_0 := (cell_far (p := ⟨gb250, 2, none⟩) (by first | (rw [add_block]; exact hn255_2) | (show (Addr.add _ _).block ≠ _; rw [add_block]; exact hn255_2) | exact hn255_2) (.int .i64 ((rd_T36 l0 x3_1).f1))).trans hx255_0; replace hx255_1 := (cell_far (p := ⟨gb250, 2, none⟩) (by first | (rw [add_block]; exact hn255_2) | (show (Addr.add _ _).block ≠ _; rw [add_block]; exact hn255_2) | exact hn255_2) (.int .i64 ((rd_T36 l0 x3_1).f1))).trans hx255_1; replace hx255_2 := (cell_far (p := ⟨gb250, 2, none⟩) (by first | (rw [add_block]; exact hn255_2) | (show (Addr.add _ _).block ≠ _; rw [add_block]; exact hn255_2) | exact hn255_2) (.int .i64 ((rd_T36 l0 x3_1).f1))).trans hx255_2; replace hx255_3 := (cell_far (p := ⟨gb250, 2, none⟩) (by first | (rw [add_block]; exact hn255_2) | (show (Addr.add _ _).block ≠ _; rw [add_block]; exact hn255_2) | exact hn255_2) (.int .i64 ((rd_T36 l0 x3_1).f1))).trans hx255_3; replace hx255_0 := (cell_far (p := ⟨gb250, 3, none⟩) (by first | (rw [add_block]; exact hn255_3) | (show (Addr.add _ _).block ≠ _; rw [add_block]; exact hn255_3) | exact hn255_3) (.int .i64 ((rd_T36 l0 x3_1).f2))).trans hx255_0; replace hx255_1 := (cell_far (p := ⟨gb250, 3, none⟩) (by first | (rw [add_block]; exact hn255_3) | (show (Addr.add _ _).block ≠ _; rw [add_block]; exact hn255_3) | exact hn255_3) (.int .i64 ((rd_T36 l0 x3_1).f2))).trans hx255_1; replace hx255_2 := (cell_far (p := ⟨gb250, 3, none⟩) (by first | (rw [add_block]; exact hn255_3) | (show (Addr.add _ _).block ≠ _; rw [add_block]; exact hn255_3) | exact hn255_3) (.int .i64 ((rd_T36 l0 x3_1).f2))).trans hx255_2; replace hx255_3 := (cell_far (p := ⟨gb250, 3, none⟩) (by first | (rw [add_block]; exact hn255_3) | (show (Addr.add _ _).block ≠ _; rw [add_block]; exact hn255_3) | exact hn255_3) (.int .i64 ((rd_T36 l0 x3_1).f2))).trans hx255_3; (try have hy255_0 := fun (n_ : Nat) => (show ((((((w19.drewN n_).setCell ⟨gb250, 0, none⟩ (.int .i64 ((rd_T36 l0 x3_1).f0.f0))).setCell ⟨gb250, 1, none⟩ (.int .i64 ((rd_T36 l0 x3_1).f0.f1))).setCell ⟨gb250, 2, none⟩ (.int .i64 ((rd_T36 l0 x3_1).f1))).setCell ⟨gb250, 3, none⟩ (.int .i64 ((rd_T36 l0 x3_1).f2)))).cell? _ = some _ from hx255_0)); (try have hy255_1 := fun (n_ : Nat) => (show ((((((w19.drewN n_).setCell ⟨gb250, 0, none⟩ (.int .i64 ((rd_T36 l0 x3_1).f0.f0))).setCell ⟨gb250, 1, none⟩ (.int .i64 ((rd_T36 l0 x3_1).f0.f1))).setCell ⟨gb250, 2, none⟩ (.int .i64 ((rd_T36 l0 x3_1).f1))).setCell ⟨gb250, 3, none⟩ (.int .i64 ((rd_T36 l0 x3_1).f2)))).cell? _ = some _ from hx255_1)); (try have hy255_2 := fun (n_ : Nat) => (show ((((((w19.drewN n_).setCell ⟨gb250, 0, none⟩ (.int .i64 ((rd_T36 l0 x3_1).f0.f0))).setCell ⟨gb250, 1, none⟩ (.int .i64 ((rd_T36 l0 x3_1).f0.f1))).setCell ⟨gb250, 2, none⟩ (.int .i64 ((rd_T36 l0 x3_1).f1))).setCell ⟨gb250, 3, none⟩ (.int .i64 ((rd_T36 l0 x3_1).f2)))).cell? _ = some _ from hx255_2)); (try have hy255_3 := fun (n_ : Nat) => (show ((((((w19.drewN n_).setCell ⟨gb250, 0, none⟩ (.int .i64 ((rd_T36 l0 x3_1).f0.f0))).setCell ⟨gb250, 1, none⟩ (.int .i64 ((rd_T36 l0 x3_1).f0.f1))).setCell ⟨gb250, 2, none⟩ (.int .i64 ((rd_T36 l0 x3_1).f1))).setCell ⟨gb250, 3, none⟩ (.int .i64 ((rd_T36 l0 x3_1).f2)))).cell? _ = some _ from hx255_3)); clear hn255_0; clear hn255_1; clear hn255_2; clear hn255_3; replace p255 := eq_true p255; replace q255 := eq_true q255)); try go_wp2_with (first | ((with_reducible refine gate_dst (N := 4) rfl ?_); refine box_event ?hg (N := 4) ?hd (cs := #[.int .i64 0, .int .i64 0, .int .i64 0, .int .i64 0]) (t := 36) ?hr ?_; (case hd => rfl); (case hg => rfl); (case hr => first | (go_simp; done) | (go_simp; rfl)); intro gb250 hg w19 hbox hb; have n0_ := Aside0.mk (below_step (oB HB) hb); have n1_ := Aside0.mk (hbox); have n2_ := Aside0.mk ((by rw [hg]; exact (below_size (oB HB)) : w.heap.size ≤ gb250)); have n3_ := Aside0.mk ((by rw [hg]; exact (below_size (oB HB)) : w.heap.size ≤ gb250)); clear HB; have HB := n0_; have BK250 := n1_; have GW250 := n2_; have GE250 := n3_; clear n0_ n1_ n2_ n3_; clear hb hbox hg; have hcz20_0 : w19.cell? ⟨gb250, 0, none⟩ = some (.int .i64 0) := (blk_cell BK250.out 0).trans rfl; have hcz20_1 : w19.cell? ⟨gb250, 1, none⟩ = some (.int .i64 0) := (blk_cell BK250.out 1).trans rfl; have hcz20_2 : w19.cell? ⟨gb250, 2, none⟩ = some (.int .i64 0) := (blk_cell BK250.out 2).trans rfl; have hcz20_3 : w19.cell? ⟨gb250, 3, none⟩ = some (.int .i64 0) := (blk_cell BK250.out 3).trans rfl; have hfz20_0 := blk_frozen BK250.out 0; have hfz20_1 := blk_frozen BK250.out 1; have hfz20_2 := blk_frozen BK250.out 2; have hfz20_3 := blk_frozen BK250.out 3) | (go_at_call 53; (with_reducible refine (spec_l01In.calls ((rd_T36 l0 x3_1).f0.f0) 0 3 true _ A4.out).mono ?_); rintro e w' ⟨rfl, ⟨nd, rfl⟩⟩; (try first | exact ⟨rfl, _, World.drewN_drewN _ _ _⟩ | exact ⟨rfl, _, Eq.trans (World.drewN_drewN _ _ _) (congrArg (World.drewN _) (Nat.add_assoc _ _ _))⟩)) | (go_at_call 53; (with_reducible refine (spec_l01In.calls ((rd_T36 l0 x3_1).f0.f1) 0 39 true _ A6.out).mono ?_); rintro e w' ⟨rfl, ⟨nd, rfl⟩⟩; (try first | exact ⟨rfl, _, World.drewN_drewN _ _ _⟩ | exact ⟨rfl, _, Eq.trans (World.drewN_drewN _ _ _) (congrArg (World.drewN _) (Nat.add_assoc _ _ _))⟩)) | (go_at_call 53; (with_reducible refine (spec_l01In.calls ((rd_T36 l0 x3_1).f1) 0 2 true _ A8.out).mono ?_); rintro e w' ⟨rfl, ⟨nd, rfl⟩⟩; (try first | exact ⟨rfl, _, World.drewN_drewN _ _ _⟩ | exact ⟨rfl, _, Eq.trans (World.drewN_drewN _ _ _) (congrArg (World.drewN _) (Nat.add_assoc _ _ _))⟩)) | (go_at_call 53; (with_reducible refine (spec_l01In.calls ((rd_T36 l0 x3_1).f2) 0 100000 true _ A10.out).mono ?_); rintro e w' ⟨rfl, ⟨nd, rfl⟩⟩; (try first | exact ⟨rfl, _, World.drewN_drewN _ _ _⟩ | exact ⟨rfl, _, Eq.trans (World.drewN_drewN _ _ _) (congrArg (World.drewN _) (Nat.add_assoc _ _ _))⟩); have p255 : 0 ≤ ((ji13) : Int) := of_decide_eq_true (by first | (with_reducible assumption) | assumption); have q255 : (ji13) < (l0.length : Int) := of_decide_eq_true (by first | (with_reducible assumption) | assumption); obtain ⟨ad255, e255, hx255_0, hx255_1, hx255_2, hx255_3⟩ := at_T36 HR0.out (ji13) p255 q255; obtain rfl : ad249 = ad255 := (by injection e255); have hn255_0 : ad249.block ≠ gb250 := Nat.ne_of_lt (Nat.lt_of_lt_of_le (by have := World.block_lt_of_cell? _ _ hx255_0; first | rwa [add_block] at this | exact this) GW250.out); have hn255_1 : ad249.block ≠ gb250 := Nat.ne_of_lt (Nat.lt_of_lt_of_le (by have := World.block_lt_of_cell? _ _ hx255_0; first | rwa [add_block] at this | exact this) GW250.out); have hn255_2 : ad249.block ≠ gb250 := Nat.ne_of_lt (Nat.lt_of_lt_of_le (by have := World.block_lt_of_cell? _ _ hx255_0; first | rwa [add_block] at this | exact this) GW250.out); have hn255_3 : ad249.block ≠ gb250 := Nat.ne_of_lt (Nat.lt_of_lt_of_le (by have := World.block_lt_of_cell? _ _ hx255_0; first | rwa [add_block] at this | exact this) GW250.out); replace hx255_0 := (HB.out.cell (World.block_lt_of_cell? w _ hx255_0)).trans hx255_0; replace hx255_1 := (HB.out.cell (World.block_lt_of_cell? w _ hx255_1)).trans hx255_1; replace hx255_2 := (HB.out.cell (World.block_lt_of_cell? w _ hx255_2)).trans hx255_2; replace hx255_3 := (HB.out.cell (World.block_lt_of_cell? w _ hx255_3)).trans hx255_3; replace hx255_0 := (cell_far (p := ⟨gb250, 0, none⟩) (by first | (rw [add_block]; exact hn255_0) | (show (Addr.add _ _).block ≠ _; rw [add_block]; exact hn255_0) | exact hn255_0) (.int .i64 ((rd_T36 l0 x3_1).f0.f0))).trans hx255_0; replace hx255_1 := (cell_far (p := ⟨gb250, 0, none⟩) (by first | (rw [add_block]; exact hn255_0) | (show (Addr.add _ _).block ≠ _; rw [add_block]; exact hn255_0) | exact hn255_0) (.int .i64 ((rd_T36 l0 x3_1).f0.f0))).trans hx255_1; replace hx255_2 := (cell_far (p := ⟨gb250, 0, none⟩) (by first | (rw [add_block]; exact hn255_0) | (show (Addr.add _ _).block ≠ _; rw [add_block]; exact hn255_0) | exact hn255_0) (.int .i64 ((rd_T36 l0 x3_1).f0.f0))).trans hx255_2; replace hx255_3 := (cell_far (p := ⟨gb250, 0, none⟩) (by first | (rw [add_block]; exact hn255_0) | (show (Addr.add _ _).block ≠ _; rw [add_block]; exact hn255_0) | exact hn255_0) (.int .i64 ((rd_T36 l0 x3_1).f0.f0))).trans hx255_3; replace hx255_0 := (cell_far (p := ⟨gb250, 1, none⟩) (by first | (rw [add_block]; exact hn255_1) | (show (Addr.add _ _).block ≠ _; rw [add_block]; exact hn255_1) | exact hn255_1) (.int .i64 ((rd_T36 l0 x3_1).f0.f1))).trans hx255_0; replace hx255_1 := (cell_far (p := ⟨gb250, 1, none⟩) (by first | (rw [add_block]; exact hn255_1) | (show (Addr.add _ _).block ≠ _; rw [add_block]; exact hn255_1) | exact hn255_1) (.int .i64 ((rd_T36 l0 x3_1).f0.f1))).trans hx255_1; replace hx255_2 := (cell_far (p := ⟨gb250, 1, none⟩) (by first | (rw [add_block]; exact hn255_1) | (show (Addr.add _ _).block ≠ _; rw [add_block]; exact hn255_1) | exact hn255_1) (.int .i64 ((rd_T36 l0 x3_1).f0.f1))).trans hx255_2; replace hx255_3 := (cell_far (p := ⟨gb250, 1, none⟩) (by first | (rw [add_block]; exact hn255_1) | (show (Addr.add _ _).block ≠ _; rw [add_block]; exact hn255_1) | exact hn255_1) (.int .i64 ((rd_T36 l0 x3_1).f0.f1))).trans hx255_3; replace hx255_0 := (cell_far (p := ⟨gb250, 2, none⟩) (by first | (rw [add_block]; exact hn255_2) | (show (Addr.add _ _).block ≠ _; rw [add_block]; exact hn255_2) | exact hn255_2) (.int .i64 ((rd_T36 l0 x3_1).f1))).trans hx255_0; replace hx255_1 := (cell_far (p := ⟨gb250, 2, none⟩) (by first | (rw [add_block]; exact hn255_2) | (show (Addr.add _ _).block ≠ _; rw [add_block]; exact hn255_2) | exact hn255_2) (.int .i64 ((rd_T36 l0 x3_1).f1))).trans hx255_1; replace hx255_2 := (cell_far (p := ⟨gb250, 2, none⟩) (by first | (rw [add_block]; exact hn255_2) | (show (Addr.add _ _).block ≠ _; rw [add_block]; exact hn255_2) | exact hn255_2) (.int .i64 ((rd_T36 l0 x3_1).f1))).trans hx255_2; replace hx255_3 := (cell_far (p := ⟨gb250, 2, none⟩) (by first | (rw [add_block]; exact hn255_2) | (show (Addr.add _ _).block ≠ _; rw [add_block]; exact hn255_2) | exact hn255_2) (.int .i64 ((rd_T36 l0 x3_1).f1))).trans hx255_3; replace hx255_0 := (cell_far (p := ⟨gb250, 3, none⟩) (by first | (rw [add_block]; exact hn255_3) | (show (Addr.add _ _).block ≠ _; rw [add_block]; exact hn255_3) | exact hn255_3) (.int .i64 ((rd_T36 l0 x3_1).f2))).trans hx255_0; replace hx255_1 := (cell_far (p := ⟨gb250, 3, none⟩) (by first | (rw [add_block]; exact hn255_3) | (show (Addr.add _ _).block ≠ _; rw [add_block]; exact hn255_3) | exact hn255_3) (.int .i64 ((rd_T36 l0 x3_1).f2))).trans hx255_1; replace hx255_2 := (cell_far (p := ⟨gb250, 3, none⟩) (by first | (rw [add_block]; exact hn255_3) | (show (Addr.add _ _).block ≠ _; rw [add_block]; exact hn255_3) | exact hn255_3) (.int .i64 ((rd_T36 l0 x3_1).f2))).trans hx255_2; replace hx255_3 := (cell_far (p := ⟨gb250, 3, none⟩) (by first | (rw [add_block]; exact hn255_3) | (show (Addr.add _ _).block ≠ _; rw [add_block]; exact hn255_3) | exact hn255_3) (.int .i64 ((rd_T36 l0 x3_1).f2))).trans hx255_3; (try have hy255_0 := fun (n_ : Nat) => (show ((((((w19.drewN n_).setCell ⟨gb250, 0, none⟩ (.int .i64 ((rd_T36 l0 x3_1).f0.f0))).setCell ⟨gb250, 1, none⟩ (.int .i64 ((rd_T36 l0 x3_1).f0.f1))).setCell ⟨gb250, 2, none⟩ (.int .i64 ((rd_T36 l0 x3_1).f1))).setCell ⟨gb250, 3, none⟩ (.int .i64 ((rd_T36 l0 x3_1).f2)))).cell? _ = some _ from hx255_0)); (try have hy255_1 := fun (n_ : Nat) => (show ((((((w19.drewN n_).setCell ⟨gb250, 0, none⟩ (.int .i64 ((rd_T36 l0 x3_1).f0.f0))).setCell ⟨gb250, 1, none⟩ (.int .i64 ((rd_T36 l0 x3_1).f0.f1))).setCell ⟨gb250, 2, none⟩ (.int .i64 ((rd_T36 l0 x3_1).f1))).setCell ⟨gb250, 3, none⟩ (.int .i64 ((rd_T36 l0 x3_1).f2)))).cell? _ = some _ from hx255_1)); (try have hy255_2 := fun (n_ : Nat) => (show ((((((w19.drewN n_).setCell ⟨gb250, 0, none⟩ (.int .i64 ((rd_T36 l0 x3_1).f0.f0))).setCell ⟨gb250, 1, none⟩ (.int .i64 ((rd_T36 l0 x3_1).f0.f1))).setCell ⟨gb250, 2, none⟩ (.int .i64 ((rd_T36 l0 x3_1).f1))).setCell ⟨gb250, 3, none⟩ (.int .i64 ((rd_T36 l0 x3_1).f2)))).cell? _ = some _ from hx255_2)); (try have hy255_3 := fun (n_ : Nat) => (show ((((((w19.drewN n_).setCell ⟨gb250, 0, none⟩ (.int .i64 ((rd_T36 l0 x3_1).f0.f0))).setCell ⟨gb250, 1, none⟩ (.int .i64 ((rd_T36 l0 x3_1).f0.f1))).setCell ⟨gb250, 2, none⟩ (.int .i64 ((rd_T36 l0 x3_1).f1))).setCell ⟨gb250, 3, none⟩ (.int .i64 ((rd_T36 l0 x3_1).f2)))).cell? _ = some _ from hx255_3)); clear hn255_0; clear hn255_1; clear hn255_2; clear hn255_3; replace p255 := eq_true p255; replace q255 := eq_true q255)))
                          go_roundg k1
                          case measure => have := HK1.out; omega
                          case rel => exact ⟨(wrap64 (x3_1 + 1)), (by first | rfl | (simp; done) | (simp [*]; done)), H', ⟨by have := HK1.out; omega⟩, ⟨oB HB⟩⟩
                      · rw [if_neg c15] at H
                        exact absurd H (by simp)
                    · rw [if_neg c14] at H
                      exact absurd H (by simp)
                  · rw [if_neg c12] at H
                    have c12b0 : decide (0 < x3_1) = false := decide_eq_false c12
                    clear c12
                    have H' := Aside0.mk H
                    clear H
                    have p249 : 0 ≤ (x3_1 : Int) := of_decide_eq_true (by first | (with_reducible assumption) | assumption)
                    have q249 : x3_1 < (l0.length : Int) := of_decide_eq_true (by first | (with_reducible assumption) | assumption)
                    obtain ⟨ad249, e249, hx249_0, hx249_1, hx249_2, hx249_3⟩ := at_T36 HR0.out x3_1 p249 q249
                    cases e249
                    replace hx249_0 := (HB.out.cell (World.block_lt_of_cell? w _ hx249_0)).trans hx249_0
                    replace hx249_1 := (HB.out.cell (World.block_lt_of_cell? w _ hx249_1)).trans hx249_1
                    replace hx249_2 := (HB.out.cell (World.block_lt_of_cell? w _ hx249_2)).trans hx249_2
                    replace hx249_3 := (HB.out.cell (World.block_lt_of_cell? w _ hx249_3)).trans hx249_3
                    replace p249 := eq_true p249
                    replace q249 := eq_true q249
                    go_wp2_with (first | ((with_reducible refine gate_dst (N := 4) rfl ?_); refine box_event ?hg (N := 4) ?hd (cs := #[.int .i64 0, .int .i64 0, .int .i64 0, .int .i64 0]) (t := 36) ?hr ?_; (case hd => rfl); (case hg => rfl); (case hr => first | (go_simp; done) | (go_simp; rfl)); intro gb250 hg w21 hbox hb; have n0_ := Aside0.mk (below_step (oB HB) hb); have n1_ := Aside0.mk (hbox); have n2_ := Aside0.mk ((by rw [hg]; exact (below_size (oB HB)) : w.heap.size ≤ gb250)); have n3_ := Aside0.mk ((by rw [hg]; exact (below_size (oB HB)) : w.heap.size ≤ gb250)); clear HB; have HB := n0_; have BK250 := n1_; have GW250 := n2_; have GE250 := n3_; clear n0_ n1_ n2_ n3_; clear hb hbox hg; have hcz22_0 : w21.cell? ⟨gb250, 0, none⟩ = some (.int .i64 0) := (blk_cell BK250.out 0).trans rfl; have hcz22_1 : w21.cell? ⟨gb250, 1, none⟩ = some (.int .i64 0) := (blk_cell BK250.out 1).trans rfl; have hcz22_2 : w21.cell? ⟨gb250, 2, none⟩ = some (.int .i64 0) := (blk_cell BK250.out 2).trans rfl; have hcz22_3 : w21.cell? ⟨gb250, 3, none⟩ = some (.int .i64 0) := (blk_cell BK250.out 3).trans rfl; have hfz22_0 := blk_frozen BK250.out 0; have hfz22_1 := blk_frozen BK250.out 1; have hfz22_2 := blk_frozen BK250.out 2; have hfz22_3 := blk_frozen BK250.out 3) | (go_at_call 53; (with_reducible refine (spec_l01In.calls ((rd_T36 l0 x3_1).f0.f0) 0 3 true _ A4.out).mono ?_); rintro e w' ⟨rfl, ⟨nd, rfl⟩⟩; (try first | exact ⟨rfl, _, World.drewN_drewN _ _ _⟩ | exact ⟨rfl, _, Eq.trans (World.drewN_drewN _ _ _) (congrArg (World.drewN _) (Nat.add_assoc _ _ _))⟩)) | (go_at_call 53; (with_reducible refine (spec_l01In.calls ((rd_T36 l0 x3_1).f0.f1) 0 39 true _ A6.out).mono ?_); rintro e w' ⟨rfl, ⟨nd, rfl⟩⟩; (try first | exact ⟨rfl, _, World.drewN_drewN _ _ _⟩ | exact ⟨rfl, _, Eq.trans (World.drewN_drewN _ _ _) (congrArg (World.drewN _) (Nat.add_assoc _ _ _))⟩)) | (go_at_call 53; (with_reducible refine (spec_l01In.calls ((rd_T36 l0 x3_1).f1) 0 2 true _ A8.out).mono ?_); rintro e w' ⟨rfl, ⟨nd, rfl⟩⟩; (try first | exact ⟨rfl, _, World.drewN_drewN _ _ _⟩ | exact ⟨rfl, _, Eq.trans (World.drewN_drewN _ _ _) (congrArg (World.drewN _) (Nat.add_assoc _ _ _))⟩)) | (go_at_call 53; (with_reducible refine (spec_l01In.calls ((rd_T36 l0 x3_1).f2) 0 100000 true _ A10.out).mono ?_); rintro e w' ⟨rfl, ⟨nd, rfl⟩⟩; (try first | exact ⟨rfl, _, World.drewN_drewN _ _ _⟩ | exact ⟨rfl, _, Eq.trans (World.drewN_drewN _ _ _) (congrArg (World.drewN _) (Nat.add_assoc _ _ _))⟩)))
                    repeat (go_quiet (first | ((with_reducible refine gate_dst (N := 4) rfl ?_); refine box_event ?hg (N := 4) ?hd (cs := #[.int .i64 0, .int .i64 0, .int .i64 0, .int .i64 0]) (t := 36) ?hr ?_; (case hd => rfl); (case hg => rfl); (case hr => first | (go_simp; done) | (go_simp; rfl)); intro gb250 hg w21 hbox hb; have n0_ := Aside0.mk (below_step (oB HB) hb); have n1_ := Aside0.mk (hbox); have n2_ := Aside0.mk ((by rw [hg]; exact (below_size (oB HB)) : w.heap.size ≤ gb250)); have n3_ := Aside0.mk ((by rw [hg]; exact (below_size (oB HB)) : w.heap.size ≤ gb250)); clear HB; have HB := n0_; have BK250 := n1_; have GW250 := n2_; have GE250 := n3_; clear n0_ n1_ n2_ n3_; clear hb hbox hg; have hcz22_0 : w21.cell? ⟨gb250, 0, none⟩ = some (.int .i64 0) := (blk_cell BK250.out 0).trans rfl; have hcz22_1 : w21.cell? ⟨gb250, 1, none⟩ = some (.int .i64 0) := (blk_cell BK250.out 1).trans rfl; have hcz22_2 : w21.cell? ⟨gb250, 2, none⟩ = some (.int .i64 0) := (blk_cell BK250.out 2).trans rfl; have hcz22_3 : w21.cell? ⟨gb250, 3, none⟩ = some (.int .i64 0) := (blk_cell BK250.out 3).trans rfl; have hfz22_0 := blk_frozen BK250.out 0; have hfz22_1 := blk_frozen BK250.out 1; have hfz22_2 := blk_frozen BK250.out 2; have hfz22_3 := blk_frozen BK250.out 3) | (go_at_call 53; (with_reducible refine (spec_l01In.calls ((rd_T36 l0 x3_1).f0.f0) 0 3 true _ A4.out).mono ?_); rintro e w' ⟨rfl, ⟨nd, rfl⟩⟩; (try first | exact ⟨rfl, _, World.drewN_drewN _ _ _⟩ | exact ⟨rfl, _, Eq.trans (World.drewN_drewN _ _ _) (congrArg (World.drewN _) (Nat.add_assoc _ _ _))⟩)) | (go_at_call 53; (with_reducible refine (spec_l01In.calls ((rd_T36 l0 x3_1).f0.f1) 0 39 true _ A6.out).mono ?_); rintro e w' ⟨rfl, ⟨nd, rfl⟩⟩; (try first | exact ⟨rfl, _, World.drewN_drewN _ _ _⟩ | exact ⟨rfl, _, Eq.trans (World.drewN_drewN _ _ _) (congrArg (World.drewN _) (Nat.add_assoc _ _ _))⟩)) | (go_at_call 53; (with_reducible refine (spec_l01In.calls ((rd_T36 l0 x3_1).f1) 0 2 true _ A8.out).mono ?_); rintro e w' ⟨rfl, ⟨nd, rfl⟩⟩; (try first | exact ⟨rfl, _, World.drewN_drewN _ _ _⟩ | exact ⟨rfl, _, Eq.trans (World.drewN_drewN _ _ _) (congrArg (World.drewN _) (Nat.add_assoc _ _ _))⟩)) | (go_at_call 53; (with_reducible refine (spec_l01In.calls ((rd_T36 l0 x3_1).f2) 0 100000 true _ A10.out).mono ?_); rintro e w' ⟨rfl, ⟨nd, rfl⟩⟩; (try first | exact ⟨rfl, _, World.drewN_drewN _ _ _⟩ | exact ⟨rfl, _, Eq.trans (World.drewN_drewN _ _ _) (congrArg (World.drewN _) (Nat.add_assoc _ _ _))⟩))); try go_wp2_with (first | ((with_reducible refine gate_dst (N := 4) rfl ?_); refine box_event ?hg (N := 4) ?hd (cs := #[.int .i64 0, .int .i64 0, .int .i64 0, .int .i64 0]) (t := 36) ?hr ?_; (case hd => rfl); (case hg => rfl); (case hr => first | (go_simp; done) | (go_simp; rfl)); intro gb250 hg w21 hbox hb; have n0_ := Aside0.mk (below_step (oB HB) hb); have n1_ := Aside0.mk (hbox); have n2_ := Aside0.mk ((by rw [hg]; exact (below_size (oB HB)) : w.heap.size ≤ gb250)); have n3_ := Aside0.mk ((by rw [hg]; exact (below_size (oB HB)) : w.heap.size ≤ gb250)); clear HB; have HB := n0_; have BK250 := n1_; have GW250 := n2_; have GE250 := n3_; clear n0_ n1_ n2_ n3_; clear hb hbox hg; have hcz22_0 : w21.cell? ⟨gb250, 0, none⟩ = some (.int .i64 0) := (blk_cell BK250.out 0).trans rfl; have hcz22_1 : w21.cell? ⟨gb250, 1, none⟩ = some (.int .i64 0) := (blk_cell BK250.out 1).trans rfl; have hcz22_2 : w21.cell? ⟨gb250, 2, none⟩ = some (.int .i64 0) := (blk_cell BK250.out 2).trans rfl; have hcz22_3 : w21.cell? ⟨gb250, 3, none⟩ = some (.int .i64 0) := (blk_cell BK250.out 3).trans rfl; have hfz22_0 := blk_frozen BK250.out 0; have hfz22_1 := blk_frozen BK250.out 1; have hfz22_2 := blk_frozen BK250.out 2; have hfz22_3 := blk_frozen BK250.out 3) | (go_at_call 53; (with_reducible refine (spec_l01In.calls ((rd_T36 l0 x3_1).f0.f0) 0 3 true _ A4.out).mono ?_); rintro e w' ⟨rfl, ⟨nd, rfl⟩⟩; (try first | exact ⟨rfl, _, World.drewN_drewN _ _ _⟩ | exact ⟨rfl, _, Eq.trans (World.drewN_drewN _ _ _) (congrArg (World.drewN _) (Nat.add_assoc _ _ _))⟩)) | (go_at_call 53; (with_reducible refine (spec_l01In.calls ((rd_T36 l0 x3_1).f0.f1) 0 39 true _ A6.out).mono ?_); rintro e w' ⟨rfl, ⟨nd, rfl⟩⟩; (try first | exact ⟨rfl, _, World.drewN_drewN _ _ _⟩ | exact ⟨rfl, _, Eq.trans (World.drewN_drewN _ _ _) (congrArg (World.drewN _) (Nat.add_assoc _ _ _))⟩)) | (go_at_call 53; (with_reducible refine (spec_l01In.calls ((rd_T36 l0 x3_1).f1) 0 2 true _ A8.out).mono ?_); rintro e w' ⟨rfl, ⟨nd, rfl⟩⟩; (try first | exact ⟨rfl, _, World.drewN_drewN _ _ _⟩ | exact ⟨rfl, _, Eq.trans (World.drewN_drewN _ _ _) (congrArg (World.drewN _) (Nat.add_assoc _ _ _))⟩)) | (go_at_call 53; (with_reducible refine (spec_l01In.calls ((rd_T36 l0 x3_1).f2) 0 100000 true _ A10.out).mono ?_); rintro e w' ⟨rfl, ⟨nd, rfl⟩⟩; (try first | exact ⟨rfl, _, World.drewN_drewN _ _ _⟩ | exact ⟨rfl, _, Eq.trans (World.drewN_drewN _ _ _) (congrArg (World.drewN _) (Nat.add_assoc _ _ _))⟩))))
                    go_roundg k1
                    case measure => have := HK1.out; omega
                    case rel => exact ⟨(wrap64 (x3_1 + 1)), (by first | rfl | (simp; done) | (simp [*]; done)), H', ⟨by have := HK1.out; omega⟩, ⟨oB HB⟩⟩
                · replace c11 := Bool.eq_false_iff.mpr c11
                  subst c11
                  rw [if_neg (show ¬ (false = true) by decide)] at H
                  obtain rfl := Option.some.inj H
                  have p249 : 0 ≤ (x3_1 : Int) := of_decide_eq_true (by first | (with_reducible assumption) | assumption)
                  have q249 : x3_1 < (l0.length : Int) := of_decide_eq_true (by first | (with_reducible assumption) | assumption)
                  obtain ⟨ad249, e249, hx249_0, hx249_1, hx249_2, hx249_3⟩ := at_T36 HR0.out x3_1 p249 q249
                  cases e249
                  replace hx249_0 := (HB.out.cell (World.block_lt_of_cell? w _ hx249_0)).trans hx249_0
                  replace hx249_1 := (HB.out.cell (World.block_lt_of_cell? w _ hx249_1)).trans hx249_1
                  replace hx249_2 := (HB.out.cell (World.block_lt_of_cell? w _ hx249_2)).trans hx249_2
                  replace hx249_3 := (HB.out.cell (World.block_lt_of_cell? w _ hx249_3)).trans hx249_3
                  replace p249 := eq_true p249
                  replace q249 := eq_true q249
                  go_wp2_with (first | ((with_reducible refine gate_dst (N := 4) rfl ?_); refine box_event ?hg (N := 4) ?hd (cs := #[.int .i64 0, .int .i64 0, .int .i64 0, .int .i64 0]) (t := 36) ?hr ?_; (case hd => rfl); (case hg => rfl); (case hr => first | (go_simp; done) | (go_simp; rfl)); intro gb250 hg w23 hbox hb; have n0_ := Aside0.mk (below_step (oB HB) hb); have n1_ := Aside0.mk (hbox); have n2_ := Aside0.mk ((by rw [hg]; exact (below_size (oB HB)) : w.heap.size ≤ gb250)); have n3_ := Aside0.mk ((by rw [hg]; exact (below_size (oB HB)) : w.heap.size ≤ gb250)); clear HB; have HB := n0_; have BK250 := n1_; have GW250 := n2_; have GE250 := n3_; clear n0_ n1_ n2_ n3_; clear hb hbox hg; have hcz24_0 : w23.cell? ⟨gb250, 0, none⟩ = some (.int .i64 0) := (blk_cell BK250.out 0).trans rfl; have hcz24_1 : w23.cell? ⟨gb250, 1, none⟩ = some (.int .i64 0) := (blk_cell BK250.out 1).trans rfl; have hcz24_2 : w23.cell? ⟨gb250, 2, none⟩ = some (.int .i64 0) := (blk_cell BK250.out 2).trans rfl; have hcz24_3 : w23.cell? ⟨gb250, 3, none⟩ = some (.int .i64 0) := (blk_cell BK250.out 3).trans rfl; have hfz24_0 := blk_frozen BK250.out 0; have hfz24_1 := blk_frozen BK250.out 1; have hfz24_2 := blk_frozen BK250.out 2; have hfz24_3 := blk_frozen BK250.out 3) | (go_at_call 53; (with_reducible refine (spec_l01In.calls ((rd_T36 l0 x3_1).f0.f0) 0 3 true _ A4.out).mono ?_); rintro e w' ⟨rfl, ⟨nd, rfl⟩⟩; (try first | exact ⟨rfl, _, World.drewN_drewN _ _ _⟩ | exact ⟨rfl, _, Eq.trans (World.drewN_drewN _ _ _) (congrArg (World.drewN _) (Nat.add_assoc _ _ _))⟩)) | (go_at_call 53; (with_reducible refine (spec_l01In.calls ((rd_T36 l0 x3_1).f0.f1) 0 39 true _ A6.out).mono ?_); rintro e w' ⟨rfl, ⟨nd, rfl⟩⟩; (try first | exact ⟨rfl, _, World.drewN_drewN _ _ _⟩ | exact ⟨rfl, _, Eq.trans (World.drewN_drewN _ _ _) (congrArg (World.drewN _) (Nat.add_assoc _ _ _))⟩)) | (go_at_call 53; (with_reducible refine (spec_l01In.calls ((rd_T36 l0 x3_1).f1) 0 2 true _ A8.out).mono ?_); rintro e w' ⟨rfl, ⟨nd, rfl⟩⟩; (try first | exact ⟨rfl, _, World.drewN_drewN _ _ _⟩ | exact ⟨rfl, _, Eq.trans (World.drewN_drewN _ _ _) (congrArg (World.drewN _) (Nat.add_assoc _ _ _))⟩)) | (go_at_call 53; (with_reducible refine (spec_l01In.calls ((rd_T36 l0 x3_1).f2) 0 100000 false _ A10.out).mono ?_); rintro e w' ⟨rfl, ⟨nd, rfl⟩⟩; (try first | exact ⟨rfl, _, World.drewN_drewN _ _ _⟩ | exact ⟨rfl, _, Eq.trans (World.drewN_drewN _ _ _) (congrArg (World.drewN _) (Nat.add_assoc _ _ _))⟩)))
                  repeat (go_quiet (first | ((with_reducible refine gate_dst (N := 4) rfl ?_); refine box_event ?hg (N := 4) ?hd (cs := #[.int .i64 0, .int .i64 0, .int .i64 0, .int .i64 0]) (t := 36) ?hr ?_; (case hd => rfl); (case hg => rfl); (case hr => first | (go_simp; done) | (go_simp; rfl)); intro gb250 hg w23 hbox hb; have n0_ := Aside0.mk (below_step (oB HB) hb); have n1_ := Aside0.mk (hbox); have n2_ := Aside0.mk ((by rw [hg]; exact (below_size (oB HB)) : w.heap.size ≤ gb250)); have n3_ := Aside0.mk ((by rw [hg]; exact (below_size (oB HB)) : w.heap.size ≤ gb250)); clear HB; have HB := n0_; have BK250 := n1_; have GW250 := n2_; have GE250 := n3_; clear n0_ n1_ n2_ n3_; clear hb hbox hg; have hcz24_0 : w23.cell? ⟨gb250, 0, none⟩ = some (.int .i64 0) := (blk_cell BK250.out 0).trans rfl; have hcz24_1 : w23.cell? ⟨gb250, 1, none⟩ = some (.int .i64 0) := (blk_cell BK250.out 1).trans rfl; have hcz24_2 : w23.cell? ⟨gb250, 2, none⟩ = some (.int .i64 0) := (blk_cell BK250.out 2).trans rfl; have hcz24_3 : w23.cell? ⟨gb250, 3, none⟩ = some (.int .i64 0) := (blk_cell BK250.out 3).trans rfl; have hfz24_0 := blk_frozen BK250.out 0; have hfz24_1 := blk_frozen BK250.out 1; have hfz24_2 := blk_frozen BK250.out 2; have hfz24_3 := blk_frozen BK250.out 3) | (go_at_call 53; (with_reducible refine (spec_l01In.calls ((rd_T36 l0 x3_1).f0.f0) 0 3 true _ A4.out).mono ?_); rintro e w' ⟨rfl, ⟨nd, rfl⟩⟩; (try first | exact ⟨rfl, _, World.drewN_drewN _ _ _⟩ | exact ⟨rfl, _, Eq.trans (World.drewN_drewN _ _ _) (congrArg (World.drewN _) (Nat.add_assoc _ _ _))⟩)) | (go_at_call 53; (with_reducible refine (spec_l01In.calls ((rd_T36 l0 x3_1).f0.f1) 0 39 true _ A6.out).mono ?_); rintro e w' ⟨rfl, ⟨nd, rfl⟩⟩; (try first | exact ⟨rfl, _, World.drewN_drewN _ _ _⟩ | exact ⟨rfl, _, Eq.trans (World.drewN_drewN _ _ _) (congrArg (World.drewN _) (Nat.add_assoc _ _ _))⟩)) | (go_at_call 53; (with_reducible refine (spec_l01In.calls ((rd_T36 l0 x3_1).f1) 0 2 true _ A8.out).mono ?_); rintro e w' ⟨rfl, ⟨nd, rfl⟩⟩; (try first | exact ⟨rfl, _, World.drewN_drewN _ _ _⟩ | exact ⟨rfl, _, Eq.trans (World.drewN_drewN _ _ _) (congrArg (World.drewN _) (Nat.add_assoc _ _ _))⟩)) | (go_at_call 53; (with_reducible refine (spec_l01In.calls ((rd_T36 l0 x3_1).f2) 0 100000 false _ A10.out).mono ?_); rintro e w' ⟨rfl, ⟨nd, rfl⟩⟩; (try first | exact ⟨rfl, _, World.drewN_drewN _ _ _⟩ | exact ⟨rfl, _, Eq.trans (World.drewN_drewN _ _ _) (congrArg (World.drewN _) (Nat.add_assoc _ _ _))⟩))); try go_wp2_with (first | ((with_reducible refine gate_dst (N := 4) rfl ?_); refine box_event ?hg (N := 4) ?hd (cs := #[.int .i64 0, .int .i64 0, .int .i64 0, .int .i64 0]) (t := 36) ?hr ?_; (case hd => rfl); (case hg => rfl); (case hr => first | (go_simp; done) | (go_simp; rfl)); intro gb250 hg w23 hbox hb; have n0_ := Aside0.mk (below_step (oB HB) hb); have n1_ := Aside0.mk (hbox); have n2_ := Aside0.mk ((by rw [hg]; exact (below_size (oB HB)) : w.heap.size ≤ gb250)); have n3_ := Aside0.mk ((by rw [hg]; exact (below_size (oB HB)) : w.heap.size ≤ gb250)); clear HB; have HB := n0_; have BK250 := n1_; have GW250 := n2_; have GE250 := n3_; clear n0_ n1_ n2_ n3_; clear hb hbox hg; have hcz24_0 : w23.cell? ⟨gb250, 0, none⟩ = some (.int .i64 0) := (blk_cell BK250.out 0).trans rfl; have hcz24_1 : w23.cell? ⟨gb250, 1, none⟩ = some (.int .i64 0) := (blk_cell BK250.out 1).trans rfl; have hcz24_2 : w23.cell? ⟨gb250, 2, none⟩ = some (.int .i64 0) := (blk_cell BK250.out 2).trans rfl; have hcz24_3 : w23.cell? ⟨gb250, 3, none⟩ = some (.int .i64 0) := (blk_cell BK250.out 3).trans rfl; have hfz24_0 := blk_frozen BK250.out 0; have hfz24_1 := blk_frozen BK250.out 1; have hfz24_2 := blk_frozen BK250.out 2; have hfz24_3 := blk_frozen BK250.out 3) | (go_at_call 53; (with_reducible refine (spec_l01In.calls ((rd_T36 l0 x3_1).f0.f0) 0 3 true _ A4.out).mono ?_); rintro e w' ⟨rfl, ⟨nd, rfl⟩⟩; (try first | exact ⟨rfl, _, World.drewN_drewN _ _ _⟩ | exact ⟨rfl, _, Eq.trans (World.drewN_drewN _ _ _) (congrArg (World.drewN _) (Nat.add_assoc _ _ _))⟩)) | (go_at_call 53; (with_reducible refine (spec_l01In.calls ((rd_T36 l0 x3_1).f0.f1) 0 39 true _ A6.out).mono ?_); rintro e w' ⟨rfl, ⟨nd, rfl⟩⟩; (try first | exact ⟨rfl, _, World.drewN_drewN _ _ _⟩ | exact ⟨rfl, _, Eq.trans (World.drewN_drewN _ _ _) (congrArg (World.drewN _) (Nat.add_assoc _ _ _))⟩)) | (go_at_call 53; (with_reducible refine (spec_l01In.calls ((rd_T36 l0 x3_1).f1) 0 2 true _ A8.out).mono ?_); rintro e w' ⟨rfl, ⟨nd, rfl⟩⟩; (try first | exact ⟨rfl, _, World.drewN_drewN _ _ _⟩ | exact ⟨rfl, _, Eq.trans (World.drewN_drewN _ _ _) (congrArg (World.drewN _) (Nat.add_assoc _ _ _))⟩)) | (go_at_call 53; (with_reducible refine (spec_l01In.calls ((rd_T36 l0 x3_1).f2) 0 100000 false _ A10.out).mono ?_); rintro e w' ⟨rfl, ⟨nd, rfl⟩⟩; (try first | exact ⟨rfl, _, World.drewN_drewN _ _ _⟩ | exact ⟨rfl, _, Eq.trans (World.drewN_drewN _ _ _) (congrArg (World.drewN _) (Nat.add_assoc _ _ _))⟩))))
                  go_ret
                  exact ⟨by first | rfl | (simp [errW_none, errW_some] <;> rfl) | (simp [*, errW_none, errW_some] <;> rfl), oB HB⟩
              · replace c9 := Bool.eq_false_iff.mpr c9
                subst c9
                rw [if_neg (show ¬ (false = true) by decide)] at H
                obtain rfl := Option.some.inj H
                have p249 : 0 ≤ (x3_1 : Int) := of_decide_eq_true (by first | (with_reducible assumption) | assumption)
                have q249 : x3_1 < (l0.length : Int) := of_decide_eq_true (by first | (with_reducible assumption) | assumption)
                obtain ⟨ad249, e249, hx249_0, hx249_1, hx249_2, hx249_3⟩ := at_T36 HR0.out x3_1 p249 q249
                cases e249
                replace hx249_0 := (HB.out.cell (World.block_lt_of_cell? w _ hx249_0)).trans hx249_0
                replace hx249_1 := (HB.out.cell (World.block_lt_of_cell? w _ hx249_1)).trans hx249_1
                replace hx249_2 := (HB.out.cell (World.block_lt_of_cell? w _ hx249_2)).trans hx249_2
                replace hx249_3 := (HB.out.cell (World.block_lt_of_cell? w _ hx249_3)).trans hx249_3
                replace p249 := eq_true p249
                replace q249 := eq_true q249
                go_wp2_with (first | ((with_reducible refine gate_dst (N := 4) rfl ?_); refine box_event ?hg (N := 4) ?hd (cs := #[.int .i64 0, .int .i64 0, .int .i64 0, .int .i64 0]) (t := 36) ?hr ?_; (case hd => rfl); (case hg => rfl); (case hr => first | (go_simp; done) | (go_simp; rfl)); intro gb250 hg w25 hbox hb; have n0_ := Aside0.mk (below_step (oB HB) hb); have n1_ := Aside0.mk (hbox); have n2_ := Aside0.mk ((by rw [hg]; exact (below_size (oB HB)) : w.heap.size ≤ gb250)); have n3_ := Aside0.mk ((by rw [hg]; exact (below_size (oB HB)) : w.heap.size ≤ gb250)); clear HB; have HB := n0_; have BK250 := n1_; have GW250 := n2_; have GE250 := n3_; clear n0_ n1_ n2_ n3_; clear hb hbox hg; have hcz26_0 : w25.cell? ⟨gb250, 0, none⟩ = some (.int .i64 0) := (blk_cell BK250.out 0).trans rfl; have hcz26_1 : w25.cell? ⟨gb250, 1, none⟩ = some (.int .i64 0) := (blk_cell BK250.out 1).trans rfl; have hcz26_2 : w25.cell? ⟨gb250, 2, none⟩ = some (.int .i64 0) := (blk_cell BK250.out 2).trans rfl; have hcz26_3 : w25.cell? ⟨gb250, 3, none⟩ = some (.int .i64 0) := (blk_cell BK250.out 3).trans rfl; have hfz26_0 := blk_frozen BK250.out 0; have hfz26_1 := blk_frozen BK250.out 1; have hfz26_2 := blk_frozen BK250.out 2; have hfz26_3 := blk_frozen BK250.out 3) | (go_at_call 53; (with_reducible refine (spec_l01In.calls ((rd_T36 l0 x3_1).f0.f0) 0 3 true _ A4.out).mono ?_); rintro e w' ⟨rfl, ⟨nd, rfl⟩⟩; (try first | exact ⟨rfl, _, World.drewN_drewN _ _ _⟩ | exact ⟨rfl, _, Eq.trans (World.drewN_drewN _ _ _) (congrArg (World.drewN _) (Nat.add_assoc _ _ _))⟩)) | (go_at_call 53; (with_reducible refine (spec_l01In.calls ((rd_T36 l0 x3_1).f0.f1) 0 39 true _ A6.out).mono ?_); rintro e w' ⟨rfl, ⟨nd, rfl⟩⟩; (try first | exact ⟨rfl, _, World.drewN_drewN _ _ _⟩ | exact ⟨rfl, _, Eq.trans (World.drewN_drewN _ _ _) (congrArg (World.drewN _) (Nat.add_assoc _ _ _))⟩)) | (go_at_call 53; (with_reducible refine (spec_l01In.calls ((rd_T36 l0 x3_1).f1) 0 2 false _ A8.out).mono ?_); rintro e w' ⟨rfl, ⟨nd, rfl⟩⟩; (try first | exact ⟨rfl, _, World.drewN_drewN _ _ _⟩ | exact ⟨rfl, _, Eq.trans (World.drewN_drewN _ _ _) (congrArg (World.drewN _) (Nat.add_assoc _ _ _))⟩)))
                repeat (go_quiet (first | ((with_reducible refine gate_dst (N := 4) rfl ?_); refine box_event ?hg (N := 4) ?hd (cs := #[.int .i64 0, .int .i64 0, .int .i64 0, .int .i64 0]) (t := 36) ?hr ?_; (case hd => rfl); (case hg => rfl); (case hr => first | (go_simp; done) | (go_simp; rfl)); intro gb250 hg w25 hbox hb; have n0_ := Aside0.mk (below_step (oB HB) hb); have n1_ := Aside0.mk (hbox); have n2_ := Aside0.mk ((by rw [hg]; exact (below_size (oB HB)) : w.heap.size ≤ gb250)); have n3_ := Aside0.mk ((by rw [hg]; exact (below_size (oB HB)) : w.heap.size ≤ gb250)); clear HB; have HB := n0_; have BK250 := n1_; have GW250 := n2_; have GE250 := n3_; clear n0_ n1_ n2_ n3_; clear hb hbox hg; have hcz26_0 : w25.cell? ⟨gb250, 0, none⟩ = some (.int .i64 0) := (blk_cell BK250.out 0).trans rfl; have hcz26_1 : w25.cell? ⟨gb250, 1, none⟩ = some (.int .i64 0) := (blk_cell BK250.out 1).trans rfl; have hcz26_2 : w25.cell? ⟨gb250, 2, none⟩ = some (.int .i64 0) := (blk_cell BK250.out 2).trans rfl; have hcz26_3 : w25.cell? ⟨gb250, 3, none⟩ = some (.int .i64 0) := (blk_cell BK250.out 3).trans rfl; have hfz26_0 := blk_frozen BK250.out 0; have hfz26_1 := blk_frozen BK250.out 1; have hfz26_2 := blk_frozen BK250.out 2; have hfz26_3 := blk_frozen BK250.out 3) | (go_at_call 53; (with_reducible refine (spec_l01In.calls ((rd_T36 l0 x3_1).f0.f0) 0 3 true _ A4.out).mono ?_); rintro e w' ⟨rfl, ⟨nd, rfl⟩⟩; (try first | exact ⟨rfl, _, World.drewN_drewN _ _ _⟩ | exact ⟨rfl, _, Eq.trans (World.drewN_drewN _ _ _) (congrArg (World.drewN _) (Nat.add_assoc _ _ _))⟩)) | (go_at_call 53; (with_reducible refine (spec_l01In.calls ((rd_T36 l0 x3_1).f0.f1) 0 39 true _ A6.out).mono ?_); rintro e w' ⟨rfl, ⟨nd, rfl⟩⟩; (try first | exact ⟨rfl, _, World.drewN_drewN _ _ _⟩ | exact ⟨rfl, _, Eq.trans (World.drewN_drewN _ _ _) (congrArg (World.drewN _) (Nat.add_assoc _ _ _))⟩)) | (go_at_call 53; (with_reducible refine (spec_l01In.calls ((rd_T36 l0 x3_1).f1) 0 2 false _ A8.out).mono ?_); rintro e w' ⟨rfl, ⟨nd, rfl⟩⟩; (try first | exact ⟨rfl, _, World.drewN_drewN _ _ _⟩ | exact ⟨rfl, _, Eq.trans (World.drewN_drewN _ _ _) (congrArg (World.drewN _) (Nat.add_assoc _ _ _))⟩))); try go_wp2_with (first | ((with_reducible refine gate_dst (N := 4) rfl ?_); refine box_event ?hg (N := 4) ?hd (cs := #[.int .i64 0, .int .i64 0, .int .i64 0, .int .i64 0]) (t := 36) ?hr ?_; (case hd => rfl); (case hg => rfl); (case hr => first | (go_simp; done) | (go_simp; rfl)); intro gb250 hg w25 hbox hb; have n0_ := Aside0.mk (below_step (oB HB) hb); have n1_ := Aside0.mk (hbox); have n2_ := Aside0.mk ((by rw [hg]; exact (below_size (oB HB)) : w.heap.size ≤ gb250)); have n3_ := Aside0.mk ((by rw [hg]; exact (below_size (oB HB)) : w.heap.size ≤ gb250)); clear HB; have HB := n0_; have BK250 := n1_; have GW250 := n2_; have GE250 := n3_; clear n0_ n1_ n2_ n3_; clear hb hbox hg; have hcz26_0 : w25.cell? ⟨gb250, 0, none⟩ = some (.int .i64 0) := (blk_cell BK250.out 0).trans rfl; have hcz26_1 : w25.cell? ⟨gb250, 1, none⟩ = some (.int .i64 0) := (blk_cell BK250.out 1).trans rfl; have hcz26_2 : w25.cell? ⟨gb250, 2, none⟩ = some (.int .i64 0) := (blk_cell BK250.out 2).trans rfl; have hcz26_3 : w25.cell? ⟨gb250, 3, none⟩ = some (.int .i64 0) := (blk_cell BK250.out 3).trans rfl; have hfz26_0 := blk_frozen BK250.out 0; have hfz26_1 := blk_frozen BK250.out 1; have hfz26_2 := blk_frozen BK250.out 2; have hfz26_3 := blk_frozen BK250.out 3) | (go_at_call 53; (with_reducible refine (spec_l01In.calls ((rd_T36 l0 x3_1).f0.f0) 0 3 true _ A4.out).mono ?_); rintro e w' ⟨rfl, ⟨nd, rfl⟩⟩; (try first | exact ⟨rfl, _, World.drewN_drewN _ _ _⟩ | exact ⟨rfl, _, Eq.trans (World.drewN_drewN _ _ _) (congrArg (World.drewN _) (Nat.add_assoc _ _ _))⟩)) | (go_at_call 53; (with_reducible refine (spec_l01In.calls ((rd_T36 l0 x3_1).f0.f1) 0 39 true _ A6.out).mono ?_); rintro e w' ⟨rfl, ⟨nd, rfl⟩⟩; (try first | exact ⟨rfl, _, World.drewN_drewN _ _ _⟩ | exact ⟨rfl, _, Eq.trans (World.drewN_drewN _ _ _) (congrArg (World.drewN _) (Nat.add_assoc _ _ _))⟩)) | (go_at_call 53; (with_reducible refine (spec_l01In.calls ((rd_T36 l0 x3_1).f1) 0 2 false _ A8.out).mono ?_); rintro e w' ⟨rfl, ⟨nd, rfl⟩⟩; (try first | exact ⟨rfl, _, World.drewN_drewN _ _ _⟩ | exact ⟨rfl, _, Eq.trans (World.drewN_drewN _ _ _) (congrArg (World.drewN _) (Nat.add_assoc _ _ _))⟩))))
                go_ret
                exact ⟨by first | rfl | (simp [errW_none, errW_some] <;> rfl) | (simp [*, errW_none, errW_some] <;> rfl), oB HB⟩
            · replace c7 := Bool.eq_false_iff.mpr c7
              subst c7
              rw [if_neg (show ¬ (false = true) by decide)] at H
              obtain rfl := Option.some.inj H
              have p249 : 0 ≤ (x3_1 : Int) := of_decide_eq_true (by first | (with_reducible assumption) | assumption)
              have q249 : x3_1 < (l0.length : Int) := of_decide_eq_true (by first | (with_reducible assumption) | assumption)
              obtain ⟨ad249, e249, hx249_0, hx249_1, hx249_2, hx249_3⟩ := at_T36 HR0.out x3_1 p249 q249
              cases e249
              replace hx249_0 := (HB.out.cell (World.block_lt_of_cell? w _ hx249_0)).trans hx249_0
              replace hx249_1 := (HB.out.cell (World.block_lt_of_cell? w _ hx249_1)).trans hx249_1
              replace hx249_2 := (HB.out.cell (World.block_lt_of_cell? w _ hx249_2)).trans hx249_2
              replace hx249_3 := (HB.out.cell (World.block_lt_of_cell? w _ hx249_3)).trans hx249_3
              replace p249 := eq_true p249
              replace q249 := eq_true q249
              go_wp2_with (first | ((with_reducible refine gate_dst (N := 4) rfl ?_); refine box_event ?hg (N := 4) ?hd (cs := #[.int .i64 0, .int .i64 0, .int .i64 0, .int .i64 0]) (t := 36) ?hr ?_; (case hd => rfl); (case hg => rfl); (case hr => first | (go_simp; done) | (go_simp; rfl)); intro gb250 hg w27 hbox hb; have n0_ := Aside0.mk (below_step (oB HB) hb); have n1_ := Aside0.mk (hbox); have n2_ := Aside0.mk ((by rw [hg]; exact (below_size (oB HB)) : w.heap.size ≤ gb250)); have n3_ := Aside0.mk ((by rw [hg]; exact (below_size (oB HB)) : w.heap.size ≤ gb250)); clear HB; have HB := n0_; have BK250 := n1_; have GW250 := n2_; have GE250 := n3_; clear n0_ n1_ n2_ n3_; clear hb hbox hg; have hcz28_0 : w27.cell? ⟨gb250, 0, none⟩ = some (.int .i64 0) := (blk_cell BK250.out 0).trans rfl; have hcz28_1 : w27.cell? ⟨gb250, 1, none⟩ = some (.int .i64 0) := (blk_cell BK250.out 1).trans rfl; have hcz28_2 : w27.cell? ⟨gb250, 2, none⟩ = some (.int .i64 0) := (blk_cell BK250.out 2).trans rfl; have hcz28_3 : w27.cell? ⟨gb250, 3, none⟩ = some (.int .i64 0) := (blk_cell BK250.out 3).trans rfl; have hfz28_0 := blk_frozen BK250.out 0; have hfz28_1 := blk_frozen BK250.out 1; have hfz28_2 := blk_frozen BK250.out 2; have hfz28_3 := blk_frozen BK250.out 3) | (go_at_call 53; (with_reducible refine (spec_l01In.calls ((rd_T36 l0 x3_1).f0.f0) 0 3 true _ A4.out).mono ?_); rintro e w' ⟨rfl, ⟨nd, rfl⟩⟩; (try first | exact ⟨rfl, _, World.drewN_drewN _ _ _⟩ | exact ⟨rfl, _, Eq.trans (World.drewN_drewN _ _ _) (congrArg (World.drewN _) (Nat.add_assoc _ _ _))⟩)) | (go_at_call 53; (with_reducible refine (spec_l01In.calls ((rd_T36 l0 x3_1).f0.f1) 0 39 false _ A6.out).mono ?_); rintro e w' ⟨rfl, ⟨nd, rfl⟩⟩; (try first | exact ⟨rfl, _, World.drewN_drewN _ _ _⟩ | exact ⟨rfl, _, Eq.trans (World.drewN_drewN _ _ _) (congrArg (World.drewN _) (Nat.add_assoc _ _ _))⟩)))
              repeat (go_quiet (first | ((with_reducible refine gate_dst (N := 4) rfl ?_); refine box_event ?hg (N := 4) ?hd (cs := #[.int .i64 0, .int .i64 0, .int .i64 0, .int .i64 0]) (t := 36) ?hr ?_; (case hd => rfl); (case hg => rfl); (case hr => first | (go_simp; done) | (go_simp; rfl)); intro gb250 hg w27 hbox hb; have n0_ := Aside0.mk (below_step (oB HB) hb); have n1_ := Aside0.mk (hbox); have n2_ := Aside0.mk ((by rw [hg]; exact (below_size (oB HB)) : w.heap.size ≤ gb250)); have n3_ := Aside0.mk ((by rw [hg]; exact (below_size (oB HB)) : w.heap.size ≤ gb250)); clear HB; have HB := n0_; have BK250 := n1_; have GW250 := n2_; have GE250 := n3_; clear n0_ n1_ n2_ n3_; clear hb hbox hg; have hcz28_0 : w27.cell? ⟨gb250, 0, none⟩ = some (.int .i64 0) := (blk_cell BK250.out 0).trans rfl; have hcz28_1 : w27.cell? ⟨gb250, 1, none⟩ = some (.int .i64 0) := (blk_cell BK250.out 1).trans rfl; have hcz28_2 : w27.cell? ⟨gb250, 2, none⟩ = some (.int .i64 0) := (blk_cell BK250.out 2).trans rfl; have hcz28_3 : w27.cell? ⟨gb250, 3, none⟩ = some (.int .i64 0) := (blk_cell BK250.out 3).trans rfl; have hfz28_0 := blk_frozen BK250.out 0; have hfz28_1 := blk_frozen BK250.out 1; have hfz28_2 := blk_frozen BK250.out 2; have hfz28_3 := blk_frozen BK250.out 3) | (go_at_call 53; (with_reducible refine (spec_l01In.calls ((rd_T36 l0 x3_1).f0.f0) 0 3 true _ A4.out).mono ?_); rintro e w' ⟨rfl, ⟨nd, rfl⟩⟩; (try first | exact ⟨rfl, _, World.drewN_drewN _ _ _⟩ | exact ⟨rfl, _, Eq.trans (World.drewN_drewN _ _ _) (congrArg (World.drewN _) (Nat.add_assoc _ _ _))⟩)) | (go_at_call 53; (with_reducible refine (spec_l01In.calls ((rd_T36 l0 x3_1).f0.f1) 0 39 false _ A6.out).mono ?_); rintro e w' ⟨rfl, ⟨nd, rfl⟩⟩; (try first | exact ⟨rfl, _, World.drewN_drewN _ _ _⟩ | exact ⟨rfl, _, Eq.trans (World.drewN_drewN _ _ _) (congrArg (World.drewN _) (Nat.add_assoc _ _ _))⟩))); try go_wp2_with (first | ((with_reducible refine gate_dst (N := 4) rfl ?_); refine box_event ?hg (N := 4) ?hd (cs := #[.int .i64 0, .int .i64 0, .int .i64 0, .int .i64 0]) (t := 36) ?hr ?_; (case hd => rfl); (case hg => rfl); (case hr => first | (go_simp; done) | (go_simp; rfl)); intro gb250 hg w27 hbox hb; have n0_ := Aside0.mk (below_step (oB HB) hb); have n1_ := Aside0.mk (hbox); have n2_ := Aside0.mk ((by rw [hg]; exact (below_size (oB HB)) : w.heap.size ≤ gb250)); have n3_ := Aside0.mk ((by rw [hg]; exact (below_size (oB HB)) : w.heap.size ≤ gb250)); clear HB; have HB := n0_; have BK250 := n1_; have GW250 := n2_; have GE250 := n3_; clear n0_ n1_ n2_ n3_; clear hb hbox hg; have hcz28_0 : w27.cell? ⟨gb250, 0, none⟩ = some (.int .i64 0) := (blk_cell BK250.out 0).trans rfl; have hcz28_1 : w27.cell? ⟨gb250, 1, none⟩ = some (.int .i64 0) := (blk_cell BK250.out 1).trans rfl; have hcz28_2 : w27.cell? ⟨gb250, 2, none⟩ = some (.int .i64 0) := (blk_cell BK250.out 2).trans rfl; have hcz28_3 : w27.cell? ⟨gb250, 3, none⟩ = some (.int .i64 0) := (blk_cell BK250.out 3).trans rfl; have hfz28_0 := blk_frozen BK250.out 0; have hfz28_1 := blk_frozen BK250.out 1; have hfz28_2 := blk_frozen BK250.out 2; have hfz28_3 := blk_frozen BK250.out 3) | (go_at_call 53; (with_reducible refine (spec_l01In.calls ((rd_T36 l0 x3_1).f0.f0) 0 3 true _ A4.out).mono ?_); rintro e w' ⟨rfl, ⟨nd, rfl⟩⟩; (try first | exact ⟨rfl, _, World.drewN_drewN _ _ _⟩ | exact ⟨rfl, _, Eq.trans (World.drewN_drewN _ _ _) (congrArg (World.drewN _) (Nat.add_assoc _ _ _))⟩)) | (go_at_call 53; (with_reducible refine (spec_l01In.calls ((rd_T36 l0 x3_1).f0.f1) 0 39 false _ A6.out).mono ?_); rintro e w' ⟨rfl, ⟨nd, rfl⟩⟩; (try first | exact ⟨rfl, _, World.drewN_drewN _ _ _⟩ | exact ⟨rfl, _, Eq.trans (World.drewN_drewN _ _ _) (congrArg (World.drewN _) (Nat.add_assoc _ _ _))⟩))))
              go_ret
              exact ⟨by first | rfl | (simp [errW_none, errW_some] <;> rfl) | (simp [*, errW_none, errW_some] <;> rfl), oB HB⟩
          · replace c5 := Bool.eq_false_iff.mpr c5
            subst c5
            rw [if_neg (show ¬ (false = true) by decide)] at H
            obtain rfl := Option.some.inj H
            have p249 : 0 ≤ (x3_1 : Int) := of_decide_eq_true (by first | (with_reducible assumption) | assumption)
            have q249 : x3_1 < (l0.length : Int) := of_decide_eq_true (by first | (with_reducible assumption) | assumption)
            obtain ⟨ad249, e249, hx249_0, hx249_1, hx249_2, hx249_3⟩ := at_T36 HR0.out x3_1 p249 q249
            cases e249
            replace hx249_0 := (HB.out.cell (World.block_lt_of_cell? w _ hx249_0)).trans hx249_0
            replace hx249_1 := (HB.out.cell (World.block_lt_of_cell? w _ hx249_1)).trans hx249_1
            replace hx249_2 := (HB.out.cell (World.block_lt_of_cell? w _ hx249_2)).trans hx249_2
            replace hx249_3 := (HB.out.cell (World.block_lt_of_cell? w _ hx249_3)).trans hx249_3
            replace p249 := eq_true p249
            replace q249 := eq_true q249
            go_wp2_with (first | ((with_reducible refine gate_dst (N := 4) rfl ?_); refine box_event ?hg (N := 4) ?hd (cs := #[.int .i64 0, .int .i64 0, .int .i64 0, .int .i64 0]) (t := 36) ?hr ?_; (case hd => rfl); (case hg => rfl); (case hr => first | (go_simp; done) | (go_simp; rfl)); intro gb250 hg w29 hbox hb; have n0_ := Aside0.mk (below_step (oB HB) hb); have n1_ := Aside0.mk (hbox); have n2_ := Aside0.mk ((by rw [hg]; exact (below_size (oB HB)) : w.heap.size ≤ gb250)); have n3_ := Aside0.mk ((by rw [hg]; exact (below_size (oB HB)) : w.heap.size ≤ gb250)); clear HB; have HB := n0_; have BK250 := n1_; have GW250 := n2_; have GE250 := n3_; clear n0_ n1_ n2_ n3_; clear hb hbox hg; have hcz30_0 : w29.cell? ⟨gb250, 0, none⟩ = some (.int .i64 0) := (blk_cell BK250.out 0).trans rfl; have hcz30_1 : w29.cell? ⟨gb250, 1, none⟩ = some (.int .i64 0) := (blk_cell BK250.out 1).trans rfl; have hcz30_2 : w29.cell? ⟨gb250, 2, none⟩ = some (.int .i64 0) := (blk_cell BK250.out 2).trans rfl; have hcz30_3 : w29.cell? ⟨gb250, 3, none⟩ = some (.int .i64 0) := (blk_cell BK250.out 3).trans rfl; have hfz30_0 := blk_frozen BK250.out 0; have hfz30_1 := blk_frozen BK250.out 1; have hfz30_2 := blk_frozen BK250.out 2; have hfz30_3 := blk_frozen BK250.out 3) | (go_at_call 53; (with_reducible refine (spec_l01In.calls ((rd_T36 l0 x3_1).f0.f0) 0 3 false _ A4.out).mono ?_); rintro e w' ⟨rfl, ⟨nd, rfl⟩⟩; (try first | exact ⟨rfl, _, World.drewN_drewN _ _ _⟩ | exact ⟨rfl, _, Eq.trans (World.drewN_drewN _ _ _) (congrArg (World.drewN _) (Nat.add_assoc _ _ _))⟩)))
            repeat (go_quiet (first | ((with_reducible refine gate_dst (N := 4) rfl ?_); refine box_event ?hg (N := 4) ?hd (cs := #[.int .i64 0, .int .i64 0, .int .i64 0, .int .i64 0]) (t := 36) ?hr ?_; (case hd => rfl); (case hg => rfl); (case hr => first | (go_simp; done) | (go_simp; rfl)); intro gb250 hg w29 hbox hb; have n0_ := Aside0.mk (below_step (oB HB) hb); have n1_ := Aside0.mk (hbox); have n2_ := Aside0.mk ((by rw [hg]; exact (below_size (oB HB)) : w.heap.size ≤ gb250)); have n3_ := Aside0.mk ((by rw [hg]; exact (below_size (oB HB)) : w.heap.size ≤ gb250)); clear HB; have HB := n0_; have BK250 := n1_; have GW250 := n2_; have GE250 := n3_; clear n0_ n1_ n2_ n3_; clear hb hbox hg; have hcz30_0 : w29.cell? ⟨gb250, 0, none⟩ = some (.int .i64 0) := (blk_cell BK250.out 0).trans rfl; have hcz30_1 : w29.cell? ⟨gb250, 1, none⟩ = some (.int .i64 0) := (blk_cell BK250.out 1).trans rfl; have hcz30_2 : w29.cell? ⟨gb250, 2, none⟩ = some (.int .i64 0) := (blk_cell BK250.out 2).trans rfl; have hcz30_3 : w29.cell? ⟨gb250, 3, none⟩ = some (.int .i64 0) := (blk_cell BK250.out 3).trans rfl; have hfz30_0 := blk_frozen BK250.out 0; have hfz30_1 := blk_frozen BK250.out 1; have hfz30_2 := blk_frozen BK250.out 2; have hfz30_3 := blk_frozen BK250.out 3) | (go_at_call 53; (with_reducible refine (spec_l01In.calls ((rd_T36 l0 x3_1).f0.f0) 0 3 false _ A4.out).mono ?_); rintro e w' ⟨rfl, ⟨nd, rfl⟩⟩; (try first | exact ⟨rfl, _, World.drewN_drewN _ _ _⟩ | exact ⟨rfl, _, Eq.trans (World.drewN_drewN _ _ _) (congrArg (World.drewN _) (Nat.add_assoc _ _ _))⟩))); try go_wp2_with (first | ((with_reducible refine gate_dst (N := 4) rfl ?_); refine box_event ?hg (N := 4) ?hd (cs := #[.int .i64 0, .int .i64 0, .int .i64 0, .int .i64 0]) (t := 36) ?hr ?_; (case hd => rfl); (case hg => rfl); (case hr => first | (go_simp; done) | (go_simp; rfl)); intro gb250 hg w29 hbox hb; have n0_ := Aside0.mk (below_step (oB HB) hb); have n1_ := Aside0.mk (hbox); have n2_ := Aside0.mk ((by rw [hg]; exact (below_size (oB HB)) : w.heap.size ≤ gb250)); have n3_ := Aside0.mk ((by rw [hg]; exact (below_size (oB HB)) : w.heap.size ≤ gb250)); clear HB; have HB := n0_; have BK250 := n1_; have GW250 := n2_; have GE250 := n3_; clear n0_ n1_ n2_ n3_; clear hb hbox hg; have hcz30_0 : w29.cell? ⟨gb250, 0, none⟩ = some (.int .i64 0) := (blk_cell BK250.out 0).trans rfl; have hcz30_1 : w29.cell? ⟨gb250, 1, none⟩ = some (.int .i64 0) := (blk_cell BK250.out 1).trans rfl; have hcz30_2 : w29.cell? ⟨gb250, 2, none⟩ = some (.int .i64 0) := (blk_cell BK250.out 2).trans rfl; have hcz30_3 : w29.cell? ⟨gb250, 3, none⟩ = some (.int .i64 0) := (blk_cell BK250.out 3).trans rfl; have hfz30_0 := blk_frozen BK250.out 0; have hfz30_1 := blk_frozen BK250.out 1; have hfz30_2 := blk_frozen BK250.out 2; have hfz30_3 := blk_frozen BK250.out 3) | (go_at_call 53; (with_reducible refine (spec_l01In.calls ((rd_T36 l0 x3_1).f0.f0) 0 3 false _ A4.out).mono ?_); rintro e w' ⟨rfl, ⟨nd, rfl⟩⟩; (try first | exact ⟨rfl, _, World.drewN_drewN _ _ _⟩ | exact ⟨rfl, _, Eq.trans (World.drewN_drewN _ _ _) (congrArg (World.drewN _) (Nat.add_assoc _ _ _))⟩))))
            go_ret
            exact ⟨by first | rfl | (simp [errW_none, errW_some] <;> rfl) | (simp [*, errW_none, errW_some] <;> rfl), oB HB⟩
        · rw [if_neg c3] at H
          exact absurd H (by simp)
      · rw [if_neg c2] at H
        have c2b0 : decide (x3_1 < (l0.length : Int)) = false := decide_eq_false c2
        clear c2
        obtain rfl := Option.some.inj H
        go_wp2
        repeat (go_quiet (fail); try go_wp2)
        go_ret
        exact ⟨by first | rfl | (simp [errW_none, errW_some] <;> rfl) | (simp [*, errW_none, errW_some] <;> rfl), oB HB⟩
end Go.Proofs.Ytnknnbpodpfljaa.P


namespace Go.Proofs.Ytnknnbpodpfljaa.Q
set_option linter.unusedVariables false
set_option linter.unusedSimpArgs false
open Go.RowKit Go.Proofs.Ytnknnbpodpfljaa.P Go.Proofs.YtnknnbpodpfljaaW.PrintWords Go.Proofs.YtnknnbpodpfljaaW.PrintMore
def entOk (e : S36) : Bool := decide (0 ≤ e.f0.f0 ∧ e.f0.f0 ≤ 3) && (decide (0 ≤ e.f0.f1 ∧ e.f0.f1 ≤ 39) && (decide (0 ≤ e.f1 ∧ e.f1 ≤ 2) && decide (0 ≤ e.f2 ∧ e.f2 ≤ 100000)))
def logGo : Int → List S36 → Bool
  | _, [] => true
  | p, e :: r => entOk e && (decide (p ≤ e.f2) && logGo e.f2 r)
def logOk (l : List S36) : Bool := logGo 0 l && decide (l.length ≤ 30)
def prevM (l : List S36) (i : Nat) : Int := if i = 0 then 0 else (l.getD (i - 1) z36).f2
theorem prevM_succ (l : List S36) (i : Nat) (h : i < l.length) : prevM l (i + 1) = l[i].f2 := by simp [prevM, List.getD_eq_getElem?_getD, h]
theorem prevM_pos (l : List S36) (i : Nat) (h0 : 0 < i) (h : i < l.length) : prevM l i = l[i - 1].f2 := by
  simp [prevM, List.getD_eq_getElem?_getD, show i ≠ 0 by omega, show i - 1 < l.length by omega]
theorem logOk_spec (l : List S36) (hl : l.length ≤ 1048577) : Ev (fun k => spec_LogOk.f k l) (logOk l) := by
  have key : ∀ i, i ≤ l.length → Ev (fun k => spec_LogOk.l0 k l (i : Int)) (logGo (prevM l i) (l.drop i) && decide (l.length ≤ 30)) := by
    refine down (n := l.length) ?_ ?_
    · refine Ev.step (fun k => by rw [spec_LogOk.l0]) (evn (by omega) (evs ?_))
      rw [drop_end]
      simp [logGo]; omega
    · intro i hi ih
      refine Ev.step (fun k => by rw [spec_LogOk.l0]) (evp (by omega) (evp (by omega) ?_))
      rw [rdE l i hi, drop_cons l i hi, logGo]
      refine evb (l01In_eq _ _ _) ?_
      by_cases h1 : 0 ≤ l[i].f0.f0 ∧ l[i].f0.f0 ≤ 3
      rotate_left
      · exact evn (by simpa using h1) (evs (by simp [entOk, h1]))
      refine evp (by simpa using h1) (evb (l01In_eq _ _ _) ?_)
      by_cases h2 : 0 ≤ l[i].f0.f1 ∧ l[i].f0.f1 ≤ 39
      rotate_left
      · exact evn (by simpa using h2) (evs (by simp [entOk, h2]))
      refine evp (by simpa using h2) (evb (l01In_eq _ _ _) ?_)
      by_cases h3 : 0 ≤ l[i].f1 ∧ l[i].f1 ≤ 2
      rotate_left
      · exact evn (by simpa using h3) (evs (by simp [entOk, h3]))
      refine evp (by simpa using h3) (evb (l01In_eq _ _ _) ?_)
      by_cases h4 : 0 ≤ l[i].f2 ∧ l[i].f2 ≤ 100000
      rotate_left
      · exact evn (by simpa using h4) (evs (by simp [entOk, h4]))
      refine evp (by simpa using h4) ?_
      have hE : entOk l[i] = true := by simp [entOk, h1, h2, h3, h4]
      rw [hE, Bool.true_and]
      have hp : prevM l (i + 1) = l[i].f2 := prevM_succ l i hi
      rw [hp] at ih
      rw [w64 (n := (i : Int) + 1) (by omega) (by omega)]
      by_cases h0 : 0 < i
      · refine evp (by omega) ?_
        rw [w64 (n := (i : Int) - 1) (by omega) (by omega)]
        refine evp (by omega) (evp (by omega) ?_)
        have e1 : (i : Int) - 1 = ((i - 1 : Nat) : Int) := by omega
        rw [e1, rdE l (i - 1) (by omega)]
        have e2 : prevM l i = l[i - 1].f2 := prevM_pos l i h0 hi
        by_cases h5 : l[i - 1].f2 ≤ l[i].f2
        · refine evn (by omega) ?_
          rw [e2]; simp only [h5, decide_true, Bool.true_and]
          exact ih
        · refine evp (by omega) (evs ?_)
          rw [e2]; simp [h5]
      · refine evn (by omega) ?_
        have e2 : prevM l i = 0 := by obtain rfl : i = 0 := by omega
                                      rfl
        rw [e2]; simp only [h4.1, decide_true, Bool.true_and]
        exact ih
  exact key 0 (Nat.zero_le _)
theorem logOk_impl (l : List S36) (hl : l.length ≤ 1048577) : Ev (fun k => impl_LogOk.f k l) (logOk l) := by
  have key : ∀ i, i ≤ l.length → Ev (fun k => impl_LogOk.l0 k l l (l.length : Int) (i : Int)) (logGo (prevM l i) (l.drop i) && decide (l.length ≤ 30)) := by
    refine down (n := l.length) ?_ ?_
    · refine Ev.step (fun k => by rw [impl_LogOk.l0]) (evn (by omega) (evs ?_))
      rw [drop_end]
      simp [logGo]; omega
    · intro i hi ih
      refine Ev.step (fun k => by rw [impl_LogOk.l0]) (evp (by omega) (evp (by omega) (evp (by omega) ?_)))
      rw [rdE l i hi, drop_cons l i hi, logGo]
      refine evb (within_eq _ _ _) ?_
      by_cases h1 : 0 ≤ l[i].f0.f0 ∧ l[i].f0.f0 ≤ 3
      rotate_left
      · exact evn (by simpa using h1) (evs (by simp [entOk, h1]))
      refine evp (by simpa using h1) (evb (within_eq _ _ _) ?_)
      by_cases h2 : 0 ≤ l[i].f0.f1 ∧ l[i].f0.f1 ≤ 39
      rotate_left
      · exact evn (by simpa using h2) (evs (by simp [entOk, h2]))
      refine evp (by simpa using h2) (evb (within_eq _ _ _) ?_)
      by_cases h3 : 0 ≤ l[i].f1 ∧ l[i].f1 ≤ 2
      rotate_left
      · exact evn (by simpa using h3) (evs (by simp [entOk, h3]))
      refine evp (by simpa using h3) (evb (within_eq _ _ _) ?_)
      by_cases h4 : 0 ≤ l[i].f2 ∧ l[i].f2 ≤ 100000
      rotate_left
      · exact evn (by simpa using h4) (evs (by simp [entOk, h4]))
      refine evp (by simpa using h4) ?_
      have hE : entOk l[i] = true := by simp [entOk, h1, h2, h3, h4]
      rw [hE, Bool.true_and]
      have hp : prevM l (i + 1) = l[i].f2 := prevM_succ l i hi
      rw [hp] at ih
      rw [w64 (n := (i : Int) + 1) (by omega) (by omega)]
      by_cases h0 : 0 < i
      · refine evp (by omega) ?_
        rw [w64 (n := (i : Int) - 1) (by omega) (by omega)]
        refine evp (by omega) (evp (by omega) ?_)
        have e1 : (i : Int) - 1 = ((i - 1 : Nat) : Int) := by omega
        rw [e1, rdE l (i - 1) (by omega)]
        have e2 : prevM l i = l[i - 1].f2 := prevM_pos l i h0 hi
        by_cases h5 : l[i - 1].f2 ≤ l[i].f2
        · refine evn (by omega) ?_
          rw [e2]; simp only [h5, decide_true, Bool.true_and]
          exact ih
        · refine evp (by omega) (evs ?_)
          rw [e2]; simp [h5]
      · refine evn (by omega) ?_
        have e2 : prevM l i = 0 := by obtain rfl : i = 0 := by omega
                                      rfl
        rw [e2]; simp only [h4.1, decide_true, Bool.true_and]
        exact ih
  exact key 0 (Nat.zero_le _)
end Go.Proofs.Ytnknnbpodpfljaa.Q


namespace Go.Proofs.Ytnknnbpodpfljaa.P
open Go.RowKit Go.Proofs.YtnknnbpodpfljaaW.PrintWords Go.Proofs.YtnknnbpodpfljaaW.PrintLast Go.Proofs.YtnknnbpodpfljaaW.PrintMore
open Go.Maps (Keyed)
set_option linter.unusedVariables false
set_option linter.unusedSimpArgs false
theorem mapLaidOut : laidOutB Try.prog = true := by kernel_rfl
theorem pipeLaw : WideMaps.KeyLaw Try.prog 31 := deep_law_gate mapLaidOut (of_decide_eq_true (by kernel_rfl)) (of_decide_eq_true (by kernel_rfl)) (by kernel_rfl) (by kernel_rfl)
theorem pipeKeyed : Keyed Try.prog 31 := Keyed.of_law pipeLaw
def wf64 (a : Int) : Prop := (Lit.int .i64 a).wf = true
theorem wf64_of {a : Int} (h : -9223372036854775808 ≤ a) (h2 : a ≤ 9223372036854775807) : wf64 a := by
  have e1 : IntKind.i64.min = -9223372036854775808 := by decide
  have e2 : IntKind.i64.max = 9223372036854775807 := by decide
  unfold wf64 Lit.wf
  simp [e1, e2]
  omega
def pairV (a b : Int) : Value := .agg #[.int .i64 a, .int .i64 b]
def quadV (x : S36) : Value := .agg #[.int .i64 x.f0.f0, .int .i64 x.f0.f1, .int .i64 x.f1, .int .i64 x.f2]
theorem pipe_cells : Try.prog.cellsOf 31 = 2 := by kernel_rfl
theorem int_cells : Try.prog.cellsOf 3 = 1 := by kernel_rfl
theorem types_succ : ∃ m, Try.prog.types.size = m + 1 := ⟨Try.prog.types.size - 1, by have : 0 < Try.prog.types.size := of_decide_eq_true (by kernel_rfl); omega⟩
theorem keyLits_int (m : Nat) (v : Value) : Try.prog.keyLits (m + 1) 3 [v] = (match v with | .int q' n => if q' = .i64 ∧ (Lit.int .i64 n).wf = true then some [.int .i64 n] else none | _ => none) := by
  simp only [Program.keyLits, Try.underlying3]
  cases v <;> rfl
def pipeL (a b : Int) : Lit := .string (keyBytes [.int .i64 a, .int .i64 b])
theorem keyOf_pipe {a b : Int} (ha : wf64 a) (hb : wf64 b) : keyOf Try.prog 31 (pairV a b) = some (pipeL a b) := by
  obtain ⟨m, hm⟩ := types_succ
  have kt : Try.prog.keyType 31 = true := by kernel_rfl
  unfold wf64 at ha hb
  have fm : (pairV a b).formed Try.prog 31 = true := by simp [pairV, Value.formed, Try.underlying31, pipe_cells]
  have hl : Try.prog.keyLits (m + 1 + 1) 31 [.int .i64 a, .int .i64 b] = some [.int .i64 a, .int .i64 b] := by
    unfold Program.keyLits
    simp only [Try.underlying31]
    simp [pipe_cells, int_cells, keyLits_int, ha, hb]
  rw [← hm] at hl
  unfold keyOf
  simp only [Try.underlying31, kt, fm, Bool.and_self, if_true, Option.map_eq_some_iff]
  exact ⟨_, hl, rfl⟩
theorem keyOf_pipe_inv {v : Value} {l : Lit} (h : keyOf Try.prog 31 v = some l) : ∃ a b, v = pairV a b ∧ wf64 a ∧ wf64 b := by
  obtain ⟨m, hm⟩ := types_succ
  have kt : Try.prog.keyType 31 = true := by kernel_rfl
  unfold keyOf at h
  simp only [Try.underlying31, kt, Bool.true_and] at h
  split at h
  case isFalse => cases h
  case isTrue hf =>
    cases v <;> simp [Value.formed, Try.underlying31, pipe_cells] at hf
    rename_i cs
    obtain ⟨c0, c1, rfl⟩ : ∃ c0 c1, cs = #[c0, c1] := by
      rcases cs with ⟨_ | ⟨x, _ | ⟨y, _ | ⟨z, t⟩⟩⟩⟩ <;> simp at hf ⊢
    simp only [Option.map_eq_some_iff] at h
    obtain ⟨ls, h, _⟩ := h
    rw [hm] at h
    replace h : Try.prog.keyLits (m + 1 + 1) 31 [c0, c1] = some ls := h
    unfold Program.keyLits at h
    simp only [Try.underlying31] at h
    simp [pipe_cells, int_cells, keyLits_int] at h
    cases c0 <;> simp at h
    rename_i k0 n0
    by_cases e0 : k0 = .i64 ∧ (Lit.int .i64 n0).wf = true
    · obtain ⟨rfl, e0⟩ := e0
      cases c1 <;> simp [e0] at h
      rename_i k1 n1
      by_cases e1 : k1 = .i64 ∧ (Lit.int .i64 n1).wf = true
      · obtain ⟨rfl, e1⟩ := e1
        exact ⟨_, _, rfl, e0, e1⟩
      · simp [e1] at h
    · simp [e0] at h
instance pipeDec : DecidableEq S31 := fun a b => decidable_of_iff (a.f0 = b.f0 ∧ a.f1 = b.f1) ⟨fun h => by obtain ⟨x, y⟩ := a; obtain ⟨z, u⟩ := b; simp only at h; obtain ⟨rfl, rfl⟩ := h; rfl, fun h => by rw [h]; exact ⟨rfl, rfl⟩⟩
abbrev pipeR (v : Value) : Option (DataW Unit × List MemPlace) :=
  match v with
  | .agg ⟨[.int .i64 a, .int .i64 b, .int .i64 c, .int .i64 d]⟩ => some (.agg [.lit (.int .i64 a), .lit (.int .i64 b), .lit (.int .i64 c), .lit (.int .i64 d)], [])
  | _ => none
def quadD (x : S36) : DataW Unit := .agg [.lit (.int .i64 x.f0.f0), .lit (.int .i64 x.f0.f1), .lit (.int .i64 x.f1), .lit (.int .i64 x.f2)]
theorem pipeR_mk (x : S36) : pipeR (quadV x) = some (quadD x, []) := rfl
theorem pipeR_inv {v : Value} {y : DataW Unit × List MemPlace} (h : pipeR v = some y) : ∃ x : S36, v = quadV x ∧ y = (quadD x, []) := by
  unfold pipeR at h
  split at h
  · exact ⟨⟨⟨_, _⟩, _, _⟩, rfl, (Option.some.inj h).symm⟩
  · cases h
theorem quadD_inj {x y : S36} (h : quadD x = quadD y) : x = y := by
  obtain ⟨⟨a, b⟩, c, d⟩ := x
  obtain ⟨⟨a', b'⟩, c', d'⟩ := y
  simp [quadD] at h
  obtain ⟨rfl, rfl, rfl, rfl⟩ := h
  rfl
structure MapIs (D : DataW Unit) (m : S31 → Option S36) : Prop where
  isMap : Maps.IsMap D
  at_ : ∀ p : S31, wf64 p.f0 → wf64 p.f1 → ∀ z, D.atKey (pipeL p.f0 p.f1) z = ((m p).map quadD).getD z
theorem mapIs_empty : MapIs (.map []) (fun _ => none) := ⟨Maps.isMap_empty, fun _ _ _ _ => rfl⟩
theorem pipeL_inj {a b a' b' : Int} (ha : wf64 a) (hb : wf64 b) (ha' : wf64 a') (hb' : wf64 b') (h : pipeL a b = pipeL a' b') : a = a' ∧ b = b' := by
  have h1 := keyOf_pipe ha hb
  have h2 := keyOf_pipe ha' hb'
  rw [← h] at h2
  have e := pipeKeyed.inj h1 h2
  simp [pairV] at e
  exact e
theorem MapIs.put {D : DataW Unit} {m : S31 → Option S36} (h : MapIs D m) (p : S31) (ha : wf64 p.f0) (hb : wf64 p.f1) (x : S36) :
    MapIs (D.put (pipeL p.f0 p.f1) (quadD x)) (fun q => if q = p then some x else m q) := by
  refine ⟨h.isMap.put _ _, fun q hq0 hq1 z => ?_⟩
  by_cases e : q = p
  · subst e
    rw [Maps.atKey_put_same h.isMap (pipeKeyed.key (keyOf_pipe ha hb))]
    simp
  · have hne : pipeL q.f0 q.f1 ≠ pipeL p.f0 p.f1 := fun hh => e (by
      have := pipeL_inj hq0 hq1 ha hb hh
      obtain ⟨a, b⟩ := q
      obtain ⟨c, d⟩ := p
      simp only at this
      obtain ⟨rfl, rfl⟩ := this
      rfl)
    rw [Maps.atKey_put_other hne, h.at_ q hq0 hq1]
    simp [e]
def lastMap (l : List S36) (p : S31) : Option S36 := l.foldl (fun o x => if p = x.f0 then some x else o) none
theorem lastMap_snoc (l : List S36) (x : S36) : lastMap (l ++ [x]) = fun q => if q = x.f0 then some x else lastMap l q := by
  funext q
  simp [lastMap]
abbrev pipeMap (w : World) (b n : Nat) (l : List S36) : Prop := ∃ D, w.ownsMap Try.prog 31 pipeR b n D ∧ MapIs D (lastMap l)
end Go.Proofs.Ytnknnbpodpfljaa.P


namespace Go.Proofs.Ytnknnbpodpfljaa.P
set_option linter.unusedVariables false
set_option linter.unusedSimpArgs false
open Go.RowKit Go.Proofs.YtnknnbpodpfljaaW.PrintWords
theorem logOk_all {l : List S36} (h : Q.logOk l = true) : l.length ≤ 30 ∧ (∀ x ∈ l, wf64 x.f0.f0 ∧ wf64 x.f0.f1) ∧ ∀ x ∈ l, 0 ≤ x.f1 ∧ x.f1 ≤ 2 := by
  have h1 : l.length ≤ 30 := by simp [Q.logOk] at h; exact h.2
  have h2 : Q.logGo 0 l = true := by simp [Q.logOk] at h; exact h.1
  have key : ∀ (l : List S36) (p : Int), Q.logGo p l = true → ∀ x ∈ l, (wf64 x.f0.f0 ∧ wf64 x.f0.f1) ∧ 0 ≤ x.f1 ∧ x.f1 ≤ 2 := by
    intro l
    induction l with
    | nil => intro p _ x hx; cases hx
    | cons e r ih =>
      intro p h x hx
      simp only [Q.logGo, Bool.and_eq_true] at h
      rcases List.mem_cons.1 hx with rfl | hx
      · have := h.1
        simp [Q.entOk] at this
        exact ⟨⟨wf64_of (by omega) (by omega), wf64_of (by omega) (by omega)⟩, by omega, by omega⟩
      · exact ih _ h.2.2 x hx
  exact ⟨h1, fun x hx => (key l 0 h2 x hx).1, fun x hx => (key l 0 h2 x hx).2⟩
end Go.Proofs.Ytnknnbpodpfljaa.P


namespace Go.Proofs.Ytnknnbpodpfljaa.P
open Go.RowKit Go.Proofs.YtnknnbpodpfljaaW.PrintWords Go.Proofs.YtnknnbpodpfljaaW.PrintLast Go.Proofs.YtnknnbpodpfljaaW.PrintMore
open Go.Maps (Keyed)
set_option linter.unusedVariables false
set_option linter.unusedSimpArgs false
set_option maxHeartbeats 4000000 in
set_option maxRecDepth 100000 in
theorem impl_lastOf.calls (A0 : Option Addr) (c0 : Nat) (l0 : List S36) (w : World) (hr0 : Kd.C k36 w A0 l0.length l0) (hc0 : l0.length ≤ c0) (hl : l0.length ≤ 1000) (hw : ∀ x ∈ l0, wf64 x.f0.f0 ∧ wf64 x.f0.f1) :
    Calls Try.prog 43 #[.slice A0 l0.length c0] w fun e w' => ∃ b : Nat, e = .returned (.map (some b)) ∧ w.heap.size ≤ b ∧ pipeMap w' b l0.length l0 ∧ Below w.heap.size w w' := by
  have HR0 := Aside0.mk hr0
  have HW := Aside0.mk hw
  have HB := Aside0.mk (Below.refl w.heap.size w)
  clear hr0 hw
  have hown0 := World.ownsMap_made w Try.prog 31 pipeR
  have HO := Aside0.mk hown0
  clear hown0
  have hmm := @run_makeMap Try.prog
  go_enter Try.func43, Try.ntmps43
  go_wp2
  go_loopg [9] (l0.length + 1) (fun kq v9 w' => ∃ (i : Nat), v9 = .int .i64 (i : Int) ∧ Aside0 (i + kq = l0.length + 1) ∧ Aside0 (i ≤ l0.length) ∧ Aside0 (pipeMap w' w.heap.size i (l0.take i)) ∧ Aside0 (Below w.heap.size w w'))
  case atStart =>
    exact ⟨0, rfl, ⟨by omega⟩, ⟨by omega⟩, ⟨⟨_, HO.out, mapIs_empty⟩⟩, ⟨below_alloc HB.out _⟩⟩
  case round =>
    clear HB HO
    obtain ⟨i, rfl, HI1, HI2, HM, HB⟩ := hrel
    by_cases hlt : i < l0.length
    · have hb3 : decide ((i : Int) < (l0.length : Int)) = true := decide_eq_true (by omega)
      have hb4 : decide (i < l0.length) = true := decide_eq_true (by omega)
      obtain ⟨ad, e, hx0, hx1, hx2, hx3⟩ := at_T36 HR0.out (i : Int) (by omega) (by omega)
      cases e
      replace hx0 := (HB.out.cell (World.block_lt_of_cell? w _ hx0)).trans hx0
      replace hx1 := (HB.out.cell (World.block_lt_of_cell? w _ hx1)).trans hx1
      replace hx2 := (HB.out.cell (World.block_lt_of_cell? w _ hx2)).trans hx2
      replace hx3 := (HB.out.cell (World.block_lt_of_cell? w _ hx3)).trans hx3
      obtain ⟨x, hx⟩ : ∃ x, rd_T36 l0 (i : Int) = x := ⟨_, rfl⟩
      rw [hx] at hx0 hx1 hx2 hx3
      simp only [Int.toNat_natCast] at hx0 hx1 hx2 hx3
      have e0 : l0[i] = x := by rw [← hx]; simp [rd_T36, List.getD_eq_getElem?_getD, hlt]
      obtain ⟨q1, q2⟩ := HW.out x (by rw [← e0]; exact List.getElem_mem hlt)
      have HT : Aside0 (l0.take (i + 1) = l0.take i ++ [x]) := ⟨by rw [List.take_succ_eq_append_getElem hlt, e0]⟩
      have HQ := Aside0.mk q1
      have HQ2 := Aside0.mk q2
      obtain ⟨D, hD, hD2⟩ := HM.out
      have HD := Aside0.mk hD
      have HD2 := Aside0.mk hD2
      have HLT := Aside0.mk hlt
      clear hx e0 q1 q2 HM hD hD2
      go_wp2_with (first | (at_mapUpdate; refine wpList_mapUpdate_own _ rfl _ _ _ 60 rfl 31 36 pipeKeyed Try.underlying60 pipeR w.heap.size i D rfl (HD.out.alloc _) (show i < maxLen from Nat.lt_of_le_of_lt (show i ≤ 1000 by omega) (by decide)) (pairV x.f0.f0 x.f0.f1) (quadV x) _ rfl rfl (keyOf_pipe HQ.out HQ2.out) (quadD x) [] (pipeR_mk x) ?_; intro w2 h2 hg2; have H2 := Aside0.mk h2; have HG2 := Aside0.mk hg2; clear h2 hg2))
      go_roundg (l0.length - i)
      case measure => have := HI1.out; omega
      case rel =>
        refine ⟨i + 1, by go_num, ⟨by omega⟩, ⟨by omega⟩, ⟨⟨_, H2.out, ?_⟩⟩, ⟨?_⟩⟩
        · rw [HT.out, lastMap_snoc]
          exact MapIs.put HD2.out x.f0 HQ.out HQ2.out x
        · exact (below_alloc HB.out _).grown HG2.out (below_alloc HB.out _).size (fun k hk => by cases hk; exact Nat.le_refl _)
    · have hb3 : decide ((i : Int) < (l0.length : Int)) = false := decide_eq_false (by omega)
      have hb4 : decide (i < l0.length) = false := decide_eq_false (by omega)
      obtain rfl : i = l0.length := by have := HI2.out; omega
      go_wp2
      go_ret
      exact ⟨w.heap.size, rfl, Nat.le_refl _, by simpa using HM.out, HB.out⟩
instance (a : Int) : Decidable (wf64 a) := by unfold wf64; infer_instance
end Go.Proofs.Ytnknnbpodpfljaa.P


namespace Go.Proofs.Ytnknnbpodpfljaa.P
open Go.RowKit Go.Proofs.YtnknnbpodpfljaaW.PrintWords Go.Proofs.YtnknnbpodpfljaaW.PrintLast Go.Proofs.YtnknnbpodpfljaaW.PrintMore Go.Proofs.Ytnknnbpodpfljaa.V
open Go.Maps (Keyed)
set_option linter.unusedVariables false
set_option linter.unusedSimpArgs false
attribute [local go_sem] cell_b frozen_b
structure Found (m : S31 → Option S36) (left : Lit → Bool) (xs : List S36) : Prop where
  all : ∀ x ∈ xs, m x.f0 = some x ∧ x.f1 ≠ 0 ∧ wf64 x.f0.f0 ∧ wf64 x.f0.f1 ∧ left (pipeL x.f0.f0 x.f0.f1) = false
  nodup : xs.Pairwise (fun a b => a.f0 ≠ b.f0)
  got : ∀ (p : S31) (x : S36), wf64 p.f0 → wf64 p.f1 → m p = some x → x.f1 ≠ 0 → left (pipeL p.f0 p.f1) = false → x ∈ xs
theorem Found.step {m : S31 → Option S36} {left : Lit → Bool} {xs : List S36} (h : Found m left xs) (c : S36) (h0 : wf64 c.f0.f0) (h1 : wf64 c.f0.f1) (hm : m c.f0 = some c)
    (hl : left (pipeL c.f0.f0 c.f0.f1) = true) : Found m (fun z => left z && !z.sameKey (pipeL c.f0.f0 c.f0.f1)) (if c.f1 ≠ 0 then xs ++ [c] else xs) := by
  have hk := pipeKeyed.key (keyOf_pipe h0 h1)
  have hself : (pipeL c.f0.f0 c.f0.f1).sameKey (pipeL c.f0.f0 c.f0.f1) = true := WideAt.sameKey_self hk
  have hold : ∀ p x, wf64 p.f0 → wf64 p.f1 → m p = some x → x.f1 ≠ 0 → (left (pipeL p.f0 p.f1) && !(pipeL p.f0 p.f1).sameKey (pipeL c.f0.f0 c.f0.f1)) = false → x ∈ xs ∨ x = c := by
    intro p x p0 p1 hp hx hf
    rw [Bool.and_eq_false_iff] at hf
    rcases hf with hf | hf
    · exact .inl (h.got p x p0 p1 hp hx hf)
    · by_cases he : pipeL p.f0 p.f1 = pipeL c.f0.f0 c.f0.f1
      · obtain ⟨e0, e1⟩ := pipeL_inj p0 p1 h0 h1 he
        have : p = c.f0 := by
          obtain ⟨a, b⟩ := p
          obtain ⟨⟨u, v⟩, _, _⟩ := c
          simp only at e0 e1
          rw [e0, e1]
        subst this
        rw [hm] at hp
        exact .inr (Option.some.inj hp).symm
      · rw [Maps.sameKey_ne he] at hf; cases hf
  by_cases hc : c.f1 ≠ 0
  · rw [if_pos hc]
    refine ⟨fun x hx => ?_, ?_, fun p x p0 p1 hp hx hf => ?_⟩
    · rcases List.mem_append.1 hx with hx | hx
      · obtain ⟨a, b, u, v, w⟩ := h.all x hx
        exact ⟨a, b, u, v, by rw [w]; rfl⟩
      · rw [List.mem_singleton] at hx
        subst hx
        exact ⟨hm, hc, h0, h1, by rw [hself]; simp⟩
    · refine List.pairwise_append.2 ⟨h.nodup, List.pairwise_singleton _ _, fun a ha b hb e => ?_⟩
      rw [List.mem_singleton] at hb
      subst hb
      have := (h.all a ha).2.2.2.2
      rw [e, hl] at this
      cases this
    · rcases hold p x p0 p1 hp hx hf with h' | h'
      · exact List.mem_append_left _ h'
      · rw [h']; simp
  · rw [if_neg hc]
    refine ⟨fun x hx => ?_, h.nodup, fun p x p0 p1 hp hx hf => ?_⟩
    · obtain ⟨a, b, u, v, w⟩ := h.all x hx
      exact ⟨a, b, u, v, by rw [w]; rfl⟩
    · rcases hold p x p0 p1 hp hx hf with h' | h'
      · exact h'
      · rw [h'] at hx; exact absurd hx hc
theorem mapIs_key {D : DataW Unit} {m : S31 → Option S36} (h : MapIs D m) {p : S31} (h0 : wf64 p.f0) (h1 : wf64 p.f1) {c : S36} (hat : ∀ zd, D.atKey (pipeL p.f0 p.f1) zd = quadD c) : m p = some c := by
  cases hm : m p with
  | none =>
    have a := (h.at_ p h0 h1 (.map [])).symm.trans (hat _)
    rw [hm] at a
    exact absurd a (by simp [quadD])
  | some x =>
    have a := (h.at_ p h0 h1 (.map [])).symm.trans (hat _)
    rw [hm] at a
    exact congrArg some (quadD_inj a)
end Go.Proofs.Ytnknnbpodpfljaa.P


namespace Go.Proofs.Ytnknnbpodpfljaa.P
open Go.RowKit Go.Proofs.YtnknnbpodpfljaaW.PrintWords Go.Proofs.YtnknnbpodpfljaaW.PrintLast Go.Proofs.YtnknnbpodpfljaaW.PrintMore
attribute [local go_sem] max2_int min2_int max_two min_two max_three min_three max_four min_four
set_option linter.unusedVariables false
set_option linter.unusedSimpArgs false
def spec_l35Before.f (a0_0 : Int) (a0_1 : Int) (a0_2 : Int) (a0_3 : Int) (a1_0 : Int) (a1_1 : Int) (a1_2 : Int) (a1_3 : Int) : Option (Bool) := if a0_2 = a1_2 then (if a0_3 = a1_3 then (if a0_0 = a1_0 then (some (decide (a0_1 < a1_1))) else (some (decide (a0_0 < a1_0)))) else (some (decide (a0_3 < a1_3)))) else (some (decide (a0_2 > a1_2)))
set_option maxHeartbeats 8000000 in
set_option maxRecDepth 100000 in
theorem spec_l35Before.calls (a0_0 : Int) (a0_1 : Int) (a0_2 : Int) (a0_3 : Int) (a1_0 : Int) (a1_1 : Int) (a1_2 : Int) (a1_3 : Int) (r : Bool) (w : World) (h : spec_l35Before.f a0_0 a0_1 a0_2 a0_3 a1_0 a1_1 a1_2 a1_3 = some r) :
    Calls Try.prog 52 #[.agg #[.int .i64 a0_0, .int .i64 a0_1, .int .i64 a0_2, .int .i64 a0_3], .agg #[.int .i64 a1_0, .int .i64 a1_1, .int .i64 a1_2, .int .i64 a1_3]] w fun e w' => e = .returned (.bool r) ∧ Below w.heap.size w w' := by
  have hu36 := Try.underlying36
  have HB := Aside0.mk (Below.refl w.heap.size w)
  have H : (if a0_2 = a1_2 then (if a0_3 = a1_3 then (if a0_0 = a1_0 then (some (decide (a0_1 < a1_1))) else (some (decide (a0_0 < a1_0)))) else (some (decide (a0_3 < a1_3)))) else (some (decide (a0_2 > a1_2)))) = some r := h
  clear h
  by_cases c3 : a0_2 = a1_2
  · rw [if_pos c3] at H
    have c3b0 : (a0_2 == a1_2) = true := beq_iff_eq.mpr c3
    have c3b1 : (a0_2 != a1_2) = false := bne_eq_false_iff_eq.mpr c3
    clear c3
    by_cases c4 : a0_3 = a1_3
    · rw [if_pos c4] at H
      have c4b0 : (a0_3 == a1_3) = true := beq_iff_eq.mpr c4
      have c4b1 : (a0_3 != a1_3) = false := bne_eq_false_iff_eq.mpr c4
      clear c4
      by_cases c5 : a0_0 = a1_0
      · rw [if_pos c5] at H
        have c5b0 : (a0_0 == a1_0) = true := beq_iff_eq.mpr c5
        have c5b1 : (a0_0 != a1_0) = false := bne_eq_false_iff_eq.mpr c5
        clear c5
        obtain rfl := Option.some.inj H
        go_enter Try.func52, Try.ntmps52
        go_wp2_with (first | ((with_reducible refine gate_dst (N := 2) rfl ?_); refine box_event ?hg (N := 2) ?hd (cs := #[.int .i64 a0_0, .int .i64 a0_1, .int .i64 a0_2, .int .i64 a0_3]) (t := 36) ?hr ?_; (case hd => rfl); (case hg => rfl); (case hr => first | (go_simp; done) | (go_simp; rfl)); intro gb256 hg w6 hbox hb; have n0_ := Aside0.mk (below_step (oB HB) hb); have n1_ := Aside0.mk (hbox); have n2_ := Aside0.mk ((by rw [hg]; exact (below_size (oB HB)) : w.heap.size ≤ gb256)); have n3_ := Aside0.mk ((by rw [hg]; exact (below_size (oB HB)) : w.heap.size ≤ gb256)); clear HB; have HB := n0_; have BK256 := n1_; have GW256 := n2_; have GE256 := n3_; clear n0_ n1_ n2_ n3_; clear hb hbox hg) | ((with_reducible refine gate_dst (N := 3) rfl ?_); refine box_event ?hg (N := 3) ?hd (cs := #[.int .i64 a1_0, .int .i64 a1_1, .int .i64 a1_2, .int .i64 a1_3]) (t := 36) ?hr ?_; (case hd => rfl); (case hg => rfl); (case hr => first | (go_simp; done) | (go_simp; rfl)); intro gb257 hg w7 hbox hb; have n0_ := Aside0.mk (blk_below (g := gb256) (o := .cells #[.int .i64 a0_0, .int .i64 a0_1, .int .i64 a0_2, .int .i64 a0_3] 36 (0, 0)) (oK BK256) hb); have n1_ := Aside0.mk (below_step (oB HB) hb); have n2_ := Aside0.mk (hbox); have n3_ := Aside0.mk ((by rw [hg]; exact (below_size (oB HB)) : w.heap.size ≤ gb257)); have n4_ := Aside0.mk ((by rw [hg]; exact (below_size (oB HB)) : w.heap.size ≤ gb257)); have n5_ := Aside0.mk ((by rw [hg]; exact Nat.ne_of_lt (blk_lt (g := gb256) (o := .cells #[.int .i64 a0_0, .int .i64 a0_1, .int .i64 a0_2, .int .i64 a0_3] 36 (0, 0)) (oK BK256)) : gb256 ≠ gb257)); have n6_ := Aside0.mk ((by rw [hg]; exact Nat.ne_of_gt (blk_lt (g := gb256) (o := .cells #[.int .i64 a0_0, .int .i64 a0_1, .int .i64 a0_2, .int .i64 a0_3] 36 (0, 0)) (oK BK256)) : gb257 ≠ gb256)); clear BK256; clear HB; have BK256 := n0_; have HB := n1_; have BK257 := n2_; have GW257 := n3_; have GE257 := n4_; have NB256_257 := n5_; have NB257_256 := n6_; clear n0_ n1_ n2_ n3_ n4_ n5_ n6_; clear hb hbox hg; have hnb8 := NB256_257.out; have hnc8 := NB257_256.out; have hcz9_0 : w7.cell? ⟨gb256, 0, none⟩ = some (.int .i64 a0_0) := (blk_cell BK256.out 0).trans rfl; have hcz9_1 : w7.cell? ⟨gb256, 1, none⟩ = some (.int .i64 a0_1) := (blk_cell BK256.out 1).trans rfl; have hcz9_2 : w7.cell? ⟨gb256, 2, none⟩ = some (.int .i64 a0_2) := (blk_cell BK256.out 2).trans rfl; have hcz9_3 : w7.cell? ⟨gb256, 3, none⟩ = some (.int .i64 a0_3) := (blk_cell BK256.out 3).trans rfl; have hfz9_0 := blk_frozen BK256.out 0; have hfz9_1 := blk_frozen BK256.out 1; have hfz9_2 := blk_frozen BK256.out 2; have hfz9_3 := blk_frozen BK256.out 3; have hcz10_0 : w7.cell? ⟨gb257, 0, none⟩ = some (.int .i64 a1_0) := (blk_cell BK257.out 0).trans rfl; have hcz10_1 : w7.cell? ⟨gb257, 1, none⟩ = some (.int .i64 a1_1) := (blk_cell BK257.out 1).trans rfl; have hcz10_2 : w7.cell? ⟨gb257, 2, none⟩ = some (.int .i64 a1_2) := (blk_cell BK257.out 2).trans rfl; have hcz10_3 : w7.cell? ⟨gb257, 3, none⟩ = some (.int .i64 a1_3) := (blk_cell BK257.out 3).trans rfl; have hfz10_0 := blk_frozen BK257.out 0; have hfz10_1 := blk_frozen BK257.out 1; have hfz10_2 := blk_frozen BK257.out 2; have hfz10_3 := blk_frozen BK257.out 3))
        go_ret
        exact ⟨by first | rfl | (simp [errW_none, errW_some] <;> rfl) | (simp [*, errW_none, errW_some] <;> rfl), oB HB⟩
      · rw [if_neg c5] at H
        have c5b0 : (a0_0 == a1_0) = false := beq_eq_false_iff_ne.mpr c5
        have c5b1 : (a0_0 != a1_0) = true := bne_iff_ne.mpr c5
        obtain rfl := Option.some.inj H
        go_enter Try.func52, Try.ntmps52
        go_wp2_with (first | ((with_reducible refine gate_dst (N := 2) rfl ?_); refine box_event ?hg (N := 2) ?hd (cs := #[.int .i64 a0_0, .int .i64 a0_1, .int .i64 a0_2, .int .i64 a0_3]) (t := 36) ?hr ?_; (case hd => rfl); (case hg => rfl); (case hr => first | (go_simp; done) | (go_simp; rfl)); intro gb256 hg w11 hbox hb; have n0_ := Aside0.mk (below_step (oB HB) hb); have n1_ := Aside0.mk (hbox); have n2_ := Aside0.mk ((by rw [hg]; exact (below_size (oB HB)) : w.heap.size ≤ gb256)); have n3_ := Aside0.mk ((by rw [hg]; exact (below_size (oB HB)) : w.heap.size ≤ gb256)); clear HB; have HB := n0_; have BK256 := n1_; have GW256 := n2_; have GE256 := n3_; clear n0_ n1_ n2_ n3_; clear hb hbox hg) | ((with_reducible refine gate_dst (N := 3) rfl ?_); refine box_event ?hg (N := 3) ?hd (cs := #[.int .i64 a1_0, .int .i64 a1_1, .int .i64 a1_2, .int .i64 a1_3]) (t := 36) ?hr ?_; (case hd => rfl); (case hg => rfl); (case hr => first | (go_simp; done) | (go_simp; rfl)); intro gb257 hg w12 hbox hb; have n0_ := Aside0.mk (blk_below (g := gb256) (o := .cells #[.int .i64 a0_0, .int .i64 a0_1, .int .i64 a0_2, .int .i64 a0_3] 36 (0, 0)) (oK BK256) hb); have n1_ := Aside0.mk (below_step (oB HB) hb); have n2_ := Aside0.mk (hbox); have n3_ := Aside0.mk ((by rw [hg]; exact (below_size (oB HB)) : w.heap.size ≤ gb257)); have n4_ := Aside0.mk ((by rw [hg]; exact (below_size (oB HB)) : w.heap.size ≤ gb257)); have n5_ := Aside0.mk ((by rw [hg]; exact Nat.ne_of_lt (blk_lt (g := gb256) (o := .cells #[.int .i64 a0_0, .int .i64 a0_1, .int .i64 a0_2, .int .i64 a0_3] 36 (0, 0)) (oK BK256)) : gb256 ≠ gb257)); have n6_ := Aside0.mk ((by rw [hg]; exact Nat.ne_of_gt (blk_lt (g := gb256) (o := .cells #[.int .i64 a0_0, .int .i64 a0_1, .int .i64 a0_2, .int .i64 a0_3] 36 (0, 0)) (oK BK256)) : gb257 ≠ gb256)); clear BK256; clear HB; have BK256 := n0_; have HB := n1_; have BK257 := n2_; have GW257 := n3_; have GE257 := n4_; have NB256_257 := n5_; have NB257_256 := n6_; clear n0_ n1_ n2_ n3_ n4_ n5_ n6_; clear hb hbox hg; have hnb13 := NB256_257.out; have hnc13 := NB257_256.out; have hcz14_0 : w12.cell? ⟨gb256, 0, none⟩ = some (.int .i64 a0_0) := (blk_cell BK256.out 0).trans rfl; have hcz14_1 : w12.cell? ⟨gb256, 1, none⟩ = some (.int .i64 a0_1) := (blk_cell BK256.out 1).trans rfl; have hcz14_2 : w12.cell? ⟨gb256, 2, none⟩ = some (.int .i64 a0_2) := (blk_cell BK256.out 2).trans rfl; have hcz14_3 : w12.cell? ⟨gb256, 3, none⟩ = some (.int .i64 a0_3) := (blk_cell BK256.out 3).trans rfl; have hfz14_0 := blk_frozen BK256.out 0; have hfz14_1 := blk_frozen BK256.out 1; have hfz14_2 := blk_frozen BK256.out 2; have hfz14_3 := blk_frozen BK256.out 3; have hcz15_0 : w12.cell? ⟨gb257, 0, none⟩ = some (.int .i64 a1_0) := (blk_cell BK257.out 0).trans rfl; have hcz15_1 : w12.cell? ⟨gb257, 1, none⟩ = some (.int .i64 a1_1) := (blk_cell BK257.out 1).trans rfl; have hcz15_2 : w12.cell? ⟨gb257, 2, none⟩ = some (.int .i64 a1_2) := (blk_cell BK257.out 2).trans rfl; have hcz15_3 : w12.cell? ⟨gb257, 3, none⟩ = some (.int .i64 a1_3) := (blk_cell BK257.out 3).trans rfl; have hfz15_0 := blk_frozen BK257.out 0; have hfz15_1 := blk_frozen BK257.out 1; have hfz15_2 := blk_frozen BK257.out 2; have hfz15_3 := blk_frozen BK257.out 3))
        go_ret
        exact ⟨by first | rfl | (simp [errW_none, errW_some] <;> rfl) | (simp [*, errW_none, errW_some] <;> rfl), oB HB⟩
    · rw [if_neg c4] at H
      have c4b0 : (a0_3 == a1_3) = false := beq_eq_false_iff_ne.mpr c4
      have c4b1 : (a0_3 != a1_3) = true := bne_iff_ne.mpr c4
      obtain rfl := Option.some.inj H
      go_enter Try.func52, Try.ntmps52
      go_wp2_with (first | ((with_reducible refine gate_dst (N := 2) rfl ?_); refine box_event ?hg (N := 2) ?hd (cs := #[.int .i64 a0_0, .int .i64 a0_1, .int .i64 a0_2, .int .i64 a0_3]) (t := 36) ?hr ?_; (case hd => rfl); (case hg => rfl); (case hr => first | (go_simp; done) | (go_simp; rfl)); intro gb256 hg w16 hbox hb; have n0_ := Aside0.mk (below_step (oB HB) hb); have n1_ := Aside0.mk (hbox); have n2_ := Aside0.mk ((by rw [hg]; exact (below_size (oB HB)) : w.heap.size ≤ gb256)); have n3_ := Aside0.mk ((by rw [hg]; exact (below_size (oB HB)) : w.heap.size ≤ gb256)); clear HB; have HB := n0_; have BK256 := n1_; have GW256 := n2_; have GE256 := n3_; clear n0_ n1_ n2_ n3_; clear hb hbox hg) | ((with_reducible refine gate_dst (N := 3) rfl ?_); refine box_event ?hg (N := 3) ?hd (cs := #[.int .i64 a1_0, .int .i64 a1_1, .int .i64 a1_2, .int .i64 a1_3]) (t := 36) ?hr ?_; (case hd => rfl); (case hg => rfl); (case hr => first | (go_simp; done) | (go_simp; rfl)); intro gb257 hg w17 hbox hb; have n0_ := Aside0.mk (blk_below (g := gb256) (o := .cells #[.int .i64 a0_0, .int .i64 a0_1, .int .i64 a0_2, .int .i64 a0_3] 36 (0, 0)) (oK BK256) hb); have n1_ := Aside0.mk (below_step (oB HB) hb); have n2_ := Aside0.mk (hbox); have n3_ := Aside0.mk ((by rw [hg]; exact (below_size (oB HB)) : w.heap.size ≤ gb257)); have n4_ := Aside0.mk ((by rw [hg]; exact (below_size (oB HB)) : w.heap.size ≤ gb257)); have n5_ := Aside0.mk ((by rw [hg]; exact Nat.ne_of_lt (blk_lt (g := gb256) (o := .cells #[.int .i64 a0_0, .int .i64 a0_1, .int .i64 a0_2, .int .i64 a0_3] 36 (0, 0)) (oK BK256)) : gb256 ≠ gb257)); have n6_ := Aside0.mk ((by rw [hg]; exact Nat.ne_of_gt (blk_lt (g := gb256) (o := .cells #[.int .i64 a0_0, .int .i64 a0_1, .int .i64 a0_2, .int .i64 a0_3] 36 (0, 0)) (oK BK256)) : gb257 ≠ gb256)); clear BK256; clear HB; have BK256 := n0_; have HB := n1_; have BK257 := n2_; have GW257 := n3_; have GE257 := n4_; have NB256_257 := n5_; have NB257_256 := n6_; clear n0_ n1_ n2_ n3_ n4_ n5_ n6_; clear hb hbox hg; have hnb18 := NB256_257.out; have hnc18 := NB257_256.out; have hcz19_0 : w17.cell? ⟨gb256, 0, none⟩ = some (.int .i64 a0_0) := (blk_cell BK256.out 0).trans rfl; have hcz19_1 : w17.cell? ⟨gb256, 1, none⟩ = some (.int .i64 a0_1) := (blk_cell BK256.out 1).trans rfl; have hcz19_2 : w17.cell? ⟨gb256, 2, none⟩ = some (.int .i64 a0_2) := (blk_cell BK256.out 2).trans rfl; have hcz19_3 : w17.cell? ⟨gb256, 3, none⟩ = some (.int .i64 a0_3) := (blk_cell BK256.out 3).trans rfl; have hfz19_0 := blk_frozen BK256.out 0; have hfz19_1 := blk_frozen BK256.out 1; have hfz19_2 := blk_frozen BK256.out 2; have hfz19_3 := blk_frozen BK256.out 3; have hcz20_0 : w17.cell? ⟨gb257, 0, none⟩ = some (.int .i64 a1_0) := (blk_cell BK257.out 0).trans rfl; have hcz20_1 : w17.cell? ⟨gb257, 1, none⟩ = some (.int .i64 a1_1) := (blk_cell BK257.out 1).trans rfl; have hcz20_2 : w17.cell? ⟨gb257, 2, none⟩ = some (.int .i64 a1_2) := (blk_cell BK257.out 2).trans rfl; have hcz20_3 : w17.cell? ⟨gb257, 3, none⟩ = some (.int .i64 a1_3) := (blk_cell BK257.out 3).trans rfl; have hfz20_0 := blk_frozen BK257.out 0; have hfz20_1 := blk_frozen BK257.out 1; have hfz20_2 := blk_frozen BK257.out 2; have hfz20_3 := blk_frozen BK257.out 3))
      go_ret
      exact ⟨by first | rfl | (simp [errW_none, errW_some] <;> rfl) | (simp [*, errW_none, errW_some] <;> rfl), oB HB⟩
  · rw [if_neg c3] at H
    have c3b0 : (a0_2 == a1_2) = false := beq_eq_false_iff_ne.mpr c3
    have c3b1 : (a0_2 != a1_2) = true := bne_iff_ne.mpr c3
    obtain rfl := Option.some.inj H
    go_enter Try.func52, Try.ntmps52
    go_wp2_with (first | ((with_reducible refine gate_dst (N := 2) rfl ?_); refine box_event ?hg (N := 2) ?hd (cs := #[.int .i64 a0_0, .int .i64 a0_1, .int .i64 a0_2, .int .i64 a0_3]) (t := 36) ?hr ?_; (case hd => rfl); (case hg => rfl); (case hr => first | (go_simp; done) | (go_simp; rfl)); intro gb256 hg w21 hbox hb; have n0_ := Aside0.mk (below_step (oB HB) hb); have n1_ := Aside0.mk (hbox); have n2_ := Aside0.mk ((by rw [hg]; exact (below_size (oB HB)) : w.heap.size ≤ gb256)); have n3_ := Aside0.mk ((by rw [hg]; exact (below_size (oB HB)) : w.heap.size ≤ gb256)); clear HB; have HB := n0_; have BK256 := n1_; have GW256 := n2_; have GE256 := n3_; clear n0_ n1_ n2_ n3_; clear hb hbox hg) | ((with_reducible refine gate_dst (N := 3) rfl ?_); refine box_event ?hg (N := 3) ?hd (cs := #[.int .i64 a1_0, .int .i64 a1_1, .int .i64 a1_2, .int .i64 a1_3]) (t := 36) ?hr ?_; (case hd => rfl); (case hg => rfl); (case hr => first | (go_simp; done) | (go_simp; rfl)); intro gb257 hg w22 hbox hb; have n0_ := Aside0.mk (blk_below (g := gb256) (o := .cells #[.int .i64 a0_0, .int .i64 a0_1, .int .i64 a0_2, .int .i64 a0_3] 36 (0, 0)) (oK BK256) hb); have n1_ := Aside0.mk (below_step (oB HB) hb); have n2_ := Aside0.mk (hbox); have n3_ := Aside0.mk ((by rw [hg]; exact (below_size (oB HB)) : w.heap.size ≤ gb257)); have n4_ := Aside0.mk ((by rw [hg]; exact (below_size (oB HB)) : w.heap.size ≤ gb257)); have n5_ := Aside0.mk ((by rw [hg]; exact Nat.ne_of_lt (blk_lt (g := gb256) (o := .cells #[.int .i64 a0_0, .int .i64 a0_1, .int .i64 a0_2, .int .i64 a0_3] 36 (0, 0)) (oK BK256)) : gb256 ≠ gb257)); have n6_ := Aside0.mk ((by rw [hg]; exact Nat.ne_of_gt (blk_lt (g := gb256) (o := .cells #[.int .i64 a0_0, .int .i64 a0_1, .int .i64 a0_2, .int .i64 a0_3] 36 (0, 0)) (oK BK256)) : gb257 ≠ gb256)); clear BK256; clear HB; have BK256 := n0_; have HB := n1_; have BK257 := n2_; have GW257 := n3_; have GE257 := n4_; have NB256_257 := n5_; have NB257_256 := n6_; clear n0_ n1_ n2_ n3_ n4_ n5_ n6_; clear hb hbox hg; have hnb23 := NB256_257.out; have hnc23 := NB257_256.out; have hcz24_0 : w22.cell? ⟨gb256, 0, none⟩ = some (.int .i64 a0_0) := (blk_cell BK256.out 0).trans rfl; have hcz24_1 : w22.cell? ⟨gb256, 1, none⟩ = some (.int .i64 a0_1) := (blk_cell BK256.out 1).trans rfl; have hcz24_2 : w22.cell? ⟨gb256, 2, none⟩ = some (.int .i64 a0_2) := (blk_cell BK256.out 2).trans rfl; have hcz24_3 : w22.cell? ⟨gb256, 3, none⟩ = some (.int .i64 a0_3) := (blk_cell BK256.out 3).trans rfl; have hfz24_0 := blk_frozen BK256.out 0; have hfz24_1 := blk_frozen BK256.out 1; have hfz24_2 := blk_frozen BK256.out 2; have hfz24_3 := blk_frozen BK256.out 3; have hcz25_0 : w22.cell? ⟨gb257, 0, none⟩ = some (.int .i64 a1_0) := (blk_cell BK257.out 0).trans rfl; have hcz25_1 : w22.cell? ⟨gb257, 1, none⟩ = some (.int .i64 a1_1) := (blk_cell BK257.out 1).trans rfl; have hcz25_2 : w22.cell? ⟨gb257, 2, none⟩ = some (.int .i64 a1_2) := (blk_cell BK257.out 2).trans rfl; have hcz25_3 : w22.cell? ⟨gb257, 3, none⟩ = some (.int .i64 a1_3) := (blk_cell BK257.out 3).trans rfl; have hfz25_0 := blk_frozen BK257.out 0; have hfz25_1 := blk_frozen BK257.out 1; have hfz25_2 := blk_frozen BK257.out 2; have hfz25_3 := blk_frozen BK257.out 3))
    go_ret
    exact ⟨by first | rfl | (simp [errW_none, errW_some] <;> rfl) | (simp [*, errW_none, errW_some] <;> rfl), oB HB⟩
end Go.Proofs.Ytnknnbpodpfljaa.P


namespace Go.Proofs.Ytnknnbpodpfljaa.P
open Go.RowKit Go.Proofs.YtnknnbpodpfljaaW.PrintWords Go.Proofs.YtnknnbpodpfljaaW.PrintLast Go.Proofs.YtnknnbpodpfljaaW.PrintMore
attribute [local go_sem] max2_int min2_int max_two min_two max_three min_three max_four min_four
set_option linter.unusedVariables false
set_option linter.unusedSimpArgs false
theorem eqA31 (d : Nat) (w : World) (x0 y0 : Int) (x1 y1 : Int) :
    (Op.equalIn (d + 2) 31 (.agg #[.int .i64 x0, .int .i64 x1]) (.agg #[.int .i64 y0, .int .i64 y1])).run Try.prog w = .ok (x0 == y0 && (x1 == y1)) w := by
  refine eqA_of Try.underlying31 (by kernel_rfl) ?_
  refine eqf_cons (by rfl) (by go_simp; rfl) (by go_simp; rfl) (by go_simp) ?_
  exact eqf_last (by rfl) (by go_simp; rfl) (by go_simp; rfl) (by go_simp)
end Go.Proofs.Ytnknnbpodpfljaa.P


namespace Go.Proofs.Ytnknnbpodpfljaa.P
open Go.RowKit Go.Proofs.YtnknnbpodpfljaaW.PrintWords Go.Proofs.YtnknnbpodpfljaaW.PrintLast Go.Proofs.YtnknnbpodpfljaaW.PrintMore
attribute [local go_sem] max2_int min2_int max_two min_two max_three min_three max_four min_four
set_option linter.unusedVariables false
set_option linter.unusedSimpArgs false
attribute [local go_sem high] eqA31
mutual
def spec_OpenFaults.l0 : Nat → List (S36) → List (S36) → Int → Option ((List (S36)))
  | 0, _, _, _ => none
  | k + 1, x0, x3, x4 => if x4 < (x0.length : Int) then ((spec_LogOk.f k x0).bind fun t261 => (spec_OpenFaults.j1 k x0 x3 x4 t261)) else (spec_OpenFaults.j1 k x0 x3 x4 false)
def spec_OpenFaults.j1 : Nat → List (S36) → List (S36) → Int → Bool → Option ((List (S36)))
  | 0, _, _, _, _ => none
  | k + 1, x0, x3, x4, x16 => if x16 = true then (if 0 ≤ x4 then (if x4 < (x0.length : Int) then (spec_OpenFaults.l1 k x0 x3 x4 (((rd_T36 x0 x4).f1) != 0) (wrap64 (x4 + 1))) else (none)) else (none)) else (some x3)
def spec_OpenFaults.l1 : Nat → List (S36) → List (S36) → Int → Bool → Int → Option ((List (S36)))
  | 0, _, _, _, _, _ => none
  | k + 1, x0, x3, x4, x5, x6 => if x6 < (x0.length : Int) then (if x5 = true then (if 0 ≤ x6 then (if 0 ≤ x4 then (if x4 < (x0.length : Int) then (spec_OpenFaults.l1 k x0 x3 x4 (!(((rd_T36 x0 x6).f0.f0) == ((rd_T36 x0 x4).f0.f0)) || (!(((rd_T36 x0 x6).f0.f1) == ((rd_T36 x0 x4).f0.f1)))) (wrap64 (x6 + 1))) else (none)) else (none)) else (none)) else (spec_OpenFaults.l1 k x0 x3 x4 false (wrap64 (x6 + 1)))) else (if x5 = true then (if 0 ≤ x4 then (if x4 < (x0.length : Int) then (if x3.length < 4398046511104 then (spec_OpenFaults.l2 k x0 (x3 ++ [(⟨(⟨(rd_T36 x0 x4).f0.f0, (rd_T36 x0 x4).f0.f1⟩ : S31), (rd_T36 x0 x4).f1, (rd_T36 x0 x4).f2⟩ : S36)]) x4 (x3.length : Int)) else (none)) else (none)) else (none)) else (spec_OpenFaults.l0 k x0 x3 (wrap64 (x4 + 1))))
def spec_OpenFaults.l2 : Nat → List (S36) → List (S36) → Int → Int → Option ((List (S36)))
  | 0, _, _, _, _ => none
  | k + 1, x0, x3, x4, x7 => if x7 > 0 then (if 0 ≤ x4 then (if x4 < (x0.length : Int) then (if 0 ≤ (wrap64 (x7 - 1)) then (if (wrap64 (x7 - 1)) < (x3.length : Int) then ((spec_l35Before.f ((rd_T36 x0 x4).f0.f0) ((rd_T36 x0 x4).f0.f1) ((rd_T36 x0 x4).f1) ((rd_T36 x0 x4).f2) ((rd_T36 x3 (wrap64 (x7 - 1))).f0.f0) ((rd_T36 x3 (wrap64 (x7 - 1))).f0.f1) ((rd_T36 x3 (wrap64 (x7 - 1))).f1) ((rd_T36 x3 (wrap64 (x7 - 1))).f2)).bind fun t271 => (if t271 = true then (if 0 ≤ x7 then (if x7 < (x3.length : Int) then (spec_OpenFaults.l2 k x0 (x3.set (x7 : Int).toNat (⟨(⟨(rd_T36 x3 (wrap64 (x7 - 1))).f0.f0, (rd_T36 x3 (wrap64 (x7 - 1))).f0.f1⟩ : S31), (rd_T36 x3 (wrap64 (x7 - 1))).f1, (rd_T36 x3 (wrap64 (x7 - 1))).f2⟩ : S36)) x4 (wrap64 (x7 - 1))) else (none)) else (none)) else (if 0 ≤ x7 then (if x7 < (x3.length : Int) then (spec_OpenFaults.l0 k x0 (x3.set (x7 : Int).toNat (⟨(⟨(rd_T36 x0 x4).f0.f0, (rd_T36 x0 x4).f0.f1⟩ : S31), (rd_T36 x0 x4).f1, (rd_T36 x0 x4).f2⟩ : S36)) (wrap64 (x4 + 1))) else (none)) else (none)))) else (none)) else (none)) else (none)) else (none)) else (if 0 ≤ x4 then (if x4 < (x0.length : Int) then (if 0 ≤ x7 then (if x7 < (x3.length : Int) then (spec_OpenFaults.l0 k x0 (x3.set (x7 : Int).toNat (⟨(⟨(rd_T36 x0 x4).f0.f0, (rd_T36 x0 x4).f0.f1⟩ : S31), (rd_T36 x0 x4).f1, (rd_T36 x0 x4).f2⟩ : S36)) (wrap64 (x4 + 1))) else (none)) else (none)) else (none)) else (none))
end
def spec_OpenFaults.f (k : Nat) (l0 : List (S36)) : Option ((List (S36))) := spec_OpenFaults.l0 k l0 (([] : List (S36))) 0
def spec_OpenFaults.T9 : Bool × List (List Nat × List Nat) := (true, [([], []), ([0], [0]), ([1], [1]), ([1], [1]), ([2, 3, 1], [1, 2, 3]), ([4, 1], [1, 4]), ([5, 1], [1, 5]), ([1], [1]), ([1], [1]), ([7, 8, 1], [1, 7, 8]), ([9, 1], [1, 9]), ([10, 1], [1, 10]), ([6, 11, 1], [1, 6, 11]), ([1, 12], [1, 12]), ([13, 1, 0, 1, 2, 3, 4, 5, 6, 7, 8, 9, 10, 11, 12, 13], [0, 13])])
def spec_OpenFaults.B9 : List Nat := [0, 1, 3, 3, 15, 31, 63, 3, 3, 387, 899, 1923, 4095, 8191, 16383]
theorem spec_OpenFaults.tab9 : rtab .any (opsOf Try.f29 9) = spec_OpenFaults.T9 := by kernel_rfl
theorem spec_OpenFaults.bits9 : waitsOk spec_OpenFaults.T9.2 spec_OpenFaults.B9 = true := by kernel_rfl
def spec_OpenFaults.T13 : Bool × List (List Nat × List Nat) := (true, [([], []), ([0], [0]), ([1], [1]), ([2], [2]), ([2], [2]), ([3, 4, 2], [2, 3, 4]), ([5, 2], [2, 5]), ([2], [2]), ([2], [2]), ([8, 2], [2, 8]), ([7, 9, 2], [2, 7, 9]), ([10, 2], [2, 10]), ([6, 11, 2, 2], [2, 6, 11]), ([2, 12], [2, 12])])
def spec_OpenFaults.B13 : List Nat := [0, 1, 3, 7, 7, 31, 63, 7, 7, 263, 903, 1927, 4095, 8191]
theorem spec_OpenFaults.tab13 : rtab .any (opsOf Try.f29 13) = spec_OpenFaults.T13 := by kernel_rfl
theorem spec_OpenFaults.bits13 : waitsOk spec_OpenFaults.T13.2 spec_OpenFaults.B13 = true := by kernel_rfl
set_option maxHeartbeats 8000000 in
set_option maxRecDepth 100000 in
theorem spec_OpenFaults.calls (k : Nat) (A0 : Option Addr) (c0 : Nat) (l0 : List (S36)) (r : List (S36)) (w : World) (hr0 : Kd.C k36 w A0 l0.length l0) (hc0 : l0.length ≤ c0) (h : spec_OpenFaults.f k l0 = some r) :
    Calls Try.prog 29 #[.slice A0 l0.length c0] w fun e w' => ∃ v0_ : Value, e = .returned (v0_) ∧ Kd.R k36 36 w' w.heap.size (fun _ => True) v0_ r ∧ Below w.heap.size w w' := by
  have hu31 := Try.underlying31
  have hu36 := Try.underlying36
  have HR0 := Aside0.mk hr0
  have HC0 := Aside0.mk hc0
  clear hr0 hc0
  have HB := Aside0.mk (Below.refl w.heap.size w)
  have H : (spec_OpenFaults.l0 k l0 (([] : List (S36))) 0) = some r := h
  clear h
  obtain ⟨y258, hy258⟩ : ∃ y_ : List (S36), y_ = (([] : List (S36))) := ⟨_, rfl⟩
  replace H : (spec_OpenFaults.l0 k l0 y258 0) = some r := by first | (rw [hy258]; with_reducible exact H) | (have H2_ := (Option.bind_some _ _).symm.trans H; rw [hy258]; with_reducible exact H2_) | (have H2_ := (Option.bind_some _ _).symm.trans H; with_reducible exact H2_) | with_reducible exact H | (rw [hy258]; exact H) | exact H
  have Ny258 := Aside0.mk hy258
  clear hy258
  have H' := Aside0.mk H
  clear H
  go_enter Try.func29, Try.ntmps29
  go_wp2_with (first | ((with_reducible refine gate_dst (N := 8) rfl ?_); refine Kd.R_lit k36 _ 36 ?hg (N := 8) ?hd (xs := ([] : List (S36))) (inner := []) (ok := fun _ => True) (okp := fun _ => True) ?hr ?hp (fun _ hk => hk) trivial (Below.refl _ _) (Nat.le_refl _) (by simp) ?_; (case hd => rfl); (case hg => rfl); (case hr => first | (go_simp; done) | (go_simp; rfl)); (case hp => exact (Reps.none _ _)); intro v259 w2 ho3 hb hg_ hnew_; clear hg_ hnew_; (first | rw [← Ny258.out] at ho3 | (simp only [Int.reduceToNat] at ho3; rw [← Ny258.out] at ho3)); have n0_ := Aside0.mk (Kd.R_lower ho3 (below_size (oB HB))); have n1_ := Aside0.mk (below_step (oB HB) hb); clear HB; have HO260 := n0_; have HB := n1_; clear n0_ n1_; clear hb ho3))
  go_loopg [3, 4] k (fun kq v3 v4 w' => ∃ (x3_1 : List (S36)) (x4_1 : Int), v4 = .int .i64 x4_1 ∧ Aside0 (spec_OpenFaults.l0 kq l0 x3_1 x4_1 = some r) ∧ Aside0 (kq ≤ k) ∧ Aside0 (Kd.R k36 36 w' w.heap.size (fun _ => True) v3 x3_1) ∧ Aside0 (Below w.heap.size w w'))
  case atStart => exact ⟨(y258), (0), (by first | rfl | (simp; done) | (simp [*]; done)), H', ⟨Nat.le_refl _⟩, ⟨oR HO260⟩, ⟨oB HB⟩⟩
  case round =>
    clear H'
    try clear c2
    try clear p2
    obtain ⟨x3_1, x4_1, rfl, HA, HK1, HO_3, HB⟩ := hrel
    cases gk with
    | zero => exact absurd HA.out (by simp [spec_OpenFaults.l0])
    | succ k1 =>
      have H := HA.out
      clear HA
      simp only [spec_OpenFaults.l0] at H
      have HC4 := Aside0.mk H
      clear H
      go_upto_region 3 with (fail)
      go_cut [16] (fun v16 wc => ∃ (kq : Nat) (x16_3 : Bool), v16 = .bool x16_3 ∧ Aside0 (spec_OpenFaults.j1 kq l0 x3_1 x4_1 x16_3 = some r) ∧ Aside0 (kq ≤ k1) ∧ Aside0 (Kd.R k36 36 wc w.heap.size (fun _ => True) u3 x3_1) ∧ Aside0 (Below w.heap.size w wc))
      case first =>
        have H := HC4.out
        clear HC4
        by_cases c5 : x4_1 < (l0.length : Int)
        · rw [if_pos c5] at H
          have c5b0 : decide (x4_1 < (l0.length : Int)) = true := decide_eq_true c5
          clear c5
          (first | rw [c5b0] | (simp only [i64_w, i32_w]; rw [c5b0]) | skip)
          replace H := Option.bind_eq_some_iff.mp H
          obtain ⟨t261, A60, H⟩ := H
          (try dsimp only at H)
          have A6 := Aside0.mk A60
          clear A60
          have H' := Aside0.mk H
          clear H
          go_wp2_with (first | (go_at_call 51; (with_reducible refine (spec_LogOk.calls k1 _ _ l0 t261 _ ?side1 ?side2 A6.out).mono ?_); (case side1 => exact oc_ HR0.out); (case side2 => exact HC0.out); rintro e w7 ⟨rfl, hb⟩; have n0_ := Aside0.mk (Kd.R_below (oR HO_3) hb); have n1_ := Aside0.mk (below_step (oB HB) hb); clear HO_3; clear HB; have HO_3 := n0_; have HB := n1_; clear n0_ n1_; (try clear hb); (try clear hb2); (try clear hk); (try clear hi)))
          go_meet
          case rel => exact ⟨_, (t261), (by first | rfl | (simp; done) | (simp [*]; done)), H', ⟨by have := HK1.out; first | omega | exact Nat.le_refl _⟩, ⟨oR HO_3⟩, ⟨oB HB⟩⟩
        · rw [if_neg c5] at H
          have c5b0 : decide (x4_1 < (l0.length : Int)) = false := decide_eq_false c5
          clear c5
          (first | rw [c5b0] | (simp only [i64_w, i32_w]; rw [c5b0]) | skip)
          have H' := Aside0.mk H
          clear H
          go_wp2
          go_meet
          case rel => exact ⟨_, (false), (by first | rfl | (simp; done) | (simp [*]; done)), H', ⟨by have := HK1.out; first | omega | exact Nat.le_refl _⟩, ⟨oR HO_3⟩, ⟨oB HB⟩⟩
      case rest =>
        clear HC4
        try clear c2
        try clear p2
        try clear c5
        try clear c5b0
        try clear p2
        obtain ⟨kq, x16_3, rfl, HA, HJ3, HO_3, HB⟩ := hcut
        cases kq with
        | zero => exact absurd HA.out (by simp [spec_OpenFaults.j1])
        | succ kj3 =>
          have H := HA.out
          clear HA
          simp only [spec_OpenFaults.j1] at H
          by_cases c8 : x16_3 = true
          · subst c8
            rw [if_pos rfl] at H
            by_cases c9 : 0 ≤ x4_1
            · rw [if_pos c9] at H
              have c9b0 : decide (0 ≤ x4_1) = true := decide_eq_true c9
              clear c9
              by_cases c10 : x4_1 < (l0.length : Int)
              · rw [if_pos c10] at H
                have c10b0 : decide (x4_1 < (l0.length : Int)) = true := decide_eq_true c10
                clear c10
                have H' := Aside0.mk H
                clear H
                have p262 : 0 ≤ (x4_1 : Int) := of_decide_eq_true (by first | (with_reducible assumption) | assumption)
                have q262 : x4_1 < (l0.length : Int) := of_decide_eq_true (by first | (with_reducible assumption) | assumption)
                obtain ⟨ad262, e262, hx262_0, hx262_1, hx262_2, hx262_3⟩ := at_T36 HR0.out x4_1 p262 q262
                cases e262
                replace hx262_0 := (HB.out.cell (World.block_lt_of_cell? w _ hx262_0)).trans hx262_0
                replace hx262_1 := (HB.out.cell (World.block_lt_of_cell? w _ hx262_1)).trans hx262_1
                replace hx262_2 := (HB.out.cell (World.block_lt_of_cell? w _ hx262_2)).trans hx262_2
                replace hx262_3 := (HB.out.cell (World.block_lt_of_cell? w _ hx262_3)).trans hx262_3
                replace p262 := eq_true p262
                replace q262 := eq_true q262
                go_wp2
                go_loopg [5, 6] kj3 (fun kq v5 v6 w' => ∃ (x5_3 : Bool) (x6_3 : Int), v5 = .bool x5_3 ∧ v6 = .int .i64 x6_3 ∧ Aside0 (spec_OpenFaults.l1 kq l0 x3_1 x4_1 x5_3 x6_3 = some r) ∧ Aside0 (kq ≤ kj3) ∧ Aside0 (Kd.R k36 36 w' w.heap.size (fun _ => True) u3 x3_1) ∧ Aside0 (Below w.heap.size w w'))
                case atStart => exact ⟨((((rd_T36 l0 x4_1).f1) != 0)), (wrap64 (x4_1 + 1)), (by first | rfl | (simp; done) | (simp [*]; done)), (by first | rfl | (simp; done) | (simp [*]; done)), H', ⟨Nat.le_refl _⟩, ⟨oR HO_3⟩, ⟨oB HB⟩⟩
                case round =>
                  clear H'
                  try clear c1
                  try clear c2
                  try clear p2
                  try clear q2
                  try clear hx2
                  try clear c5
                  try clear c5b0
                  try clear p6
                  try clear c8
                  try clear c9
                  try clear c9b0
                  try clear c10
                  try clear c10b0
                  try clear hx262_0
                  try clear hx262_1
                  try clear hx262_2
                  try clear hx262_3
                  try clear p2
                  try clear p262
                  try clear q262
                  obtain ⟨x5_3, x6_3, rfl, rfl, HA, HK3, HO_3, HB⟩ := hrel
                  cases gk with
                  | zero => exact absurd HA.out (by simp [spec_OpenFaults.l1])
                  | succ k3 =>
                    have H := HA.out
                    clear HA
                    simp only [spec_OpenFaults.l1] at H
                    by_cases c11 : x6_3 < (l0.length : Int)
                    · rw [if_pos c11] at H
                      have c11b0 : decide (x6_3 < (l0.length : Int)) = true := decide_eq_true c11
                      clear c11
                      by_cases c12 : x5_3 = true
                      · subst c12
                        rw [if_pos rfl] at H
                        by_cases c13 : 0 ≤ x6_3
                        · rw [if_pos c13] at H
                          have c13b0 : decide (0 ≤ x6_3) = true := decide_eq_true c13
                          clear c13
                          by_cases c14 : 0 ≤ x4_1
                          · rw [if_pos c14] at H
                            have c14b0 : decide (0 ≤ x4_1) = true := decide_eq_true c14
                            clear c14
                            by_cases c15 : x4_1 < (l0.length : Int)
                            · rw [if_pos c15] at H
                              have c15b0 : decide (x4_1 < (l0.length : Int)) = true := decide_eq_true c15
                              clear c15
                              have H' := Aside0.mk H
                              clear H
                              try go_wp2
                              have n0_ := Aside0.mk (Kd.R_drew HO_3.out)
                              have n1_ := Aside0.mk (below_drew1 HB.out)
                              clear HO_3
                              clear HB
                              have HO_3 := n0_
                              have HB := n1_
                              clear n0_ n1_
                              have p263 : 0 ≤ (x6_3 : Int) := of_decide_eq_true (by first | (with_reducible assumption) | assumption)
                              have q263 : x6_3 < (l0.length : Int) := of_decide_eq_true (by first | (with_reducible assumption) | assumption)
                              obtain ⟨ad263, e263, hx263_0, hx263_1, hx263_2, hx263_3⟩ := at_T36 HR0.out x6_3 p263 q263
                              have hw263_3 := hx263_3
                              have hw263_2 := hx263_2
                              have hw263_1 := hx263_1
                              have hw263_0 := hx263_0
                              obtain rfl : ad262 = ad263 := (by injection e263)
                              replace hx263_0 := (HB.out.cell (World.block_lt_of_cell? w _ hx263_0)).trans hx263_0
                              replace hx263_1 := (HB.out.cell (World.block_lt_of_cell? w _ hx263_1)).trans hx263_1
                              replace hx263_2 := (HB.out.cell (World.block_lt_of_cell? w _ hx263_2)).trans hx263_2
                              replace hx263_3 := (HB.out.cell (World.block_lt_of_cell? w _ hx263_3)).trans hx263_3
                              replace p263 := eq_true p263
                              replace q263 := eq_true q263
                              have p264 : 0 ≤ (x4_1 : Int) := of_decide_eq_true (by first | (with_reducible assumption) | assumption)
                              have q264 : x4_1 < (l0.length : Int) := of_decide_eq_true (by first | (with_reducible assumption) | assumption)
                              obtain ⟨ad264, e264, hx264_0, hx264_1, hx264_2, hx264_3⟩ := at_T36 HR0.out x4_1 p264 q264
                              have hw264_3 := hx264_3
                              have hw264_2 := hx264_2
                              have hw264_1 := hx264_1
                              have hw264_0 := hx264_0
                              obtain rfl : ad262 = ad264 := (by injection e264)
                              replace hx264_0 := (HB.out.cell (World.block_lt_of_cell? w _ hx264_0)).trans hx264_0
                              replace hx264_1 := (HB.out.cell (World.block_lt_of_cell? w _ hx264_1)).trans hx264_1
                              replace hx264_2 := (HB.out.cell (World.block_lt_of_cell? w _ hx264_2)).trans hx264_2
                              replace hx264_3 := (HB.out.cell (World.block_lt_of_cell? w _ hx264_3)).trans hx264_3
                              replace p264 := eq_true p264
                              replace q264 := eq_true q264
                              refine start_ (n := 15) (S := fun w' => w'.cell? (ad262.add ((x6_3).toNat * 4)) = some (.int .i64 ((rd_T36 l0 x6_3).f0.f0)) ∧ w'.cell? ⟨(ad262.add ((x6_3).toNat * 4)).block, (ad262.add ((x6_3).toNat * 4)).off + 1, none⟩ = some (.int .i64 ((rd_T36 l0 x6_3).f0.f1)) ∧ w'.cell? ⟨(ad262.add ((x6_3).toNat * 4)).block, (ad262.add ((x6_3).toNat * 4)).off + 2, none⟩ = some (.int .i64 ((rd_T36 l0 x6_3).f1)) ∧ w'.cell? ⟨(ad262.add ((x6_3).toNat * 4)).block, (ad262.add ((x6_3).toNat * 4)).off + 3, none⟩ = some (.int .i64 ((rd_T36 l0 x6_3).f2)) ∧ w'.cell? (ad262.add ((x4_1).toNat * 4)) = some (.int .i64 ((rd_T36 l0 x4_1).f0.f0)) ∧ w'.cell? ⟨(ad262.add ((x4_1).toNat * 4)).block, (ad262.add ((x4_1).toNat * 4)).off + 1, none⟩ = some (.int .i64 ((rd_T36 l0 x4_1).f0.f1)) ∧ w'.cell? ⟨(ad262.add ((x4_1).toNat * 4)).block, (ad262.add ((x4_1).toNat * 4)).off + 2, none⟩ = some (.int .i64 ((rd_T36 l0 x4_1).f1)) ∧ w'.cell? ⟨(ad262.add ((x4_1).toNat * 4)).block, (ad262.add ((x4_1).toNat * 4)).off + 3, none⟩ = some (.int .i64 ((rd_T36 l0 x4_1).f2))) (ds := []) #[false, false, false, false, false, false, false, false, false, false, false, false, false, false, false] (by kernel_rfl) rfl rfl ⟨((HB.out.cell (World.block_lt_of_cell? w _ hw263_0)).trans hw263_0), ((HB.out.cell (World.block_lt_of_cell? w _ hw263_1)).trans hw263_1), ((HB.out.cell (World.block_lt_of_cell? w _ hw263_2)).trans hw263_2), ((HB.out.cell (World.block_lt_of_cell? w _ hw263_3)).trans hw263_3), ((HB.out.cell (World.block_lt_of_cell? w _ hw264_0)).trans hw264_0), ((HB.out.cell (World.block_lt_of_cell? w _ hw264_1)).trans hw264_1), ((HB.out.cell (World.block_lt_of_cell? w _ hw264_2)).trans hw264_2), ((HB.out.cell (World.block_lt_of_cell? w _ hw264_3)).trans hw264_3)⟩ (fun hHeld => ?_); refine with_tabW spec_OpenFaults.tab9 spec_OpenFaults.bits9 (fun HT_ HW_ => ?_)
                              generalize wr.drew = w16 at HO_3 HB hx263_0 hx263_1 hx263_2 hx263_3 hx264_0 hx264_1 hx264_2 hx264_3 hHeld ⊢
                              refine pure_ (i := 0) (N := some 33) (v := ?_) (a' := ?_) #[true, false, false, false, false, false, false, false, false, false, false, false, false, false, false] rfl rfl (any_of HT_.out (by kernel_rfl)) (fun _ _ _ h => h) (Or.inl ⟨by rfl, ?_⟩) ?_ ?_
                              rotate_left
                              · intro w'
                                go_simp
                                with_reducible rfl
                              rotate_left
                              · simp only [Act.put, List.setIfInBounds_toArray, List.set_cons_zero, List.set_cons_succ, i64_w, i32_w]
                                rfl
                              refine pure_ (i := 1) (N := some 34) (v := ?_) (a' := ?_) #[true, true, false, false, false, false, false, false, false, false, false, false, false, false, false] rfl rfl (any_of HT_.out (by kernel_rfl)) (fun _ _ _ h => h) (Or.inl ⟨by rfl, ?_⟩) ?_ ?_
                              rotate_left
                              · intro w'
                                go_simp
                                with_reducible rfl
                              rotate_left
                              · simp only [Act.put, List.setIfInBounds_toArray, List.set_cons_zero, List.set_cons_succ, i64_w, i32_w]
                                rfl
                              refine pure_ (i := 2) (N := some 35) (v := ?_) (a' := ?_) #[true, true, true, false, false, false, false, false, false, false, false, false, false, false, false] rfl rfl (any_of HT_.out (by kernel_rfl)) (fun _ _ _ h => h) (Or.inl ⟨by rfl, ?_⟩) ?_ ?_
                              rotate_left
                              · intro w'
                                go_simp
                                with_reducible rfl
                              rotate_left
                              · simp only [Act.put, List.setIfInBounds_toArray, List.set_cons_zero, List.set_cons_succ, i64_w, i32_w]
                                rfl
                              refine pure_ (i := 3) (N := some 36) (v := ?_) (a' := ?_) #[true, true, true, true, false, false, false, false, false, false, false, false, false, false, false] rfl rfl (any_of HT_.out (by kernel_rfl)) (fun _ _ _ h => h) (Or.inl ⟨by rfl, ?_⟩) ?_ ?_
                              rotate_left
                              · intro w'
                                go_simp
                                with_reducible rfl
                              rotate_left
                              · simp only [Act.put, List.setIfInBounds_toArray, List.set_cons_zero, List.set_cons_succ, i64_w, i32_w]
                                rfl
                              refine pure_ (i := 4) (N := some 37) (v := ?_) (a' := ?_) #[true, true, true, true, true, false, false, false, false, false, false, false, false, false, false] rfl rfl (any_of HT_.out (by kernel_rfl)) (fun _ _ _ h => h) (Or.inl ⟨by rfl, ?_⟩) ?_ ?_
                              rotate_left
                              · intro w'
                                go_simp
                                with_reducible rfl
                              rotate_left
                              · simp only [Act.put, List.setIfInBounds_toArray, List.set_cons_zero, List.set_cons_succ, i64_w, i32_w]
                                rfl
                              refine pure_ (i := 5) (N := some 38) (v := ?_) (a' := ?_) #[true, true, true, true, true, true, false, false, false, false, false, false, false, false, false] rfl rfl (any_of HT_.out (by kernel_rfl)) (fun _ _ _ h => h) (Or.inl ⟨by rfl, ?_⟩) ?_ ?_
                              rotate_left
                              · intro w'
                                go_simp
                                with_reducible rfl
                              rotate_left
                              · simp only [Act.put, List.setIfInBounds_toArray, List.set_cons_zero, List.set_cons_succ, i64_w, i32_w]
                                rfl
                              refine pure_ (i := 7) (N := some 40) (v := ?_) (a' := ?_) #[true, true, true, true, true, true, false, true, false, false, false, false, false, false, false] rfl rfl (any_of HT_.out (by kernel_rfl)) (fun _ _ _ h => h) (Or.inl ⟨by rfl, ?_⟩) ?_ ?_
                              rotate_left
                              · intro w'
                                go_simp
                                with_reducible rfl
                              rotate_left
                              · simp only [Act.put, List.setIfInBounds_toArray, List.set_cons_zero, List.set_cons_succ, i64_w, i32_w]
                                rfl
                              refine pure_ (i := 8) (N := some 41) (v := ?_) (a' := ?_) #[true, true, true, true, true, true, false, true, true, false, false, false, false, false, false] rfl rfl (any_of HT_.out (by kernel_rfl)) (fun _ _ _ h => h) (Or.inl ⟨by rfl, ?_⟩) ?_ ?_
                              rotate_left
                              · intro w'
                                go_simp
                                with_reducible rfl
                              rotate_left
                              · simp only [Act.put, List.setIfInBounds_toArray, List.set_cons_zero, List.set_cons_succ, i64_w, i32_w]
                                rfl
                              refine pure_ (i := 9) (N := some 42) (v := ?_) (a' := ?_) #[true, true, true, true, true, true, false, true, true, true, false, false, false, false, false] rfl rfl (any_of HT_.out (by kernel_rfl)) (fun _ _ _ h => h) (Or.inl ⟨by rfl, ?_⟩) ?_ ?_
                              rotate_left
                              · intro w'
                                go_simp
                                with_reducible rfl
                              rotate_left
                              · simp only [Act.put, List.setIfInBounds_toArray, List.set_cons_zero, List.set_cons_succ, i64_w, i32_w]
                                rfl
                              refine pure_ (i := 10) (N := some 43) (v := ?_) (a' := ?_) #[true, true, true, true, true, true, false, true, true, true, true, false, false, false, false] rfl rfl (any_of HT_.out (by kernel_rfl)) (fun _ _ _ h => h) (Or.inl ⟨by rfl, ?_⟩) ?_ ?_
                              rotate_left
                              · intro w'
                                go_simp
                                with_reducible rfl
                              rotate_left
                              · simp only [Act.put, List.setIfInBounds_toArray, List.set_cons_zero, List.set_cons_succ, i64_w, i32_w]
                                rfl
                              refine take_ (i := 6) (N := some 39) (v := ?_) (a' := ?_) #[true, true, true, true, true, true, true, true, true, true, true, false, false, false, false] rfl rfl (take_ofW HT_.out HW_.out (by kernel_rfl)) (fun _ _ _ h => h) (Or.inl ⟨by rfl, ?_⟩) hHeld ?_ ?_
                              rotate_left
                              · rintro w' ⟨s0, s1, s2, s3, s4, s5, s6, s7⟩
                                go_simp
                                with_reducible rfl
                              rotate_left
                              · simp only [Act.put, List.setIfInBounds_toArray, List.set_cons_zero, List.set_cons_succ, i64_w, i32_w]
                                rfl
                              refine take_ (i := 11) (N := some 44) (v := ?_) (a' := ?_) #[true, true, true, true, true, true, true, true, true, true, true, true, false, false, false] rfl rfl (take_ofW HT_.out HW_.out (by kernel_rfl)) (fun _ _ _ h => h) (Or.inl ⟨by rfl, ?_⟩) hHeld ?_ ?_
                              rotate_left
                              · rintro w' ⟨s0, s1, s2, s3, s4, s5, s6, s7⟩
                                go_simp
                                with_reducible rfl
                              rotate_left
                              · simp only [Act.put, List.setIfInBounds_toArray, List.set_cons_zero, List.set_cons_succ, i64_w, i32_w]
                                rfl
                              refine pure_ (i := 12) (N := some 45) (v := ?_) (a' := ?_) #[true, true, true, true, true, true, true, true, true, true, true, true, true, false, false] rfl rfl (any_of HT_.out (by kernel_rfl)) (fun _ _ _ h => h) (Or.inl ⟨by rfl, ?_⟩) ?_ ?_
                              rotate_left
                              · intro w'
                                go_simp
                                with_reducible rfl
                              rotate_left
                              · simp only [Act.put, List.setIfInBounds_toArray, List.set_cons_zero, List.set_cons_succ, i64_w, i32_w]
                                rfl
                              refine pure_ (i := 13) (N := some 46) (v := ?_) (a' := ?_) #[true, true, true, true, true, true, true, true, true, true, true, true, true, true, false] rfl rfl (any_of HT_.out (by kernel_rfl)) (fun _ _ _ h => h) (Or.inl ⟨by rfl, ?_⟩) ?_ ?_
                              rotate_left
                              · intro w'
                                go_simp
                                with_reducible rfl
                              rotate_left
                              · simp only [Act.put, List.setIfInBounds_toArray, List.set_cons_zero, List.set_cons_succ, i64_w, i32_w]
                                rfl
                              refine pure_ (i := 14) (N := some 5) (v := ?_) (a' := ?_) #[true, true, true, true, true, true, true, true, true, true, true, true, true, true, true] rfl rfl (any_of HT_.out (by kernel_rfl)) (fun _ _ _ h => h) (Or.inl ⟨by rfl, ?_⟩) ?_ ?_
                              rotate_left
                              · intro w'
                                go_simp
                                with_reducible rfl
                              rotate_left
                              · simp only [Act.put, List.setIfInBounds_toArray, List.set_cons_zero, List.set_cons_succ, i64_w, i32_w]
                                rfl
                              refine done_ (done_of HT_.out (by kernel_rfl)) ?_
                              try go_wp2
                              go_roundg k3
                              case measure => have := HK1.out; have := HJ3.out; have := HK3.out; omega
                              case rel => exact ⟨((!(((rd_T36 l0 x6_3).f0.f0) == ((rd_T36 l0 x4_1).f0.f0)) || (!(((rd_T36 l0 x6_3).f0.f1) == ((rd_T36 l0 x4_1).f0.f1))))), (wrap64 (x6_3 + 1)), (by first | rfl | (simp; done) | (simp [*]; done)), (by first | rfl | (simp; done) | (simp [*]; done)), H', ⟨by have := HK1.out; have := HJ3.out; have := HK3.out; omega⟩, ⟨oR HO_3⟩, ⟨oB HB⟩⟩
                            · rw [if_neg c15] at H
                              exact absurd H (by simp)
                          · rw [if_neg c14] at H
                            exact absurd H (by simp)
                        · rw [if_neg c13] at H
                          exact absurd H (by simp)
                      · replace c12 := Bool.eq_false_iff.mpr c12
                        subst c12
                        rw [if_neg (show ¬ (false = true) by decide)] at H
                        have H' := Aside0.mk H
                        clear H
                        try go_wp2
                        have n0_ := Aside0.mk (Kd.R_drew HO_3.out)
                        have n1_ := Aside0.mk (below_drew1 HB.out)
                        clear HO_3
                        clear HB
                        have HO_3 := n0_
                        have HB := n1_
                        clear n0_ n1_
                        refine start_ (n := 15) (S := fun w' => True) (ds := []) #[false, false, false, false, false, false, false, false, false, false, false, false, false, false, false] (by kernel_rfl) rfl rfl trivial (fun hHeld => ?_); refine with_tabW spec_OpenFaults.tab9 spec_OpenFaults.bits9 (fun HT_ HW_ => ?_)
                        generalize wr.drew = w17 at HO_3 HB hHeld ⊢
                        refine pure_ (i := 0) (N := some 33) (v := ?_) (a' := ?_) #[true, false, false, false, false, false, false, false, false, false, false, false, false, false, false] rfl rfl (any_of HT_.out (by kernel_rfl)) (fun _ _ _ h => h) (Or.inl ⟨by rfl, ?_⟩) ?_ ?_
                        rotate_left
                        · intro w'
                          go_simp
                          with_reducible rfl
                        rotate_left
                        · simp only [Act.put, List.setIfInBounds_toArray, List.set_cons_zero, List.set_cons_succ, i64_w, i32_w]
                          rfl
                        refine pure_ (i := 1) (N := some 34) (v := ?_) (a' := ?_) #[true, true, false, false, false, false, false, false, false, false, false, false, false, false, false] rfl rfl (any_of HT_.out (by kernel_rfl)) (fun _ _ _ h => h) (Or.inl ⟨by rfl, ?_⟩) ?_ ?_
                        rotate_left
                        · intro w'
                          go_simp
                          with_reducible rfl
                        rotate_left
                        · simp only [Act.put, List.setIfInBounds_toArray, List.set_cons_zero, List.set_cons_succ, i64_w, i32_w]
                          rfl
                        refine pure_ (i := 2) (N := some 35) (v := undef) (a' := ?_) #[true, true, true, false, false, false, false, false, false, false, false, false, false, false, false] rfl rfl (any_of HT_.out (by kernel_rfl)) (fun _ _ _ h => h) (Or.inr ⟨by rfl, rfl⟩) ?_ ?_
                        rotate_left
                        · simp only [Act.put, List.setIfInBounds_toArray, List.set_cons_zero, List.set_cons_succ, i64_w, i32_w]
                          rfl
                        refine pure_ (i := 3) (N := some 36) (v := undef) (a' := ?_) #[true, true, true, true, false, false, false, false, false, false, false, false, false, false, false] rfl rfl (any_of HT_.out (by kernel_rfl)) (fun _ _ _ h => h) (Or.inr ⟨by rfl, rfl⟩) ?_ ?_
                        rotate_left
                        · simp only [Act.put, List.setIfInBounds_toArray, List.set_cons_zero, List.set_cons_succ, i64_w, i32_w]
                          rfl
                        refine pure_ (i := 4) (N := some 37) (v := undef) (a' := ?_) #[true, true, true, true, true, false, false, false, false, false, false, false, false, false, false] rfl rfl (any_of HT_.out (by kernel_rfl)) (fun _ _ _ h => h) (Or.inr ⟨by rfl, rfl⟩) ?_ ?_
                        rotate_left
                        · simp only [Act.put, List.setIfInBounds_toArray, List.set_cons_zero, List.set_cons_succ, i64_w, i32_w]
                          rfl
                        refine pure_ (i := 5) (N := some 38) (v := undef) (a' := ?_) #[true, true, true, true, true, true, false, false, false, false, false, false, false, false, false] rfl rfl (any_of HT_.out (by kernel_rfl)) (fun _ _ _ h => h) (Or.inr ⟨by rfl, rfl⟩) ?_ ?_
                        rotate_left
                        · simp only [Act.put, List.setIfInBounds_toArray, List.set_cons_zero, List.set_cons_succ, i64_w, i32_w]
                          rfl
                        refine pure_ (i := 6) (N := some 39) (v := undef) (a' := ?_) #[true, true, true, true, true, true, true, false, false, false, false, false, false, false, false] rfl rfl (any_of HT_.out (by kernel_rfl)) (fun _ _ _ h => h) (Or.inr ⟨by rfl, rfl⟩) ?_ ?_
                        rotate_left
                        · simp only [Act.put, List.setIfInBounds_toArray, List.set_cons_zero, List.set_cons_succ, i64_w, i32_w]
                          rfl
                        refine pure_ (i := 7) (N := some 40) (v := undef) (a' := ?_) #[true, true, true, true, true, true, true, true, false, false, false, false, false, false, false] rfl rfl (any_of HT_.out (by kernel_rfl)) (fun _ _ _ h => h) (Or.inr ⟨by rfl, rfl⟩) ?_ ?_
                        rotate_left
                        · simp only [Act.put, List.setIfInBounds_toArray, List.set_cons_zero, List.set_cons_succ, i64_w, i32_w]
                          rfl
                        refine pure_ (i := 8) (N := some 41) (v := undef) (a' := ?_) #[true, true, true, true, true, true, true, true, true, false, false, false, false, false, false] rfl rfl (any_of HT_.out (by kernel_rfl)) (fun _ _ _ h => h) (Or.inr ⟨by rfl, rfl⟩) ?_ ?_
                        rotate_left
                        · simp only [Act.put, List.setIfInBounds_toArray, List.set_cons_zero, List.set_cons_succ, i64_w, i32_w]
                          rfl
                        refine pure_ (i := 9) (N := some 42) (v := undef) (a' := ?_) #[true, true, true, true, true, true, true, true, true, true, false, false, false, false, false] rfl rfl (any_of HT_.out (by kernel_rfl)) (fun _ _ _ h => h) (Or.inr ⟨by rfl, rfl⟩) ?_ ?_
                        rotate_left
                        · simp only [Act.put, List.setIfInBounds_toArray, List.set_cons_zero, List.set_cons_succ, i64_w, i32_w]
                          rfl
                        refine pure_ (i := 10) (N := some 43) (v := undef) (a' := ?_) #[true, true, true, true, true, true, true, true, true, true, true, false, false, false, false] rfl rfl (any_of HT_.out (by kernel_rfl)) (fun _ _ _ h => h) (Or.inr ⟨by rfl, rfl⟩) ?_ ?_
                        rotate_left
                        · simp only [Act.put, List.setIfInBounds_toArray, List.set_cons_zero, List.set_cons_succ, i64_w, i32_w]
                          rfl
                        refine pure_ (i := 11) (N := some 44) (v := undef) (a' := ?_) #[true, true, true, true, true, true, true, true, true, true, true, true, false, false, false] rfl rfl (any_of HT_.out (by kernel_rfl)) (fun _ _ _ h => h) (Or.inr ⟨by rfl, rfl⟩) ?_ ?_
                        rotate_left
                        · simp only [Act.put, List.setIfInBounds_toArray, List.set_cons_zero, List.set_cons_succ, i64_w, i32_w]
                          rfl
                        refine pure_ (i := 12) (N := some 45) (v := undef) (a' := ?_) #[true, true, true, true, true, true, true, true, true, true, true, true, true, false, false] rfl rfl (any_of HT_.out (by kernel_rfl)) (fun _ _ _ h => h) (Or.inr ⟨by rfl, rfl⟩) ?_ ?_
                        rotate_left
                        · simp only [Act.put, List.setIfInBounds_toArray, List.set_cons_zero, List.set_cons_succ, i64_w, i32_w]
                          rfl
                        refine pure_ (i := 13) (N := some 46) (v := ?_) (a' := ?_) #[true, true, true, true, true, true, true, true, true, true, true, true, true, true, false] rfl rfl (any_of HT_.out (by kernel_rfl)) (fun _ _ _ h => h) (Or.inl ⟨by rfl, ?_⟩) ?_ ?_
                        rotate_left
                        · intro w'
                          go_simp
                          with_reducible rfl
                        rotate_left
                        · simp only [Act.put, List.setIfInBounds_toArray, List.set_cons_zero, List.set_cons_succ, i64_w, i32_w]
                          rfl
                        refine pure_ (i := 14) (N := some 5) (v := ?_) (a' := ?_) #[true, true, true, true, true, true, true, true, true, true, true, true, true, true, true] rfl rfl (any_of HT_.out (by kernel_rfl)) (fun _ _ _ h => h) (Or.inl ⟨by rfl, ?_⟩) ?_ ?_
                        rotate_left
                        · intro w'
                          go_simp
                          with_reducible rfl
                        rotate_left
                        · simp only [Act.put, List.setIfInBounds_toArray, List.set_cons_zero, List.set_cons_succ, i64_w, i32_w]
                          rfl
                        refine done_ (done_of HT_.out (by kernel_rfl)) ?_
                        try go_wp2
                        go_roundg k3
                        case measure => have := HK1.out; have := HJ3.out; have := HK3.out; omega
                        case rel => exact ⟨(false), (wrap64 (x6_3 + 1)), (by first | rfl | (simp; done) | (simp [*]; done)), (by first | rfl | (simp; done) | (simp [*]; done)), H', ⟨by have := HK1.out; have := HJ3.out; have := HK3.out; omega⟩, ⟨oR HO_3⟩, ⟨oB HB⟩⟩
                    · rw [if_neg c11] at H
                      have c11b0 : decide (x6_3 < (l0.length : Int)) = false := decide_eq_false c11
                      clear c11
                      by_cases c18 : x5_3 = true
                      · subst c18
                        rw [if_pos rfl] at H
                        by_cases c19 : 0 ≤ x4_1
                        · rw [if_pos c19] at H
                          have c19b0 : decide (0 ≤ x4_1) = true := decide_eq_true c19
                          clear c19
                          by_cases c20 : x4_1 < (l0.length : Int)
                          · rw [if_pos c20] at H
                            have c20b0 : decide (x4_1 < (l0.length : Int)) = true := decide_eq_true c20
                            clear c20
                            by_cases c21 : x3_1.length < 4398046511104
                            · rw [if_pos c21] at H
                              have LMc21 := Aside0.mk c21
                              clear c21
                              obtain ⟨y266, hy266⟩ : ∃ y_ : List (S36), y_ = (x3_1 ++ [(⟨(⟨(rd_T36 l0 x4_1).f0.f0, (rd_T36 l0 x4_1).f0.f1⟩ : S31), (rd_T36 l0 x4_1).f1, (rd_T36 l0 x4_1).f2⟩ : S36)]) := ⟨_, rfl⟩
                              replace H : (spec_OpenFaults.l2 k3 l0 y266 x4_1 (x3_1.length : Int)) = some r := by first | (rw [hy266]; with_reducible exact H) | (have H2_ := (Option.bind_some _ _).symm.trans H; rw [hy266]; with_reducible exact H2_) | (have H2_ := (Option.bind_some _ _).symm.trans H; with_reducible exact H2_) | with_reducible exact H | (rw [hy266]; exact H) | exact H
                              have Ny266 := Aside0.mk hy266
                              clear hy266
                              have H' := Aside0.mk H
                              clear H
                              obtain ⟨Ao22, co22, eo22⟩ := Kd.R_slice HO_3.out
                              subst eo22
                              have p265 : 0 ≤ (x4_1 : Int) := of_decide_eq_true (by first | (with_reducible assumption) | assumption)
                              have q265 : x4_1 < (l0.length : Int) := of_decide_eq_true (by first | (with_reducible assumption) | assumption)
                              obtain ⟨ad265, e265, hx265_0, hx265_1, hx265_2, hx265_3⟩ := at_T36 HR0.out x4_1 p265 q265
                              obtain rfl : ad262 = ad265 := (by injection e265)
                              replace hx265_0 := (HB.out.cell (World.block_lt_of_cell? w _ hx265_0)).trans hx265_0
                              replace hx265_1 := (HB.out.cell (World.block_lt_of_cell? w _ hx265_1)).trans hx265_1
                              replace hx265_2 := (HB.out.cell (World.block_lt_of_cell? w _ hx265_2)).trans hx265_2
                              replace hx265_3 := (HB.out.cell (World.block_lt_of_cell? w _ hx265_3)).trans hx265_3
                              replace p265 := eq_true p265
                              replace q265 := eq_true q265
                              go_wp2_with (first | ((with_reducible refine gate_builtin (b := .append) (xs := #[.tmp 51, .tmp 56]) rfl ?_); at_builtin; refine Kd.R_append k36 (w0 := w) w.heap.size rfl (.tmp 51) (.tmp 56) 24 36 (.agg #[(.int .i64 0), (.int .i64 0), (.int .i64 0), (.int .i64 0)]) 32 rfl Try.underlying24 info36 rfl (by decide) (by omega) (.slice Ao22 x3_1.length co22) x3_1 (⟨(⟨(rd_T36 l0 x4_1).f0.f0, (rd_T36 l0 x4_1).f0.f1⟩ : S31), (rd_T36 l0 x4_1).f1, (rd_T36 l0 x4_1).f2⟩ : S36) [.int .i64 ((rd_T36 l0 x4_1).f0.f0), .int .i64 ((rd_T36 l0 x4_1).f0.f1), .int .i64 ((rd_T36 l0 x4_1).f1), .int .i64 ((rd_T36 l0 x4_1).f2)] (fun _ => True) (fun _ => False) rfl rfl ?aP (fun _ hk => hk.elim) ?aF ?aO ?aB ?aS ?aL ?_; (case aP => exact k36_mkM _ _ _ (⟨(⟨(rd_T36 l0 x4_1).f0.f0, (rd_T36 l0 x4_1).f0.f1⟩ : S31), (rd_T36 l0 x4_1).f1, (rd_T36 l0 x4_1).f2⟩ : S36)); (case aB => exact (oB HB)); (case aF => exact (fun _ _ => trivial)); (case aO => exact (oR HO_3)); (case aS => exact (below_size (oB HB))); (case aL => have := LMc21.out; omega); intro v267 w23 ho hb hg hat; rw [← Ny266.out] at ho; have n0_ := Aside0.mk (hb); have n1_ := Aside0.mk (ho); clear HB; clear HO_3; have HB := n0_; have HO268 := n1_; clear n0_ n1_; clear ho hb hg hat))
                              go_loopg [7] k3 (fun kq v7 w' => ∃ (x3_4 : List (S36)) (x7_4 : Int), v7 = .int .i64 x7_4 ∧ Aside0 (spec_OpenFaults.l2 kq l0 x3_4 x4_1 x7_4 = some r) ∧ Aside0 (kq ≤ k3) ∧ Aside0 (Kd.R k36 36 w' w.heap.size (fun _ => True) v267 x3_4) ∧ Aside0 (Below w.heap.size w w'))
                              case atStart => exact ⟨(y266), ((x3_1.length : Int)), (by first | rfl | (simp; done) | (simp [*]; done)), H', ⟨Nat.le_refl _⟩, ⟨oR HO268⟩, ⟨oB HB⟩⟩
                              case round =>
                                clear H'
                                try clear c1
                                try clear c2
                                try clear p2
                                try clear q2
                                try clear hx2
                                try clear c5
                                try clear c5b0
                                try clear p6
                                try clear c8
                                try clear c9
                                try clear c9b0
                                try clear c10
                                try clear c10b0
                                try clear c11
                                try clear c11b0
                                try clear c12
                                try clear c13
                                try clear c13b0
                                try clear c14
                                try clear c14b0
                                try clear c15
                                try clear c15b0
                                try clear c18
                                try clear c19
                                try clear c19b0
                                try clear c20
                                try clear c20b0
                                try clear c21
                                try clear hx262_0
                                try clear hx262_1
                                try clear hx262_2
                                try clear hx262_3
                                try clear hx263_0
                                try clear hx263_1
                                try clear hx263_2
                                try clear hx263_3
                                try clear hx264_0
                                try clear hx264_1
                                try clear hx264_2
                                try clear hx264_3
                                try clear hx265_0
                                try clear hx265_1
                                try clear hx265_2
                                try clear hx265_3
                                try clear p2
                                try clear p262
                                try clear p263
                                try clear p264
                                try clear p265
                                try clear p6
                                try clear q2
                                try clear q262
                                try clear q263
                                try clear q264
                                try clear q265
                                obtain ⟨x3_4, x7_4, rfl, HA, HK4, HO_3, HB⟩ := hrel
                                cases gk with
                                | zero => exact absurd HA.out (by simp [spec_OpenFaults.l2])
                                | succ k4 =>
                                  have H := HA.out
                                  clear HA
                                  simp only [spec_OpenFaults.l2] at H
                                  by_cases c24 : x7_4 > 0
                                  · rw [if_pos c24] at H
                                    have c24b0 : decide (0 < x7_4) = true := decide_eq_true c24
                                    clear c24
                                    by_cases c25 : 0 ≤ x4_1
                                    · rw [if_pos c25] at H
                                      have c25b0 : decide (0 ≤ x4_1) = true := decide_eq_true c25
                                      clear c25
                                      by_cases c26 : x4_1 < (l0.length : Int)
                                      · rw [if_pos c26] at H
                                        have c26b0 : decide (x4_1 < (l0.length : Int)) = true := decide_eq_true c26
                                        clear c26
                                        obtain ⟨ji27, hji27⟩ : ∃ j_ : Int, (wrap64 (x7_4 - 1)) = j_ := ⟨_, rfl⟩
                                        replace H : (if 0 ≤ (ji27) then (if (ji27) < (x3_4.length : Int) then ((spec_l35Before.f ((rd_T36 l0 x4_1).f0.f0) ((rd_T36 l0 x4_1).f0.f1) ((rd_T36 l0 x4_1).f1) ((rd_T36 l0 x4_1).f2) ((rd_T36 x3_4 (ji27)).f0.f0) ((rd_T36 x3_4 (ji27)).f0.f1) ((rd_T36 x3_4 (ji27)).f1) ((rd_T36 x3_4 (ji27)).f2)).bind fun t271 => (if t271 = true then (if 0 ≤ x7_4 then (if x7_4 < (x3_4.length : Int) then (spec_OpenFaults.l2 k4 l0 (x3_4.set (x7_4 : Int).toNat (⟨(⟨(rd_T36 x3_4 (ji27)).f0.f0, (rd_T36 x3_4 (ji27)).f0.f1⟩ : S31), (rd_T36 x3_4 (ji27)).f1, (rd_T36 x3_4 (ji27)).f2⟩ : S36)) x4_1 ji27) else (none)) else (none)) else (if 0 ≤ x7_4 then (if x7_4 < (x3_4.length : Int) then (spec_OpenFaults.l0 k4 l0 (x3_4.set (x7_4 : Int).toNat (⟨(⟨(rd_T36 l0 x4_1).f0.f0, (rd_T36 l0 x4_1).f0.f1⟩ : S31), (rd_T36 l0 x4_1).f1, (rd_T36 l0 x4_1).f2⟩ : S36)) (wrap64 (x4_1 + 1))) else (none)) else (none)))) else (none)) else (none)) = some r := by first | (rw [hji27] at H; exact H) | (simp only [hji27] at H ⊢; exact H)
                                        have hji27w : (IntKind.i64.wrap (x7_4 - 1)) = ji27 := (i64_w _).trans hji27
                                        by_cases c28 : 0 ≤ (ji27)
                                        · rw [if_pos c28] at H
                                          have c28b0 : decide (0 ≤ (ji27)) = true := decide_eq_true c28
                                          clear c28
                                          by_cases c29 : (ji27) < (x3_4.length : Int)
                                          · rw [if_pos c29] at H
                                            have c29b0 : decide ((ji27) < (x3_4.length : Int)) = true := decide_eq_true c29
                                            clear c29
                                            replace H := Option.bind_eq_some_iff.mp H
                                            obtain ⟨t271, A300, H⟩ := H
                                            (try dsimp only at H)
                                            have A30 := Aside0.mk A300
                                            clear A300
                                            by_cases c31 : t271 = true
                                            · subst c31
                                              rw [if_pos rfl] at H
                                              by_cases c32 : 0 ≤ x7_4
                                              · rw [if_pos c32] at H
                                                have c32b0 : decide (0 ≤ x7_4) = true := decide_eq_true c32
                                                clear c32
                                                by_cases c33 : x7_4 < (x3_4.length : Int)
                                                · rw [if_pos c33] at H
                                                  have c33b0 : decide (x7_4 < (x3_4.length : Int)) = true := decide_eq_true c33
                                                  clear c33
                                                  obtain ⟨y273, hy273⟩ : ∃ y_ : List (S36), y_ = (x3_4.set (x7_4 : Int).toNat (⟨(⟨(rd_T36 x3_4 (ji27)).f0.f0, (rd_T36 x3_4 (ji27)).f0.f1⟩ : S31), (rd_T36 x3_4 (ji27)).f1, (rd_T36 x3_4 (ji27)).f2⟩ : S36)) := ⟨_, rfl⟩
                                                  replace H : (spec_OpenFaults.l2 k4 l0 y273 x4_1 ji27) = some r := by first | (rw [hy273]; with_reducible exact H) | (have H2_ := (Option.bind_some _ _).symm.trans H; rw [hy273]; with_reducible exact H2_) | (have H2_ := (Option.bind_some _ _).symm.trans H; with_reducible exact H2_) | with_reducible exact H | (rw [hy273]; exact H) | exact H
                                                  have Ny273 := Aside0.mk hy273
                                                  clear hy273
                                                  have H' := Aside0.mk H
                                                  clear H
                                                  try go_wp2
                                                  have n0_ := Aside0.mk (Kd.R_drew HO_3.out)
                                                  have n1_ := Aside0.mk (below_drew1 HB.out)
                                                  clear HO_3
                                                  clear HB
                                                  have HO_3 := n0_
                                                  have HB := n1_
                                                  clear n0_ n1_
                                                  have p269 : 0 ≤ (x4_1 : Int) := of_decide_eq_true (by first | (with_reducible assumption) | assumption)
                                                  have q269 : x4_1 < (l0.length : Int) := of_decide_eq_true (by first | (with_reducible assumption) | assumption)
                                                  obtain ⟨ad269, e269, hx269_0, hx269_1, hx269_2, hx269_3⟩ := at_T36 HR0.out x4_1 p269 q269
                                                  have hw269_3 := hx269_3
                                                  have hw269_2 := hx269_2
                                                  have hw269_1 := hx269_1
                                                  have hw269_0 := hx269_0
                                                  obtain rfl : ad262 = ad269 := (by injection e269)
                                                  replace hx269_0 := (HB.out.cell (World.block_lt_of_cell? w _ hx269_0)).trans hx269_0
                                                  replace hx269_1 := (HB.out.cell (World.block_lt_of_cell? w _ hx269_1)).trans hx269_1
                                                  replace hx269_2 := (HB.out.cell (World.block_lt_of_cell? w _ hx269_2)).trans hx269_2
                                                  replace hx269_3 := (HB.out.cell (World.block_lt_of_cell? w _ hx269_3)).trans hx269_3
                                                  replace p269 := eq_true p269
                                                  replace q269 := eq_true q269
                                                  obtain ⟨Ao36, co36, eo36⟩ := Kd.R_slice HO_3.out
                                                  (first | subst eo36 | (injection eo36 with f1_ f2_ f3_; have f4_ := f1_.symm; have f5_ := f3_.symm; clear f1_ f2_ f3_; subst f4_; subst f5_))
                                                  have p270 : 0 ≤ ((ji27) : Int) := of_decide_eq_true (by first | (with_reducible assumption) | assumption)
                                                  have q270 : (ji27) < (x3_4.length : Int) := of_decide_eq_true (by first | (with_reducible assumption) | assumption)
                                                  obtain ⟨ad270, e270, hx270_0, hx270_1, hx270_2, hx270_3⟩ := at_T36 (Kd.R_reads' HO_3.out).2.2 (ji27) p270 q270
                                                  cases e270
                                                  replace p270 := eq_true p270
                                                  replace q270 := eq_true q270
                                                  refine start_ (n := 14) (S := fun w' => w'.cell? (ad262.add ((x4_1).toNat * 4)) = some (.int .i64 ((rd_T36 l0 x4_1).f0.f0)) ∧ w'.cell? ⟨(ad262.add ((x4_1).toNat * 4)).block, (ad262.add ((x4_1).toNat * 4)).off + 1, none⟩ = some (.int .i64 ((rd_T36 l0 x4_1).f0.f1)) ∧ w'.cell? ⟨(ad262.add ((x4_1).toNat * 4)).block, (ad262.add ((x4_1).toNat * 4)).off + 2, none⟩ = some (.int .i64 ((rd_T36 l0 x4_1).f1)) ∧ w'.cell? ⟨(ad262.add ((x4_1).toNat * 4)).block, (ad262.add ((x4_1).toNat * 4)).off + 3, none⟩ = some (.int .i64 ((rd_T36 l0 x4_1).f2)) ∧ w'.cell? (ad270.add (((ji27)).toNat * 4)) = some (.int .i64 ((rd_T36 x3_4 (ji27)).f0.f0)) ∧ w'.cell? ⟨(ad270.add (((ji27)).toNat * 4)).block, (ad270.add (((ji27)).toNat * 4)).off + 1, none⟩ = some (.int .i64 ((rd_T36 x3_4 (ji27)).f0.f1)) ∧ w'.cell? ⟨(ad270.add (((ji27)).toNat * 4)).block, (ad270.add (((ji27)).toNat * 4)).off + 2, none⟩ = some (.int .i64 ((rd_T36 x3_4 (ji27)).f1)) ∧ w'.cell? ⟨(ad270.add (((ji27)).toNat * 4)).block, (ad270.add (((ji27)).toNat * 4)).off + 3, none⟩ = some (.int .i64 ((rd_T36 x3_4 (ji27)).f2))) (ds := []) #[false, false, false, false, false, false, false, false, false, false, false, false, false, false] (by kernel_rfl) rfl rfl ⟨((HB.out.cell (World.block_lt_of_cell? w _ hw269_0)).trans hw269_0), ((HB.out.cell (World.block_lt_of_cell? w _ hw269_1)).trans hw269_1), ((HB.out.cell (World.block_lt_of_cell? w _ hw269_2)).trans hw269_2), ((HB.out.cell (World.block_lt_of_cell? w _ hw269_3)).trans hw269_3), hx270_0, hx270_1, hx270_2, hx270_3⟩ (fun hHeld => ?_); refine with_tabW spec_OpenFaults.tab13 spec_OpenFaults.bits13 (fun HT_ HW_ => ?_)
                                                  generalize wr.drew = w35 at HO_3 HB hx269_0 hx269_1 hx269_2 hx269_3 hx270_0 hx270_1 hx270_2 hx270_3 hHeld ⊢
                                                  refine pure_ (i := 0) (N := some 58) (v := ?_) (a' := ?_) #[true, false, false, false, false, false, false, false, false, false, false, false, false, false] rfl rfl (any_of HT_.out (by kernel_rfl)) (fun _ _ _ h => h) (Or.inl ⟨by rfl, ?_⟩) ?_ ?_
                                                  rotate_left
                                                  · intro w'
                                                    go_simp
                                                    with_reducible rfl
                                                  rotate_left
                                                  · simp only [Act.put, List.setIfInBounds_toArray, List.set_cons_zero, List.set_cons_succ, i64_w, i32_w]
                                                    rfl
                                                  refine pure_ (i := 1) (N := some 59) (v := ?_) (a' := ?_) #[true, true, false, false, false, false, false, false, false, false, false, false, false, false] rfl rfl (any_of HT_.out (by kernel_rfl)) (fun _ _ _ h => h) (Or.inl ⟨by rfl, ?_⟩) ?_ ?_
                                                  rotate_left
                                                  · intro w'
                                                    go_simp
                                                    with_reducible rfl
                                                  rotate_left
                                                  · simp only [Act.put, List.setIfInBounds_toArray, List.set_cons_zero, List.set_cons_succ, i64_w, i32_w]
                                                    rfl
                                                  refine pure_ (i := 2) (N := some 60) (v := ?_) (a' := ?_) #[true, true, true, false, false, false, false, false, false, false, false, false, false, false] rfl rfl (any_of HT_.out (by kernel_rfl)) (fun _ _ _ h => h) (Or.inl ⟨by rfl, ?_⟩) ?_ ?_
                                                  rotate_left
                                                  · intro w'
                                                    go_simp
                                                    with_reducible rfl
                                                  rotate_left
                                                  · simp only [Act.put, List.setIfInBounds_toArray, List.set_cons_zero, List.set_cons_succ, i64_w, i32_w]
                                                    rfl
                                                  refine pure_ (i := 3) (N := some 61) (v := ?_) (a' := ?_) #[true, true, true, true, false, false, false, false, false, false, false, false, false, false] rfl rfl (any_of HT_.out (by kernel_rfl)) (fun _ _ _ h => h) (Or.inl ⟨by rfl, ?_⟩) ?_ ?_
                                                  rotate_left
                                                  · intro w'
                                                    go_simp
                                                    with_reducible rfl
                                                  rotate_left
                                                  · simp only [Act.put, List.setIfInBounds_toArray, List.set_cons_zero, List.set_cons_succ, i64_w, i32_w]
                                                    rfl
                                                  refine pure_ (i := 4) (N := some 62) (v := ?_) (a' := ?_) #[true, true, true, true, true, false, false, false, false, false, false, false, false, false] rfl rfl (any_of HT_.out (by kernel_rfl)) (fun _ _ _ h => h) (Or.inl ⟨by rfl, ?_⟩) ?_ ?_
                                                  rotate_left
                                                  · intro w'
                                                    go_simp
                                                    with_reducible rfl
                                                  rotate_left
                                                  · simp only [Act.put, List.setIfInBounds_toArray, List.set_cons_zero, List.set_cons_succ, i64_w, i32_w]
                                                    rfl
                                                  refine pure_ (i := 5) (N := some 63) (v := ?_) (a' := ?_) #[true, true, true, true, true, true, false, false, false, false, false, false, false, false] rfl rfl (any_of HT_.out (by kernel_rfl)) (fun _ _ _ h => h) (Or.inl ⟨by rfl, ?_⟩) ?_ ?_
                                                  rotate_left
                                                  · intro w'
                                                    go_simp
                                                    with_reducible rfl
                                                  rotate_left
                                                  · simp only [Act.put, List.setIfInBounds_toArray, List.set_cons_zero, List.set_cons_succ, i64_w, i32_w]
                                                    rfl
                                                  refine pure_ (i := 7) (N := some 65) (v := ?_) (a' := ?_) #[true, true, true, true, true, true, false, true, false, false, false, false, false, false] rfl rfl (any_of HT_.out (by kernel_rfl)) (fun _ _ _ h => h) (Or.inl ⟨by rfl, ?_⟩) ?_ ?_
                                                  rotate_left
                                                  · intro w'
                                                    go_simp
                                                    with_reducible rfl
                                                  rotate_left
                                                  · simp only [Act.put, List.setIfInBounds_toArray, List.set_cons_zero, List.set_cons_succ, i64_w, i32_w]
                                                    rfl
                                                  refine pure_ (i := 8) (N := some 66) (v := ?_) (a' := ?_) #[true, true, true, true, true, true, false, true, true, false, false, false, false, false] rfl rfl (any_of HT_.out (by kernel_rfl)) (fun _ _ _ h => h) (Or.inl ⟨by rfl, ?_⟩) ?_ ?_
                                                  rotate_left
                                                  · intro w'
                                                    go_simp
                                                    with_reducible rfl
                                                  rotate_left
                                                  · simp only [Act.put, List.setIfInBounds_toArray, List.set_cons_zero, List.set_cons_succ, i64_w, i32_w]
                                                    rfl
                                                  refine pure_ (i := 9) (N := some 67) (v := ?_) (a' := ?_) #[true, true, true, true, true, true, false, true, true, true, false, false, false, false] rfl rfl (any_of HT_.out (by kernel_rfl)) (fun _ _ _ h => h) (Or.inl ⟨by rfl, ?_⟩) ?_ ?_
                                                  rotate_left
                                                  · intro w'
                                                    go_simp
                                                    with_reducible rfl
                                                  rotate_left
                                                  · simp only [Act.put, List.setIfInBounds_toArray, List.set_cons_zero, List.set_cons_succ, i64_w, i32_w]
                                                    rfl
                                                  refine pure_ (i := 10) (N := some 68) (v := ?_) (a' := ?_) #[true, true, true, true, true, true, false, true, true, true, true, false, false, false] rfl rfl (any_of HT_.out (by kernel_rfl)) (fun _ _ _ h => h) (Or.inl ⟨by rfl, ?_⟩) ?_ ?_
                                                  rotate_left
                                                  · intro w'
                                                    go_simp
                                                    with_reducible rfl
                                                  rotate_left
                                                  · simp only [Act.put, List.setIfInBounds_toArray, List.set_cons_zero, List.set_cons_succ, i64_w, i32_w]
                                                    rfl
                                                  refine take_ (i := 6) (N := some 64) (v := ?_) (a' := ?_) #[true, true, true, true, true, true, true, true, true, true, true, false, false, false] rfl rfl (take_ofW HT_.out HW_.out (by kernel_rfl)) (fun _ _ _ h => h) (Or.inl ⟨by rfl, ?_⟩) hHeld ?_ ?_
                                                  rotate_left
                                                  · rintro w' ⟨s0, s1, s2, s3, s4, s5, s6, s7⟩
                                                    go_simp
                                                    with_reducible rfl
                                                  rotate_left
                                                  · simp only [Act.put, List.setIfInBounds_toArray, List.set_cons_zero, List.set_cons_succ, i64_w, i32_w]
                                                    rfl
                                                  refine take_ (i := 11) (N := some 69) (v := ?_) (a' := ?_) #[true, true, true, true, true, true, true, true, true, true, true, true, false, false] rfl rfl (take_ofW HT_.out HW_.out (by kernel_rfl)) (fun _ _ _ h => h) (Or.inl ⟨by rfl, ?_⟩) hHeld ?_ ?_
                                                  rotate_left
                                                  · rintro w' ⟨s0, s1, s2, s3, s4, s5, s6, s7⟩
                                                    go_simp
                                                    with_reducible rfl
                                                  rotate_left
                                                  · simp only [Act.put, List.setIfInBounds_toArray, List.set_cons_zero, List.set_cons_succ, i64_w, i32_w]
                                                    rfl
                                                  refine one_ (i := 12) (N := some 70) #[true, true, true, true, true, true, true, true, true, true, true, true, true, false] rfl rfl (one_of HT_.out (by kernel_rfl)) (by decide) (fun K hK => ?_)
                                                  refine goes_ Try.func52 (by kernel_rfl) rfl #[.agg #[.int .i64 ((rd_T36 l0 x4_1).f0.f0), .int .i64 ((rd_T36 l0 x4_1).f0.f1), .int .i64 ((rd_T36 l0 x4_1).f1), .int .i64 ((rd_T36 l0 x4_1).f2)], .agg #[.int .i64 ((rd_T36 x3_4 (ji27)).f0.f0), .int .i64 ((rd_T36 x3_4 (ji27)).f0.f1), .int .i64 ((rd_T36 x3_4 (ji27)).f1), .int .i64 ((rd_T36 x3_4 (ji27)).f2)]] (by rfl) rfl rfl (by (try simp only [List.map_toArray, List.map_cons, List.map_nil]); first | done | (simp only [hji27]; rfl) | rfl | (simp only [List.length_drop, List.length_take]; rfl)) ?_
                                                  with_reducible refine (spec_l35Before.calls ((rd_T36 l0 x4_1).f0.f0) ((rd_T36 l0 x4_1).f0.f1) ((rd_T36 l0 x4_1).f1) ((rd_T36 l0 x4_1).f2) ((rd_T36 x3_4 (ji27)).f0.f0) ((rd_T36 x3_4 (ji27)).f0.f1) ((rd_T36 x3_4 (ji27)).f1) ((rd_T36 x3_4 (ji27)).f2) true _ A30.out).mono ?_
                                                  rintro e w37 ⟨rfl, hb⟩
                                                  have HS4_ := (hb.cell (World.block_lt_of_cell? _ _ (hHeld.2.2.2.2.1))).trans (hHeld.2.2.2.2.1)
                                                  have HS5_ := (hb.cell (World.block_lt_of_cell? _ _ (hHeld.2.2.2.2.2.1))).trans (hHeld.2.2.2.2.2.1)
                                                  have HS6_ := (hb.cell (World.block_lt_of_cell? _ _ (hHeld.2.2.2.2.2.2.1))).trans (hHeld.2.2.2.2.2.2.1)
                                                  have HS7_ := (hb.cell (World.block_lt_of_cell? _ _ (hHeld.2.2.2.2.2.2.2))).trans (hHeld.2.2.2.2.2.2.2)
                                                  refine ⟨_, rfl, ?_⟩
                                                  have n0_ := Aside0.mk (Kd.R_below (oR HO_3) hb)
                                                  have n1_ := Aside0.mk (below_step (oB HB) hb)
                                                  clear HO_3
                                                  clear HB
                                                  have HO_3 := n0_
                                                  have HB := n1_
                                                  clear n0_ n1_
                                                  (try clear hb)
                                                  (try clear hb2)
                                                  (try clear hk)
                                                  (try clear hi)
                                                  refine hK.out _ _ ⟨((HB.out.cell (World.block_lt_of_cell? w _ hw269_0)).trans hw269_0), ((HB.out.cell (World.block_lt_of_cell? w _ hw269_1)).trans hw269_1), ((HB.out.cell (World.block_lt_of_cell? w _ hw269_2)).trans hw269_2), ((HB.out.cell (World.block_lt_of_cell? w _ hw269_3)).trans hw269_3), HS4_, HS5_, HS6_, HS7_⟩ (fun hHeld => ?_)
                                                  clear hK K
                                                  refine norm_ (a' := ?_) ?_ ?_
                                                  rotate_left
                                                  · show Act.put _ (some 70) _ = _
                                                    simp only [Act.put, List.setIfInBounds_toArray, List.set_cons_zero, List.set_cons_succ, i64_w, i32_w]
                                                    rfl
                                                  refine pure_ (i := 13) (N := some 71) (v := ?_) (a' := ?_) #[true, true, true, true, true, true, true, true, true, true, true, true, true, true] rfl rfl (any_of HT_.out (by kernel_rfl)) (fun _ _ _ h => h) (Or.inl ⟨by rfl, ?_⟩) ?_ ?_
                                                  rotate_left
                                                  · intro w'
                                                    go_simp
                                                    with_reducible rfl
                                                  rotate_left
                                                  · simp only [Act.put, List.setIfInBounds_toArray, List.set_cons_zero, List.set_cons_succ, i64_w, i32_w]
                                                    rfl
                                                  refine done_ (done_of HT_.out (by kernel_rfl)) ?_
                                                  have p272 : 0 ≤ ((ji27) : Int) := of_decide_eq_true (by first | (with_reducible assumption) | assumption)
                                                  have q272 : (ji27) < (x3_4.length : Int) := of_decide_eq_true (by first | (with_reducible assumption) | assumption)
                                                  obtain ⟨ad272, e272, hx272_0, hx272_1, hx272_2, hx272_3⟩ := at_T36 (Kd.R_reads' HO_3.out).2.2 (ji27) p272 q272
                                                  obtain rfl : ad270 = ad272 := (by injection e272)
                                                  replace p272 := eq_true p272
                                                  replace q272 := eq_true q272
                                                  have p34 : 0 ≤ (x7_4 : Int) := of_decide_eq_true (by first | (with_reducible assumption) | assumption)
                                                  have q34 : (x7_4 : Int) < ((x3_4.length : Int) : Int) := of_decide_eq_true (by first | (with_reducible assumption) | assumption)
                                                  obtain ⟨go34, co34, eo34, gb34, gl34, cl34, HG34⟩ := Kd.R_form HO_3.out (by omega)
                                                  (first | cases eo34 | (injection eo34 with ea_ en_ ec_; (first | subst ea_ | (injection ea_ with ea_; subst ea_)); subst ec_; clear en_))
                                                  have GB34 := Aside0.mk gb34
                                                  have GG34 := Aside0.mk HG34
                                                  clear gb34 gl34 HG34
                                                  (first | simp only [add_plain] at hx270_0 | skip)
                                                  (first | simp only [add_plain] at hx270_1 | skip)
                                                  (first | simp only [add_plain] at hx270_2 | skip)
                                                  (first | simp only [add_plain] at hx270_3 | skip)
                                                  (first | simp only [add_plain] at hx272_0 | skip)
                                                  (first | simp only [add_plain] at hx272_1 | skip)
                                                  (first | simp only [add_plain] at hx272_2 | skip)
                                                  (first | simp only [add_plain] at hx272_3 | skip)
                                                  obtain ⟨ce34, hcl34, hM34, hcc34, hfr34⟩ := Kd.R_elem HO_3.out z36 (x7_4 : Int) p34 q34
                                                  obtain rfl := k36_openM hM34
                                                  have hx34_0 : w37.cell? ⟨go34, (x7_4 : Int).toNat * 4, none⟩ = some (.int .i64 ((rd_T36 x3_4 x7_4).f0.f0)) := hcc34 0 _ rfl
                                                  have hx34_1 : w37.cell? ⟨go34, (x7_4 : Int).toNat * 4 + 1, none⟩ = some (.int .i64 ((rd_T36 x3_4 x7_4).f0.f1)) := hcc34 1 _ rfl
                                                  have hx34_2 : w37.cell? ⟨go34, (x7_4 : Int).toNat * 4 + 2, none⟩ = some (.int .i64 ((rd_T36 x3_4 x7_4).f1)) := hcc34 2 _ rfl
                                                  have hx34_3 : w37.cell? ⟨go34, (x7_4 : Int).toNat * 4 + 3, none⟩ = some (.int .i64 ((rd_T36 x3_4 x7_4).f2)) := hcc34 3 _ rfl
                                                  have hf34_0 : w37.frozen? ⟨go34, (x7_4 : Int).toNat * 4, none⟩ = false := hfr34 0
                                                  have hf34_1 : w37.frozen? ⟨go34, (x7_4 : Int).toNat * 4 + 1, none⟩ = false := hfr34 1
                                                  have hf34_2 : w37.frozen? ⟨go34, (x7_4 : Int).toNat * 4 + 2, none⟩ = false := hfr34 2
                                                  have hf34_3 : w37.frozen? ⟨go34, (x7_4 : Int).toNat * 4 + 3, none⟩ = false := hfr34 3
                                                  clear hcl34 hcc34 hfr34 hM34
                                                  replace p34 := eq_true p34
                                                  replace q34 := eq_true q34
                                                  have HX38 := Aside0.mk (show Kd.R k36 36 w37 w.heap.size (fun _ => True) (.slice (some ⟨go34, 0, none⟩) x3_4.length co36) x3_4 from (oR HO_3))
                                                  obtain ⟨ce38, hcl38, hM38, hcc38, hfr38⟩ := Kd.R_elem HX38.out z36 (x7_4 : Int) (of_decide_eq_true (by first | (with_reducible assumption) | assumption)) (by have h_ : (x7_4 : Int) < ((x3_4.length : Int) : Int) := of_decide_eq_true (by first | (with_reducible assumption) | assumption); first | exact h_ | (have e_ := (Kd.R_reads' HO_3.out).1; omega) | simpa using h_)
                                                  obtain rfl := k36_openM hM38
                                                  have HP38 := Kd.R_seg HX38.out (x7_4 : Int) (of_decide_eq_true (by first | (with_reducible assumption) | assumption)) (by have h_ : (x7_4 : Int) < ((x3_4.length : Int) : Int) := of_decide_eq_true (by first | (with_reducible assumption) | assumption); first | exact h_ | (have e_ := (Kd.R_reads' HO_3.out).1; omega) | simpa using h_) (seg := [.int .i64 ((rd_T36 x3_4 (ji27)).f0.f0), .int .i64 ((rd_T36 x3_4 (ji27)).f0.f1), .int .i64 ((rd_T36 x3_4 (ji27)).f1), .int .i64 ((rd_T36 x3_4 (ji27)).f2)]) (j := 0) hcl38 hcc38 (show 4 ≤ 4 from by decide) (x' := (⟨(⟨(rd_T36 x3_4 (ji27)).f0.f0, (rd_T36 x3_4 (ji27)).f0.f1⟩ : S31), (rd_T36 x3_4 (ji27)).f1, (rd_T36 x3_4 (ji27)).f2⟩ : S36)) (k36_mkM _ _ _ (⟨(⟨(rd_T36 x3_4 (ji27)).f0.f0, (rd_T36 x3_4 (ji27)).f0.f1⟩ : S31), (rd_T36 x3_4 (ji27)).f1, (rd_T36 x3_4 (ji27)).f2⟩ : S36) ) (fun _ hk => hk)
                                                  have hx38_0 := hcc38 0 _ rfl
                                                  (try simp only [show (k36).sz = 4 from rfl, Nat.mul_one, Nat.add_zero] at hx38_0)
                                                  have hf38_0 := hfr38 0
                                                  (try simp only [show (k36).sz = 4 from rfl, Nat.mul_one, Nat.add_zero] at hf38_0)
                                                  have hx38_1 := hcc38 1 _ rfl
                                                  (try simp only [show (k36).sz = 4 from rfl, Nat.mul_one, Nat.add_zero] at hx38_1)
                                                  have hf38_1 := hfr38 1
                                                  (try simp only [show (k36).sz = 4 from rfl, Nat.mul_one, Nat.add_zero] at hf38_1)
                                                  have hx38_2 := hcc38 2 _ rfl
                                                  (try simp only [show (k36).sz = 4 from rfl, Nat.mul_one, Nat.add_zero] at hx38_2)
                                                  have hf38_2 := hfr38 2
                                                  (try simp only [show (k36).sz = 4 from rfl, Nat.mul_one, Nat.add_zero] at hf38_2)
                                                  have hx38_3 := hcc38 3 _ rfl
                                                  (try simp only [show (k36).sz = 4 from rfl, Nat.mul_one, Nat.add_zero] at hx38_3)
                                                  have hf38_3 := hfr38 3
                                                  (try simp only [show (k36).sz = 4 from rfl, Nat.mul_one, Nat.add_zero] at hf38_3)
                                                  clear hcl38 hcc38 hfr38 hM38
                                                  try go_wp2_with (first | ((with_reducible refine gate_store (t := 36) (p := 79) rfl ?_); refine store_event (t := 36) (p := 79) (v := ?vo_w39) (w1 := ((((w37.setCell ⟨go34, (x7_4 : Int).toNat * 4, none⟩ (.int .i64 ((rd_T36 x3_4 (ji27)).f0.f0))).setCell ⟨go34, (x7_4 : Int).toNat * 4 + 1, none⟩ (.int .i64 ((rd_T36 x3_4 (ji27)).f0.f1))).setCell ⟨go34, (x7_4 : Int).toNat * 4 + 2, none⟩ (.int .i64 ((rd_T36 x3_4 (ji27)).f1))).setCell ⟨go34, (x7_4 : Int).toNat * 4 + 3, none⟩ (.int .i64 ((rd_T36 x3_4 (ji27)).f2)))) ?hg ?ho ?hn ?hr ?_; (case ho => rfl); (case hg => rfl); (case hn => rfl); (case hr => first | (go_simp; done) | (go_simp; rfl)); intro w39 hw; have hg : w37.grownBy w39 (some go34) := (by rw [hw]; exact HP38.2); have hp_ : Kd.R k36 36 w39 w.heap.size (fun _ => True) (.slice (some ⟨go34, 0, none⟩) x3_4.length co36) y273 := (by rw [hw, Ny273.out]; exact HP38.1); clear HP38; have n0_ := Aside0.mk (hp_); have n1_ := Aside0.mk ((by rw [hw]; exact below_set (below_set (below_set (below_set (HB.out) GB34.out) GB34.out) GB34.out) GB34.out : Below w.heap.size w w39)); clear HO_3; clear HB; have HO_3 := n0_; have HB := n1_; clear n0_ n1_; clear hg hw hp_))
                                                  go_roundg k4
                                                  case measure => have := HK1.out; have := HJ3.out; have := HK3.out; have := HK4.out; omega
                                                  case rel => exact ⟨(y273), (ji27), (by first | rfl | (simp; done) | (simp only [← hji27] <;> (first | rfl | simp)) | (simp [*]; done)), H', ⟨by have := HK1.out; have := HJ3.out; have := HK3.out; have := HK4.out; omega⟩, ⟨oR HO_3⟩, ⟨oB HB⟩⟩
                                                · rw [if_neg c33] at H
                                                  exact absurd H (by simp)
                                              · rw [if_neg c32] at H
                                                exact absurd H (by simp)
                                            · replace c31 := Bool.eq_false_iff.mpr c31
                                              subst c31
                                              rw [if_neg (show ¬ (false = true) by decide)] at H
                                              by_cases c40 : 0 ≤ x7_4
                                              · rw [if_pos c40] at H
                                                have c40b0 : decide (0 ≤ x7_4) = true := decide_eq_true c40
                                                clear c40
                                                by_cases c41 : x7_4 < (x3_4.length : Int)
                                                · rw [if_pos c41] at H
                                                  have c41b0 : decide (x7_4 < (x3_4.length : Int)) = true := decide_eq_true c41
                                                  clear c41
                                                  obtain ⟨y275, hy275⟩ : ∃ y_ : List (S36), y_ = (x3_4.set (x7_4 : Int).toNat (⟨(⟨(rd_T36 l0 x4_1).f0.f0, (rd_T36 l0 x4_1).f0.f1⟩ : S31), (rd_T36 l0 x4_1).f1, (rd_T36 l0 x4_1).f2⟩ : S36)) := ⟨_, rfl⟩
                                                  replace H : (spec_OpenFaults.l0 k4 l0 y275 (wrap64 (x4_1 + 1))) = some r := by first | (rw [hy275]; with_reducible exact H) | (have H2_ := (Option.bind_some _ _).symm.trans H; rw [hy275]; with_reducible exact H2_) | (have H2_ := (Option.bind_some _ _).symm.trans H; with_reducible exact H2_) | with_reducible exact H | (rw [hy275]; exact H) | exact H
                                                  have Ny275 := Aside0.mk hy275
                                                  clear hy275
                                                  have H' := Aside0.mk H
                                                  clear H
                                                  try go_wp2
                                                  have n0_ := Aside0.mk (Kd.R_drew HO_3.out)
                                                  have n1_ := Aside0.mk (below_drew1 HB.out)
                                                  clear HO_3
                                                  clear HB
                                                  have HO_3 := n0_
                                                  have HB := n1_
                                                  clear n0_ n1_
                                                  have p269 : 0 ≤ (x4_1 : Int) := of_decide_eq_true (by first | (with_reducible assumption) | assumption)
                                                  have q269 : x4_1 < (l0.length : Int) := of_decide_eq_true (by first | (with_reducible assumption) | assumption)
                                                  obtain ⟨ad269, e269, hx269_0, hx269_1, hx269_2, hx269_3⟩ := at_T36 HR0.out x4_1 p269 q269
                                                  have hw269_3 := hx269_3
                                                  have hw269_2 := hx269_2
                                                  have hw269_1 := hx269_1
                                                  have hw269_0 := hx269_0
                                                  obtain rfl : ad262 = ad269 := (by injection e269)
                                                  replace hx269_0 := (HB.out.cell (World.block_lt_of_cell? w _ hx269_0)).trans hx269_0
                                                  replace hx269_1 := (HB.out.cell (World.block_lt_of_cell? w _ hx269_1)).trans hx269_1
                                                  replace hx269_2 := (HB.out.cell (World.block_lt_of_cell? w _ hx269_2)).trans hx269_2
                                                  replace hx269_3 := (HB.out.cell (World.block_lt_of_cell? w _ hx269_3)).trans hx269_3
                                                  replace p269 := eq_true p269
                                                  replace q269 := eq_true q269
                                                  obtain ⟨Ao44, co44, eo44⟩ := Kd.R_slice HO_3.out
                                                  (first | subst eo44 | (injection eo44 with f1_ f2_ f3_; have f4_ := f1_.symm; have f5_ := f3_.symm; clear f1_ f2_ f3_; subst f4_; subst f5_))
                                                  have p270 : 0 ≤ ((ji27) : Int) := of_decide_eq_true (by first | (with_reducible assumption) | assumption)
                                                  have q270 : (ji27) < (x3_4.length : Int) := of_decide_eq_true (by first | (with_reducible assumption) | assumption)
                                                  obtain ⟨ad270, e270, hx270_0, hx270_1, hx270_2, hx270_3⟩ := at_T36 (Kd.R_reads' HO_3.out).2.2 (ji27) p270 q270
                                                  cases e270
                                                  replace p270 := eq_true p270
                                                  replace q270 := eq_true q270
                                                  refine start_ (n := 14) (S := fun w' => w'.cell? (ad262.add ((x4_1).toNat * 4)) = some (.int .i64 ((rd_T36 l0 x4_1).f0.f0)) ∧ w'.cell? ⟨(ad262.add ((x4_1).toNat * 4)).block, (ad262.add ((x4_1).toNat * 4)).off + 1, none⟩ = some (.int .i64 ((rd_T36 l0 x4_1).f0.f1)) ∧ w'.cell? ⟨(ad262.add ((x4_1).toNat * 4)).block, (ad262.add ((x4_1).toNat * 4)).off + 2, none⟩ = some (.int .i64 ((rd_T36 l0 x4_1).f1)) ∧ w'.cell? ⟨(ad262.add ((x4_1).toNat * 4)).block, (ad262.add ((x4_1).toNat * 4)).off + 3, none⟩ = some (.int .i64 ((rd_T36 l0 x4_1).f2)) ∧ w'.cell? (ad270.add (((ji27)).toNat * 4)) = some (.int .i64 ((rd_T36 x3_4 (ji27)).f0.f0)) ∧ w'.cell? ⟨(ad270.add (((ji27)).toNat * 4)).block, (ad270.add (((ji27)).toNat * 4)).off + 1, none⟩ = some (.int .i64 ((rd_T36 x3_4 (ji27)).f0.f1)) ∧ w'.cell? ⟨(ad270.add (((ji27)).toNat * 4)).block, (ad270.add (((ji27)).toNat * 4)).off + 2, none⟩ = some (.int .i64 ((rd_T36 x3_4 (ji27)).f1)) ∧ w'.cell? ⟨(ad270.add (((ji27)).toNat * 4)).block, (ad270.add (((ji27)).toNat * 4)).off + 3, none⟩ = some (.int .i64 ((rd_T36 x3_4 (ji27)).f2))) (ds := []) #[false, false, false, false, false, false, false, false, false, false, false, false, false, false] (by kernel_rfl) rfl rfl ⟨((HB.out.cell (World.block_lt_of_cell? w _ hw269_0)).trans hw269_0), ((HB.out.cell (World.block_lt_of_cell? w _ hw269_1)).trans hw269_1), ((HB.out.cell (World.block_lt_of_cell? w _ hw269_2)).trans hw269_2), ((HB.out.cell (World.block_lt_of_cell? w _ hw269_3)).trans hw269_3), hx270_0, hx270_1, hx270_2, hx270_3⟩ (fun hHeld => ?_); refine with_tabW spec_OpenFaults.tab13 spec_OpenFaults.bits13 (fun HT_ HW_ => ?_)
                                                  generalize wr.drew = w43 at HO_3 HB hx269_0 hx269_1 hx269_2 hx269_3 hx270_0 hx270_1 hx270_2 hx270_3 hHeld ⊢
                                                  refine pure_ (i := 0) (N := some 58) (v := ?_) (a' := ?_) #[true, false, false, false, false, false, false, false, false, false, false, false, false, false] rfl rfl (any_of HT_.out (by kernel_rfl)) (fun _ _ _ h => h) (Or.inl ⟨by rfl, ?_⟩) ?_ ?_
                                                  rotate_left
                                                  · intro w'
                                                    go_simp
                                                    with_reducible rfl
                                                  rotate_left
                                                  · simp only [Act.put, List.setIfInBounds_toArray, List.set_cons_zero, List.set_cons_succ, i64_w, i32_w]
                                                    rfl
                                                  refine pure_ (i := 1) (N := some 59) (v := ?_) (a' := ?_) #[true, true, false, false, false, false, false, false, false, false, false, false, false, false] rfl rfl (any_of HT_.out (by kernel_rfl)) (fun _ _ _ h => h) (Or.inl ⟨by rfl, ?_⟩) ?_ ?_
                                                  rotate_left
                                                  · intro w'
                                                    go_simp
                                                    with_reducible rfl
                                                  rotate_left
                                                  · simp only [Act.put, List.setIfInBounds_toArray, List.set_cons_zero, List.set_cons_succ, i64_w, i32_w]
                                                    rfl
                                                  refine pure_ (i := 2) (N := some 60) (v := ?_) (a' := ?_) #[true, true, true, false, false, false, false, false, false, false, false, false, false, false] rfl rfl (any_of HT_.out (by kernel_rfl)) (fun _ _ _ h => h) (Or.inl ⟨by rfl, ?_⟩) ?_ ?_
                                                  rotate_left
                                                  · intro w'
                                                    go_simp
                                                    with_reducible rfl
                                                  rotate_left
                                                  · simp only [Act.put, List.setIfInBounds_toArray, List.set_cons_zero, List.set_cons_succ, i64_w, i32_w]
                                                    rfl
                                                  refine pure_ (i := 3) (N := some 61) (v := ?_) (a' := ?_) #[true, true, true, true, false, false, false, false, false, false, false, false, false, false] rfl rfl (any_of HT_.out (by kernel_rfl)) (fun _ _ _ h => h) (Or.inl ⟨by rfl, ?_⟩) ?_ ?_
                                                  rotate_left
                                                  · intro w'
                                                    go_simp
                                                    with_reducible rfl
                                                  rotate_left
                                                  · simp only [Act.put, List.setIfInBounds_toArray, List.set_cons_zero, List.set_cons_succ, i64_w, i32_w]
                                                    rfl
                                                  refine pure_ (i := 4) (N := some 62) (v := ?_) (a' := ?_) #[true, true, true, true, true, false, false, false, false, false, false, false, false, false] rfl rfl (any_of HT_.out (by kernel_rfl)) (fun _ _ _ h => h) (Or.inl ⟨by rfl, ?_⟩) ?_ ?_
                                                  rotate_left
                                                  · intro w'
                                                    go_simp
                                                    with_reducible rfl
                                                  rotate_left
                                                  · simp only [Act.put, List.setIfInBounds_toArray, List.set_cons_zero, List.set_cons_succ, i64_w, i32_w]
                                                    rfl
                                                  refine pure_ (i := 5) (N := some 63) (v := ?_) (a' := ?_) #[true, true, true, true, true, true, false, false, false, false, false, false, false, false] rfl rfl (any_of HT_.out (by kernel_rfl)) (fun _ _ _ h => h) (Or.inl ⟨by rfl, ?_⟩) ?_ ?_
                                                  rotate_left
                                                  · intro w'
                                                    go_simp
                                                    with_reducible rfl
                                                  rotate_left
                                                  · simp only [Act.put, List.setIfInBounds_toArray, List.set_cons_zero, List.set_cons_succ, i64_w, i32_w]
                                                    rfl
                                                  refine pure_ (i := 7) (N := some 65) (v := ?_) (a' := ?_) #[true, true, true, true, true, true, false, true, false, false, false, false, false, false] rfl rfl (any_of HT_.out (by kernel_rfl)) (fun _ _ _ h => h) (Or.inl ⟨by rfl, ?_⟩) ?_ ?_
                                                  rotate_left
                                                  · intro w'
                                                    go_simp
                                                    with_reducible rfl
                                                  rotate_left
                                                  · simp only [Act.put, List.setIfInBounds_toArray, List.set_cons_zero, List.set_cons_succ, i64_w, i32_w]
                                                    rfl
                                                  refine pure_ (i := 8) (N := some 66) (v := ?_) (a' := ?_) #[true, true, true, true, true, true, false, true, true, false, false, false, false, false] rfl rfl (any_of HT_.out (by kernel_rfl)) (fun _ _ _ h => h) (Or.inl ⟨by rfl, ?_⟩) ?_ ?_
                                                  rotate_left
                                                  · intro w'
                                                    go_simp
                                                    with_reducible rfl
                                                  rotate_left
                                                  · simp only [Act.put, List.setIfInBounds_toArray, List.set_cons_zero, List.set_cons_succ, i64_w, i32_w]
                                                    rfl
                                                  refine pure_ (i := 9) (N := some 67) (v := ?_) (a' := ?_) #[true, true, true, true, true, true, false, true, true, true, false, false, false, false] rfl rfl (any_of HT_.out (by kernel_rfl)) (fun _ _ _ h => h) (Or.inl ⟨by rfl, ?_⟩) ?_ ?_
                                                  rotate_left
                                                  · intro w'
                                                    go_simp
                                                    with_reducible rfl
                                                  rotate_left
                                                  · simp only [Act.put, List.setIfInBounds_toArray, List.set_cons_zero, List.set_cons_succ, i64_w, i32_w]
                                                    rfl
                                                  refine pure_ (i := 10) (N := some 68) (v := ?_) (a' := ?_) #[true, true, true, true, true, true, false, true, true, true, true, false, false, false] rfl rfl (any_of HT_.out (by kernel_rfl)) (fun _ _ _ h => h) (Or.inl ⟨by rfl, ?_⟩) ?_ ?_
                                                  rotate_left
                                                  · intro w'
                                                    go_simp
                                                    with_reducible rfl
                                                  rotate_left
                                                  · simp only [Act.put, List.setIfInBounds_toArray, List.set_cons_zero, List.set_cons_succ, i64_w, i32_w]
                                                    rfl
                                                  refine take_ (i := 6) (N := some 64) (v := ?_) (a' := ?_) #[true, true, true, true, true, true, true, true, true, true, true, false, false, false] rfl rfl (take_ofW HT_.out HW_.out (by kernel_rfl)) (fun _ _ _ h => h) (Or.inl ⟨by rfl, ?_⟩) hHeld ?_ ?_
                                                  rotate_left
                                                  · rintro w' ⟨s0, s1, s2, s3, s4, s5, s6, s7⟩
                                                    go_simp
                                                    with_reducible rfl
                                                  rotate_left
                                                  · simp only [Act.put, List.setIfInBounds_toArray, List.set_cons_zero, List.set_cons_succ, i64_w, i32_w]
                                                    rfl
                                                  refine take_ (i := 11) (N := some 69) (v := ?_) (a' := ?_) #[true, true, true, true, true, true, true, true, true, true, true, true, false, false] rfl rfl (take_ofW HT_.out HW_.out (by kernel_rfl)) (fun _ _ _ h => h) (Or.inl ⟨by rfl, ?_⟩) hHeld ?_ ?_
                                                  rotate_left
                                                  · rintro w' ⟨s0, s1, s2, s3, s4, s5, s6, s7⟩
                                                    go_simp
                                                    with_reducible rfl
                                                  rotate_left
                                                  · simp only [Act.put, List.setIfInBounds_toArray, List.set_cons_zero, List.set_cons_succ, i64_w, i32_w]
                                                    rfl
                                                  refine one_ (i := 12) (N := some 70) #[true, true, true, true, true, true, true, true, true, true, true, true, true, false] rfl rfl (one_of HT_.out (by kernel_rfl)) (by decide) (fun K hK => ?_)
                                                  refine goes_ Try.func52 (by kernel_rfl) rfl #[.agg #[.int .i64 ((rd_T36 l0 x4_1).f0.f0), .int .i64 ((rd_T36 l0 x4_1).f0.f1), .int .i64 ((rd_T36 l0 x4_1).f1), .int .i64 ((rd_T36 l0 x4_1).f2)], .agg #[.int .i64 ((rd_T36 x3_4 (ji27)).f0.f0), .int .i64 ((rd_T36 x3_4 (ji27)).f0.f1), .int .i64 ((rd_T36 x3_4 (ji27)).f1), .int .i64 ((rd_T36 x3_4 (ji27)).f2)]] (by rfl) rfl rfl (by (try simp only [List.map_toArray, List.map_cons, List.map_nil]); first | done | (simp only [hji27]; rfl) | rfl | (simp only [List.length_drop, List.length_take]; rfl)) ?_
                                                  with_reducible refine (spec_l35Before.calls ((rd_T36 l0 x4_1).f0.f0) ((rd_T36 l0 x4_1).f0.f1) ((rd_T36 l0 x4_1).f1) ((rd_T36 l0 x4_1).f2) ((rd_T36 x3_4 (ji27)).f0.f0) ((rd_T36 x3_4 (ji27)).f0.f1) ((rd_T36 x3_4 (ji27)).f1) ((rd_T36 x3_4 (ji27)).f2) false _ A30.out).mono ?_
                                                  rintro e w45 ⟨rfl, hb⟩
                                                  have HS4_ := (hb.cell (World.block_lt_of_cell? _ _ (hHeld.2.2.2.2.1))).trans (hHeld.2.2.2.2.1)
                                                  have HS5_ := (hb.cell (World.block_lt_of_cell? _ _ (hHeld.2.2.2.2.2.1))).trans (hHeld.2.2.2.2.2.1)
                                                  have HS6_ := (hb.cell (World.block_lt_of_cell? _ _ (hHeld.2.2.2.2.2.2.1))).trans (hHeld.2.2.2.2.2.2.1)
                                                  have HS7_ := (hb.cell (World.block_lt_of_cell? _ _ (hHeld.2.2.2.2.2.2.2))).trans (hHeld.2.2.2.2.2.2.2)
                                                  refine ⟨_, rfl, ?_⟩
                                                  have n0_ := Aside0.mk (Kd.R_below (oR HO_3) hb)
                                                  have n1_ := Aside0.mk (below_step (oB HB) hb)
                                                  clear HO_3
                                                  clear HB
                                                  have HO_3 := n0_
                                                  have HB := n1_
                                                  clear n0_ n1_
                                                  (try clear hb)
                                                  (try clear hb2)
                                                  (try clear hk)
                                                  (try clear hi)
                                                  refine hK.out _ _ ⟨((HB.out.cell (World.block_lt_of_cell? w _ hw269_0)).trans hw269_0), ((HB.out.cell (World.block_lt_of_cell? w _ hw269_1)).trans hw269_1), ((HB.out.cell (World.block_lt_of_cell? w _ hw269_2)).trans hw269_2), ((HB.out.cell (World.block_lt_of_cell? w _ hw269_3)).trans hw269_3), HS4_, HS5_, HS6_, HS7_⟩ (fun hHeld => ?_)
                                                  clear hK K
                                                  refine norm_ (a' := ?_) ?_ ?_
                                                  rotate_left
                                                  · show Act.put _ (some 70) _ = _
                                                    simp only [Act.put, List.setIfInBounds_toArray, List.set_cons_zero, List.set_cons_succ, i64_w, i32_w]
                                                    rfl
                                                  refine pure_ (i := 13) (N := some 71) (v := ?_) (a' := ?_) #[true, true, true, true, true, true, true, true, true, true, true, true, true, true] rfl rfl (any_of HT_.out (by kernel_rfl)) (fun _ _ _ h => h) (Or.inl ⟨by rfl, ?_⟩) ?_ ?_
                                                  rotate_left
                                                  · intro w'
                                                    go_simp
                                                    with_reducible rfl
                                                  rotate_left
                                                  · simp only [Act.put, List.setIfInBounds_toArray, List.set_cons_zero, List.set_cons_succ, i64_w, i32_w]
                                                    rfl
                                                  refine done_ (done_of HT_.out (by kernel_rfl)) ?_
                                                  have p274 : 0 ≤ (x4_1 : Int) := of_decide_eq_true (by first | (with_reducible assumption) | assumption)
                                                  have q274 : x4_1 < (l0.length : Int) := of_decide_eq_true (by first | (with_reducible assumption) | assumption)
                                                  obtain ⟨ad274, e274, hx274_0, hx274_1, hx274_2, hx274_3⟩ := at_T36 HR0.out x4_1 p274 q274
                                                  obtain rfl : ad262 = ad274 := (by injection e274)
                                                  replace hx274_0 := (HB.out.cell (World.block_lt_of_cell? w _ hx274_0)).trans hx274_0
                                                  replace hx274_1 := (HB.out.cell (World.block_lt_of_cell? w _ hx274_1)).trans hx274_1
                                                  replace hx274_2 := (HB.out.cell (World.block_lt_of_cell? w _ hx274_2)).trans hx274_2
                                                  replace hx274_3 := (HB.out.cell (World.block_lt_of_cell? w _ hx274_3)).trans hx274_3
                                                  replace p274 := eq_true p274
                                                  replace q274 := eq_true q274
                                                  have p42 : 0 ≤ (x7_4 : Int) := of_decide_eq_true (by first | (with_reducible assumption) | assumption)
                                                  have q42 : (x7_4 : Int) < ((x3_4.length : Int) : Int) := of_decide_eq_true (by first | (with_reducible assumption) | assumption)
                                                  obtain ⟨go42, co42, eo42, gb42, gl42, cl42, HG42⟩ := Kd.R_form HO_3.out (by omega)
                                                  (first | cases eo42 | (injection eo42 with ea_ en_ ec_; (first | subst ea_ | (injection ea_ with ea_; subst ea_)); subst ec_; clear en_))
                                                  have GB42 := Aside0.mk gb42
                                                  have GG42 := Aside0.mk HG42
                                                  clear gb42 gl42 HG42
                                                  (first | simp only [add_plain] at hx270_0 | skip)
                                                  (first | simp only [add_plain] at hx270_1 | skip)
                                                  (first | simp only [add_plain] at hx270_2 | skip)
                                                  (first | simp only [add_plain] at hx270_3 | skip)
                                                  obtain ⟨ce42, hcl42, hM42, hcc42, hfr42⟩ := Kd.R_elem HO_3.out z36 (x7_4 : Int) p42 q42
                                                  obtain rfl := k36_openM hM42
                                                  have hx42_0 : w45.cell? ⟨go42, (x7_4 : Int).toNat * 4, none⟩ = some (.int .i64 ((rd_T36 x3_4 x7_4).f0.f0)) := hcc42 0 _ rfl
                                                  have hx42_1 : w45.cell? ⟨go42, (x7_4 : Int).toNat * 4 + 1, none⟩ = some (.int .i64 ((rd_T36 x3_4 x7_4).f0.f1)) := hcc42 1 _ rfl
                                                  have hx42_2 : w45.cell? ⟨go42, (x7_4 : Int).toNat * 4 + 2, none⟩ = some (.int .i64 ((rd_T36 x3_4 x7_4).f1)) := hcc42 2 _ rfl
                                                  have hx42_3 : w45.cell? ⟨go42, (x7_4 : Int).toNat * 4 + 3, none⟩ = some (.int .i64 ((rd_T36 x3_4 x7_4).f2)) := hcc42 3 _ rfl
                                                  have hf42_0 : w45.frozen? ⟨go42, (x7_4 : Int).toNat * 4, none⟩ = false := hfr42 0
                                                  have hf42_1 : w45.frozen? ⟨go42, (x7_4 : Int).toNat * 4 + 1, none⟩ = false := hfr42 1
                                                  have hf42_2 : w45.frozen? ⟨go42, (x7_4 : Int).toNat * 4 + 2, none⟩ = false := hfr42 2
                                                  have hf42_3 : w45.frozen? ⟨go42, (x7_4 : Int).toNat * 4 + 3, none⟩ = false := hfr42 3
                                                  clear hcl42 hcc42 hfr42 hM42
                                                  replace p42 := eq_true p42
                                                  replace q42 := eq_true q42
                                                  have HX46 := Aside0.mk (show Kd.R k36 36 w45 w.heap.size (fun _ => True) (.slice (some ⟨go42, 0, none⟩) x3_4.length co44) x3_4 from (oR HO_3))
                                                  obtain ⟨ce46, hcl46, hM46, hcc46, hfr46⟩ := Kd.R_elem HX46.out z36 (x7_4 : Int) (of_decide_eq_true (by first | (with_reducible assumption) | assumption)) (by have h_ : (x7_4 : Int) < ((x3_4.length : Int) : Int) := of_decide_eq_true (by first | (with_reducible assumption) | assumption); first | exact h_ | (have e_ := (Kd.R_reads' HO_3.out).1; omega) | simpa using h_)
                                                  obtain rfl := k36_openM hM46
                                                  have HP46 := Kd.R_seg HX46.out (x7_4 : Int) (of_decide_eq_true (by first | (with_reducible assumption) | assumption)) (by have h_ : (x7_4 : Int) < ((x3_4.length : Int) : Int) := of_decide_eq_true (by first | (with_reducible assumption) | assumption); first | exact h_ | (have e_ := (Kd.R_reads' HO_3.out).1; omega) | simpa using h_) (seg := [.int .i64 ((rd_T36 l0 x4_1).f0.f0), .int .i64 ((rd_T36 l0 x4_1).f0.f1), .int .i64 ((rd_T36 l0 x4_1).f1), .int .i64 ((rd_T36 l0 x4_1).f2)]) (j := 0) hcl46 hcc46 (show 4 ≤ 4 from by decide) (x' := (⟨(⟨(rd_T36 l0 x4_1).f0.f0, (rd_T36 l0 x4_1).f0.f1⟩ : S31), (rd_T36 l0 x4_1).f1, (rd_T36 l0 x4_1).f2⟩ : S36)) (k36_mkM _ _ _ (⟨(⟨(rd_T36 l0 x4_1).f0.f0, (rd_T36 l0 x4_1).f0.f1⟩ : S31), (rd_T36 l0 x4_1).f1, (rd_T36 l0 x4_1).f2⟩ : S36) ) (fun _ hk => hk)
                                                  have hx46_0 := hcc46 0 _ rfl
                                                  (try simp only [show (k36).sz = 4 from rfl, Nat.mul_one, Nat.add_zero] at hx46_0)
                                                  have hf46_0 := hfr46 0
                                                  (try simp only [show (k36).sz = 4 from rfl, Nat.mul_one, Nat.add_zero] at hf46_0)
                                                  have hx46_1 := hcc46 1 _ rfl
                                                  (try simp only [show (k36).sz = 4 from rfl, Nat.mul_one, Nat.add_zero] at hx46_1)
                                                  have hf46_1 := hfr46 1
                                                  (try simp only [show (k36).sz = 4 from rfl, Nat.mul_one, Nat.add_zero] at hf46_1)
                                                  have hx46_2 := hcc46 2 _ rfl
                                                  (try simp only [show (k36).sz = 4 from rfl, Nat.mul_one, Nat.add_zero] at hx46_2)
                                                  have hf46_2 := hfr46 2
                                                  (try simp only [show (k36).sz = 4 from rfl, Nat.mul_one, Nat.add_zero] at hf46_2)
                                                  have hx46_3 := hcc46 3 _ rfl
                                                  (try simp only [show (k36).sz = 4 from rfl, Nat.mul_one, Nat.add_zero] at hx46_3)
                                                  have hf46_3 := hfr46 3
                                                  (try simp only [show (k36).sz = 4 from rfl, Nat.mul_one, Nat.add_zero] at hf46_3)
                                                  clear hcl46 hcc46 hfr46 hM46
                                                  try go_wp2_with (first | ((with_reducible refine gate_store (t := 36) (p := 88) rfl ?_); refine store_event (t := 36) (p := 88) (v := ?vo_w47) (w1 := ((((w45.setCell ⟨go42, (x7_4 : Int).toNat * 4, none⟩ (.int .i64 ((rd_T36 l0 x4_1).f0.f0))).setCell ⟨go42, (x7_4 : Int).toNat * 4 + 1, none⟩ (.int .i64 ((rd_T36 l0 x4_1).f0.f1))).setCell ⟨go42, (x7_4 : Int).toNat * 4 + 2, none⟩ (.int .i64 ((rd_T36 l0 x4_1).f1))).setCell ⟨go42, (x7_4 : Int).toNat * 4 + 3, none⟩ (.int .i64 ((rd_T36 l0 x4_1).f2)))) ?hg ?ho ?hn ?hr ?_; (case ho => rfl); (case hg => rfl); (case hn => rfl); (case hr => first | (go_simp; done) | (go_simp; rfl)); intro w47 hw; have hg : w45.grownBy w47 (some go42) := (by rw [hw]; exact HP46.2); have hp_ : Kd.R k36 36 w47 w.heap.size (fun _ => True) (.slice (some ⟨go42, 0, none⟩) x3_4.length co44) y275 := (by rw [hw, Ny275.out]; exact HP46.1); clear HP46; have n0_ := Aside0.mk (hp_); have n1_ := Aside0.mk ((by rw [hw]; exact below_set (below_set (below_set (below_set (HB.out) GB42.out) GB42.out) GB42.out) GB42.out : Below w.heap.size w w47)); clear HO_3; clear HB; have HO_3 := n0_; have HB := n1_; clear n0_ n1_; clear hg hw hp_))
                                                  go_roundg k4
                                                  case measure => have := HK1.out; have := HJ3.out; have := HK3.out; have := HK4.out; omega
                                                  case rel => exact ⟨(y275), (wrap64 (x4_1 + 1)), (by first | rfl | (simp; done) | (simp [*]; done)), H', ⟨by have := HK1.out; have := HJ3.out; have := HK3.out; have := HK4.out; omega⟩, ⟨oR HO_3⟩, ⟨oB HB⟩⟩
                                                · rw [if_neg c41] at H
                                                  exact absurd H (by simp)
                                              · rw [if_neg c40] at H
                                                exact absurd H (by simp)
                                          · rw [if_neg c29] at H
                                            exact absurd H (by simp)
                                        · rw [if_neg c28] at H
                                          exact absurd H (by simp)
                                      · rw [if_neg c26] at H
                                        exact absurd H (by simp)
                                    · rw [if_neg c25] at H
                                      exact absurd H (by simp)
                                  · rw [if_neg c24] at H
                                    have c24b0 : decide (0 < x7_4) = false := decide_eq_false c24
                                    clear c24
                                    by_cases c48 : 0 ≤ x4_1
                                    · rw [if_pos c48] at H
                                      have c48b0 : decide (0 ≤ x4_1) = true := decide_eq_true c48
                                      clear c48
                                      by_cases c49 : x4_1 < (l0.length : Int)
                                      · rw [if_pos c49] at H
                                        have c49b0 : decide (x4_1 < (l0.length : Int)) = true := decide_eq_true c49
                                        clear c49
                                        by_cases c50 : 0 ≤ x7_4
                                        · rw [if_pos c50] at H
                                          have c50b0 : decide (0 ≤ x7_4) = true := decide_eq_true c50
                                          clear c50
                                          by_cases c51 : x7_4 < (x3_4.length : Int)
                                          · rw [if_pos c51] at H
                                            have c51b0 : decide (x7_4 < (x3_4.length : Int)) = true := decide_eq_true c51
                                            clear c51
                                            obtain ⟨y277, hy277⟩ : ∃ y_ : List (S36), y_ = (x3_4.set (x7_4 : Int).toNat (⟨(⟨(rd_T36 l0 x4_1).f0.f0, (rd_T36 l0 x4_1).f0.f1⟩ : S31), (rd_T36 l0 x4_1).f1, (rd_T36 l0 x4_1).f2⟩ : S36)) := ⟨_, rfl⟩
                                            replace H : (spec_OpenFaults.l0 k4 l0 y277 (wrap64 (x4_1 + 1))) = some r := by first | (rw [hy277]; with_reducible exact H) | (have H2_ := (Option.bind_some _ _).symm.trans H; rw [hy277]; with_reducible exact H2_) | (have H2_ := (Option.bind_some _ _).symm.trans H; with_reducible exact H2_) | with_reducible exact H | (rw [hy277]; exact H) | exact H
                                            have Ny277 := Aside0.mk hy277
                                            clear hy277
                                            have H' := Aside0.mk H
                                            clear H
                                            try go_wp2
                                            have n0_ := Aside0.mk (Kd.R_drew HO_3.out)
                                            have n1_ := Aside0.mk (below_drew1 HB.out)
                                            clear HO_3
                                            clear HB
                                            have HO_3 := n0_
                                            have HB := n1_
                                            clear n0_ n1_
                                            refine start_ (n := 14) (S := fun w' => True) (ds := []) #[false, false, false, false, false, false, false, false, false, false, false, false, false, false] (by kernel_rfl) rfl rfl trivial (fun hHeld => ?_); refine with_tabW spec_OpenFaults.tab13 spec_OpenFaults.bits13 (fun HT_ HW_ => ?_)
                                            generalize wr.drew = w53 at HO_3 HB hHeld ⊢
                                            refine pure_ (i := 0) (N := some 58) (v := ?_) (a' := ?_) #[true, false, false, false, false, false, false, false, false, false, false, false, false, false] rfl rfl (any_of HT_.out (by kernel_rfl)) (fun _ _ _ h => h) (Or.inl ⟨by rfl, ?_⟩) ?_ ?_
                                            rotate_left
                                            · intro w'
                                              go_simp
                                              with_reducible rfl
                                            rotate_left
                                            · simp only [Act.put, List.setIfInBounds_toArray, List.set_cons_zero, List.set_cons_succ, i64_w, i32_w]
                                              rfl
                                            refine pure_ (i := 1) (N := some 59) (v := ?_) (a' := ?_) #[true, true, false, false, false, false, false, false, false, false, false, false, false, false] rfl rfl (any_of HT_.out (by kernel_rfl)) (fun _ _ _ h => h) (Or.inl ⟨by rfl, ?_⟩) ?_ ?_
                                            rotate_left
                                            · intro w'
                                              go_simp
                                              with_reducible rfl
                                            rotate_left
                                            · simp only [Act.put, List.setIfInBounds_toArray, List.set_cons_zero, List.set_cons_succ, i64_w, i32_w]
                                              rfl
                                            refine pure_ (i := 2) (N := some 60) (v := ?_) (a' := ?_) #[true, true, true, false, false, false, false, false, false, false, false, false, false, false] rfl rfl (any_of HT_.out (by kernel_rfl)) (fun _ _ _ h => h) (Or.inl ⟨by rfl, ?_⟩) ?_ ?_
                                            rotate_left
                                            · intro w'
                                              go_simp
                                              with_reducible rfl
                                            rotate_left
                                            · simp only [Act.put, List.setIfInBounds_toArray, List.set_cons_zero, List.set_cons_succ, i64_w, i32_w]
                                              rfl
                                            refine pure_ (i := 3) (N := some 61) (v := undef) (a' := ?_) #[true, true, true, true, false, false, false, false, false, false, false, false, false, false] rfl rfl (any_of HT_.out (by kernel_rfl)) (fun _ _ _ h => h) (Or.inr ⟨by rfl, rfl⟩) ?_ ?_
                                            rotate_left
                                            · simp only [Act.put, List.setIfInBounds_toArray, List.set_cons_zero, List.set_cons_succ, i64_w, i32_w]
                                              rfl
                                            refine pure_ (i := 4) (N := some 62) (v := undef) (a' := ?_) #[true, true, true, true, true, false, false, false, false, false, false, false, false, false] rfl rfl (any_of HT_.out (by kernel_rfl)) (fun _ _ _ h => h) (Or.inr ⟨by rfl, rfl⟩) ?_ ?_
                                            rotate_left
                                            · simp only [Act.put, List.setIfInBounds_toArray, List.set_cons_zero, List.set_cons_succ, i64_w, i32_w]
                                              rfl
                                            refine pure_ (i := 5) (N := some 63) (v := undef) (a' := ?_) #[true, true, true, true, true, true, false, false, false, false, false, false, false, false] rfl rfl (any_of HT_.out (by kernel_rfl)) (fun _ _ _ h => h) (Or.inr ⟨by rfl, rfl⟩) ?_ ?_
                                            rotate_left
                                            · simp only [Act.put, List.setIfInBounds_toArray, List.set_cons_zero, List.set_cons_succ, i64_w, i32_w]
                                              rfl
                                            refine pure_ (i := 6) (N := some 64) (v := undef) (a' := ?_) #[true, true, true, true, true, true, true, false, false, false, false, false, false, false] rfl rfl (any_of HT_.out (by kernel_rfl)) (fun _ _ _ h => h) (Or.inr ⟨by rfl, rfl⟩) ?_ ?_
                                            rotate_left
                                            · simp only [Act.put, List.setIfInBounds_toArray, List.set_cons_zero, List.set_cons_succ, i64_w, i32_w]
                                              rfl
                                            refine pure_ (i := 7) (N := some 65) (v := undef) (a' := ?_) #[true, true, true, true, true, true, true, true, false, false, false, false, false, false] rfl rfl (any_of HT_.out (by kernel_rfl)) (fun _ _ _ h => h) (Or.inr ⟨by rfl, rfl⟩) ?_ ?_
                                            rotate_left
                                            · simp only [Act.put, List.setIfInBounds_toArray, List.set_cons_zero, List.set_cons_succ, i64_w, i32_w]
                                              rfl
                                            refine pure_ (i := 8) (N := some 66) (v := undef) (a' := ?_) #[true, true, true, true, true, true, true, true, true, false, false, false, false, false] rfl rfl (any_of HT_.out (by kernel_rfl)) (fun _ _ _ h => h) (Or.inr ⟨by rfl, rfl⟩) ?_ ?_
                                            rotate_left
                                            · simp only [Act.put, List.setIfInBounds_toArray, List.set_cons_zero, List.set_cons_succ, i64_w, i32_w]
                                              rfl
                                            refine pure_ (i := 9) (N := some 67) (v := undef) (a' := ?_) #[true, true, true, true, true, true, true, true, true, true, false, false, false, false] rfl rfl (any_of HT_.out (by kernel_rfl)) (fun _ _ _ h => h) (Or.inr ⟨by rfl, rfl⟩) ?_ ?_
                                            rotate_left
                                            · simp only [Act.put, List.setIfInBounds_toArray, List.set_cons_zero, List.set_cons_succ, i64_w, i32_w]
                                              rfl
                                            refine pure_ (i := 10) (N := some 68) (v := undef) (a' := ?_) #[true, true, true, true, true, true, true, true, true, true, true, false, false, false] rfl rfl (any_of HT_.out (by kernel_rfl)) (fun _ _ _ h => h) (Or.inr ⟨by rfl, rfl⟩) ?_ ?_
                                            rotate_left
                                            · simp only [Act.put, List.setIfInBounds_toArray, List.set_cons_zero, List.set_cons_succ, i64_w, i32_w]
                                              rfl
                                            refine pure_ (i := 11) (N := some 69) (v := undef) (a' := ?_) #[true, true, true, true, true, true, true, true, true, true, true, true, false, false] rfl rfl (any_of HT_.out (by kernel_rfl)) (fun _ _ _ h => h) (Or.inr ⟨by rfl, rfl⟩) ?_ ?_
                                            rotate_left
                                            · simp only [Act.put, List.setIfInBounds_toArray, List.set_cons_zero, List.set_cons_succ, i64_w, i32_w]
                                              rfl
                                            refine pure_ (i := 12) (N := some 70) (v := undef) (a' := ?_) #[true, true, true, true, true, true, true, true, true, true, true, true, true, false] rfl rfl (any_of HT_.out (by kernel_rfl)) (fun _ _ _ h => h) (Or.inr ⟨by rfl, rfl⟩) ?_ ?_
                                            rotate_left
                                            · simp only [Act.put, List.setIfInBounds_toArray, List.set_cons_zero, List.set_cons_succ, i64_w, i32_w]
                                              rfl
                                            refine pure_ (i := 13) (N := some 71) (v := ?_) (a' := ?_) #[true, true, true, true, true, true, true, true, true, true, true, true, true, true] rfl rfl (any_of HT_.out (by kernel_rfl)) (fun _ _ _ h => h) (Or.inl ⟨by rfl, ?_⟩) ?_ ?_
                                            rotate_left
                                            · intro w'
                                              go_simp
                                              with_reducible rfl
                                            rotate_left
                                            · simp only [Act.put, List.setIfInBounds_toArray, List.set_cons_zero, List.set_cons_succ, i64_w, i32_w]
                                              rfl
                                            refine done_ (done_of HT_.out (by kernel_rfl)) ?_
                                            have p276 : 0 ≤ (x4_1 : Int) := of_decide_eq_true (by first | (with_reducible assumption) | assumption)
                                            have q276 : x4_1 < (l0.length : Int) := of_decide_eq_true (by first | (with_reducible assumption) | assumption)
                                            obtain ⟨ad276, e276, hx276_0, hx276_1, hx276_2, hx276_3⟩ := at_T36 HR0.out x4_1 p276 q276
                                            obtain rfl : ad262 = ad276 := (by injection e276)
                                            replace hx276_0 := (HB.out.cell (World.block_lt_of_cell? w _ hx276_0)).trans hx276_0
                                            replace hx276_1 := (HB.out.cell (World.block_lt_of_cell? w _ hx276_1)).trans hx276_1
                                            replace hx276_2 := (HB.out.cell (World.block_lt_of_cell? w _ hx276_2)).trans hx276_2
                                            replace hx276_3 := (HB.out.cell (World.block_lt_of_cell? w _ hx276_3)).trans hx276_3
                                            replace p276 := eq_true p276
                                            replace q276 := eq_true q276
                                            have p52 : 0 ≤ (x7_4 : Int) := of_decide_eq_true (by first | (with_reducible assumption) | assumption)
                                            have q52 : (x7_4 : Int) < ((x3_4.length : Int) : Int) := of_decide_eq_true (by first | (with_reducible assumption) | assumption)
                                            obtain ⟨go52, co52, eo52, gb52, gl52, cl52, HG52⟩ := Kd.R_form HO_3.out (by omega)
                                            (first | cases eo52 | (injection eo52 with ea_ en_ ec_; (first | subst ea_ | (injection ea_ with ea_; subst ea_)); subst ec_; clear en_))
                                            have GB52 := Aside0.mk gb52
                                            have GG52 := Aside0.mk HG52
                                            clear gb52 gl52 HG52
                                            obtain ⟨ce52, hcl52, hM52, hcc52, hfr52⟩ := Kd.R_elem HO_3.out z36 (x7_4 : Int) p52 q52
                                            obtain rfl := k36_openM hM52
                                            have hx52_0 : w53.cell? ⟨go52, (x7_4 : Int).toNat * 4, none⟩ = some (.int .i64 ((rd_T36 x3_4 x7_4).f0.f0)) := hcc52 0 _ rfl
                                            have hx52_1 : w53.cell? ⟨go52, (x7_4 : Int).toNat * 4 + 1, none⟩ = some (.int .i64 ((rd_T36 x3_4 x7_4).f0.f1)) := hcc52 1 _ rfl
                                            have hx52_2 : w53.cell? ⟨go52, (x7_4 : Int).toNat * 4 + 2, none⟩ = some (.int .i64 ((rd_T36 x3_4 x7_4).f1)) := hcc52 2 _ rfl
                                            have hx52_3 : w53.cell? ⟨go52, (x7_4 : Int).toNat * 4 + 3, none⟩ = some (.int .i64 ((rd_T36 x3_4 x7_4).f2)) := hcc52 3 _ rfl
                                            have hf52_0 : w53.frozen? ⟨go52, (x7_4 : Int).toNat * 4, none⟩ = false := hfr52 0
                                            have hf52_1 : w53.frozen? ⟨go52, (x7_4 : Int).toNat * 4 + 1, none⟩ = false := hfr52 1
                                            have hf52_2 : w53.frozen? ⟨go52, (x7_4 : Int).toNat * 4 + 2, none⟩ = false := hfr52 2
                                            have hf52_3 : w53.frozen? ⟨go52, (x7_4 : Int).toNat * 4 + 3, none⟩ = false := hfr52 3
                                            clear hcl52 hcc52 hfr52 hM52
                                            replace p52 := eq_true p52
                                            replace q52 := eq_true q52
                                            have HX54 := Aside0.mk (show Kd.R k36 36 w53 w.heap.size (fun _ => True) (.slice (some ⟨go52, 0, none⟩) x3_4.length co52) x3_4 from (oR HO_3))
                                            obtain ⟨ce54, hcl54, hM54, hcc54, hfr54⟩ := Kd.R_elem HX54.out z36 (x7_4 : Int) (of_decide_eq_true (by first | (with_reducible assumption) | assumption)) (by have h_ : (x7_4 : Int) < ((x3_4.length : Int) : Int) := of_decide_eq_true (by first | (with_reducible assumption) | assumption); first | exact h_ | (have e_ := (Kd.R_reads' HO_3.out).1; omega) | simpa using h_)
                                            obtain rfl := k36_openM hM54
                                            have HP54 := Kd.R_seg HX54.out (x7_4 : Int) (of_decide_eq_true (by first | (with_reducible assumption) | assumption)) (by have h_ : (x7_4 : Int) < ((x3_4.length : Int) : Int) := of_decide_eq_true (by first | (with_reducible assumption) | assumption); first | exact h_ | (have e_ := (Kd.R_reads' HO_3.out).1; omega) | simpa using h_) (seg := [.int .i64 ((rd_T36 l0 x4_1).f0.f0), .int .i64 ((rd_T36 l0 x4_1).f0.f1), .int .i64 ((rd_T36 l0 x4_1).f1), .int .i64 ((rd_T36 l0 x4_1).f2)]) (j := 0) hcl54 hcc54 (show 4 ≤ 4 from by decide) (x' := (⟨(⟨(rd_T36 l0 x4_1).f0.f0, (rd_T36 l0 x4_1).f0.f1⟩ : S31), (rd_T36 l0 x4_1).f1, (rd_T36 l0 x4_1).f2⟩ : S36)) (k36_mkM _ _ _ (⟨(⟨(rd_T36 l0 x4_1).f0.f0, (rd_T36 l0 x4_1).f0.f1⟩ : S31), (rd_T36 l0 x4_1).f1, (rd_T36 l0 x4_1).f2⟩ : S36) ) (fun _ hk => hk)
                                            have hx54_0 := hcc54 0 _ rfl
                                            (try simp only [show (k36).sz = 4 from rfl, Nat.mul_one, Nat.add_zero] at hx54_0)
                                            have hf54_0 := hfr54 0
                                            (try simp only [show (k36).sz = 4 from rfl, Nat.mul_one, Nat.add_zero] at hf54_0)
                                            have hx54_1 := hcc54 1 _ rfl
                                            (try simp only [show (k36).sz = 4 from rfl, Nat.mul_one, Nat.add_zero] at hx54_1)
                                            have hf54_1 := hfr54 1
                                            (try simp only [show (k36).sz = 4 from rfl, Nat.mul_one, Nat.add_zero] at hf54_1)
                                            have hx54_2 := hcc54 2 _ rfl
                                            (try simp only [show (k36).sz = 4 from rfl, Nat.mul_one, Nat.add_zero] at hx54_2)
                                            have hf54_2 := hfr54 2
                                            (try simp only [show (k36).sz = 4 from rfl, Nat.mul_one, Nat.add_zero] at hf54_2)
                                            have hx54_3 := hcc54 3 _ rfl
                                            (try simp only [show (k36).sz = 4 from rfl, Nat.mul_one, Nat.add_zero] at hx54_3)
                                            have hf54_3 := hfr54 3
                                            (try simp only [show (k36).sz = 4 from rfl, Nat.mul_one, Nat.add_zero] at hf54_3)
                                            clear hcl54 hcc54 hfr54 hM54
                                            try go_wp2_with (first | ((with_reducible refine gate_store (t := 36) (p := 88) rfl ?_); refine store_event (t := 36) (p := 88) (v := ?vo_w55) (w1 := ((((w53.setCell ⟨go52, (x7_4 : Int).toNat * 4, none⟩ (.int .i64 ((rd_T36 l0 x4_1).f0.f0))).setCell ⟨go52, (x7_4 : Int).toNat * 4 + 1, none⟩ (.int .i64 ((rd_T36 l0 x4_1).f0.f1))).setCell ⟨go52, (x7_4 : Int).toNat * 4 + 2, none⟩ (.int .i64 ((rd_T36 l0 x4_1).f1))).setCell ⟨go52, (x7_4 : Int).toNat * 4 + 3, none⟩ (.int .i64 ((rd_T36 l0 x4_1).f2)))) ?hg ?ho ?hn ?hr ?_; (case ho => rfl); (case hg => rfl); (case hn => rfl); (case hr => first | (go_simp; done) | (go_simp; rfl)); intro w55 hw; have hg : w53.grownBy w55 (some go52) := (by rw [hw]; exact HP54.2); have hp_ : Kd.R k36 36 w55 w.heap.size (fun _ => True) (.slice (some ⟨go52, 0, none⟩) x3_4.length co52) y277 := (by rw [hw, Ny277.out]; exact HP54.1); clear HP54; have n0_ := Aside0.mk (hp_); have n1_ := Aside0.mk ((by rw [hw]; exact below_set (below_set (below_set (below_set (HB.out) GB52.out) GB52.out) GB52.out) GB52.out : Below w.heap.size w w55)); clear HO_3; clear HB; have HO_3 := n0_; have HB := n1_; clear n0_ n1_; clear hg hw hp_))
                                            go_roundg k4
                                            case measure => have := HK1.out; have := HJ3.out; have := HK3.out; have := HK4.out; omega
                                            case rel => exact ⟨(y277), (wrap64 (x4_1 + 1)), (by first | rfl | (simp; done) | (simp [*]; done)), H', ⟨by have := HK1.out; have := HJ3.out; have := HK3.out; have := HK4.out; omega⟩, ⟨oR HO_3⟩, ⟨oB HB⟩⟩
                                          · rw [if_neg c51] at H
                                            exact absurd H (by simp)
                                        · rw [if_neg c50] at H
                                          exact absurd H (by simp)
                                      · rw [if_neg c49] at H
                                        exact absurd H (by simp)
                                    · rw [if_neg c48] at H
                                      exact absurd H (by simp)
                            · rw [if_neg c21] at H
                              exact absurd H (by simp)
                          · rw [if_neg c20] at H
                            exact absurd H (by simp)
                        · rw [if_neg c19] at H
                          exact absurd H (by simp)
                      · replace c18 := Bool.eq_false_iff.mpr c18
                        subst c18
                        rw [if_neg (show ¬ (false = true) by decide)] at H
                        have H' := Aside0.mk H
                        clear H
                        go_wp2
                        go_roundg k3
                        case measure => have := HK1.out; have := HJ3.out; have := HK3.out; omega
                        case rel => exact ⟨(x3_1), (wrap64 (x4_1 + 1)), (by first | rfl | (simp; done) | (simp [*]; done)), H', ⟨by have := HK1.out; have := HJ3.out; have := HK3.out; omega⟩, ⟨oR HO_3⟩, ⟨oB HB⟩⟩
              · rw [if_neg c10] at H
                exact absurd H (by simp)
            · rw [if_neg c9] at H
              exact absurd H (by simp)
          · replace c8 := Bool.eq_false_iff.mpr c8
            subst c8
            rw [if_neg (show ¬ (false = true) by decide)] at H
            obtain rfl := Option.some.inj H
            go_wp2
            go_ret
            exact ⟨_, by first | rfl | (simp [errW_none, errW_some] <;> rfl) | (simp [*, errW_none, errW_some] <;> rfl), oR HO_3, oB HB⟩
end Go.Proofs.Ytnknnbpodpfljaa.P


namespace Go.Proofs.Ytnknnbpodpfljaa.Q
set_option linter.unusedVariables false
set_option linter.unusedSimpArgs false
open Go.RowKit Go.Proofs.Ytnknnbpodpfljaa.P Go.Proofs.YtnknnbpodpfljaaW.PrintWords Go.Proofs.YtnknnbpodpfljaaW.PrintMore
def beforeE (a b : S36) : Bool := if a.f1 = b.f1 then (if a.f2 = b.f2 then (if a.f0.f0 = b.f0.f0 then decide (a.f0.f1 < b.f0.f1) else decide (a.f0.f0 < b.f0.f0)) else decide (a.f2 < b.f2)) else decide (a.f1 > b.f1)
theorem before_eq (a b : S36) : spec_l35Before.f a.f0.f0 a.f0.f1 a.f1 a.f2 b.f0.f0 b.f0.f1 b.f1 b.f2 = some (beforeE a b) := by
  unfold spec_l35Before.f beforeE
  by_cases h1 : a.f1 = b.f1 <;> by_cases h2 : a.f2 = b.f2 <;> by_cases h3 : a.f0.f0 = b.f0.f0 <;> simp [h1, h2, h3]
theorem entry_eq {a b : S36} (h0 : a.f0.f0 = b.f0.f0) (h1 : a.f0.f1 = b.f0.f1) (h2 : a.f1 = b.f1) (h3 : a.f2 = b.f2) : a = b := by
  obtain ⟨⟨x, y⟩, z, u⟩ := a
  obtain ⟨⟨x', y'⟩, z', u'⟩ := b
  simp only at h0 h1 h2 h3
  rw [h0, h1, h2, h3]
theorem before_total {a b : S36} (h : a ≠ b) : beforeE a b = true ∨ beforeE b a = true := by
  unfold beforeE
  by_cases h1 : a.f1 = b.f1
  · by_cases h2 : a.f2 = b.f2
    · by_cases h3 : a.f0.f0 = b.f0.f0
      · by_cases h4 : a.f0.f1 = b.f0.f1
        · exact absurd (entry_eq h3 h4 h1 h2) h
        · simp [h1, h2, h3]; omega
      · simp [h1, h2, h3, Ne.symm h3]; omega
    · simp [h1, h2, Ne.symm h2]; omega
  · simp [h1, Ne.symm h1]; omega
theorem before_asymm {a b : S36} (h : beforeE a b = true) : beforeE b a = false := by
  unfold beforeE at h ⊢
  by_cases h1 : a.f1 = b.f1
  · by_cases h2 : a.f2 = b.f2
    · by_cases h3 : a.f0.f0 = b.f0.f0
      · simp [h1, h2, h3] at h ⊢; omega
      · simp [h1, h2, h3, Ne.symm h3] at h ⊢; omega
    · simp [h1, h2, Ne.symm h2] at h ⊢; omega
  · simp [h1, Ne.symm h1] at h ⊢; omega
theorem before_irrefl (a : S36) : beforeE a a = false := by simp [beforeE]
theorem before_iff {a b : S36} : beforeE a b = true ↔ a.f1 > b.f1 ∨ (a.f1 = b.f1 ∧ (a.f2 < b.f2 ∨ (a.f2 = b.f2 ∧ (a.f0.f0 < b.f0.f0 ∨ (a.f0.f0 = b.f0.f0 ∧ a.f0.f1 < b.f0.f1))))) := by
  unfold beforeE
  by_cases h1 : a.f1 = b.f1
  · by_cases h2 : a.f2 = b.f2
    · by_cases h3 : a.f0.f0 = b.f0.f0
      · rw [if_pos h1, if_pos h2, if_pos h3, decide_eq_true_eq]; omega
      · rw [if_pos h1, if_pos h2, if_neg h3, decide_eq_true_eq]; omega
    · rw [if_pos h1, if_neg h2, decide_eq_true_eq]; omega
  · rw [if_neg h1, decide_eq_true_eq]; omega
theorem before_trans {a b c : S36} (h : beforeE a b = true) (k : beforeE b c = true) : beforeE a c = true := by
  rw [before_iff] at h k ⊢
  omega
theorem sorted_ext : ∀ {xs ys : List S36}, xs.Pairwise (fun a b => beforeE a b = true) → ys.Pairwise (fun a b => beforeE a b = true) → (∀ a, a ∈ xs ↔ a ∈ ys) → xs = ys
  | [], [], _, _, _ => rfl
  | [], y :: _, _, _, h => by have := (h y).mpr (by simp); simp at this
  | x :: _, [], _, _, h => by have := (h x).mp (by simp); simp at this
  | x :: xs, y :: ys, hx, hy, h => by
    obtain ⟨hx1, hx2⟩ := List.pairwise_cons.1 hx
    obtain ⟨hy1, hy2⟩ := List.pairwise_cons.1 hy
    have e : x = y := by
      rcases List.mem_cons.1 ((h x).mp (by simp)) with e | e
      · exact e
      rcases List.mem_cons.1 ((h y).mpr (by simp)) with e' | e'
      · exact e'.symm
      have a1 := hy1 x e
      have a2 := hx1 y e'
      rw [before_asymm a1] at a2
      cases a2
    subst e
    rw [sorted_ext hx2 hy2 (fun a => ⟨fun ha => by
      rcases List.mem_cons.1 ((h a).mp (List.mem_cons_of_mem _ ha)) with e | e
      · subst e; have := hx1 a ha; rw [before_irrefl] at this; cases this
      · exact e, fun ha => by
      rcases List.mem_cons.1 ((h a).mpr (List.mem_cons_of_mem _ ha)) with e | e
      · subst e; have := hy1 a ha; rw [before_irrefl] at this; cases this
      · exact e⟩)]
def insAt (x : S36) (out : List S36) : Nat → List S36
  | 0 => x :: out
  | n + 1 => if beforeE x (out.getD n z36) = true then insAt x out n else out.take (n + 1) ++ x :: out.drop (n + 1)
theorem mem_insAt (x : S36) (out : List S36) (a : S36) : ∀ n, a ∈ insAt x out n ↔ a = x ∨ a ∈ out
  | 0 => by simp [insAt]
  | n + 1 => by
    unfold insAt
    split
    · exact mem_insAt x out a n
    · rw [List.mem_append, List.mem_cons]
      constructor
      · rintro (h | h | h)
        · exact .inr (List.mem_of_mem_take h)
        · exact .inl h
        · exact .inr (List.mem_of_mem_drop h)
      · rintro (h | h)
        · exact .inr (.inl h)
        · rw [← List.take_append_drop (n + 1) out, List.mem_append] at h
          rcases h with h | h
          · exact .inl h
          · exact .inr (.inr h)
theorem insAt_length (x : S36) (out : List S36) : ∀ n, (insAt x out n).length = out.length + 1
  | 0 => by simp [insAt]
  | n + 1 => by
    unfold insAt
    split
    · exact insAt_length x out n
    · have := congrArg List.length (List.take_append_drop (n + 1) out)
      simp only [List.length_append, List.length_cons] at this ⊢
      omega
theorem sorted_insAt (x : S36) (out : List S36) (hs : out.Pairwise (fun a b => beforeE a b = true)) (hx : ∀ a ∈ out, a ≠ x) :
    ∀ n, n ≤ out.length → (∀ a ∈ out.drop n, beforeE x a = true) → (insAt x out n).Pairwise (fun a b => beforeE a b = true)
  | 0, _, h => by
    unfold insAt
    exact List.pairwise_cons.2 ⟨fun a ha => h a (by simpa using ha), hs⟩
  | n + 1, hn, h => by
    have hlt : n < out.length := by omega
    have e : out.getD n z36 = out[n] := by simp [List.getD_eq_getElem?_getD, hlt]
    unfold insAt
    rw [e]
    split
    · rename_i hb
      refine sorted_insAt x out hs hx n (by omega) fun a ha => ?_
      rw [List.drop_eq_getElem_cons hlt] at ha
      rcases List.mem_cons.1 ha with rfl | ha
      · exact hb
      · exact h a ha
    · rename_i hb
      have hnx : beforeE out[n] x = true := by
        rcases before_total (hx out[n] (List.getElem_mem hlt)) with h' | h'
        · exact h'
        · exact absurd h' hb
      have hs' := hs
      rw [← List.take_append_drop (n + 1) out] at hs'
      obtain ⟨p1, p2, p3⟩ := List.pairwise_append.1 hs'
      refine List.pairwise_append.2 ⟨p1, List.pairwise_cons.2 ⟨h, p2⟩, fun a ha b hb' => ?_⟩
      have hax : beforeE a x = true := by
        rw [List.take_succ_eq_append_getElem hlt, List.mem_append, List.mem_singleton] at ha
        rcases ha with ha | rfl
        · rw [List.take_succ_eq_append_getElem hlt] at p1
          exact before_trans ((List.pairwise_append.1 p1).2.2 a ha out[n] (by simp)) hnx
        · exact hnx
      rcases List.mem_cons.1 hb' with rfl | hb'
      · exact hax
      · exact p3 a ha b hb'
end Go.Proofs.Ytnknnbpodpfljaa.Q

