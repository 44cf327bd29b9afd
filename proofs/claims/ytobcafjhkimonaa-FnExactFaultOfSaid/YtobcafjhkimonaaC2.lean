/- What functions of the program come to (f), that their calls come to just this (calls), and the plain laws over lists and numbers, and the law FnExactFaultOf: for every argument it answers true. No condition but those of the given row. -/
import Derived.Test.YtobcafjhkimonaaRows
import Derived.Test.YtobcafjhkimonaaC1
import Derived.Maps.RangeWalk
import Derived.Maps.OwnSet
import Derived.Maps.OwnOps
import Derived.Maps.Ext
import Derived.DeepKeys5
import Derived.Deep.Slices
import Derived.ChangeArms
import Derived.ChangeSame
import Derived.KernelRfl
import Derived.WalkKit
import Derived.ProofKit
import Derived.OpenShut
import Derived.ShutString
import Derived.ChangeOld
import Derived.Below
import Derived.SizedLaws
namespace Go.Proofs.Ytobcafjhkimonaa.P
open Go.RowKit Go.Proofs.YtobcafjhkimonaaW.PrintWords Go.Proofs.YtobcafjhkimonaaW.PrintLast Go.Proofs.YtobcafjhkimonaaW.PrintMore
attribute [local go_sem] max2_int min2_int max_two min_two max_three min_three max_four min_four
set_option linter.unusedVariables false
set_option linter.unusedSimpArgs false
def impl_LogOk.l0 : Nat → List (S54) → List (S54) → Int → Int → Option (Bool)
  | 0, _, _, _, _ => none
  | k + 1, x0, x5, x6, x7 => if x7 < x6 then (if 0 ≤ x7 then (if x7 < (x5.length : Int) then ((impl_within.f ((rd_T54 x5 x7).f0.f0) 0 3).bind fun t254 => (if t254 = true then ((impl_within.f ((rd_T54 x5 x7).f0.f1) 0 39).bind fun t255 => (if t255 = true then ((impl_within.f ((rd_T54 x5 x7).f1) 0 2).bind fun t256 => (if t256 = true then ((impl_within.f ((rd_T54 x5 x7).f2) 0 100000).bind fun t257 => (if t257 = true then (if x7 > 0 then (if 0 ≤ (wrap64 (x7 - 1)) then (if (wrap64 (x7 - 1)) < (x0.length : Int) then (if ((rd_T54 x0 (wrap64 (x7 - 1))).f2) > ((rd_T54 x5 x7).f2) then (some false) else (impl_LogOk.l0 k x0 x5 x6 (wrap64 (x7 + 1)))) else (none)) else (none)) else (impl_LogOk.l0 k x0 x5 x6 (wrap64 (x7 + 1)))) else (some false))) else (some false))) else (some false))) else (some false))) else (none)) else (none)) else (some (decide ((x0.length : Int) ≤ 30)))
def impl_LogOk.f (k : Nat) (l0 : List (S54)) : Option (Bool) := impl_LogOk.l0 k l0 l0 (l0.length : Int) 0
set_option maxHeartbeats 8000000 in
set_option maxRecDepth 100000 in
theorem impl_LogOk.calls (k : Nat) (A0 : Option Addr) (c0 : Nat) (l0 : List (S54)) (r : Bool) (w : World) (hr0 : Kd.C k54 w A0 l0.length l0) (hc0 : l0.length ≤ c0) (h : impl_LogOk.f k l0 = some r) :
    Calls Try.prog 23 #[.slice A0 l0.length c0] w fun e w' => e = .returned (.bool r) ∧ Below w.heap.size w w' := by
  have hu54 := Try.underlying54
  have HR0 := Aside0.mk hr0
  have HC0 := Aside0.mk hc0
  clear hr0 hc0
  have HB := Aside0.mk (Below.refl w.heap.size w)
  have H : (impl_LogOk.l0 k l0 l0 (l0.length : Int) 0) = some r := h
  clear h
  have H' := Aside0.mk H
  clear H
  go_enter Try.func23, Try.ntmps23
  go_wp2
  repeat (go_quiet (fail); try go_wp2)
  go_loopg [7] k (fun kq v7 w' => ∃ (x7_1 : Int), v7 = .int .i64 x7_1 ∧ Aside0 (impl_LogOk.l0 kq l0 l0 (l0.length : Int) x7_1 = some r) ∧ Aside0 (kq ≤ k) ∧ Aside0 (Below w.heap.size w w'))
  case atStart => exact ⟨(0), (by first | rfl | (simp; done) | (simp [*]; done)), H', ⟨Nat.le_refl _⟩, ⟨oB HB⟩⟩
  case round =>
    clear H'
    obtain ⟨x7_1, rfl, HA, HK1, HB⟩ := hrel
    cases gk with
    | zero => exact absurd HA.out (by simp [impl_LogOk.l0])
    | succ k1 =>
      have H := HA.out
      clear HA
      simp only [impl_LogOk.l0] at H
      by_cases c2 : x7_1 < (l0.length : Int)
      · rw [if_pos c2] at H
        have c2b0 : decide (x7_1 < (l0.length : Int)) = true := decide_eq_true c2
        clear c2
        by_cases c3 : 0 ≤ x7_1
        · rw [if_pos c3] at H
          have c3b0 : decide (0 ≤ x7_1) = true := decide_eq_true c3
          clear c3
          by_cases c4 : x7_1 < (l0.length : Int)
          · rw [if_pos c4] at H
            have c4b0 : decide (x7_1 < (l0.length : Int)) = true := decide_eq_true c4
            clear c4
            replace H := Option.bind_eq_some_iff.mp H
            obtain ⟨t254, A50, H⟩ := H
            (try dsimp only at H)
            have A5 := Aside0.mk A50
            clear A50
            by_cases c6 : t254 = true
            · subst c6
              rw [if_pos rfl] at H
              replace H := Option.bind_eq_some_iff.mp H
              obtain ⟨t255, A70, H⟩ := H
              (try dsimp only at H)
              have A7 := Aside0.mk A70
              clear A70
              by_cases c8 : t255 = true
              · subst c8
                rw [if_pos rfl] at H
                replace H := Option.bind_eq_some_iff.mp H
                obtain ⟨t256, A90, H⟩ := H
                (try dsimp only at H)
                have A9 := Aside0.mk A90
                clear A90
                by_cases c10 : t256 = true
                · subst c10
                  rw [if_pos rfl] at H
                  replace H := Option.bind_eq_some_iff.mp H
                  obtain ⟨t257, A110, H⟩ := H
                  (try dsimp only at H)
                  have A11 := Aside0.mk A110
                  clear A110
                  by_cases c12 : t257 = true
                  · subst c12
                    rw [if_pos rfl] at H
                    by_cases c13 : x7_1 > 0
                    · rw [if_pos c13] at H
                      have c13b0 : decide (0 < x7_1) = true := decide_eq_true c13
                      clear c13
                      obtain ⟨ji14, hji14⟩ : ∃ j_ : Int, (wrap64 (x7_1 - 1)) = j_ := ⟨_, rfl⟩
                      replace H : (if 0 ≤ (ji14) then (if (ji14) < (l0.length : Int) then (if ((rd_T54 l0 (ji14)).f2) > ((rd_T54 l0 x7_1).f2) then (some false) else (impl_LogOk.l0 k1 l0 l0 (l0.length : Int) (wrap64 (x7_1 + 1)))) else (none)) else (none)) = some r := by first | (rw [hji14] at H; exact H) | (simp only [hji14] at H ⊢; exact H)
                      (try rw [hji14] at A5)
                      (try rw [hji14] at A7)
                      (try rw [hji14] at A9)
                      (try rw [hji14] at A11)
                      have hji14w : (IntKind.i64.wrap (x7_1 - 1)) = ji14 := (i64_w _).trans hji14
                      by_cases c15 : 0 ≤ (ji14)
                      · rw [if_pos c15] at H
                        have c15b0 : decide (0 ≤ (ji14)) = true := decide_eq_true c15
                        clear c15
                        by_cases c16 : (ji14) < (l0.length : Int)
                        · rw [if_pos c16] at H
                          have c16b0 : decide ((ji14) < (l0.length : Int)) = true := decide_eq_true c16
                          clear c16
                          by_cases c17 : ((rd_T54 l0 (ji14)).f2) > ((rd_T54 l0 x7_1).f2)
                          · rw [if_pos c17] at H
                            have c17b0 : decide (((rd_T54 l0 x7_1).f2) < ((rd_T54 l0 (ji14)).f2)) = true := decide_eq_true c17
                            clear c17
                            obtain rfl := Option.some.inj H
                            have p252 : 0 ≤ (x7_1 : Int) := of_decide_eq_true (by first | (with_reducible assumption) | assumption)
                            have q252 : x7_1 < (l0.length : Int) := of_decide_eq_true (by first | (with_reducible assumption) | assumption)
                            obtain ⟨ad252, e252, hx252_0, hx252_1, hx252_2, hx252_3⟩ := at_T54 HR0.out x7_1 p252 q252
                            cases e252
                            replace hx252_0 := (HB.out.cell (World.block_lt_of_cell? w _ hx252_0)).trans hx252_0
                            replace hx252_1 := (HB.out.cell (World.block_lt_of_cell? w _ hx252_1)).trans hx252_1
                            replace hx252_2 := (HB.out.cell (World.block_lt_of_cell? w _ hx252_2)).trans hx252_2
                            replace hx252_3 := (HB.out.cell (World.block_lt_of_cell? w _ hx252_3)).trans hx252_3
                            replace p252 := eq_true p252
                            replace q252 := eq_true q252
                            go_wp2_with (first | ((with_reducible refine gate_dst (N := 4) rfl ?_); refine box_event ?hg (N := 4) ?hd (cs := #[.int .i64 0, .int .i64 0, .int .i64 0, .int .i64 0]) (t := 54) ?hr ?_; (case hd => rfl); (case hg => rfl); (case hr => first | (go_simp; done) | (go_simp; rfl)); intro gb253 hg w18 hbox hb; have n0_ := Aside0.mk (below_step (oB HB) hb); have n1_ := Aside0.mk (hbox); have n2_ := Aside0.mk ((by rw [hg]; exact (below_size (oB HB)) : w.heap.size ≤ gb253)); have n3_ := Aside0.mk ((by rw [hg]; exact (below_size (oB HB)) : w.heap.size ≤ gb253)); clear HB; have HB := n0_; have BK253 := n1_; have GW253 := n2_; have GE253 := n3_; clear n0_ n1_ n2_ n3_; clear hb hbox hg; have hcz19_0 : w18.cell? ⟨gb253, 0, none⟩ = some (.int .i64 0) := (blk_cell BK253.out 0).trans rfl; have hcz19_1 : w18.cell? ⟨gb253, 1, none⟩ = some (.int .i64 0) := (blk_cell BK253.out 1).trans rfl; have hcz19_2 : w18.cell? ⟨gb253, 2, none⟩ = some (.int .i64 0) := (blk_cell BK253.out 2).trans rfl; have hcz19_3 : w18.cell? ⟨gb253, 3, none⟩ = some (.int .i64 0) := (blk_cell BK253.out 3).trans rfl; have hfz19_0 := blk_frozen BK253.out 0; have hfz19_1 := blk_frozen BK253.out 1; have hfz19_2 := blk_frozen BK253.out 2; have hfz19_3 := blk_frozen BK253.out 3) | (go_at_call 32; (with_reducible refine (impl_within.calls ((rd_T54 l0 x7_1).f0.f0) 0 3 true _ A5.out).mono ?_); rintro e w' ⟨rfl, ⟨nd, rfl⟩⟩; (try first | exact ⟨rfl, _, World.drewN_drewN _ _ _⟩ | exact ⟨rfl, _, Eq.trans (World.drewN_drewN _ _ _) (congrArg (World.drewN _) (Nat.add_assoc _ _ _))⟩)) | (go_at_call 32; (with_reducible refine (impl_within.calls ((rd_T54 l0 x7_1).f0.f1) 0 39 true _ A7.out).mono ?_); rintro e w' ⟨rfl, ⟨nd, rfl⟩⟩; (try first | exact ⟨rfl, _, World.drewN_drewN _ _ _⟩ | exact ⟨rfl, _, Eq.trans (World.drewN_drewN _ _ _) (congrArg (World.drewN _) (Nat.add_assoc _ _ _))⟩)) | (go_at_call 32; (with_reducible refine (impl_within.calls ((rd_T54 l0 x7_1).f1) 0 2 true _ A9.out).mono ?_); rintro e w' ⟨rfl, ⟨nd, rfl⟩⟩; (try first | exact ⟨rfl, _, World.drewN_drewN _ _ _⟩ | exact ⟨rfl, _, Eq.trans (World.drewN_drewN _ _ _) (congrArg (World.drewN _) (Nat.add_assoc _ _ _))⟩)) | (go_at_call 32; (with_reducible refine (impl_within.calls ((rd_T54 l0 x7_1).f2) 0 100000 true _ A11.out).mono ?_); rintro e w' ⟨rfl, ⟨nd, rfl⟩⟩; (try first | exact ⟨rfl, _, World.drewN_drewN _ _ _⟩ | exact ⟨rfl, _, Eq.trans (World.drewN_drewN _ _ _) (congrArg (World.drewN _) (Nat.add_assoc _ _ _))⟩); have p258 : 0 ≤ ((ji14) : Int) := of_decide_eq_true (by first | (with_reducible assumption) | assumption); have q258 : (ji14) < (l0.length : Int) := of_decide_eq_true (by first | (with_reducible assumption) | assumption); obtain ⟨ad258, e258, hx258_0, hx258_1, hx258_2, hx258_3⟩ := at_T54 HR0.out (ji14) p258 q258; obtain rfl : ad252 = ad258 := (by injection e258); have hn258_0 : ad252.block ≠ gb253 := Nat.ne_of_lt (Nat.lt_of_lt_of_le (by have := World.block_lt_of_cell? _ _ hx258_0; first | rwa [add_block] at this | exact this) GW253.out); have hn258_1 : ad252.block ≠ gb253 := Nat.ne_of_lt (Nat.lt_of_lt_of_le (by have := World.block_lt_of_cell? _ _ hx258_0; first | rwa [add_block] at this | exact this) GW253.out); have hn258_2 : ad252.block ≠ gb253 := Nat.ne_of_lt (Nat.lt_of_lt_of_le (by have := World.block_lt_of_cell? _ _ hx258_0; first | rwa [add_block] at this | exact this) GW253.out); have hn258_3 : ad252.block ≠ gb253 := Nat.ne_of_lt (Nat.lt_of_lt_of_le (by have := World.block_lt_of_cell? _ _ hx258_0; first | rwa [add_block] at this | exact this) GW253.out); replace hx258_0 := (HB.out.cell (World.block_lt_of_cell? w _ hx258_0)).trans hx258_0; replace hx258_1 := (HB.out.cell (World.block_lt_of_cell? w _ hx258_1)).trans hx258_1; replace hx258_2 := (HB.out.cell (World.block_lt_of_cell? w _ hx258_2)).trans hx258_2; replace hx258_3 := (HB.out.cell (World.block_lt_of_cell? w _ hx258_3)).trans hx258_3; replace hx258_0 := (cell_far (p := ⟨gb253, 0, none⟩) (by first | (rw [add_block]; exact hn258_0) | (show (Addr.add _ _).block ≠ _; rw [add_block]; exact hn258_0) | exact hn258_0) (.int .i64 ((rd_T54 l0 x7_1).f0.f0))).trans hx258_0; replace hx258_1 := (cell_far (p := ⟨gb253, 0, none⟩) (by first | (rw [add_block]; exact hn258_0) | (show (Addr.add _ _).block ≠ _; rw [add_block]; exact hn258_0) | exact hn258_0) (.int .i64 ((rd_T54 l0 x7_1).f0.f0))).trans hx258_1; replace hx258_2 := (cell_far (p := ⟨gb253, 0, none⟩) (by first | (rw [add_block]; exact hn258_0) | (show (Addr.add _ _).block ≠ _; rw [add_block]; exact hn258_0) | exact hn258_0) (.int .i64 ((rd_T54 l0 x7_1).f0.f0))).trans hx258_2; replace hx258_3 := (cell_far (p := ⟨gb253, 0, none⟩) (by first | (rw [add_block]; exact hn258_0) | (show (Addr.add _ _).block ≠ _; rw [add_block]; exact hn258_0) | exact hn258_0) (.int .i64 ((rd_T54 l0 x7_1).f0.f0))).trans hx258_3; replace hx258_0 := (cell_far (p := ⟨gb253, 1, none⟩) (by first | (rw [add_block]; exact hn258_1) | (show (Addr.add _ _).block ≠ _; rw [add_block]; exact hn258_1) | exact hn258_1) (.int .i64 ((rd_T54 l0 x7_1).f0.f1))).trans hx258_0; replace hx258_1 := (cell_far (p := ⟨gb253, 1, none⟩) (by first | (rw [add_block]; exact hn258_1) | (show (Addr.add _ _).block ≠ _; rw [add_block]; exact hn258_1) | exact hn258_1) (.int .i64 ((rd_T54 l0 x7_1).f0.f1))).trans hx258_1; replace hx258_2 := (cell_far (p := ⟨gb253, 1, none⟩) (by first | (rw [add_block]; exact hn258_1) | (show (Addr.add _ _).block ≠ _; rw [add_block]; exact hn258_1) | exact hn258_1) (.int .i64 ((rd_T54 l0 x7_1).f0.f1))).trans hx258_2; replace hx258_3 := (cell_far (p := ⟨gb253, 1, none⟩) (by first | (rw [add_block]; exact hn258_1) | (show (Addr.add _ _).block ≠ _; rw [add_block]; exact hn258_1) | exact hn258_1) (.int .i64 ((rd_T54 l0 x7_1).f0.f1))).trans hx258_3; replace hx258_0 := (cell_far (p := ⟨gb253, 2, none⟩) (by first | (rw [add_block]; exact hn258_2) | (show (Addr.add _ _).block ≠ _; rw [add_block]; exact hn258_2) | exact hn258_2) (.int .i64 ((rd_T54 l0 x7_1).f1))).trans hx258_0; replace hx258_1 := (cell_far (p := ⟨gb253, 2, none⟩) (by first | (rw [add_block]; exact hn258_2) | (show (Addr.add _ _).block ≠ _; rw [add_block]; exact hn258_2) | exact hn258_2) (.int .i64 ((rd_T54 l0 x7_1).f1))).trans hx258_1; replace hx258_2 := (cell_far (p := ⟨gb253, 2, none⟩) (by first | (rw [add_block]; exact hn258_2) | (show (Addr.add _ _).block ≠ _; rw [add_block]; exact hn258_2) | exact hn258_2) (.int .i64 ((rd_T54 l0 x7_1).f1))).trans hx258_2; replace hx258_3 := (cell_far (p := ⟨gb253, 2, none⟩) (by first | (rw [add_block]; exact hn258_2) | (show (Addr.add _ _).block ≠ _; rw [add_block]; exact hn258_2) | exact hn258_2) (.int .i64 ((rd_T54 l0 x7_1).f1))).trans hx258_3; replace hx258_0 := (cell_far (p := ⟨gb253, 3, none⟩) (by first | (rw [add_block]; exact hn258_3) | (show (Addr.add _ _).block ≠ _; rw [add_block]; exact hn258_3) | exact hn258_3) (.int .i64 ((rd_T54 l0 x7_1).f2))).trans hx258_0; replace hx258_1 := (cell_far (p := ⟨gb253, 3, none⟩) (by first | (rw [add_block]; exact hn258_3) | (show (Addr.add _ _).block ≠ _; rw [add_block]; exact hn258_3) | exact hn258_3) (.int .i64 ((rd_T54 l0 x7_1).f2))).trans hx258_1; replace hx258_2 := (cell_far (p := ⟨gb253, 3, none⟩) (by first | (rw [add_block]; exact hn258_3) | (show (Addr.add _ _).block ≠ _; rw [add_block]; exact hn258_3) | exact hn258_3) (.int .i64 ((rd_T54 l0 x7_1).f2))).trans hx258_2; replace hx258_3 := (cell_far (p := ⟨gb253, 3, none⟩) (by first | (rw [add_block]; exact hn258_3) | (show (Addr.add _ _).block ≠ _; rw [add_block]; exact hn258_3) | exact hn258_3) (.int .i64 ((rd_T54 l0 x7_1).f2))).trans hx258_3; (try have hy258_0 := fun (n_ : Nat) => (show ((((((w18.drewN n_).setCell ⟨gb253, 0, none⟩ (.int .i64 ((rd_T54 l0 x7_1).f0.f0))).setCell ⟨gb253, 1, none⟩ (.int .i64 ((rd_T54 l0 x7_1).f0.f1))).setCell ⟨gb253, 2, none⟩ (.int .i64 ((rd_T54 l0 x7_1).f1))).setCell ⟨gb253, 3, none⟩ (.int .i64 ((rd_T54 l0 x7_1).f2)))).cell? _ = some _ from hx258_0)); (try have hy258_1 := fun (n_ : Nat) => (show ((((((w18.drewN n_).setCell ⟨gb253, 0, none⟩ (.int .i64 ((rd_T54 l0 x7_1).f0.f0))).setCell ⟨gb253, 1, none⟩ (.int .i64 ((rd_T54 l0 x7_1).f0.f1))).setCell ⟨gb253, 2, none⟩ (.int .i64 ((rd_T54 l0 x7_1).f1))).setCell ⟨gb253, 3, none⟩ (.int .i64 ((rd_T54 l0 x7_1).f2)))).cell? _ = some _ from hx258_1)); (try have hy258_2 := fun (n_ : Nat) => (show ((((((w18.drewN n_).setCell ⟨gb253, 0, none⟩ (.int .i64 ((rd_T54 l0 x7_1).f0.f0))).setCell ⟨gb253, 1, none⟩ (.int .i64 ((rd_T54 l0 x7_1).f0.f1))).setCell ⟨gb253, 2, none⟩ (.int .i64 ((rd_T54 l0 x7_1).f1))).setCell ⟨gb253, 3, none⟩ (.int .i64 ((rd_T54 l0 x7_1).f2)))).cell? _ = some _ from hx258_2)); (try have hy258_3 := fun (n_ : Nat) => (show ((((((w18.drewN n_).setCell ⟨gb253, 0, none⟩ (.int .i64 ((rd_T54 l0 x7_1).f0.f0))).setCell ⟨gb253, 1, none⟩ (.int .i64 ((rd_T54 l0 x7_1).f0.f1))).setCell ⟨gb253, 2, none⟩ (.int .i64 ((rd_T54 l0 x7_1).f1))).setCell ⟨gb253, 3, none⟩ (.int .i64 ((rd_T54 l0 x7_1).f2)))).cell? _ = some _ from hx258_3)); clear hn258_0; clear hn258_1; clear hn258_2; clear hn258_3; replace p258 := eq_true p258; replace q258 := eq_true q258))
                            repeat (go_quiet (first | ((with_reducible refine gate_dst (N := 4) rfl ?_); refine box_event ?hg (N := 4) ?hd (cs := #[.int .i64 0, .int .i64 0, .int .i64 0, .int .i64 0]) (t := 54) ?hr ?_; (case hd => rfl); (case hg => rfl); (case hr => first | (go_simp; done) | (go_simp; rfl)); intro gb253 hg w18 hbox hb; have n0_ := Aside0.mk (below_step (oB HB) hb); have n1_ := Aside0.mk (hbox); have n2_ := Aside0.mk ((by rw [hg]; exact (below_size (oB HB)) : w.heap.size ≤ gb253)); have n3_ := Aside0.mk ((by rw [hg]; exact (below_size (oB HB)) : w.heap.size ≤ gb253)); clear HB; have HB := n0_; have BK253 := n1_; have GW253 := n2_; have GE253 := n3_; clear n0_ n1_ n2_ n3_; clear hb hbox hg; have hcz19_0 : w18.cell? ⟨gb253, 0, none⟩ = some (.int .i64 0) := (blk_cell BK253.out 0).trans rfl; have hcz19_1 : w18.cell? ⟨gb253, 1, none⟩ = some (.int .i64 0) := (blk_cell BK253.out 1).trans rfl; have hcz19_2 : w18.cell? ⟨gb253, 2, none⟩ = some (.int .i64 0) := (blk_cell BK253.out 2).trans rfl; have hcz19_3 : w18.cell? ⟨gb253, 3, none⟩ = some (.int .i64 0) := (blk_cell BK253.out 3).trans rfl; have hfz19_0 := blk_frozen BK253.out 0; have hfz19_1 := blk_frozen BK253.out 1; have hfz19_2 := blk_frozen BK253.out 2; have hfz19_3 := blk_frozen BK253.out 3) | (go_at_call 32; (with_reducible refine (impl_within.calls ((rd_T54 l0 x7_1).f0.f0) 0 3 true _ A5.out).mono ?_); rintro e w' ⟨rfl, ⟨nd, rfl⟩⟩; (try first | exact ⟨rfl, _, World.drewN_drewN _ _ _⟩ | exact ⟨rfl, _, Eq.trans (World.drewN_drewN _ _ _) (congrArg (World.drewN _) (Nat.add_assoc _ _ _))⟩)) | (go_at_call 32; (with_reducible refine (impl_within.calls ((rd_T54 l0 x7_1).f0.f1) 0 39 true _ A7.out).mono ?_); rintro e w' ⟨rfl, ⟨nd, rfl⟩⟩; (try first | exact ⟨rfl, _, World.drewN_drewN _ _ _⟩ | exact ⟨rfl, _, Eq.trans (World.drewN_drewN _ _ _) (congrArg (World.drewN _) (Nat.add_assoc _ _ _))⟩)) | (go_at_call 32; (with_reducible refine (impl_within.calls ((rd_T54 l0 x7_1).f1) 0 2 true _ A9.out).mono ?_); rintro e w' ⟨rfl, ⟨nd, rfl⟩⟩; (try first | exact ⟨rfl, _, World.drewN_drewN _ _ _⟩ | exact ⟨rfl, _, Eq.trans (World.drewN_drewN _ _ _) (congrArg (World.drewN _) (Nat.add_assoc _ _ _))⟩)) | (go_at_call 32; (with_reducible refine (impl_within.calls ((rd_T54 l0 x7_1).f2) 0 100000 true _ A11.out).mono ?_); rintro e w' ⟨rfl, ⟨nd, rfl⟩⟩; (try first | exact ⟨rfl, _, World.drewN_drewN _ _ _⟩ | exact ⟨rfl, _, Eq.trans (World.drewN_drewN _ _ _) (congrArg (World.drewN _) (Nat.add_assoc _ _ _))⟩); have p258 : 0 ≤ ((ji14) : Int) := of_decide_eq_true (by first | (with_reducible assumption) | assumption); have q258 : (ji14) < (l0.length : Int) := of_decide_eq_true (by first | (with_reducible assumption) | assumption); obtain ⟨ad258, e258, hx258_0, hx258_1, hx258_2, hx258_3⟩ := at_T54 HR0.out (ji14) p258 q258; obtain rfl : ad252 = ad258 := (by injection e258); have hn258_0 : ad252.block ≠ gb253 := Nat.ne_of_lt (Nat.lt_of_lt_of_le (by have := World.block_lt_of_cell? _ _ hx258_0; first | rwa [add_block] at this | exact this) GW253.out); have hn258_1 : ad252.block ≠ gb253 := Nat.ne_of_lt (Nat.lt_of_lt_of_le (by have := World.block_lt_of_cell? _ _ hx258_0; first | rwa [add_block] at this | exact this) GW253.out); have hn258_2 : ad252.block ≠ gb253 := Nat.ne_of_lt (Nat.lt_of_lt_of_le (by have := World.block_lt_of_cell? _ _ hx258_0; first | rwa [add_block] at this | exact this) GW253.out); have hn258_3 : ad252.block ≠ gb253 := Nat.ne_of_lt (Nat.lt_of_lt_of_le (by have := World.block_lt_of_cell? _ _ hx258_0; first | rwa [add_block] at this | exact this) GW253.out); replace hx258_0 := (HB.out.cell (World.block_lt_of_cell? w _ hx258_0)).trans hx258_0; replace hx258_1 := (HB.out.cell (World.block_lt_of_cell? w _ hx258_1)).trans hx258_1; replace hx258_2 := (HB.out.cell (World.block_lt_of_cell? w _ hx258_2)).trans hx258_2; replace hx258_3 := (HB.out.cell (World.block_lt_of_cell? w _ hx258_3)).trans hx258_3; replace hx258_0 := (cell_far (p := ⟨gb253, 0, none⟩) (by first | (rw [add_block]; exact hn258_0) | (show (Addr.add _ _).block ≠ _; rw [add_block]; exact hn258_0) | exact hn258_0) (.int .i64 ((rd_T54 l0 x7_1).f0.f0))).trans hx258_0; replace hx258_1 := (cell_far (p := ⟨gb253, 0, none⟩) (by first | (rw [add_block]; exact hn258_0) | (show (Addr.add _ _).block ≠ _; rw [add_block]; exact hn258_0) | exact hn258_0) (.int .i64 ((rd_T54 l0 x7_1).f0.f0))).trans hx258_1; replace hx258_2 := (cell_far (p := ⟨gb253, 0, none⟩) (by first | (rw [add_block]; exact hn258_0) | (show (Addr.add _ _).block ≠ _; rw [add_block]; exact hn258_0) | exact hn258_0) (.int .i64 ((rd_T54 l0 x7_1).f0.f0))).trans hx258_2; replace hx258_3 := (cell_far (p := ⟨gb253, 0, none⟩) (by first | (rw [add_block]; exact hn258_0) | (show (Addr.add _ _).block ≠ _; rw [add_block]; exact hn258_0) | exact hn258_0) (.int .i64 ((rd_T54 l0 x7_1).f0.f0))).trans hx258_3; replace hx258_0 := (cell_far (p := ⟨gb253, 1, none⟩) (by first | (rw [add_block]; exact hn258_1) | (show (Addr.add _ _).block ≠ _; rw [add_block]; exact hn258_1) | exact hn258_1) (.int .i64 ((rd_T54 l0 x7_1).f0.f1))).trans hx258_0; replace hx258_1 := (cell_far (p := ⟨gb253, 1, none⟩) (by first | (rw [add_block]; exact hn258_1) | (show (Addr.add _ _).block ≠ _; rw [add_block]; exact hn258_1) | exact hn258_1) (.int .i64 ((rd_T54 l0 x7_1).f0.f1))).trans hx258_1; replace hx258_2 := (cell_far (p := ⟨gb253, 1, none⟩) (by first | (rw [add_block]; exact hn258_1) | (show (Addr.add _ _).block ≠ _; rw [add_block]; exact hn258_1) | exact hn258_1) (.int .i64 ((rd_T54 l0 x7_1).f0.f1))).trans hx258_2; replace hx258_3 := (cell_far (p := ⟨gb253, 1, none⟩) (by first | (rw [add_block]; exact hn258_1) | (show (Addr.add _ _).block ≠ _; rw [add_block]; exact hn258_1) | exact hn258_1) (.int .i64 ((rd_T54 l0 x7_1).f0.f1))).trans hx258_3; replace hx258_0 := (cell_far (p := ⟨gb253, 2, none⟩) (by first | (rw [add_block]; exact hn258_2) | (show (Addr.add _ _).block ≠ _; rw [add_block]; exact hn258_2) | exact hn258_2) (.int .i64 ((rd_T54 l0 x7_1).f1))).trans hx258_0; replace hx258_1 := (cell_far (p := ⟨gb253, 2, none⟩) (by first | (rw [add_block]; exact hn258_2) | (show (Addr.add _ _).block ≠ _; rw [add_block]; exact hn258_2) | exact hn258_2) (.int .i64 ((rd_T54 l0 x7_1).f1))).trans hx258_1; replace hx258_2 := (cell_far (p := ⟨gb253, 2, none⟩) (by first | (rw [add_block]; exact hn258_2) | (show (Addr.add _ _).block ≠ _; rw [add_block]; exact hn258_2) | exact hn258_2) (.int .i64 ((rd_T54 l0 x7_1).f1))).trans hx258_2; replace hx258_3 := (cell_far (p := ⟨gb253, 2, none⟩) (by first | (rw [add_block]; exact hn258_2) | (show (Addr.add _ _).block ≠ _; rw [add_block]; exact hn258_2) | exact hn258_2) (.int .i64 ((rd_T54 l0 x7_1).f1))).trans hx258_3; replace hx258_0 := (cell_far (p := ⟨gb253, 3, none⟩) (by first | (rw [add_block]; exact hn258_3) | (show (Addr.add _ _).block ≠ _; rw [add_block]; exact hn258_3) | exact hn258_3) (.int .i64 ((rd_T54 l0 x7_1).f2))).trans hx258_0; replace hx258_1 := (cell_far (p := ⟨gb253, 3, none⟩) (by first | (rw [add_block]; exact hn258_3) | (show (Addr.add _ _).block ≠ _; rw [add_block]; exact hn258_3) | exact hn258_3) (.int .i64 ((rd_T54 l0 x7_1).f2))).trans hx258_1; replace hx258_2 := (cell_far (p := ⟨gb253, 3, none⟩) (by first | (rw [add_block]; exact hn258_3) | (show (Addr.add _ _).block ≠ _; rw [add_block]; exact hn258_3) | exact hn258_3) (.int .i64 ((rd_T54 l0 x7_1).f2))).trans hx258_2; replace hx258_3 := (cell_far (p := ⟨gb253, 3, none⟩) (by first | (rw [add_block]; exact hn258_3) | (show (Addr.add _ _).block ≠ _; rw [add_block]; exact hn258_3) | exact hn258_3) (.int .i64 ((rd_T54 l0 x7_1).f2))).trans hx258_3; (try have hy258_0 := fun (n_ : Nat) => (show ((((((w18.drewN n_).setCell ⟨gb253, 0, none⟩ (.int .i64 ((rd_T54 l0 x7_1).f0.f0))).setCell ⟨gb253, 1, none⟩ (.int .i64 ((rd_T54 l0 x7_1).f0.f1))).setCell ⟨gb253, 2, none⟩ (.int .i64 ((rd_T54 l0 x7_1).f1))).setCell ⟨gb253, 3, none⟩ (.int .i64 ((rd_T54 l0 x7_1).f2)))).cell? _ = some _ from hx258_0)); (try have hy258_1 := fun (n_ : Nat) => (show ((((((w18.drewN n_).setCell ⟨gb253, 0, none⟩ (.int .i64 ((rd_T54 l0 x7_1).f0.f0))).setCell ⟨gb253, 1, none⟩ (.int .i64 ((rd_T54 l0 x7_1).f0.f1))).setCell ⟨gb253, 2, none⟩ (.int .i64 ((rd_T54 l0 x7_1).f1))).setCell ⟨gb253, 3, none⟩ (.int .i64 ((rd_T54 l0 x7_1).f2)))).cell? _ = some _ from hx258_1)); (try have hy258_2 := fun (n_ : Nat) => (show ((((((w18.drewN n_).setCell ⟨gb253, 0, none⟩ (.int .i64 ((rd_T54 l0 x7_1).f0.f0))).setCell ⟨gb253, 1, none⟩ (.int .i64 ((rd_T54 l0 x7_1).f0.f1))).setCell ⟨gb253, 2, none⟩ (.int .i64 ((rd_T54 l0 x7_1).f1))).setCell ⟨gb253, 3, none⟩ (.int .i64 ((rd_T54 l0 x7_1).f2)))).cell? _ = some _ from hx258_2)); (try have hy258_3 := fun (n_ : Nat) => (show ((((((w18.drewN n_).setCell ⟨gb253, 0, none⟩ (.int .i64 ((rd_T54 l0 x7_1).f0.f0))).setCell ⟨gb253, 1, none⟩ (.int .i64 ((rd_T54 l0 x7_1).f0.f1))).setCell ⟨gb253, 2, none⟩ (.int .i64 ((rd_T54 l0 x7_1).f1))).setCell ⟨gb253, 3, none⟩ (.int .i64 ((rd_T54 l0 x7_1).f2)))).cell? _ = some _ from hx258_3)); clear hn258_0; clear hn258_1; clear hn258_2; clear hn258_3; replace p258 := eq_true p258; replace q258 := eq_true q258)); try go_wp2_with (first | ((with_reducible refine gate_dst (N := 4) rfl ?_); refine box_event ?hg (N := 4) ?hd (cs := #[.int .i64 0, .int .i64 0, .int .i64 0, .int .i64 0]) (t := 54) ?hr ?_; (case hd => rfl); (case hg => rfl); (case hr => first | (go_simp; done) | (go_simp; rfl)); intro gb253 hg w18 hbox hb; have n0_ := Aside0.mk (below_step (oB HB) hb); have n1_ := Aside0.mk (hbox); have n2_ := Aside0.mk ((by rw [hg]; exact (below_size (oB HB)) : w.heap.size ≤ gb253)); have n3_ := Aside0.mk ((by rw [hg]; exact (below_size (oB HB)) : w.heap.size ≤ gb253)); clear HB; have HB := n0_; have BK253 := n1_; have GW253 := n2_; have GE253 := n3_; clear n0_ n1_ n2_ n3_; clear hb hbox hg; have hcz19_0 : w18.cell? ⟨gb253, 0, none⟩ = some (.int .i64 0) := (blk_cell BK253.out 0).trans rfl; have hcz19_1 : w18.cell? ⟨gb253, 1, none⟩ = some (.int .i64 0) := (blk_cell BK253.out 1).trans rfl; have hcz19_2 : w18.cell? ⟨gb253, 2, none⟩ = some (.int .i64 0) := (blk_cell BK253.out 2).trans rfl; have hcz19_3 : w18.cell? ⟨gb253, 3, none⟩ = some (.int .i64 0) := (blk_cell BK253.out 3).trans rfl; have hfz19_0 := blk_frozen BK253.out 0; have hfz19_1 := blk_frozen BK253.out 1; have hfz19_2 := blk_frozen BK253.out 2; have hfz19_3 := blk_frozen BK253.out 3) | (go_at_call 32; (with_reducible refine (impl_within.calls ((rd_T54 l0 x7_1).f0.f0) 0 3 true _ A5.out).mono ?_); rintro e w' ⟨rfl, ⟨nd, rfl⟩⟩; (try first | exact ⟨rfl, _, World.drewN_drewN _ _ _⟩ | exact ⟨rfl, _, Eq.trans (World.drewN_drewN _ _ _) (congrArg (World.drewN _) (Nat.add_assoc _ _ _))⟩)) | (go_at_call 32; (with_reducible refine (impl_within.calls ((rd_T54 l0 x7_1).f0.f1) 0 39 true _ A7.out).mono ?_); rintro e w' ⟨rfl, ⟨nd, rfl⟩⟩; (try first | exact ⟨rfl, _, World.drewN_drewN _ _ _⟩ | exact ⟨rfl, _, Eq.trans (World.drewN_drewN _ _ _) (congrArg (World.drewN _) (Nat.add_assoc _ _ _))⟩)) | (go_at_call 32; (with_reducible refine (impl_within.calls ((rd_T54 l0 x7_1).f1) 0 2 true _ A9.out).mono ?_); rintro e w' ⟨rfl, ⟨nd, rfl⟩⟩; (try first | exact ⟨rfl, _, World.drewN_drewN _ _ _⟩ | exact ⟨rfl, _, Eq.trans (World.drewN_drewN _ _ _) (congrArg (World.drewN _) (Nat.add_assoc _ _ _))⟩)) | (go_at_call 32; (with_reducible refine (impl_within.calls ((rd_T54 l0 x7_1).f2) 0 100000 true _ A11.out).mono ?_); rintro e w' ⟨rfl, ⟨nd, rfl⟩⟩; (try first | exact ⟨rfl, _, World.drewN_drewN _ _ _⟩ | exact ⟨rfl, _, Eq.trans (World.drewN_drewN _ _ _) (congrArg (World.drewN _) (Nat.add_assoc _ _ _))⟩); have p258 : 0 ≤ ((ji14) : Int) := of_decide_eq_true (by first | (with_reducible assumption) | assumption); have q258 : (ji14) < (l0.length : Int) := of_decide_eq_true (by first | (with_reducible assumption) | assumption); obtain ⟨ad258, e258, hx258_0, hx258_1, hx258_2, hx258_3⟩ := at_T54 HR0.out (ji14) p258 q258; obtain rfl : ad252 = ad258 := (by injection e258); have hn258_0 : ad252.block ≠ gb253 := Nat.ne_of_lt (Nat.lt_of_lt_of_le (by have := World.block_lt_of_cell? _ _ hx258_0; first | rwa [add_block] at this | exact this) GW253.out); have hn258_1 : ad252.block ≠ gb253 := Nat.ne_of_lt (Nat.lt_of_lt_of_le (by have := World.block_lt_of_cell? _ _ hx258_0; first | rwa [add_block] at this | exact this) GW253.out); have hn258_2 : ad252.block ≠ gb253 := Nat.ne_of_lt (Nat.lt_of_lt_of_le (by have := World.block_lt_of_cell? _ _ hx258_0; first | rwa [add_block] at this | exact this) GW253.out); have hn258_3 : ad252.block ≠ gb253 := Nat.ne_of_lt (Nat.lt_of_lt_of_le (by have := World.block_lt_of_cell? _ _ hx258_0; first | rwa [add_block] at this | exact this) GW253.out); replace hx258_0 := (HB.out.cell (World.block_lt_of_cell? w _ hx258_0)).trans hx258_0; replace hx258_1 := (HB.out.cell (World.block_lt_of_cell? w _ hx258_1)).trans hx258_1; replace hx258_2 := (HB.out.cell (World.block_lt_of_cell? w _ hx258_2)).trans hx258_2; replace hx258_3 := (HB.out.cell (World.block_lt_of_cell? w _ hx258_3)).trans hx258_3; replace hx258_0 := (cell_far (p := ⟨gb253, 0, none⟩) (by first | (rw [add_block]; exact hn258_0) | (show (Addr.add _ _).block ≠ _; rw [add_block]; exact hn258_0) | exact hn258_0) (.int .i64 ((rd_T54 l0 x7_1).f0.f0))).trans hx258_0; replace hx258_1 := (cell_far (p := ⟨gb253, 0, none⟩) (by first | (rw [add_block]; exact hn258_0) | (show (Addr.add _ _).block ≠ _; rw [add_block]; exact hn258_0) | exact hn258_0) (.int .i64 ((rd_T54 l0 x7_1).f0.f0))).trans hx258_1; replace hx258_2 := (cell_far (p := ⟨gb253, 0, none⟩) (by first | (rw [add_block]; exact hn258_0) | (show (Addr.add _ _).block ≠ _; rw [add_block]; exact hn258_0) | exact hn258_0) (.int .i64 ((rd_T54 l0 x7_1).f0.f0))).trans hx258_2; replace hx258_3 := (cell_far (p := ⟨gb253, 0, none⟩) (by first | (rw [add_block]; exact hn258_0) | (show (Addr.add _ _).block ≠ _; rw [add_block]; exact hn258_0) | exact hn258_0) (.int .i64 ((rd_T54 l0 x7_1).f0.f0))).trans hx258_3; replace hx258_0 := (cell_far (p := ⟨gb253, 1, none⟩) (by first | (rw [add_block]; exact hn258_1) | (show (Addr.add _ _).block ≠ _; rw [add_block]; exact hn258_1) | exact hn258_1) (.int .i64 ((rd_T54 l0 x7_1).f0.f1))).trans hx258_0; replace hx258_1 := (cell_far (p := ⟨gb253, 1, none⟩) (by first | (rw [add_block]; exact hn258_1) | (show (Addr.add _ _).block ≠ _; rw [add_block]; exact hn258_1) | exact hn258_1) (.int .i64 ((rd_T54 l0 x7_1).f0.f1))).trans hx258_1; replace hx258_2 := (cell_far (p := ⟨gb253, 1, none⟩) (by first | (rw [add_block]; exact hn258_1) | (show (Addr.add _ _).block ≠ _; rw [add_block]; exact hn258_1) | exact hn258_1) (.int .i64 ((rd_T54 l0 x7_1).f0.f1))).trans hx258_2; replace hx258_3 := (cell_far (p := ⟨gb253, 1, none⟩) (by first | (rw [add_block]; exact hn258_1) | (show (Addr.add _ _).block ≠ _; rw [add_block]; exact hn258_1) | exact hn258_1) (.int .i64 ((rd_T54 l0 x7_1).f0.f1))).trans hx258_3; replace hx258_0 := (cell_far (p := ⟨gb253, 2, none⟩) (by first | (rw [add_block]; exact hn258_2) | (show (Addr.add _ _).block ≠ _; rw [add_block]; exact hn258_2) | exact hn258_2) (.int .i64 ((rd_T54 l0 x7_1).f1))).trans hx258_0; replace hx258_1 := (cell_far (p := ⟨gb253, 2, none⟩) (by first | (rw [add_block]; exact hn258_2) | (show (Addr.add _ _).block ≠ _; rw [add_block]; exact hn258_2) | exact hn258_2) (.int .i64 ((rd_T54 l0 x7_1).f1))).trans hx258_1; replace hx258_2 := (cell_far (p := ⟨gb253, 2, none⟩) (by first | (rw [add_block]; exact hn258_2) | (show (Addr.add _ _).block ≠ _; rw [add_block]; exact hn258_2) | exact hn258_2) (.int .i64 ((rd_T54 l0 x7_1).f1))).trans hx258_2; replace hx258_3 := (cell_far (p := ⟨gb253, 2, none⟩) (by first | (rw [add_block]; exact hn258_2) | (show (Addr.add _ _).block ≠ _; rw [add_block]; exact hn258_2) | exact hn258_2) (.int .i64 ((rd_T54 l0 x7_1).f1))).trans hx258_3; replace hx258_0 := (cell_far (p := ⟨gb253, 3, none⟩) (by first | (rw [add_block]; exact hn258_3) | (show (Addr.add _ _).block ≠ _; rw [add_block]; exact hn258_3) | exact hn258_3) (.int .i64 ((rd_T54 l0 x7_1).f2))).trans hx258_0; replace hx258_1 := (cell_far (p := ⟨gb253, 3, none⟩) (by first | (rw [add_block]; exact hn258_3) | (show (Addr.add _ _).block ≠ _; rw [add_block]; exact hn258_3) | exact hn258_3) (.int .i64 ((rd_T54 l0 x7_1).f2))).trans hx258_1; replace hx258_2 := (cell_far (p := ⟨gb253, 3, none⟩) (by first | (rw [add_block]; exact hn258_3) | (show (Addr.add _ _).block ≠ _; rw [add_block]; exact hn258_3) | exact hn258_3) (.int .i64 ((rd_T54 l0 x7_1).f2))).trans hx258_2; replace hx258_3 := (cell_far (p := ⟨gb253, 3, none⟩) (by first | (rw [add_block]; exact hn258_3) | (show (Addr.add _ _).block ≠ _; rw [add_block]; exact hn258_3) | exact hn258_3) (.int .i64 ((rd_T54 l0 x7_1).f2))).trans hx258_3; (try have hy258_0 := fun (n_ : Nat) => (show ((((((w18.drewN n_).setCell ⟨gb253, 0, none⟩ (.int .i64 ((rd_T54 l0 x7_1).f0.f0))).setCell ⟨gb253, 1, none⟩ (.int .i64 ((rd_T54 l0 x7_1).f0.f1))).setCell ⟨gb253, 2, none⟩ (.int .i64 ((rd_T54 l0 x7_1).f1))).setCell ⟨gb253, 3, none⟩ (.int .i64 ((rd_T54 l0 x7_1).f2)))).cell? _ = some _ from hx258_0)); (try have hy258_1 := fun (n_ : Nat) => (show ((((((w18.drewN n_).setCell ⟨gb253, 0, none⟩ (.int .i64 ((rd_T54 l0 x7_1).f0.f0))).setCell ⟨gb253, 1, none⟩ (.int .i64 ((rd_T54 l0 x7_1).f0.f1))).setCell ⟨gb253, 2, none⟩ (.int .i64 ((rd_T54 l0 x7_1).f1))).setCell ⟨gb253, 3, none⟩ (.int .i64 ((rd_T54 l0 x7_1).f2)))).cell? _ = some _ from hx258_1)); (try have hy258_2 := fun (n_ : Nat) => (show ((((((w18.drewN n_).setCell ⟨gb253, 0, none⟩ (.int .i64 ((rd_T54 l0 x7_1).f0.f0))).setCell ⟨gb253, 1, none⟩ (.int .i64 ((rd_T54 l0 x7_1).f0.f1))).setCell ⟨gb253, 2, none⟩ (.int .i64 ((rd_T54 l0 x7_1).f1))).setCell ⟨gb253, 3, none⟩ (.int .i64 ((rd_T54 l0 x7_1).f2)))).cell? _ = some _ from hx258_2)); (try have hy258_3 := fun (n_ : Nat) => (show ((((((w18.drewN n_).setCell ⟨gb253, 0, none⟩ (.int .i64 ((rd_T54 l0 x7_1).f0.f0))).setCell ⟨gb253, 1, none⟩ (.int .i64 ((rd_T54 l0 x7_1).f0.f1))).setCell ⟨gb253, 2, none⟩ (.int .i64 ((rd_T54 l0 x7_1).f1))).setCell ⟨gb253, 3, none⟩ (.int .i64 ((rd_T54 l0 x7_1).f2)))).cell? _ = some _ from hx258_3)); clear hn258_0; clear hn258_1; clear hn258_2; clear hn258_3; replace p258 := eq_true p258; replace q258 := eq_true q258)))
                            go_ret
                            exact ⟨by first | rfl | (simp [errW_none, errW_some] <;> rfl) | (simp only [← hji14]; first | rfl | (simp [errW_none, errW_some] <;> rfl)) | (simp [*, errW_none, errW_some] <;> rfl), oB HB⟩
                          · rw [if_neg c17] at H
                            have c17b0 : decide (((rd_T54 l0 x7_1).f2) < ((rd_T54 l0 (ji14)).f2)) = false := decide_eq_false c17
                            clear c17
                            have H' := Aside0.mk H
                            clear H
                            have p252 : 0 ≤ (x7_1 : Int) := of_decide_eq_true (by first | (with_reducible assumption) | assumption)
                            have q252 : x7_1 < (l0.length : Int) := of_decide_eq_true (by first | (with_reducible assumption) | assumption)
                            obtain ⟨ad252, e252, hx252_0, hx252_1, hx252_2, hx252_3⟩ := at_T54 HR0.out x7_1 p252 q252
                            cases e252
                            replace hx252_0 := (HB.out.cell (World.block_lt_of_cell? w _ hx252_0)).trans hx252_0
                            replace hx252_1 := (HB.out.cell (World.block_lt_of_cell? w _ hx252_1)).trans hx252_1
                            replace hx252_2 := (HB.out.cell (World.block_lt_of_cell? w _ hx252_2)).trans hx252_2
                            replace hx252_3 := (HB.out.cell (World.block_lt_of_cell? w _ hx252_3)).trans hx252_3
                            replace p252 := eq_true p252
                            replace q252 := eq_true q252
                            go_wp2_with (first | ((with_reducible refine gate_dst (N := 4) rfl ?_); refine box_event ?hg (N := 4) ?hd (cs := #[.int .i64 0, .int .i64 0, .int .i64 0, .int .i64 0]) (t := 54) ?hr ?_; (case hd => rfl); (case hg => rfl); (case hr => first | (go_simp; done) | (go_simp; rfl)); intro gb253 hg w20 hbox hb; have n0_ := Aside0.mk (below_step (oB HB) hb); have n1_ := Aside0.mk (hbox); have n2_ := Aside0.mk ((by rw [hg]; exact (below_size (oB HB)) : w.heap.size ≤ gb253)); have n3_ := Aside0.mk ((by rw [hg]; exact (below_size (oB HB)) : w.heap.size ≤ gb253)); clear HB; have HB := n0_; have BK253 := n1_; have GW253 := n2_; have GE253 := n3_; clear n0_ n1_ n2_ n3_; clear hb hbox hg; have hcz21_0 : w20.cell? ⟨gb253, 0, none⟩ = some (.int .i64 0) := (blk_cell BK253.out 0).trans rfl; have hcz21_1 : w20.cell? ⟨gb253, 1, none⟩ = some (.int .i64 0) := (blk_cell BK253.out 1).trans rfl; have hcz21_2 : w20.cell? ⟨gb253, 2, none⟩ = some (.int .i64 0) := (blk_cell BK253.out 2).trans rfl; have hcz21_3 : w20.cell? ⟨gb253, 3, none⟩ = some (.int .i64 0) := (blk_cell BK253.out 3).trans rfl; have hfz21_0 := blk_frozen BK253.out 0; have hfz21_1 := blk_frozen BK253.out 1; have hfz21_2 := blk_frozen BK253.out 2; have hfz21_3 := blk_frozen BK253.out 3) | (go_at_call 32; (with_reducible refine (impl_within.calls ((rd_T54 l0 x7_1).f0.f0) 0 3 true _ A5.out).mono ?_); rintro e w' ⟨rfl, ⟨nd, rfl⟩⟩; (try first | exact ⟨rfl, _, World.drewN_drewN _ _ _⟩ | exact ⟨rfl, _, Eq.trans (World.drewN_drewN _ _ _) (congrArg (World.drewN _) (Nat.add_assoc _ _ _))⟩)) | (go_at_call 32; (with_reducible refine (impl_within.calls ((rd_T54 l0 x7_1).f0.f1) 0 39 true _ A7.out).mono ?_); rintro e w' ⟨rfl, ⟨nd, rfl⟩⟩; (try first | exact ⟨rfl, _, World.drewN_drewN _ _ _⟩ | exact ⟨rfl, _, Eq.trans (World.drewN_drewN _ _ _) (congrArg (World.drewN _) (Nat.add_assoc _ _ _))⟩)) | (go_at_call 32; (with_reducible refine (impl_within.calls ((rd_T54 l0 x7_1).f1) 0 2 true _ A9.out).mono ?_); rintro e w' ⟨rfl, ⟨nd, rfl⟩⟩; (try first | exact ⟨rfl, _, World.drewN_drewN _ _ _⟩ | exact ⟨rfl, _, Eq.trans (World.drewN_drewN _ _ _) (congrArg (World.drewN _) (Nat.add_assoc _ _ _))⟩)) | (go_at_call 32; (with_reducible refine (impl_within.calls ((rd_T54 l0 x7_1).f2) 0 100000 true _ A11.out).mono ?_); rintro e w' ⟨rfl, ⟨nd, rfl⟩⟩; (try first | exact ⟨rfl, _, World.drewN_drewN _ _ _⟩ | exact ⟨rfl, _, Eq.trans (World.drewN_drewN _ _ _) (congrArg (World.drewN _) (Nat.add_assoc _ _ _))⟩); have p258 : 0 ≤ ((ji14) : Int) := of_decide_eq_true (by first | (with_reducible assumption) | assumption); have q258 : (ji14) < (l0.length : Int) := of_decide_eq_true (by first | (with_reducible assumption) | assumption); obtain ⟨ad258, e258, hx258_0, hx258_1, hx258_2, hx258_3⟩ := at_T54 HR0.out (ji14) p258 q258; obtain rfl : ad252 = ad258 := (by injection e258); have hn258_0 : ad252.block ≠ gb253 := Nat.ne_of_lt (Nat.lt_of_lt_of_le (by have := World.block_lt_of_cell? _ _ hx258_0; first | rwa [add_block] at this | exact this) GW253.out); have hn258_1 : ad252.block ≠ gb253 := Nat.ne_of_lt (Nat.lt_of_lt_of_le (by have := World.block_lt_of_cell? _ _ hx258_0; first | rwa [add_block] at this | exact this) GW253.out); have hn258_2 : ad252.block ≠ gb253 := Nat.ne_of_lt (Nat.lt_of_lt_of_le (by have := World.block_lt_of_cell? _ _ hx258_0; first | rwa [add_block] at this | exact this) GW253.out); have hn258_3 : ad252.block ≠ gb253 := Nat.ne_of_lt (Nat.lt_of_lt_of_le (by have := World.block_lt_of_cell? _ _ hx258_0; first | rwa [add_block] at this | exact this) GW253.out); replace hx258_0 := (HB.out.cell (World.block_lt_of_cell? w _ hx258_0)).trans hx258_0; replace hx258_1 := (HB.out.cell (World.block_lt_of_cell? w _ hx258_1)).trans hx258_1; replace hx258_2 := (HB.out.cell (World.block_lt_of_cell? w _ hx258_2)).trans hx258_2; replace hx258_3 := (HB.out.cell (World.block_lt_of_cell? w _ hx258_3)).trans hx258_3; replace hx258_0 := (cell_far (p := ⟨gb253, 0, none⟩) (by first | (rw [add_block]; exact hn258_0) | (show (Addr.add _ _).block ≠ _; rw [add_block]; exact hn258_0) | exact hn258_0) (.int .i64 ((rd_T54 l0 x7_1).f0.f0))).trans hx258_0; replace hx258_1 := (cell_far (p := ⟨gb253, 0, none⟩) (by first | (rw [add_block]; exact hn258_0) | (show (Addr.add _ _).block ≠ _; rw [add_block]; exact hn258_0) | exact hn258_0) (.int .i64 ((rd_T54 l0 x7_1).f0.f0))).trans hx258_1; replace hx258_2 := (cell_far (p := ⟨gb253, 0, none⟩) (by first | (rw [add_block]; exact hn258_0) | (show (Addr.add _ _).block ≠ _; rw [add_block]; exact hn258_0) | exact hn258_0) (.int .i64 ((rd_T54 l0 x7_1).f0.f0))).trans hx258_2; replace hx258_3 := (cell_far (p := ⟨gb253, 0, none⟩) (by first | (rw [add_block]; exact hn258_0) | (show (Addr.add _ _).block ≠ _; rw [add_block]; exact hn258_0) | exact hn258_0) (.int .i64 ((rd_T54 l0 x7_1).f0.f0))).trans hx258_3; replace hx258_0 := (cell_far (p := ⟨gb253, 1, none⟩) (by first | (rw [add_block]; exact hn258_1) | (show (Addr.add _ _).block ≠ _; rw [add_block]; exact hn258_1) | exact hn258_1) (.int .i64 ((rd_T54 l0 x7_1).f0.f1))).trans hx258_0; replace hx258_1 := (cell_far (p := ⟨gb253, 1, none⟩) (by first | (rw [add_block]; exact hn258_1) | (show (Addr.add _ _).block ≠ _; rw [add_block]; exact hn258_1) | exact hn258_1) (.int .i64 ((rd_T54 l0 x7_1).f0.f1))).trans hx258_1; replace hx258_2 := (cell_far (p := ⟨gb253, 1, none⟩) (by first | (rw [add_block]; exact hn258_1) | (show (Addr.add _ _).block ≠ _; rw [add_block]; exact hn258_1) | exact hn258_1) (.int .i64 ((rd_T54 l0 x7_1).f0.f1))).trans hx258_2; replace hx258_3 := (cell_far (p := ⟨gb253, 1, none⟩) (by first | (rw [add_block]; exact hn258_1) | (show (Addr.add _ _).block ≠ _; rw [add_block]; exact hn258_1) | exact hn258_1) (.int .i64 ((rd_T54 l0 x7_1).f0.f1))).trans hx258_3; replace hx258_0 := (cell_far (p := ⟨gb253, 2, none⟩) (by first | (rw [add_block]; exact hn258_2) | (show (Addr.add _ _).block ≠ _; rw [add_block]; exact hn258_2) | exact hn258_2) (.int .i64 ((rd_T54 l0 x7_1).f1))).trans hx258_0; replace hx258_1 := (cell_far (p := ⟨gb253, 2, none⟩) (by first | (rw [add_block]; exact hn258_2) | (show (Addr.add _ _).block ≠ _; rw [add_block]; exact hn258_2) | exact hn258_2) (.int .i64 ((rd_T54 l0 x7_1).f1))).trans hx258_1; replace hx258_2 := (cell_far (p := ⟨gb253, 2, none⟩) (by first | (rw [add_block]; exact hn258_2) | (show (Addr.add _ _).block ≠ _; rw [add_block]; exact hn258_2) | exact hn258_2) (.int .i64 ((rd_T54 l0 x7_1).f1))).trans hx258_2; replace hx258_3 := (cell_far (p := ⟨gb253, 2, none⟩) (by first | (rw [add_block]; exact hn258_2) | (show (Addr.add _ _).block ≠ _; rw [add_block]; exact hn258_2) | exact hn258_2) (.int .i64 ((rd_T54 l0 x7_1).f1))).trans hx258_3; replace hx258_0 := (cell_far (p := ⟨gb253, 3, none⟩) (by first | (rw [add_block]; exact hn258_3) | (show (Addr.add _ _).block ≠ _; rw [add_block]; exact hn258_3) | exact hn258_3) (.int .i64 ((rd_T54 l0 x7_1).f2))).trans hx258_0; replace hx258_1 := (cell_far (p := ⟨gb253, 3, none⟩) (by first | (rw [add_block]; exact hn258_3) | (show (Addr.add _ _).block ≠ _; rw [add_block]; exact hn258_3) | exact hn258_3) (.int .i64 ((rd_T54 l0 x7_1).f2))).trans hx258_1; replace hx258_2 := (cell_far (p := ⟨gb253, 3, none⟩) (by first | (rw [add_block]; exact hn258_3) | (show (Addr.add _ _).block ≠ _; rw [add_block]; exact hn258_3) | exact hn258_3) (.int .i64 ((rd_T54 l0 x7_1).f2))).trans hx258_2; replace hx258_3 := (cell_far (p := ⟨gb253, 3, none⟩) (by first | (rw [add_block]; exact hn258_3) | (show (Addr.add _ _).block ≠ _; rw [add_block]; exact hn258_3) | exact hn258_3) (.int .i64 ((rd_T54 l0 x7_1).f2))).trans hx258_3; (try have hy258_0 := fun (n_ : Nat) => (show ((((((w20.drewN n_).setCell ⟨gb253, 0, none⟩ (.int .i64 ((rd_T54 l0 x7_1).f0.f0))).setCell ⟨gb253, 1, none⟩ (.int .i64 ((rd_T54 l0 x7_1).f0.f1))).setCell ⟨gb253, 2, none⟩ (.int .i64 ((rd_T54 l0 x7_1).f1))).setCell ⟨gb253, 3, none⟩ (.int .i64 ((rd_T54 l0 x7_1).f2)))).cell? _ = some _ from hx258_0)); (try have hy258_1 := fun (n_ : Nat) => (show ((((((w20.drewN n_).setCell ⟨gb253, 0, none⟩ (.int .i64 ((rd_T54 l0 x7_1).f0.f0))).setCell ⟨gb253, 1, none⟩ (.int .i64 ((rd_T54 l0 x7_1).f0.f1))).setCell ⟨gb253, 2, none⟩ (.int .i64 ((rd_T54 l0 x7_1).f1))).setCell ⟨gb253, 3, none⟩ (.int .i64 ((rd_T54 l0 x7_1).f2)))).cell? _ = some _ from hx258_1)); (try have hy258_2 := fun (n_ : Nat) => (show ((((((w20.drewN n_).setCell ⟨gb253, 0, none⟩ (.int .i64 ((rd_T54 l0 x7_1).f0.f0))).setCell ⟨gb253, 1, none⟩ (.int .i64 ((rd_T54 l0 x7_1).f0.f1))).setCell ⟨gb253, 2, none⟩ (.int .i64 ((rd_T54 l0 x7_1).f1))).setCell ⟨gb253, 3, none⟩ (.int .i64 ((rd_T54 l0 x7_1).f2)))).cell? _ = some _ from hx258_2)); (try have hy258_3 := fun (n_ : Nat) => (show ((((((w20.drewN n_).setCell ⟨gb253, 0, none⟩ (.int .i64 ((rd_T54 l0 x7_1).f0.f0))).setCell ⟨gb253, 1, none⟩ (.int .i64 ((rd_T54 l0 x7_1).f0.f1))).setCell ⟨gb253, 2, none⟩ (.int .i64 ((rd_T54 l0 x7_1).f1))).setCell ⟨gb253, 3, none⟩ (.int .i64 ((rd_T54 l0 x7_1).f2)))).cell? _ = some _ from hx258_3)); clear hn258_0; clear hn258_1; clear hn258_2; clear hn258_3; replace p258 := eq_true p258; replace q258 := eq_true q258))
                            repeat (go_quiet (first | ((with_reducible refine gate_dst (N := 4) rfl ?_); refine box_event ?hg (N := 4) ?hd (cs := #[.int .i64 0, .int .i64 0, .int .i64 0, .int .i64 0]) (t := 54) ?hr ?_; (case hd => rfl); (case hg => rfl); (case hr => first | (go_simp; done) | (go_simp; rfl)); intro gb253 hg w20 hbox hb; have n0_ := Aside0.mk (below_step (oB HB) hb); have n1_ := Aside0.mk (hbox); have n2_ := Aside0.mk ((by rw [hg]; exact (below_size (oB HB)) : w.heap.size ≤ gb253)); have n3_ := Aside0.mk ((by rw [hg]; exact (below_size (oB HB)) : w.heap.size ≤ gb253)); clear HB; have HB := n0_; have BK253 := n1_; have GW253 := n2_; have GE253 := n3_; clear n0_ n1_ n2_ n3_; clear hb hbox hg; have hcz21_0 : w20.cell? ⟨gb253, 0, none⟩ = some (.int .i64 0) := (blk_cell BK253.out 0).trans rfl; have hcz21_1 : w20.cell? ⟨gb253, 1, none⟩ = some (.int .i64 0) := (blk_cell BK253.out 1).trans rfl; have hcz21_2 : w20.cell? ⟨gb253, 2, none⟩ = some (.int .i64 0) := (blk_cell BK253.out 2).trans rfl; have hcz21_3 : w20.cell? ⟨gb253, 3, none⟩ = some (.int .i64 0) := (blk_cell BK253.out 3).trans rfl; have hfz21_0 := blk_frozen BK253.out 0; have hfz21_1 := blk_frozen BK253.out 1; have hfz21_2 := blk_frozen BK253.out 2; have hfz21_3 := blk_frozen BK253.out 3) | (go_at_call 32; (with_reducible refine (impl_within.calls ((rd_T54 l0 x7_1).f0.f0) 0 3 true _ A5.out).mono ?_); rintro e w' ⟨rfl, ⟨nd, rfl⟩⟩; (try first | exact ⟨rfl, _, World.drewN_drewN _ _ _⟩ | exact ⟨rfl, _, Eq.trans (World.drewN_drewN _ _ _) (congrArg (World.drewN _) (Nat.add_assoc _ _ _))⟩)) | (go_at_call 32; (with_reducible refine (impl_within.calls ((rd_T54 l0 x7_1).f0.f1) 0 39 true _ A7.out).mono ?_); rintro e w' ⟨rfl, ⟨nd, rfl⟩⟩; (try first | exact ⟨rfl, _, World.drewN_drewN _ _ _⟩ | exact ⟨rfl, _, Eq.trans (World.drewN_drewN _ _ _) (congrArg (World.drewN _) (Nat.add_assoc _ _ _))⟩)) | (go_at_call 32; (with_reducible refine (impl_within.calls ((rd_T54 l0 x7_1).f1) 0 2 true _ A9.out).mono ?_); rintro e w' ⟨rfl, ⟨nd, rfl⟩⟩; (try first | exact ⟨rfl, _, World.drewN_drewN _ _ _⟩ | exact ⟨rfl, _, Eq.trans (World.drewN_drewN _ _ _) (congrArg (World.drewN _) (Nat.add_assoc _ _ _))⟩)) | (go_at_call 32; (with_reducible refine (impl_within.calls ((rd_T54 l0 x7_1).f2) 0 100000 true _ A11.out).mono ?_); rintro e w' ⟨rfl, ⟨nd, rfl⟩⟩; (try first | exact ⟨rfl, _, World.drewN_drewN _ _ _⟩ | exact ⟨rfl, _, Eq.trans (World.drewN_drewN _ _ _) (congrArg (World.drewN _) (Nat.add_assoc _ _ _))⟩); have p258 : 0 ≤ ((ji14) : Int) := of_decide_eq_true (by first | (with_reducible assumption) | assumption); have q258 : (ji14) < (l0.length : Int) := of_decide_eq_true (by first | (with_reducible assumption) | assumption); obtain ⟨ad258, e258, hx258_0, hx258_1, hx258_2, hx258_3⟩ := at_T54 HR0.out (ji14) p258 q258; obtain rfl : ad252 = ad258 := (by injection e258); have hn258_0 : ad252.block ≠ gb253 := Nat.ne_of_lt (Nat.lt_of_lt_of_le (by have := World.block_lt_of_cell? _ _ hx258_0; first | rwa [add_block] at this | exact this) GW253.out); have hn258_1 : ad252.block ≠ gb253 := Nat.ne_of_lt (Nat.lt_of_lt_of_le (by have := World.block_lt_of_cell? _ _ hx258_0; first | rwa [add_block] at this | exact this) GW253.out); have hn258_2 : ad252.block ≠ gb253 := Nat.ne_of_lt (Nat.lt_of_lt_of_le (by have := World.block_lt_of_cell? _ _ hx258_0; first | rwa [add_block] at this | exact this) GW253.out); have hn258_3 : ad252.block ≠ gb253 := Nat.ne_of_lt (Nat.lt_of_lt_of_le (by have := World.block_lt_of_cell? _ _ hx258_0; first | rwa [add_block] at this | exact this) GW253.out); replace hx258_0 := (HB.out.cell (World.block_lt_of_cell? w _ hx258_0)).trans hx258_0; replace hx258_1 := (HB.out.cell (World.block_lt_of_cell? w _ hx258_1)).trans hx258_1; replace hx258_2 := (HB.out.cell (World.block_lt_of_cell? w _ hx258_2)).trans hx258_2; replace hx258_3 := (HB.out.cell (World.block_lt_of_cell? w _ hx258_3)).trans hx258_3; replace hx258_0 := (cell_far (p := ⟨gb253, 0, none⟩) (by first | (rw [add_block]; exact hn258_0) | (show (Addr.add _ _).block ≠ _; rw [add_block]; exact hn258_0) | exact hn258_0) (.int .i64 ((rd_T54 l0 x7_1).f0.f0))).trans hx258_0; replace hx258_1 := (cell_far (p := ⟨gb253, 0, none⟩) (by first | (rw [add_block]; exact hn258_0) | (show (Addr.add _ _).block ≠ _; rw [add_block]; exact hn258_0) | exact hn258_0) (.int .i64 ((rd_T54 l0 x7_1).f0.f0))).trans hx258_1; replace hx258_2 := (cell_far (p := ⟨gb253, 0, none⟩) (by first | (rw [add_block]; exact hn258_0) | (show (Addr.add _ _).block ≠ _; rw [add_block]; exact hn258_0) | exact hn258_0) (.int .i64 ((rd_T54 l0 x7_1).f0.f0))).trans hx258_2; replace hx258_3 := (cell_far (p := ⟨gb253, 0, none⟩) (by first | (rw [add_block]; exact hn258_0) | (show (Addr.add _ _).block ≠ _; rw [add_block]; exact hn258_0) | exact hn258_0) (.int .i64 ((rd_T54 l0 x7_1).f0.f0))).trans hx258_3; replace hx258_0 := (cell_far (p := ⟨gb253, 1, none⟩) (by first | (rw [add_block]; exact hn258_1) | (show (Addr.add _ _).block ≠ _; rw [add_block]; exact hn258_1) | exact hn258_1) (.int .i64 ((rd_T54 l0 x7_1).f0.f1))).trans hx258_0; replace hx258_1 := (cell_far (p := ⟨gb253, 1, none⟩) (by first | (rw [add_block]; exact hn258_1) | (show (Addr.add _ _).block ≠ _; rw [add_block]; exact hn258_1) | exact hn258_1) (.int .i64 ((rd_T54 l0 x7_1).f0.f1))).trans hx258_1; replace hx258_2 := (cell_far (p := ⟨gb253, 1, none⟩) (by first | (rw [add_block]; exact hn258_1) | (show (Addr.add _ _).block ≠ _; rw [add_block]; exact hn258_1) | exact hn258_1) (.int .i64 ((rd_T54 l0 x7_1).f0.f1))).trans hx258_2; replace hx258_3 := (cell_far (p := ⟨gb253, 1, none⟩) (by first | (rw [add_block]; exact hn258_1) | (show (Addr.add _ _).block ≠ _; rw [add_block]; exact hn258_1) | exact hn258_1) (.int .i64 ((rd_T54 l0 x7_1).f0.f1))).trans hx258_3; replace hx258_0 := (cell_far (p := ⟨gb253, 2, none⟩) (by first | (rw [add_block]; exact hn258_2) | (show (Addr.add _ _).block ≠ _; rw [add_block]; exact hn258_2) | exact hn258_2) (.int .i64 ((rd_T54 l0 x7_1).f1))).trans hx258_0; replace hx258_1 := (cell_far (p := ⟨gb253, 2, none⟩) (by first | (rw [add_block]; exact hn258_2) | (show (Addr.add _ _).block ≠ _; rw [add_block]; exact hn258_2) | exact hn258_2) (.int .i64 ((rd_T54 l0 x7_1).f1))).trans hx258_1; replace hx258_2 := (cell_far (p := ⟨gb253, 2, none⟩) (by first | (rw [add_block]; exact hn258_2) | (show (Addr.add _ _).block ≠ _; rw [add_block]; exact hn258_2) | exact hn258_2) (.int .i64 ((rd_T54 l0 x7_1).f1))).trans hx258_2; replace hx258_3 := (cell_far (p := ⟨gb253, 2, none⟩) (by first | (rw [add_block]; exact hn258_2) | (show (Addr.add _ _).block ≠ _; rw [add_block]; exact hn258_2) | exact hn258_2) (.int .i64 ((rd_T54 l0 x7_1).f1))).trans hx258_3; replace hx258_0 := (cell_far (p := ⟨gb253, 3, none⟩) (by first | (rw [add_block]; exact hn258_3) | (show (Addr.add _ _).block ≠ _; rw [add_block]; exact hn258_3) | exact hn258_3) (.int .i64 ((rd_T54 l0 x7_1).f2))).trans hx258_0; replace hx258_1 := (cell_far (p := ⟨gb253, 3, none⟩) (by first | (rw [add_block]; exact hn258_3) | (show (Addr.add _ _).block ≠ _; rw [add_block]; exact hn258_3) | exact hn258_3) (.int .i64 ((rd_T54 l0 x7_1).f2))).trans hx258_1; replace hx258_2 := (cell_far (p := ⟨gb253, 3, none⟩) (by first | (rw [add_block]; exact hn258_3) | (show (Addr.add _ _).block ≠ _; rw [add_block]; exact hn258_3) | exact hn258_3) (.int .i64 ((rd_T54 l0 x7_1).f2))).trans hx258_2; replace hx258_3 := (cell_far (p := ⟨gb253, 3, none⟩) (by first | (rw [add_block]; exact hn258_3) | (show (Addr.add _ _).block ≠ _; rw [add_block]; exact hn258_3) | exact hn258_3) (.int .i64 ((rd_T54 l0 x7_1).f2))).trans hx258_3; (try have hy258_0 := fun (n_ : Nat) => (show ((((((w20.drewN n_).setCell ⟨gb253, 0, none⟩ (.int .i64 ((rd_T54 l0 x7_1).f0.f0))).setCell ⟨gb253, 1, none⟩ (.int .i64 ((rd_T54 l0 x7_1).f0.f1))).setCell ⟨gb253, 2, none⟩ (.int .i64 ((rd_T54 l0 x7_1).f1))).setCell ⟨gb253, 3, none⟩ (.int .i64 ((rd_T54 l0 x7_1).f2)))).cell? _ = some _ from hx258_0)); (try have hy258_1 := fun (n_ : Nat) => (show ((((((w20.drewN n_).setCell ⟨gb253, 0, none⟩ (.int .i64 ((rd_T54 l0 x7_1).f0.f0))).setCell ⟨gb253, 1, none⟩ (.int .i64 ((rd_T54 l0 x7_1).f0.f1))).setCell ⟨gb253, 2, none⟩ (.int .i64 ((rd_T54 l0 x7_1).f1))).setCell ⟨gb253, 3, none⟩ (.int .i64 ((rd_T54 l0 x7_1).f2)))).cell? _ = some _ from hx258_1)); (try have hy258_2 := fun (n_ : Nat) => (show ((((((w20.drewN n_).setCell ⟨gb253, 0, none⟩ (.int .i64 ((rd_T54 l0 x7_1).f0.f0))).setCell ⟨gb253, 1, none⟩ (.int .i64 ((rd_T54 l0 x7_1).f0.f1))).setCell ⟨gb253, 2, none⟩ (.int .i64 ((rd_T54 l0 x7_1).f1))).setCell ⟨gb253, 3, none⟩ (.int .i64 ((rd_T54 l0 x7_1).f2)))).cell? _ = some _ from hx258_2)); (try have hy258_3 := fun (n_ : Nat) => (show ((((((w20.drewN n_).setCell ⟨gb253, 0, none⟩ (.int .i64 ((rd_T54 l0 x7_1).f0.f0))).setCell ⟨gb253, 1, none⟩ (.int .i64 ((rd_T54 l0 x7_1).f0.f1))).setCell ⟨gb253, 2, none⟩ (.int .i64 ((rd_T54 l0 x7_1).f1))).setCell ⟨gb253, 3, none⟩ (.int .i64 ((rd_T54 l0 x7_1).f2)))).cell? _ = some _ from hx258_3)); clear hn258_0; clear hn258_1; clear hn258_2; clear hn258_3; replace p258 := eq_true p258; replace q258 := eq_true q258)); try go_wp2_with (first | ((with_reducible refine gate_dst (N := 4) rfl ?_); refine box_event ?hg (N := 4) ?hd (cs := #[.int .i64 0, .int .i64 0, .int .i64 0, .int .i64 0]) (t := 54) ?hr ?_; (case hd => rfl); (case hg => rfl); (case hr => first | (go_simp; done) | (go_simp; rfl)); intro gb253 hg w20 hbox hb; have n0_ := Aside0.mk (below_step (oB HB) hb); have n1_ := Aside0.mk (hbox); have n2_ := Aside0.mk ((by rw [hg]; exact (below_size (oB HB)) : w.heap.size ≤ gb253)); have n3_ := Aside0.mk ((by rw [hg]; exact (below_size (oB HB)) : w.heap.size ≤ gb253)); clear HB; have HB := n0_; have BK253 := n1_; have GW253 := n2_; have GE253 := n3_; clear n0_ n1_ n2_ n3_; clear hb hbox hg; have hcz21_0 : w20.cell? ⟨gb253, 0, none⟩ = some (.int .i64 0) := (blk_cell BK253.out 0).trans rfl; have hcz21_1 : w20.cell? ⟨gb253, 1, none⟩ = some (.int .i64 0) := (blk_cell BK253.out 1).trans rfl; have hcz21_2 : w20.cell? ⟨gb253, 2, none⟩ = some (.int .i64 0) := (blk_cell BK253.out 2).trans rfl; have hcz21_3 : w20.cell? ⟨gb253, 3, none⟩ = some (.int .i64 0) := (blk_cell BK253.out 3).trans rfl; have hfz21_0 := blk_frozen BK253.out 0; have hfz21_1 := blk_frozen BK253.out 1; have hfz21_2 := blk_frozen BK253.out 2; have hfz21_3 := blk_frozen BK253.out 3) | (go_at_call 32; (with_reducible refine (impl_within.calls ((rd_T54 l0 x7_1).f0.f0) 0 3 true _ A5.out).mono ?_); rintro e w' ⟨rfl, ⟨nd, rfl⟩⟩; (try first | exact ⟨rfl, _, World.drewN_drewN _ _ _⟩ | exact ⟨rfl, _, Eq.trans (World.drewN_drewN _ _ _) (congrArg (World.drewN _) (Nat.add_assoc _ _ _))⟩)) | (go_at_call 32; (with_reducible refine (impl_within.calls ((rd_T54 l0 x7_1).f0.f1) 0 39 true _ A7.out).mono ?_); rintro e w' ⟨rfl, ⟨nd, rfl⟩⟩; (try first | exact ⟨rfl, _, World.drewN_drewN _ _ _⟩ | exact ⟨rfl, _, Eq.trans (World.drewN_drewN _ _ _) (congrArg (World.drewN _) (Nat.add_assoc _ _ _))⟩)) | (go_at_call 32; (with_reducible refine (impl_within.calls ((rd_T54 l0 x7_1).f1) 0 2 true _ A9.out).mono ?_); rintro e w' ⟨rfl, ⟨nd, rfl⟩⟩; (try first | exact ⟨rfl, _, World.drewN_drewN _ _ _⟩ | exact ⟨rfl, _, Eq.trans (World.drewN_drewN _ _ _) (congrArg (World.drewN _) (Nat.add_assoc _ _ _))⟩)) | (go_at_call 32; (with_reducible refine (impl_within.calls ((rd_T54 l0 x7_1).f2) 0 100000 true _ A11.out).mono ?_); rintro e w' ⟨rfl, ⟨nd, rfl⟩⟩; (try first | exact ⟨rfl, _, World.drewN_drewN _ _ _⟩ | exact ⟨rfl, _, Eq.trans (World.drewN_drewN _ _ _) (congrArg (World.drewN _) (Nat.add_assoc _ _ _))⟩); have p258 : 0 ≤ ((ji14) : Int) := of_decide_eq_true (by first | (with_reducible assumption) | assumption); have q258 : (ji14) < (l0.length : Int) := of_decide_eq_true (by first | (with_reducible assumption) | assumption); obtain ⟨ad258, e258, hx258_0, hx258_1, hx258_2, hx258_3⟩ := at_T54 HR0.out (ji14) p258 q258; obtain rfl : ad252 = ad258 := (by injection e258); have hn258_0 : ad252.block ≠ gb253 := Nat.ne_of_lt (Nat.lt_of_lt_of_le (by have := World.block_lt_of_cell? _ _ hx258_0; first | rwa [add_block] at this | exact this) GW253.out); have hn258_1 : ad252.block ≠ gb253 := Nat.ne_of_lt (Nat.lt_of_lt_of_le (by have := World.block_lt_of_cell? _ _ hx258_0; first | rwa [add_block] at this | exact this) GW253.out); have hn258_2 : ad252.block ≠ gb253 := Nat.ne_of_lt (Nat.lt_of_lt_of_le (by have := World.block_lt_of_cell? _ _ hx258_0; first | rwa [add_block] at this | exact this) GW253.out); have hn258_3 : ad252.block ≠ gb253 := Nat.ne_of_lt (Nat.lt_of_lt_of_le (by have := World.block_lt_of_cell? _ _ hx258_0; first | rwa [add_block] at this | exact this) GW253.out); replace hx258_0 := (HB.out.cell (World.block_lt_of_cell? w _ hx258_0)).trans hx258_0; replace hx258_1 := (HB.out.cell (World.block_lt_of_cell? w _ hx258_1)).trans hx258_1; replace hx258_2 := (HB.out.cell (World.block_lt_of_cell? w _ hx258_2)).trans hx258_2; replace hx258_3 := (HB.out.cell (World.block_lt_of_cell? w _ hx258_3)).trans hx258_3; replace hx258_0 := (cell_far (p := ⟨gb253, 0, none⟩) (by first | (rw [add_block]; exact hn258_0) | (show (Addr.add _ _).block ≠ _; rw [add_block]; exact hn258_0) | exact hn258_0) (.int .i64 ((rd_T54 l0 x7_1).f0.f0))).trans hx258_0; replace hx258_1 := (cell_far (p := ⟨gb253, 0, none⟩) (by first | (rw [add_block]; exact hn258_0) | (show (Addr.add _ _).block ≠ _; rw [add_block]; exact hn258_0) | exact hn258_0) (.int .i64 ((rd_T54 l0 x7_1).f0.f0))).trans hx258_1; replace hx258_2 := (cell_far (p := ⟨gb253, 0, none⟩) (by first | (rw [add_block]; exact hn258_0) | (show (Addr.add _ _).block ≠ _; rw [add_block]; exact hn258_0) | exact hn258_0) (.int .i64 ((rd_T54 l0 x7_1).f0.f0))).trans hx258_2; replace hx258_3 := (cell_far (p := ⟨gb253, 0, none⟩) (by first | (rw [add_block]; exact hn258_0) | (show (Addr.add _ _).block ≠ _; rw [add_block]; exact hn258_0) | exact hn258_0) (.int .i64 ((rd_T54 l0 x7_1).f0.f0))).trans hx258_3; replace hx258_0 := (cell_far (p := ⟨gb253, 1, none⟩) (by first | (rw [add_block]; exact hn258_1) | (show (Addr.add _ _).block ≠ _; rw [add_block]; exact hn258_1) | exact hn258_1) (.int .i64 ((rd_T54 l0 x7_1).f0.f1))).trans hx258_0; replace hx258_1 := (cell_far (p := ⟨gb253, 1, none⟩) (by first | (rw [add_block]; exact hn258_1) | (show (Addr.add _ _).block ≠ _; rw [add_block]; exact hn258_1) | exact hn258_1) (.int .i64 ((rd_T54 l0 x7_1).f0.f1))).trans hx258_1; replace hx258_2 := (cell_far (p := ⟨gb253, 1, none⟩) (by first | (rw [add_block]; exact hn258_1) | (show (Addr.add _ _).block ≠ _; rw [add_block]; exact hn258_1) | exact hn258_1) (.int .i64 ((rd_T54 l0 x7_1).f0.f1))).trans hx258_2; replace hx258_3 := (cell_far (p := ⟨gb253, 1, none⟩) (by first | (rw [add_block]; exact hn258_1) | (show (Addr.add _ _).block ≠ _; rw [add_block]; exact hn258_1) | exact hn258_1) (.int .i64 ((rd_T54 l0 x7_1).f0.f1))).trans hx258_3; replace hx258_0 := (cell_far (p := ⟨gb253, 2, none⟩) (by first | (rw [add_block]; exact hn258_2) | (show (Addr.add _ _).block ≠ _; rw [add_block]; exact hn258_2) | exact hn258_2) (.int .i64 ((rd_T54 l0 x7_1).f1))).trans hx258_0; replace hx258_1 := (cell_far (p := ⟨gb253, 2, none⟩) (by first | (rw [add_block]; exact hn258_2) | (show (Addr.add _ _).block ≠ _; rw [add_block]; exact hn258_2) | exact hn258_2) (.int .i64 ((rd_T54 l0 x7_1).f1))).trans hx258_1; replace hx258_2 := (cell_far (p := ⟨gb253, 2, none⟩) (by first | (rw [add_block]; exact hn258_2) | (show (Addr.add _ _).block ≠ _; rw [add_block]; exact hn258_2) | exact hn258_2) (.int .i64 ((rd_T54 l0 x7_1).f1))).trans hx258_2; replace hx258_3 := (cell_far (p := ⟨gb253, 2, none⟩) (by first | (rw [add_block]; exact hn258_2) | (show (Addr.add _ _).block ≠ _; rw [add_block]; exact hn258_2) | exact hn258_2) (.int .i64 ((rd_T54 l0 x7_1).f1))).trans hx258_3; replace hx258_0 := (cell_far (p := ⟨gb253, 3, none⟩) (by first | (rw [add_block]; exact hn258_3) | (show (Addr.add _ _).block ≠ _; rw [add_block]; exact hn258_3) | exact hn258_3) (.int .i64 ((rd_T54 l0 x7_1).f2))).trans hx258_0; replace hx258_1 := (cell_far (p := ⟨gb253, 3, none⟩) (by first | (rw [add_block]; exact hn258_3) | (show (Addr.add _ _).block ≠ _; rw [add_block]; exact hn258_3) | exact hn258_3) (.int .i64 ((rd_T54 l0 x7_1).f2))).trans hx258_1; replace hx258_2 := (cell_far (p := ⟨gb253, 3, none⟩) (by first | (rw [add_block]; exact hn258_3) | (show (Addr.add _ _).block ≠ _; rw [add_block]; exact hn258_3) | exact hn258_3) (.int .i64 ((rd_T54 l0 x7_1).f2))).trans hx258_2; replace hx258_3 := (cell_far (p := ⟨gb253, 3, none⟩) (by first | (rw [add_block]; exact hn258_3) | (show (Addr.add _ _).block ≠ _; rw [add_block]; exact hn258_3) | exact hn258_3) (.int .i64 ((rd_T54 l0 x7_1).f2))).trans hx258_3; (try have hy258_0 := fun (n_ : Nat) => (show ((((((w20.drewN n_).setCell ⟨gb253, 0, none⟩ (.int .i64 ((rd_T54 l0 x7_1).f0.f0))).setCell ⟨gb253, 1, none⟩ (.int .i64 ((rd_T54 l0 x7_1).f0.f1))).setCell ⟨gb253, 2, none⟩ (.int .i64 ((rd_T54 l0 x7_1).f1))).setCell ⟨gb253, 3, none⟩ (.int .i64 ((rd_T54 l0 x7_1).f2)))).cell? _ = some _ from hx258_0)); (try have hy258_1 := fun (n_ : Nat) => (show ((((((w20.drewN n_).setCell ⟨gb253, 0, none⟩ (.int .i64 ((rd_T54 l0 x7_1).f0.f0))).setCell ⟨gb253, 1, none⟩ (.int .i64 ((rd_T54 l0 x7_1).f0.f1))).setCell ⟨gb253, 2, none⟩ (.int .i64 ((rd_T54 l0 x7_1).f1))).setCell ⟨gb253, 3, none⟩ (.int .i64 ((rd_T54 l0 x7_1).f2)))).cell? _ = some _ from hx258_1)); (try have hy258_2 := fun (n_ : Nat) => (show ((((((w20.drewN n_).setCell ⟨gb253, 0, none⟩ (.int .i64 ((rd_T54 l0 x7_1).f0.f0))).setCell ⟨gb253, 1, none⟩ (.int .i64 ((rd_T54 l0 x7_1).f0.f1))).setCell ⟨gb253, 2, none⟩ (.int .i64 ((rd_T54 l0 x7_1).f1))).setCell ⟨gb253, 3, none⟩ (.int .i64 ((rd_T54 l0 x7_1).f2)))).cell? _ = some _ from hx258_2)); (try have hy258_3 := fun (n_ : Nat) => (show ((((((w20.drewN n_).setCell ⟨gb253, 0, none⟩ (.int .i64 ((rd_T54 l0 x7_1).f0.f0))).setCell ⟨gb253, 1, none⟩ (.int .i64 ((rd_T54 l0 x7_1).f0.f1))).setCell ⟨gb253, 2, none⟩ (.int .i64 ((rd_T54 l0 x7_1).f1))).setCell ⟨gb253, 3, none⟩ (.int .i64 ((rd_T54 l0 x7_1).f2)))).cell? _ = some _ from hx258_3)); clear hn258_0; clear hn258_1; clear hn258_2; clear hn258_3; replace p258 := eq_true p258; replace q258 := eq_true q258)))
                            go_roundg k1
                            case measure => have := HK1.out; omega
                            case rel => exact ⟨(wrap64 (x7_1 + 1)), (by first | rfl | (simp; done) | (simp [*]; done)), H', ⟨by have := HK1.out; omega⟩, ⟨oB HB⟩⟩
                        · rw [if_neg c16] at H
                          exact absurd H (by simp)
                      · rw [if_neg c15] at H
                        exact absurd H (by simp)
                    · rw [if_neg c13] at H
                      have c13b0 : decide (0 < x7_1) = false := decide_eq_false c13
                      clear c13
                      have H' := Aside0.mk H
                      clear H
                      have p252 : 0 ≤ (x7_1 : Int) := of_decide_eq_true (by first | (with_reducible assumption) | assumption)
                      have q252 : x7_1 < (l0.length : Int) := of_decide_eq_true (by first | (with_reducible assumption) | assumption)
                      obtain ⟨ad252, e252, hx252_0, hx252_1, hx252_2, hx252_3⟩ := at_T54 HR0.out x7_1 p252 q252
                      cases e252
                      replace hx252_0 := (HB.out.cell (World.block_lt_of_cell? w _ hx252_0)).trans hx252_0
                      replace hx252_1 := (HB.out.cell (World.block_lt_of_cell? w _ hx252_1)).trans hx252_1
                      replace hx252_2 := (HB.out.cell (World.block_lt_of_cell? w _ hx252_2)).trans hx252_2
                      replace hx252_3 := (HB.out.cell (World.block_lt_of_cell? w _ hx252_3)).trans hx252_3
                      replace p252 := eq_true p252
                      replace q252 := eq_true q252
                      go_wp2_with (first | ((with_reducible refine gate_dst (N := 4) rfl ?_); refine box_event ?hg (N := 4) ?hd (cs := #[.int .i64 0, .int .i64 0, .int .i64 0, .int .i64 0]) (t := 54) ?hr ?_; (case hd => rfl); (case hg => rfl); (case hr => first | (go_simp; done) | (go_simp; rfl)); intro gb253 hg w22 hbox hb; have n0_ := Aside0.mk (below_step (oB HB) hb); have n1_ := Aside0.mk (hbox); have n2_ := Aside0.mk ((by rw [hg]; exact (below_size (oB HB)) : w.heap.size ≤ gb253)); have n3_ := Aside0.mk ((by rw [hg]; exact (below_size (oB HB)) : w.heap.size ≤ gb253)); clear HB; have HB := n0_; have BK253 := n1_; have GW253 := n2_; have GE253 := n3_; clear n0_ n1_ n2_ n3_; clear hb hbox hg; have hcz23_0 : w22.cell? ⟨gb253, 0, none⟩ = some (.int .i64 0) := (blk_cell BK253.out 0).trans rfl; have hcz23_1 : w22.cell? ⟨gb253, 1, none⟩ = some (.int .i64 0) := (blk_cell BK253.out 1).trans rfl; have hcz23_2 : w22.cell? ⟨gb253, 2, none⟩ = some (.int .i64 0) := (blk_cell BK253.out 2).trans rfl; have hcz23_3 : w22.cell? ⟨gb253, 3, none⟩ = some (.int .i64 0) := (blk_cell BK253.out 3).trans rfl; have hfz23_0 := blk_frozen BK253.out 0; have hfz23_1 := blk_frozen BK253.out 1; have hfz23_2 := blk_frozen BK253.out 2; have hfz23_3 := blk_frozen BK253.out 3) | (go_at_call 32; (with_reducible refine (impl_within.calls ((rd_T54 l0 x7_1).f0.f0) 0 3 true _ A5.out).mono ?_); rintro e w' ⟨rfl, ⟨nd, rfl⟩⟩; (try first | exact ⟨rfl, _, World.drewN_drewN _ _ _⟩ | exact ⟨rfl, _, Eq.trans (World.drewN_drewN _ _ _) (congrArg (World.drewN _) (Nat.add_assoc _ _ _))⟩)) | (go_at_call 32; (with_reducible refine (impl_within.calls ((rd_T54 l0 x7_1).f0.f1) 0 39 true _ A7.out).mono ?_); rintro e w' ⟨rfl, ⟨nd, rfl⟩⟩; (try first | exact ⟨rfl, _, World.drewN_drewN _ _ _⟩ | exact ⟨rfl, _, Eq.trans (World.drewN_drewN _ _ _) (congrArg (World.drewN _) (Nat.add_assoc _ _ _))⟩)) | (go_at_call 32; (with_reducible refine (impl_within.calls ((rd_T54 l0 x7_1).f1) 0 2 true _ A9.out).mono ?_); rintro e w' ⟨rfl, ⟨nd, rfl⟩⟩; (try first | exact ⟨rfl, _, World.drewN_drewN _ _ _⟩ | exact ⟨rfl, _, Eq.trans (World.drewN_drewN _ _ _) (congrArg (World.drewN _) (Nat.add_assoc _ _ _))⟩)) | (go_at_call 32; (with_reducible refine (impl_within.calls ((rd_T54 l0 x7_1).f2) 0 100000 true _ A11.out).mono ?_); rintro e w' ⟨rfl, ⟨nd, rfl⟩⟩; (try first | exact ⟨rfl, _, World.drewN_drewN _ _ _⟩ | exact ⟨rfl, _, Eq.trans (World.drewN_drewN _ _ _) (congrArg (World.drewN _) (Nat.add_assoc _ _ _))⟩)))
                      repeat (go_quiet (first | ((with_reducible refine gate_dst (N := 4) rfl ?_); refine box_event ?hg (N := 4) ?hd (cs := #[.int .i64 0, .int .i64 0, .int .i64 0, .int .i64 0]) (t := 54) ?hr ?_; (case hd => rfl); (case hg => rfl); (case hr => first | (go_simp; done) | (go_simp; rfl)); intro gb253 hg w22 hbox hb; have n0_ := Aside0.mk (below_step (oB HB) hb); have n1_ := Aside0.mk (hbox); have n2_ := Aside0.mk ((by rw [hg]; exact (below_size (oB HB)) : w.heap.size ≤ gb253)); have n3_ := Aside0.mk ((by rw [hg]; exact (below_size (oB HB)) : w.heap.size ≤ gb253)); clear HB; have HB := n0_; have BK253 := n1_; have GW253 := n2_; have GE253 := n3_; clear n0_ n1_ n2_ n3_; clear hb hbox hg; have hcz23_0 : w22.cell? ⟨gb253, 0, none⟩ = some (.int .i64 0) := (blk_cell BK253.out 0).trans rfl; have hcz23_1 : w22.cell? ⟨gb253, 1, none⟩ = some (.int .i64 0) := (blk_cell BK253.out 1).trans rfl; have hcz23_2 : w22.cell? ⟨gb253, 2, none⟩ = some (.int .i64 0) := (blk_cell BK253.out 2).trans rfl; have hcz23_3 : w22.cell? ⟨gb253, 3, none⟩ = some (.int .i64 0) := (blk_cell BK253.out 3).trans rfl; have hfz23_0 := blk_frozen BK253.out 0; have hfz23_1 := blk_frozen BK253.out 1; have hfz23_2 := blk_frozen BK253.out 2; have hfz23_3 := blk_frozen BK253.out 3) | (go_at_call 32; (with_reducible refine (impl_within.calls ((rd_T54 l0 x7_1).f0.f0) 0 3 true _ A5.out).mono ?_); rintro e w' ⟨rfl, ⟨nd, rfl⟩⟩; (try first | exact ⟨rfl, _, World.drewN_drewN _ _ _⟩ | exact ⟨rfl, _, Eq.trans (World.drewN_drewN _ _ _) (congrArg (World.drewN _) (Nat.add_assoc _ _ _))⟩)) | (go_at_call 32; (with_reducible refine (impl_within.calls ((rd_T54 l0 x7_1).f0.f1) 0 39 true _ A7.out).mono ?_); rintro e w' ⟨rfl, ⟨nd, rfl⟩⟩; (try first | exact ⟨rfl, _, World.drewN_drewN _ _ _⟩ | exact ⟨rfl, _, Eq.trans (World.drewN_drewN _ _ _) (congrArg (World.drewN _) (Nat.add_assoc _ _ _))⟩)) | (go_at_call 32; (with_reducible refine (impl_within.calls ((rd_T54 l0 x7_1).f1) 0 2 true _ A9.out).mono ?_); rintro e w' ⟨rfl, ⟨nd, rfl⟩⟩; (try first | exact ⟨rfl, _, World.drewN_drewN _ _ _⟩ | exact ⟨rfl, _, Eq.trans (World.drewN_drewN _ _ _) (congrArg (World.drewN _) (Nat.add_assoc _ _ _))⟩)) | (go_at_call 32; (with_reducible refine (impl_within.calls ((rd_T54 l0 x7_1).f2) 0 100000 true _ A11.out).mono ?_); rintro e w' ⟨rfl, ⟨nd, rfl⟩⟩; (try first | exact ⟨rfl, _, World.drewN_drewN _ _ _⟩ | exact ⟨rfl, _, Eq.trans (World.drewN_drewN _ _ _) (congrArg (World.drewN _) (Nat.add_assoc _ _ _))⟩))); try go_wp2_with (first | ((with_reducible refine gate_dst (N := 4) rfl ?_); refine box_event ?hg (N := 4) ?hd (cs := #[.int .i64 0, .int .i64 0, .int .i64 0, .int .i64 0]) (t := 54) ?hr ?_; (case hd => rfl); (case hg => rfl); (case hr => first | (go_simp; done) | (go_simp; rfl)); intro gb253 hg w22 hbox hb; have n0_ := Aside0.mk (below_step (oB HB) hb); have n1_ := Aside0.mk (hbox); have n2_ := Aside0.mk ((by rw [hg]; exact (below_size (oB HB)) : w.heap.size ≤ gb253)); have n3_ := Aside0.mk ((by rw [hg]; exact (below_size (oB HB)) : w.heap.size ≤ gb253)); clear HB; have HB := n0_; have BK253 := n1_; have GW253 := n2_; have GE253 := n3_; clear n0_ n1_ n2_ n3_; clear hb hbox hg; have hcz23_0 : w22.cell? ⟨gb253, 0, none⟩ = some (.int .i64 0) := (blk_cell BK253.out 0).trans rfl; have hcz23_1 : w22.cell? ⟨gb253, 1, none⟩ = some (.int .i64 0) := (blk_cell BK253.out 1).trans rfl; have hcz23_2 : w22.cell? ⟨gb253, 2, none⟩ = some (.int .i64 0) := (blk_cell BK253.out 2).trans rfl; have hcz23_3 : w22.cell? ⟨gb253, 3, none⟩ = some (.int .i64 0) := (blk_cell BK253.out 3).trans rfl; have hfz23_0 := blk_frozen BK253.out 0; have hfz23_1 := blk_frozen BK253.out 1; have hfz23_2 := blk_frozen BK253.out 2; have hfz23_3 := blk_frozen BK253.out 3) | (go_at_call 32; (with_reducible refine (impl_within.calls ((rd_T54 l0 x7_1).f0.f0) 0 3 true _ A5.out).mono ?_); rintro e w' ⟨rfl, ⟨nd, rfl⟩⟩; (try first | exact ⟨rfl, _, World.drewN_drewN _ _ _⟩ | exact ⟨rfl, _, Eq.trans (World.drewN_drewN _ _ _) (congrArg (World.drewN _) (Nat.add_assoc _ _ _))⟩)) | (go_at_call 32; (with_reducible refine (impl_within.calls ((rd_T54 l0 x7_1).f0.f1) 0 39 true _ A7.out).mono ?_); rintro e w' ⟨rfl, ⟨nd, rfl⟩⟩; (try first | exact ⟨rfl, _, World.drewN_drewN _ _ _⟩ | exact ⟨rfl, _, Eq.trans (World.drewN_drewN _ _ _) (congrArg (World.drewN _) (Nat.add_assoc _ _ _))⟩)) | (go_at_call 32; (with_reducible refine (impl_within.calls ((rd_T54 l0 x7_1).f1) 0 2 true _ A9.out).mono ?_); rintro e w' ⟨rfl, ⟨nd, rfl⟩⟩; (try first | exact ⟨rfl, _, World.drewN_drewN _ _ _⟩ | exact ⟨rfl, _, Eq.trans (World.drewN_drewN _ _ _) (congrArg (World.drewN _) (Nat.add_assoc _ _ _))⟩)) | (go_at_call 32; (with_reducible refine (impl_within.calls ((rd_T54 l0 x7_1).f2) 0 100000 true _ A11.out).mono ?_); rintro e w' ⟨rfl, ⟨nd, rfl⟩⟩; (try first | exact ⟨rfl, _, World.drewN_drewN _ _ _⟩ | exact ⟨rfl, _, Eq.trans (World.drewN_drewN _ _ _) (congrArg (World.drewN _) (Nat.add_assoc _ _ _))⟩))))
                      go_roundg k1
                      case measure => have := HK1.out; omega
                      case rel => exact ⟨(wrap64 (x7_1 + 1)), (by first | rfl | (simp; done) | (simp [*]; done)), H', ⟨by have := HK1.out; omega⟩, ⟨oB HB⟩⟩
                  · replace c12 := Bool.eq_false_iff.mpr c12
                    subst c12
                    rw [if_neg (show ¬ (false = true) by decide)] at H
                    obtain rfl := Option.some.inj H
                    have p252 : 0 ≤ (x7_1 : Int) := of_decide_eq_true (by first | (with_reducible assumption) | assumption)
                    have q252 : x7_1 < (l0.length : Int) := of_decide_eq_true (by first | (with_reducible assumption) | assumption)
                    obtain ⟨ad252, e252, hx252_0, hx252_1, hx252_2, hx252_3⟩ := at_T54 HR0.out x7_1 p252 q252
                    cases e252
                    replace hx252_0 := (HB.out.cell (World.block_lt_of_cell? w _ hx252_0)).trans hx252_0
                    replace hx252_1 := (HB.out.cell (World.block_lt_of_cell? w _ hx252_1)).trans hx252_1
                    replace hx252_2 := (HB.out.cell (World.block_lt_of_cell? w _ hx252_2)).trans hx252_2
                    replace hx252_3 := (HB.out.cell (World.block_lt_of_cell? w _ hx252_3)).trans hx252_3
                    replace p252 := eq_true p252
                    replace q252 := eq_true q252
                    go_wp2_with (first | ((with_reducible refine gate_dst (N := 4) rfl ?_); refine box_event ?hg (N := 4) ?hd (cs := #[.int .i64 0, .int .i64 0, .int .i64 0, .int .i64 0]) (t := 54) ?hr ?_; (case hd => rfl); (case hg => rfl); (case hr => first | (go_simp; done) | (go_simp; rfl)); intro gb253 hg w24 hbox hb; have n0_ := Aside0.mk (below_step (oB HB) hb); have n1_ := Aside0.mk (hbox); have n2_ := Aside0.mk ((by rw [hg]; exact (below_size (oB HB)) : w.heap.size ≤ gb253)); have n3_ := Aside0.mk ((by rw [hg]; exact (below_size (oB HB)) : w.heap.size ≤ gb253)); clear HB; have HB := n0_; have BK253 := n1_; have GW253 := n2_; have GE253 := n3_; clear n0_ n1_ n2_ n3_; clear hb hbox hg; have hcz25_0 : w24.cell? ⟨gb253, 0, none⟩ = some (.int .i64 0) := (blk_cell BK253.out 0).trans rfl; have hcz25_1 : w24.cell? ⟨gb253, 1, none⟩ = some (.int .i64 0) := (blk_cell BK253.out 1).trans rfl; have hcz25_2 : w24.cell? ⟨gb253, 2, none⟩ = some (.int .i64 0) := (blk_cell BK253.out 2).trans rfl; have hcz25_3 : w24.cell? ⟨gb253, 3, none⟩ = some (.int .i64 0) := (blk_cell BK253.out 3).trans rfl; have hfz25_0 := blk_frozen BK253.out 0; have hfz25_1 := blk_frozen BK253.out 1; have hfz25_2 := blk_frozen BK253.out 2; have hfz25_3 := blk_frozen BK253.out 3) | (go_at_call 32; (with_reducible refine (impl_within.calls ((rd_T54 l0 x7_1).f0.f0) 0 3 true _ A5.out).mono ?_); rintro e w' ⟨rfl, ⟨nd, rfl⟩⟩; (try first | exact ⟨rfl, _, World.drewN_drewN _ _ _⟩ | exact ⟨rfl, _, Eq.trans (World.drewN_drewN _ _ _) (congrArg (World.drewN _) (Nat.add_assoc _ _ _))⟩)) | (go_at_call 32; (with_reducible refine (impl_within.calls ((rd_T54 l0 x7_1).f0.f1) 0 39 true _ A7.out).mono ?_); rintro e w' ⟨rfl, ⟨nd, rfl⟩⟩; (try first | exact ⟨rfl, _, World.drewN_drewN _ _ _⟩ | exact ⟨rfl, _, Eq.trans (World.drewN_drewN _ _ _) (congrArg (World.drewN _) (Nat.add_assoc _ _ _))⟩)) | (go_at_call 32; (with_reducible refine (impl_within.calls ((rd_T54 l0 x7_1).f1) 0 2 true _ A9.out).mono ?_); rintro e w' ⟨rfl, ⟨nd, rfl⟩⟩; (try first | exact ⟨rfl, _, World.drewN_drewN _ _ _⟩ | exact ⟨rfl, _, Eq.trans (World.drewN_drewN _ _ _) (congrArg (World.drewN _) (Nat.add_assoc _ _ _))⟩)) | (go_at_call 32; (with_reducible refine (impl_within.calls ((rd_T54 l0 x7_1).f2) 0 100000 false _ A11.out).mono ?_); rintro e w' ⟨rfl, ⟨nd, rfl⟩⟩; (try first | exact ⟨rfl, _, World.drewN_drewN _ _ _⟩ | exact ⟨rfl, _, Eq.trans (World.drewN_drewN _ _ _) (congrArg (World.drewN _) (Nat.add_assoc _ _ _))⟩)))
                    repeat (go_quiet (first | ((with_reducible refine gate_dst (N := 4) rfl ?_); refine box_event ?hg (N := 4) ?hd (cs := #[.int .i64 0, .int .i64 0, .int .i64 0, .int .i64 0]) (t := 54) ?hr ?_; (case hd => rfl); (case hg => rfl); (case hr => first | (go_simp; done) | (go_simp; rfl)); intro gb253 hg w24 hbox hb; have n0_ := Aside0.mk (below_step (oB HB) hb); have n1_ := Aside0.mk (hbox); have n2_ := Aside0.mk ((by rw [hg]; exact (below_size (oB HB)) : w.heap.size ≤ gb253)); have n3_ := Aside0.mk ((by rw [hg]; exact (below_size (oB HB)) : w.heap.size ≤ gb253)); clear HB; have HB := n0_; have BK253 := n1_; have GW253 := n2_; have GE253 := n3_; clear n0_ n1_ n2_ n3_; clear hb hbox hg; have hcz25_0 : w24.cell? ⟨gb253, 0, none⟩ = some (.int .i64 0) := (blk_cell BK253.out 0).trans rfl; have hcz25_1 : w24.cell? ⟨gb253, 1, none⟩ = some (.int .i64 0) := (blk_cell BK253.out 1).trans rfl; have hcz25_2 : w24.cell? ⟨gb253, 2, none⟩ = some (.int .i64 0) := (blk_cell BK253.out 2).trans rfl; have hcz25_3 : w24.cell? ⟨gb253, 3, none⟩ = some (.int .i64 0) := (blk_cell BK253.out 3).trans rfl; have hfz25_0 := blk_frozen BK253.out 0; have hfz25_1 := blk_frozen BK253.out 1; have hfz25_2 := blk_frozen BK253.out 2; have hfz25_3 := blk_frozen BK253.out 3) | (go_at_call 32; (with_reducible refine (impl_within.calls ((rd_T54 l0 x7_1).f0.f0) 0 3 true _ A5.out).mono ?_); rintro e w' ⟨rfl, ⟨nd, rfl⟩⟩; (try first | exact ⟨rfl, _, World.drewN_drewN _ _ _⟩ | exact ⟨rfl, _, Eq.trans (World.drewN_drewN _ _ _) (congrArg (World.drewN _) (Nat.add_assoc _ _ _))⟩)) | (go_at_call 32; (with_reducible refine (impl_within.calls ((rd_T54 l0 x7_1).f0.f1) 0 39 true _ A7.out).mono ?_); rintro e w' ⟨rfl, ⟨nd, rfl⟩⟩; (try first | exact ⟨rfl, _, World.drewN_drewN _ _ _⟩ | exact ⟨rfl, _, Eq.trans (World.drewN_drewN _ _ _) (congrArg (World.drewN _) (Nat.add_assoc _ _ _))⟩)) | (go_at_call 32; (with_reducible refine (impl_within.calls ((rd_T54 l0 x7_1).f1) 0 2 true _ A9.out).mono ?_); rintro e w' ⟨rfl, ⟨nd, rfl⟩⟩; (try first | exact ⟨rfl, _, World.drewN_drewN _ _ _⟩ | exact ⟨rfl, _, Eq.trans (World.drewN_drewN _ _ _) (congrArg (World.drewN _) (Nat.add_assoc _ _ _))⟩)) | (go_at_call 32; (with_reducible refine (impl_within.calls ((rd_T54 l0 x7_1).f2) 0 100000 false _ A11.out).mono ?_); rintro e w' ⟨rfl, ⟨nd, rfl⟩⟩; (try first | exact ⟨rfl, _, World.drewN_drewN _ _ _⟩ | exact ⟨rfl, _, Eq.trans (World.drewN_drewN _ _ _) (congrArg (World.drewN _) (Nat.add_assoc _ _ _))⟩))); try go_wp2_with (first | ((with_reducible refine gate_dst (N := 4) rfl ?_); refine box_event ?hg (N := 4) ?hd (cs := #[.int .i64 0, .int .i64 0, .int .i64 0, .int .i64 0]) (t := 54) ?hr ?_; (case hd => rfl); (case hg => rfl); (case hr => first | (go_simp; done) | (go_simp; rfl)); intro gb253 hg w24 hbox hb; have n0_ := Aside0.mk (below_step (oB HB) hb); have n1_ := Aside0.mk (hbox); have n2_ := Aside0.mk ((by rw [hg]; exact (below_size (oB HB)) : w.heap.size ≤ gb253)); have n3_ := Aside0.mk ((by rw [hg]; exact (below_size (oB HB)) : w.heap.size ≤ gb253)); clear HB; have HB := n0_; have BK253 := n1_; have GW253 := n2_; have GE253 := n3_; clear n0_ n1_ n2_ n3_; clear hb hbox hg; have hcz25_0 : w24.cell? ⟨gb253, 0, none⟩ = some (.int .i64 0) := (blk_cell BK253.out 0).trans rfl; have hcz25_1 : w24.cell? ⟨gb253, 1, none⟩ = some (.int .i64 0) := (blk_cell BK253.out 1).trans rfl; have hcz25_2 : w24.cell? ⟨gb253, 2, none⟩ = some (.int .i64 0) := (blk_cell BK253.out 2).trans rfl; have hcz25_3 : w24.cell? ⟨gb253, 3, none⟩ = some (.int .i64 0) := (blk_cell BK253.out 3).trans rfl; have hfz25_0 := blk_frozen BK253.out 0; have hfz25_1 := blk_frozen BK253.out 1; have hfz25_2 := blk_frozen BK253.out 2; have hfz25_3 := blk_frozen BK253.out 3) | (go_at_call 32; (with_reducible refine (impl_within.calls ((rd_T54 l0 x7_1).f0.f0) 0 3 true _ A5.out).mono ?_); rintro e w' ⟨rfl, ⟨nd, rfl⟩⟩; (try first | exact ⟨rfl, _, World.drewN_drewN _ _ _⟩ | exact ⟨rfl, _, Eq.trans (World.drewN_drewN _ _ _) (congrArg (World.drewN _) (Nat.add_assoc _ _ _))⟩)) | (go_at_call 32; (with_reducible refine (impl_within.calls ((rd_T54 l0 x7_1).f0.f1) 0 39 true _ A7.out).mono ?_); rintro e w' ⟨rfl, ⟨nd, rfl⟩⟩; (try first | exact ⟨rfl, _, World.drewN_drewN _ _ _⟩ | exact ⟨rfl, _, Eq.trans (World.drewN_drewN _ _ _) (congrArg (World.drewN _) (Nat.add_assoc _ _ _))⟩)) | (go_at_call 32; (with_reducible refine (impl_within.calls ((rd_T54 l0 x7_1).f1) 0 2 true _ A9.out).mono ?_); rintro e w' ⟨rfl, ⟨nd, rfl⟩⟩; (try first | exact ⟨rfl, _, World.drewN_drewN _ _ _⟩ | exact ⟨rfl, _, Eq.trans (World.drewN_drewN _ _ _) (congrArg (World.drewN _) (Nat.add_assoc _ _ _))⟩)) | (go_at_call 32; (with_reducible refine (impl_within.calls ((rd_T54 l0 x7_1).f2) 0 100000 false _ A11.out).mono ?_); rintro e w' ⟨rfl, ⟨nd, rfl⟩⟩; (try first | exact ⟨rfl, _, World.drewN_drewN _ _ _⟩ | exact ⟨rfl, _, Eq.trans (World.drewN_drewN _ _ _) (congrArg (World.drewN _) (Nat.add_assoc _ _ _))⟩))))
                    go_ret
                    exact ⟨by first | rfl | (simp [errW_none, errW_some] <;> rfl) | (simp [*, errW_none, errW_some] <;> rfl), oB HB⟩
                · replace c10 := Bool.eq_false_iff.mpr c10
                  subst c10
                  rw [if_neg (show ¬ (false = true) by decide)] at H
                  obtain rfl := Option.some.inj H
                  have p252 : 0 ≤ (x7_1 : Int) := of_decide_eq_true (by first | (with_reducible assumption) | assumption)
                  have q252 : x7_1 < (l0.length : Int) := of_decide_eq_true (by first | (with_reducible assumption) | assumption)
                  obtain ⟨ad252, e252, hx252_0, hx252_1, hx252_2, hx252_3⟩ := at_T54 HR0.out x7_1 p252 q252
                  cases e252
                  replace hx252_0 := (HB.out.cell (World.block_lt_of_cell? w _ hx252_0)).trans hx252_0
                  replace hx252_1 := (HB.out.cell (World.block_lt_of_cell? w _ hx252_1)).trans hx252_1
                  replace hx252_2 := (HB.out.cell (World.block_lt_of_cell? w _ hx252_2)).trans hx252_2
                  replace hx252_3 := (HB.out.cell (World.block_lt_of_cell? w _ hx252_3)).trans hx252_3
                  replace p252 := eq_true p252
                  replace q252 := eq_true q252
                  go_wp2_with (first | ((with_reducible refine gate_dst (N := 4) rfl ?_); refine box_event ?hg (N := 4) ?hd (cs := #[.int .i64 0, .int .i64 0, .int .i64 0, .int .i64 0]) (t := 54) ?hr ?_; (case hd => rfl); (case hg => rfl); (case hr => first | (go_simp; done) | (go_simp; rfl)); intro gb253 hg w26 hbox hb; have n0_ := Aside0.mk (below_step (oB HB) hb); have n1_ := Aside0.mk (hbox); have n2_ := Aside0.mk ((by rw [hg]; exact (below_size (oB HB)) : w.heap.size ≤ gb253)); have n3_ := Aside0.mk ((by rw [hg]; exact (below_size (oB HB)) : w.heap.size ≤ gb253)); clear HB; have HB := n0_; have BK253 := n1_; have GW253 := n2_; have GE253 := n3_; clear n0_ n1_ n2_ n3_; clear hb hbox hg; have hcz27_0 : w26.cell? ⟨gb253, 0, none⟩ = some (.int .i64 0) := (blk_cell BK253.out 0).trans rfl; have hcz27_1 : w26.cell? ⟨gb253, 1, none⟩ = some (.int .i64 0) := (blk_cell BK253.out 1).trans rfl; have hcz27_2 : w26.cell? ⟨gb253, 2, none⟩ = some (.int .i64 0) := (blk_cell BK253.out 2).trans rfl; have hcz27_3 : w26.cell? ⟨gb253, 3, none⟩ = some (.int .i64 0) := (blk_cell BK253.out 3).trans rfl; have hfz27_0 := blk_frozen BK253.out 0; have hfz27_1 := blk_frozen BK253.out 1; have hfz27_2 := blk_frozen BK253.out 2; have hfz27_3 := blk_frozen BK253.out 3) | (go_at_call 32; (with_reducible refine (impl_within.calls ((rd_T54 l0 x7_1).f0.f0) 0 3 true _ A5.out).mono ?_); rintro e w' ⟨rfl, ⟨nd, rfl⟩⟩; (try first | exact ⟨rfl, _, World.drewN_drewN _ _ _⟩ | exact ⟨rfl, _, Eq.trans (World.drewN_drewN _ _ _) (congrArg (World.drewN _) (Nat.add_assoc _ _ _))⟩)) | (go_at_call 32; (with_reducible refine (impl_within.calls ((rd_T54 l0 x7_1).f0.f1) 0 39 true _ A7.out).mono ?_); rintro e w' ⟨rfl, ⟨nd, rfl⟩⟩; (try first | exact ⟨rfl, _, World.drewN_drewN _ _ _⟩ | exact ⟨rfl, _, Eq.trans (World.drewN_drewN _ _ _) (congrArg (World.drewN _) (Nat.add_assoc _ _ _))⟩)) | (go_at_call 32; (with_reducible refine (impl_within.calls ((rd_T54 l0 x7_1).f1) 0 2 false _ A9.out).mono ?_); rintro e w' ⟨rfl, ⟨nd, rfl⟩⟩; (try first | exact ⟨rfl, _, World.drewN_drewN _ _ _⟩ | exact ⟨rfl, _, Eq.trans (World.drewN_drewN _ _ _) (congrArg (World.drewN _) (Nat.add_assoc _ _ _))⟩)))
                  repeat (go_quiet (first | ((with_reducible refine gate_dst (N := 4) rfl ?_); refine box_event ?hg (N := 4) ?hd (cs := #[.int .i64 0, .int .i64 0, .int .i64 0, .int .i64 0]) (t := 54) ?hr ?_; (case hd => rfl); (case hg => rfl); (case hr => first | (go_simp; done) | (go_simp; rfl)); intro gb253 hg w26 hbox hb; have n0_ := Aside0.mk (below_step (oB HB) hb); have n1_ := Aside0.mk (hbox); have n2_ := Aside0.mk ((by rw [hg]; exact (below_size (oB HB)) : w.heap.size ≤ gb253)); have n3_ := Aside0.mk ((by rw [hg]; exact (below_size (oB HB)) : w.heap.size ≤ gb253)); clear HB; have HB := n0_; have BK253 := n1_; have GW253 := n2_; have GE253 := n3_; clear n0_ n1_ n2_ n3_; clear hb hbox hg; have hcz27_0 : w26.cell? ⟨gb253, 0, none⟩ = some (.int .i64 0) := (blk_cell BK253.out 0).trans rfl; have hcz27_1 : w26.cell? ⟨gb253, 1, none⟩ = some (.int .i64 0) := (blk_cell BK253.out 1).trans rfl; have hcz27_2 : w26.cell? ⟨gb253, 2, none⟩ = some (.int .i64 0) := (blk_cell BK253.out 2).trans rfl; have hcz27_3 : w26.cell? ⟨gb253, 3, none⟩ = some (.int .i64 0) := (blk_cell BK253.out 3).trans rfl; have hfz27_0 := blk_frozen BK253.out 0; have hfz27_1 := blk_frozen BK253.out 1; have hfz27_2 := blk_frozen BK253.out 2; have hfz27_3 := blk_frozen BK253.out 3) | (go_at_call 32; (with_reducible refine (impl_within.calls ((rd_T54 l0 x7_1).f0.f0) 0 3 true _ A5.out).mono ?_); rintro e w' ⟨rfl, ⟨nd, rfl⟩⟩; (try first | exact ⟨rfl, _, World.drewN_drewN _ _ _⟩ | exact ⟨rfl, _, Eq.trans (World.drewN_drewN _ _ _) (congrArg (World.drewN _) (Nat.add_assoc _ _ _))⟩)) | (go_at_call 32; (with_reducible refine (impl_within.calls ((rd_T54 l0 x7_1).f0.f1) 0 39 true _ A7.out).mono ?_); rintro e w' ⟨rfl, ⟨nd, rfl⟩⟩; (try first | exact ⟨rfl, _, World.drewN_drewN _ _ _⟩ | exact ⟨rfl, _, Eq.trans (World.drewN_drewN _ _ _) (congrArg (World.drewN _) (Nat.add_assoc _ _ _))⟩)) | (go_at_call 32; (with_reducible refine (impl_within.calls ((rd_T54 l0 x7_1).f1) 0 2 false _ A9.out).mono ?_); rintro e w' ⟨rfl, ⟨nd, rfl⟩⟩; (try first | exact ⟨rfl, _, World.drewN_drewN _ _ _⟩ | exact ⟨rfl, _, Eq.trans (World.drewN_drewN _ _ _) (congrArg (World.drewN _) (Nat.add_assoc _ _ _))⟩))); try go_wp2_with (first | ((with_reducible refine gate_dst (N := 4) rfl ?_); refine box_event ?hg (N := 4) ?hd (cs := #[.int .i64 0, .int .i64 0, .int .i64 0, .int .i64 0]) (t := 54) ?hr ?_; (case hd => rfl); (case hg => rfl); (case hr => first | (go_simp; done) | (go_simp; rfl)); intro gb253 hg w26 hbox hb; have n0_ := Aside0.mk (below_step (oB HB) hb); have n1_ := Aside0.mk (hbox); have n2_ := Aside0.mk ((by rw [hg]; exact (below_size (oB HB)) : w.heap.size ≤ gb253)); have n3_ := Aside0.mk ((by rw [hg]; exact (below_size (oB HB)) : w.heap.size ≤ gb253)); clear HB; have HB := n0_; have BK253 := n1_; have GW253 := n2_; have GE253 := n3_; clear n0_ n1_ n2_ n3_; clear hb hbox hg; have hcz27_0 : w26.cell? ⟨gb253, 0, none⟩ = some (.int .i64 0) := (blk_cell BK253.out 0).trans rfl; have hcz27_1 : w26.cell? ⟨gb253, 1, none⟩ = some (.int .i64 0) := (blk_cell BK253.out 1).trans rfl; have hcz27_2 : w26.cell? ⟨gb253, 2, none⟩ = some (.int .i64 0) := (blk_cell BK253.out 2).trans rfl; have hcz27_3 : w26.cell? ⟨gb253, 3, none⟩ = some (.int .i64 0) := (blk_cell BK253.out 3).trans rfl; have hfz27_0 := blk_frozen BK253.out 0; have hfz27_1 := blk_frozen BK253.out 1; have hfz27_2 := blk_frozen BK253.out 2; have hfz27_3 := blk_frozen BK253.out 3) | (go_at_call 32; (with_reducible refine (impl_within.calls ((rd_T54 l0 x7_1).f0.f0) 0 3 true _ A5.out).mono ?_); rintro e w' ⟨rfl, ⟨nd, rfl⟩⟩; (try first | exact ⟨rfl, _, World.drewN_drewN _ _ _⟩ | exact ⟨rfl, _, Eq.trans (World.drewN_drewN _ _ _) (congrArg (World.drewN _) (Nat.add_assoc _ _ _))⟩)) | (go_at_call 32; (with_reducible refine (impl_within.calls ((rd_T54 l0 x7_1).f0.f1) 0 39 true _ A7.out).mono ?_); rintro e w' ⟨rfl, ⟨nd, rfl⟩⟩; (try first | exact ⟨rfl, _, World.drewN_drewN _ _ _⟩ | exact ⟨rfl, _, Eq.trans (World.drewN_drewN _ _ _) (congrArg (World.drewN _) (Nat.add_assoc _ _ _))⟩)) | (go_at_call 32; (with_reducible refine (impl_within.calls ((rd_T54 l0 x7_1).f1) 0 2 false _ A9.out).mono ?_); rintro e w' ⟨rfl, ⟨nd, rfl⟩⟩; (try first | exact ⟨rfl, _, World.drewN_drewN _ _ _⟩ | exact ⟨rfl, _, Eq.trans (World.drewN_drewN _ _ _) (congrArg (World.drewN _) (Nat.add_assoc _ _ _))⟩))))
                  go_ret
                  exact ⟨by first | rfl | (simp [errW_none, errW_some] <;> rfl) | (simp [*, errW_none, errW_some] <;> rfl), oB HB⟩
              · replace c8 := Bool.eq_false_iff.mpr c8
                subst c8
                rw [if_neg (show ¬ (false = true) by decide)] at H
                obtain rfl := Option.some.inj H
                have p252 : 0 ≤ (x7_1 : Int) := of_decide_eq_true (by first | (with_reducible assumption) | assumption)
                have q252 : x7_1 < (l0.length : Int) := of_decide_eq_true (by first | (with_reducible assumption) | assumption)
                obtain ⟨ad252, e252, hx252_0, hx252_1, hx252_2, hx252_3⟩ := at_T54 HR0.out x7_1 p252 q252
                cases e252
                replace hx252_0 := (HB.out.cell (World.block_lt_of_cell? w _ hx252_0)).trans hx252_0
                replace hx252_1 := (HB.out.cell (World.block_lt_of_cell? w _ hx252_1)).trans hx252_1
                replace hx252_2 := (HB.out.cell (World.block_lt_of_cell? w _ hx252_2)).trans hx252_2
                replace hx252_3 := (HB.out.cell (World.block_lt_of_cell? w _ hx252_3)).trans hx252_3
                replace p252 := eq_true p252
                replace q252 := eq_true q252
                go_wp2_with (first | ((with_reducible refine gate_dst (N := 4) rfl ?_); refine box_event ?hg (N := 4) ?hd (cs := #[.int .i64 0, .int .i64 0, .int .i64 0, .int .i64 0]) (t := 54) ?hr ?_; (case hd => rfl); (case hg => rfl); (case hr => first | (go_simp; done) | (go_simp; rfl)); intro gb253 hg w28 hbox hb; have n0_ := Aside0.mk (below_step (oB HB) hb); have n1_ := Aside0.mk (hbox); have n2_ := Aside0.mk ((by rw [hg]; exact (below_size (oB HB)) : w.heap.size ≤ gb253)); have n3_ := Aside0.mk ((by rw [hg]; exact (below_size (oB HB)) : w.heap.size ≤ gb253)); clear HB; have HB := n0_; have BK253 := n1_; have GW253 := n2_; have GE253 := n3_; clear n0_ n1_ n2_ n3_; clear hb hbox hg; have hcz29_0 : w28.cell? ⟨gb253, 0, none⟩ = some (.int .i64 0) := (blk_cell BK253.out 0).trans rfl; have hcz29_1 : w28.cell? ⟨gb253, 1, none⟩ = some (.int .i64 0) := (blk_cell BK253.out 1).trans rfl; have hcz29_2 : w28.cell? ⟨gb253, 2, none⟩ = some (.int .i64 0) := (blk_cell BK253.out 2).trans rfl; have hcz29_3 : w28.cell? ⟨gb253, 3, none⟩ = some (.int .i64 0) := (blk_cell BK253.out 3).trans rfl; have hfz29_0 := blk_frozen BK253.out 0; have hfz29_1 := blk_frozen BK253.out 1; have hfz29_2 := blk_frozen BK253.out 2; have hfz29_3 := blk_frozen BK253.out 3) | (go_at_call 32; (with_reducible refine (impl_within.calls ((rd_T54 l0 x7_1).f0.f0) 0 3 true _ A5.out).mono ?_); rintro e w' ⟨rfl, ⟨nd, rfl⟩⟩; (try first | exact ⟨rfl, _, World.drewN_drewN _ _ _⟩ | exact ⟨rfl, _, Eq.trans (World.drewN_drewN _ _ _) (congrArg (World.drewN _) (Nat.add_assoc _ _ _))⟩)) | (go_at_call 32; (with_reducible refine (impl_within.calls ((rd_T54 l0 x7_1).f0.f1) 0 39 false _ A7.out).mono ?_); rintro e w' ⟨rfl, ⟨nd, rfl⟩⟩; (try first | exact ⟨rfl, _, World.drewN_drewN _ _ _⟩ | exact ⟨rfl, _, Eq.trans (World.drewN_drewN _ _ _) (congrArg (World.drewN _) (Nat.add_assoc _ _ _))⟩)))
                repeat (go_quiet (first | ((with_reducible refine gate_dst (N := 4) rfl ?_); refine box_event ?hg (N := 4) ?hd (cs := #[.int .i64 0, .int .i64 0, .int .i64 0, .int .i64 0]) (t := 54) ?hr ?_; (case hd => rfl); (case hg => rfl); (case hr => first | (go_simp; done) | (go_simp; rfl)); intro gb253 hg w28 hbox hb; have n0_ := Aside0.mk (below_step (oB HB) hb); have n1_ := Aside0.mk (hbox); have n2_ := Aside0.mk ((by rw [hg]; exact (below_size (oB HB)) : w.heap.size ≤ gb253)); have n3_ := Aside0.mk ((by rw [hg]; exact (below_size (oB HB)) : w.heap.size ≤ gb253)); clear HB; have HB := n0_; have BK253 := n1_; have GW253 := n2_; have GE253 := n3_; clear n0_ n1_ n2_ n3_; clear hb hbox hg; have hcz29_0 : w28.cell? ⟨gb253, 0, none⟩ = some (.int .i64 0) := (blk_cell BK253.out 0).trans rfl; have hcz29_1 : w28.cell? ⟨gb253, 1, none⟩ = some (.int .i64 0) := (blk_cell BK253.out 1).trans rfl; have hcz29_2 : w28.cell? ⟨gb253, 2, none⟩ = some (.int .i64 0) := (blk_cell BK253.out 2).trans rfl; have hcz29_3 : w28.cell? ⟨gb253, 3, none⟩ = some (.int .i64 0) := (blk_cell BK253.out 3).trans rfl; have hfz29_0 := blk_frozen BK253.out 0; have hfz29_1 := blk_frozen BK253.out 1; have hfz29_2 := blk_frozen BK253.out 2; have hfz29_3 := blk_frozen BK253.out 3) | (go_at_call 32; (with_reducible refine (impl_within.calls ((rd_T54 l0 x7_1).f0.f0) 0 3 true _ A5.out).mono ?_); rintro e w' ⟨rfl, ⟨nd, rfl⟩⟩; (try first | exact ⟨rfl, _, World.drewN_drewN _ _ _⟩ | exact ⟨rfl, _, Eq.trans (World.drewN_drewN _ _ _) (congrArg (World.drewN _) (Nat.add_assoc _ _ _))⟩)) | (go_at_call 32; (with_reducible refine (impl_within.calls ((rd_T54 l0 x7_1).f0.f1) 0 39 false _ A7.out).mono ?_); rintro e w' ⟨rfl, ⟨nd, rfl⟩⟩; (try first | exact ⟨rfl, _, World.drewN_drewN _ _ _⟩ | exact ⟨rfl, _, Eq.trans (World.drewN_drewN _ _ _) (congrArg (World.drewN _) (Nat.add_assoc _ _ _))⟩))); try go_wp2_with (first | ((with_reducible refine gate_dst (N := 4) rfl ?_); refine box_event ?hg (N := 4) ?hd (cs := #[.int .i64 0, .int .i64 0, .int .i64 0, .int .i64 0]) (t := 54) ?hr ?_; (case hd => rfl); (case hg => rfl); (case hr => first | (go_simp; done) | (go_simp; rfl)); intro gb253 hg w28 hbox hb; have n0_ := Aside0.mk (below_step (oB HB) hb); have n1_ := Aside0.mk (hbox); have n2_ := Aside0.mk ((by rw [hg]; exact (below_size (oB HB)) : w.heap.size ≤ gb253)); have n3_ := Aside0.mk ((by rw [hg]; exact (below_size (oB HB)) : w.heap.size ≤ gb253)); clear HB; have HB := n0_; have BK253 := n1_; have GW253 := n2_; have GE253 := n3_; clear n0_ n1_ n2_ n3_; clear hb hbox hg; have hcz29_0 : w28.cell? ⟨gb253, 0, none⟩ = some (.int .i64 0) := (blk_cell BK253.out 0).trans rfl; have hcz29_1 : w28.cell? ⟨gb253, 1, none⟩ = some (.int .i64 0) := (blk_cell BK253.out 1).trans rfl; have hcz29_2 : w28.cell? ⟨gb253, 2, none⟩ = some (.int .i64 0) := (blk_cell BK253.out 2).trans rfl; have hcz29_3 : w28.cell? ⟨gb253, 3, none⟩ = some (.int .i64 0) := (blk_cell BK253.out 3).trans rfl; have hfz29_0 := blk_frozen BK253.out 0; have hfz29_1 := blk_frozen BK253.out 1; have hfz29_2 := blk_frozen BK253.out 2; have hfz29_3 := blk_frozen BK253.out 3) | (go_at_call 32; (with_reducible refine (impl_within.calls ((rd_T54 l0 x7_1).f0.f0) 0 3 true _ A5.out).mono ?_); rintro e w' ⟨rfl, ⟨nd, rfl⟩⟩; (try first | exact ⟨rfl, _, World.drewN_drewN _ _ _⟩ | exact ⟨rfl, _, Eq.trans (World.drewN_drewN _ _ _) (congrArg (World.drewN _) (Nat.add_assoc _ _ _))⟩)) | (go_at_call 32; (with_reducible refine (impl_within.calls ((rd_T54 l0 x7_1).f0.f1) 0 39 false _ A7.out).mono ?_); rintro e w' ⟨rfl, ⟨nd, rfl⟩⟩; (try first | exact ⟨rfl, _, World.drewN_drewN _ _ _⟩ | exact ⟨rfl, _, Eq.trans (World.drewN_drewN _ _ _) (congrArg (World.drewN _) (Nat.add_assoc _ _ _))⟩))))
                go_ret
                exact ⟨by first | rfl | (simp [errW_none, errW_some] <;> rfl) | (simp [*, errW_none, errW_some] <;> rfl), oB HB⟩
            · replace c6 := Bool.eq_false_iff.mpr c6
              subst c6
              rw [if_neg (show ¬ (false = true) by decide)] at H
              obtain rfl := Option.some.inj H
              have p252 : 0 ≤ (x7_1 : Int) := of_decide_eq_true (by first | (with_reducible assumption) | assumption)
              have q252 : x7_1 < (l0.length : Int) := of_decide_eq_true (by first | (with_reducible assumption) | assumption)
              obtain ⟨ad252, e252, hx252_0, hx252_1, hx252_2, hx252_3⟩ := at_T54 HR0.out x7_1 p252 q252
              cases e252
              replace hx252_0 := (HB.out.cell (World.block_lt_of_cell? w _ hx252_0)).trans hx252_0
              replace hx252_1 := (HB.out.cell (World.block_lt_of_cell? w _ hx252_1)).trans hx252_1
              replace hx252_2 := (HB.out.cell (World.block_lt_of_cell? w _ hx252_2)).trans hx252_2
              replace hx252_3 := (HB.out.cell (World.block_lt_of_cell? w _ hx252_3)).trans hx252_3
              replace p252 := eq_true p252
              replace q252 := eq_true q252
              go_wp2_with (first | ((with_reducible refine gate_dst (N := 4) rfl ?_); refine box_event ?hg (N := 4) ?hd (cs := #[.int .i64 0, .int .i64 0, .int .i64 0, .int .i64 0]) (t := 54) ?hr ?_; (case hd => rfl); (case hg => rfl); (case hr => first | (go_simp; done) | (go_simp; rfl)); intro gb253 hg w30 hbox hb; have n0_ := Aside0.mk (below_step (oB HB) hb); have n1_ := Aside0.mk (hbox); have n2_ := Aside0.mk ((by rw [hg]; exact (below_size (oB HB)) : w.heap.size ≤ gb253)); have n3_ := Aside0.mk ((by rw [hg]; exact (below_size (oB HB)) : w.heap.size ≤ gb253)); clear HB; have HB := n0_; have BK253 := n1_; have GW253 := n2_; have GE253 := n3_; clear n0_ n1_ n2_ n3_; clear hb hbox hg; have hcz31_0 : w30.cell? ⟨gb253, 0, none⟩ = some (.int .i64 0) := (blk_cell BK253.out 0).trans rfl; have hcz31_1 : w30.cell? ⟨gb253, 1, none⟩ = some (.int .i64 0) := (blk_cell BK253.out 1).trans rfl; have hcz31_2 : w30.cell? ⟨gb253, 2, none⟩ = some (.int .i64 0) := (blk_cell BK253.out 2).trans rfl; have hcz31_3 : w30.cell? ⟨gb253, 3, none⟩ = some (.int .i64 0) := (blk_cell BK253.out 3).trans rfl; have hfz31_0 := blk_frozen BK253.out 0; have hfz31_1 := blk_frozen BK253.out 1; have hfz31_2 := blk_frozen BK253.out 2; have hfz31_3 := blk_frozen BK253.out 3) | (go_at_call 32; (with_reducible refine (impl_within.calls ((rd_T54 l0 x7_1).f0.f0) 0 3 false _ A5.out).mono ?_); rintro e w' ⟨rfl, ⟨nd, rfl⟩⟩; (try first | exact ⟨rfl, _, World.drewN_drewN _ _ _⟩ | exact ⟨rfl, _, Eq.trans (World.drewN_drewN _ _ _) (congrArg (World.drewN _) (Nat.add_assoc _ _ _))⟩)))
              repeat (go_quiet (first | ((with_reducible refine gate_dst (N := 4) rfl ?_); refine box_event ?hg (N := 4) ?hd (cs := #[.int .i64 0, .int .i64 0, .int .i64 0, .int .i64 0]) (t := 54) ?hr ?_; (case hd => rfl); (case hg => rfl); (case hr => first | (go_simp; done) | (go_simp; rfl)); intro gb253 hg w30 hbox hb; have n0_ := Aside0.mk (below_step (oB HB) hb); have n1_ := Aside0.mk (hbox); have n2_ := Aside0.mk ((by rw [hg]; exact (below_size (oB HB)) : w.heap.size ≤ gb253)); have n3_ := Aside0.mk ((by rw [hg]; exact (below_size (oB HB)) : w.heap.size ≤ gb253)); clear HB; have HB := n0_; have BK253 := n1_; have GW253 := n2_; have GE253 := n3_; clear n0_ n1_ n2_ n3_; clear hb hbox hg; have hcz31_0 : w30.cell? ⟨gb253, 0, none⟩ = some (.int .i64 0) := (blk_cell BK253.out 0).trans rfl; have hcz31_1 : w30.cell? ⟨gb253, 1, none⟩ = some (.int .i64 0) := (blk_cell BK253.out 1).trans rfl; have hcz31_2 : w30.cell? ⟨gb253, 2, none⟩ = some (.int .i64 0) := (blk_cell BK253.out 2).trans rfl; have hcz31_3 : w30.cell? ⟨gb253, 3, none⟩ = some (.int .i64 0) := (blk_cell BK253.out 3).trans rfl; have hfz31_0 := blk_frozen BK253.out 0; have hfz31_1 := blk_frozen BK253.out 1; have hfz31_2 := blk_frozen BK253.out 2; have hfz31_3 := blk_frozen BK253.out 3) | (go_at_call 32; (with_reducible refine (impl_within.calls ((rd_T54 l0 x7_1).f0.f0) 0 3 false _ A5.out).mono ?_); rintro e w' ⟨rfl, ⟨nd, rfl⟩⟩; (try first | exact ⟨rfl, _, World.drewN_drewN _ _ _⟩ | exact ⟨rfl, _, Eq.trans (World.drewN_drewN _ _ _) (congrArg (World.drewN _) (Nat.add_assoc _ _ _))⟩))); try go_wp2_with (first | ((with_reducible refine gate_dst (N := 4) rfl ?_); refine box_event ?hg (N := 4) ?hd (cs := #[.int .i64 0, .int .i64 0, .int .i64 0, .int .i64 0]) (t := 54) ?hr ?_; (case hd => rfl); (case hg => rfl); (case hr => first | (go_simp; done) | (go_simp; rfl)); intro gb253 hg w30 hbox hb; have n0_ := Aside0.mk (below_step (oB HB) hb); have n1_ := Aside0.mk (hbox); have n2_ := Aside0.mk ((by rw [hg]; exact (below_size (oB HB)) : w.heap.size ≤ gb253)); have n3_ := Aside0.mk ((by rw [hg]; exact (below_size (oB HB)) : w.heap.size ≤ gb253)); clear HB; have HB := n0_; have BK253 := n1_; have GW253 := n2_; have GE253 := n3_; clear n0_ n1_ n2_ n3_; clear hb hbox hg; have hcz31_0 : w30.cell? ⟨gb253, 0, none⟩ = some (.int .i64 0) := (blk_cell BK253.out 0).trans rfl; have hcz31_1 : w30.cell? ⟨gb253, 1, none⟩ = some (.int .i64 0) := (blk_cell BK253.out 1).trans rfl; have hcz31_2 : w30.cell? ⟨gb253, 2, none⟩ = some (.int .i64 0) := (blk_cell BK253.out 2).trans rfl; have hcz31_3 : w30.cell? ⟨gb253, 3, none⟩ = some (.int .i64 0) := (blk_cell BK253.out 3).trans rfl; have hfz31_0 := blk_frozen BK253.out 0; have hfz31_1 := blk_frozen BK253.out 1; have hfz31_2 := blk_frozen BK253.out 2; have hfz31_3 := blk_frozen BK253.out 3) | (go_at_call 32; (with_reducible refine (impl_within.calls ((rd_T54 l0 x7_1).f0.f0) 0 3 false _ A5.out).mono ?_); rintro e w' ⟨rfl, ⟨nd, rfl⟩⟩; (try first | exact ⟨rfl, _, World.drewN_drewN _ _ _⟩ | exact ⟨rfl, _, Eq.trans (World.drewN_drewN _ _ _) (congrArg (World.drewN _) (Nat.add_assoc _ _ _))⟩))))
              go_ret
              exact ⟨by first | rfl | (simp [errW_none, errW_some] <;> rfl) | (simp [*, errW_none, errW_some] <;> rfl), oB HB⟩
          · rw [if_neg c4] at H
            exact absurd H (by simp)
        · rw [if_neg c3] at H
          exact absurd H (by simp)
      · rw [if_neg c2] at H
        have c2b0 : decide (x7_1 < (l0.length : Int)) = false := decide_eq_false c2
        clear c2
        obtain rfl := Option.some.inj H
        go_wp2
        repeat (go_quiet (fail); try go_wp2)
        go_ret
        exact ⟨by first | rfl | (simp [errW_none, errW_some] <;> rfl) | (simp [*, errW_none, errW_some] <;> rfl), oB HB⟩
end Go.Proofs.Ytobcafjhkimonaa.P


namespace Go.Proofs.Ytobcafjhkimonaa.Q
set_option linter.unusedVariables false
set_option linter.unusedSimpArgs false
open Go.RowKit Go.Proofs.Ytobcafjhkimonaa.P Go.Proofs.YtobcafjhkimonaaW.PrintWords Go.Proofs.YtobcafjhkimonaaW.PrintMore
def entOk (e : S54) : Bool := decide (0 ≤ e.f0.f0 ∧ e.f0.f0 ≤ 3) && (decide (0 ≤ e.f0.f1 ∧ e.f0.f1 ≤ 39) && (decide (0 ≤ e.f1 ∧ e.f1 ≤ 2) && decide (0 ≤ e.f2 ∧ e.f2 ≤ 100000)))
def logGo : Int → List S54 → Bool
  | _, [] => true
  | p, e :: r => entOk e && (decide (p ≤ e.f2) && logGo e.f2 r)
def logOk (l : List S54) : Bool := logGo 0 l && decide (l.length ≤ 30)
def prevM (l : List S54) (i : Nat) : Int := if i = 0 then 0 else (l.getD (i - 1) z54).f2
theorem prevM_succ (l : List S54) (i : Nat) (h : i < l.length) : prevM l (i + 1) = l[i].f2 := by simp [prevM, List.getD_eq_getElem?_getD, h]
theorem prevM_pos (l : List S54) (i : Nat) (h0 : 0 < i) (h : i < l.length) : prevM l i = l[i - 1].f2 := by
  simp [prevM, List.getD_eq_getElem?_getD, show i ≠ 0 by omega, show i - 1 < l.length by omega]
theorem logOk_spec (l : List S54) (hl : l.length ≤ 1048577) : Ev (fun k => spec_LogOk.f k l) (logOk l) := by
  have key : ∀ i, i ≤ l.length → Ev (fun k => spec_LogOk.l0 k l (i : Int)) (logGo (prevM l i) (l.drop i) && decide (l.length ≤ 30)) := by
    refine down (n := l.length) ?_ ?_
    · refine Ev.step (fun k => by rw [spec_LogOk.l0]) (evn (by omega) (evs ?_))
      rw [drop_end]
      simp [logGo]; omega
    · intro i hi ih
      refine Ev.step (fun k => by rw [spec_LogOk.l0]) (evp (by omega) (evp (by omega) ?_))
      rw [rdE l i hi, drop_cons l i hi, logGo]
      refine evb (l01In_eq _ _ _) ?_
      by_cases h1 : 0 ≤ l[i].f0.f0 ∧ l[i].f0.f0 ≤ 3
      rotate_left
      · exact evn (by simpa using h1) (evs (by simp [entOk, h1]))
      refine evp (by simpa using h1) (evb (l01In_eq _ _ _) ?_)
      by_cases h2 : 0 ≤ l[i].f0.f1 ∧ l[i].f0.f1 ≤ 39
      rotate_left
      · exact evn (by simpa using h2) (evs (by simp [entOk, h2]))
      refine evp (by simpa using h2) (evb (l01In_eq _ _ _) ?_)
      by_cases h3 : 0 ≤ l[i].f1 ∧ l[i].f1 ≤ 2
      rotate_left
      · exact evn (by simpa using h3) (evs (by simp [entOk, h3]))
      refine evp (by simpa using h3) (evb (l01In_eq _ _ _) ?_)
      by_cases h4 : 0 ≤ l[i].f2 ∧ l[i].f2 ≤ 100000
      rotate_left
      · exact evn (by simpa using h4) (evs (by simp [entOk, h4]))
      refine evp (by simpa using h4) ?_
      have hE : entOk l[i] = true := by simp [entOk, h1, h2, h3, h4]
      rw [hE, Bool.true_and]
      have hp : prevM l (i + 1) = l[i].f2 := prevM_succ l i hi
      rw [hp] at ih
      rw [w64 (n := (i : Int) + 1) (by omega) (by omega)]
      by_cases h0 : 0 < i
      · refine evp (by omega) ?_
        rw [w64 (n := (i : Int) - 1) (by omega) (by omega)]
        refine evp (by omega) (evp (by omega) ?_)
        have e1 : (i : Int) - 1 = ((i - 1 : Nat) : Int) := by omega
        rw [e1, rdE l (i - 1) (by omega)]
        have e2 : prevM l i = l[i - 1].f2 := prevM_pos l i h0 hi
        by_cases h5 : l[i - 1].f2 ≤ l[i].f2
        · refine evn (by omega) ?_
          rw [e2]; simp only [h5, decide_true, Bool.true_and]
          exact ih
        · refine evp (by omega) (evs ?_)
          rw [e2]; simp [h5]
      · refine evn (by omega) ?_
        have e2 : prevM l i = 0 := by obtain rfl : i = 0 := by omega
                                      rfl
        rw [e2]; simp only [h4.1, decide_true, Bool.true_and]
        exact ih
  exact key 0 (Nat.zero_le _)
theorem logOk_impl (l : List S54) (hl : l.length ≤ 1048577) : Ev (fun k => impl_LogOk.f k l) (logOk l) := by
  have key : ∀ i, i ≤ l.length → Ev (fun k => impl_LogOk.l0 k l l (l.length : Int) (i : Int)) (logGo (prevM l i) (l.drop i) && decide (l.length ≤ 30)) := by
    refine down (n := l.length) ?_ ?_
    · refine Ev.step (fun k => by rw [impl_LogOk.l0]) (evn (by omega) (evs ?_))
      rw [drop_end]
      simp [logGo]; omega
    · intro i hi ih
      refine Ev.step (fun k => by rw [impl_LogOk.l0]) (evp (by omega) (evp (by omega) (evp (by omega) ?_)))
      rw [rdE l i hi, drop_cons l i hi, logGo]
      refine evb (within_eq _ _ _) ?_
      by_cases h1 : 0 ≤ l[i].f0.f0 ∧ l[i].f0.f0 ≤ 3
      rotate_left
      · exact evn (by simpa using h1) (evs (by simp [entOk, h1]))
      refine evp (by simpa using h1) (evb (within_eq _ _ _) ?_)
      by_cases h2 : 0 ≤ l[i].f0.f1 ∧ l[i].f0.f1 ≤ 39
      rotate_left
      · exact evn (by simpa using h2) (evs (by simp [entOk, h2]))
      refine evp (by simpa using h2) (evb (within_eq _ _ _) ?_)
      by_cases h3 : 0 ≤ l[i].f1 ∧ l[i].f1 ≤ 2
      rotate_left
      · exact evn (by simpa using h3) (evs (by simp [entOk, h3]))
      refine evp (by simpa using h3) (evb (within_eq _ _ _) ?_)
      by_cases h4 : 0 ≤ l[i].f2 ∧ l[i].f2 ≤ 100000
      rotate_left
      · exact evn (by simpa using h4) (evs (by simp [entOk, h4]))
      refine evp (by simpa using h4) ?_
      have hE : entOk l[i] = true := by simp [entOk, h1, h2, h3, h4]
      rw [hE, Bool.true_and]
      have hp : prevM l (i + 1) = l[i].f2 := prevM_succ l i hi
      rw [hp] at ih
      rw [w64 (n := (i : Int) + 1) (by omega) (by omega)]
      by_cases h0 : 0 < i
      · refine evp (by omega) ?_
        rw [w64 (n := (i : Int) - 1) (by omega) (by omega)]
        refine evp (by omega) (evp (by omega) ?_)
        have e1 : (i : Int) - 1 = ((i - 1 : Nat) : Int) := by omega
        rw [e1, rdE l (i - 1) (by omega)]
        have e2 : prevM l i = l[i - 1].f2 := prevM_pos l i h0 hi
        by_cases h5 : l[i - 1].f2 ≤ l[i].f2
        · refine evn (by omega) ?_
          rw [e2]; simp only [h5, decide_true, Bool.true_and]
          exact ih
        · refine evp (by omega) (evs ?_)
          rw [e2]; simp [h5]
      · refine evn (by omega) ?_
        have e2 : prevM l i = 0 := by obtain rfl : i = 0 := by omega
                                      rfl
        rw [e2]; simp only [h4.1, decide_true, Bool.true_and]
        exact ih
  exact key 0 (Nat.zero_le _)
end Go.Proofs.Ytobcafjhkimonaa.Q


namespace Go.Proofs.Ytobcafjhkimonaa.P
open Go.RowKit Go.Proofs.YtobcafjhkimonaaW.PrintWords Go.Proofs.YtobcafjhkimonaaW.PrintLast Go.Proofs.YtobcafjhkimonaaW.PrintMore
open Go.Maps (Keyed)
set_option linter.unusedVariables false
set_option linter.unusedSimpArgs false
theorem mapLaidOut : laidOutB Try.prog = true := by kernel_rfl
theorem pipeLaw : WideMaps.KeyLaw Try.prog 46 := deep_law_gate mapLaidOut (of_decide_eq_true (by kernel_rfl)) (of_decide_eq_true (by kernel_rfl)) (by kernel_rfl) (by kernel_rfl)
theorem pipeKeyed : Keyed Try.prog 46 := Keyed.of_law pipeLaw
def wf64 (a : Int) : Prop := (Lit.int .i64 a).wf = true
theorem wf64_of {a : Int} (h : -9223372036854775808 ≤ a) (h2 : a ≤ 9223372036854775807) : wf64 a := by
  have e1 : IntKind.i64.min = -9223372036854775808 := by decide
  have e2 : IntKind.i64.max = 9223372036854775807 := by decide
  unfold wf64 Lit.wf
  simp [e1, e2]
  omega
def pairV (a b : Int) : Value := .agg #[.int .i64 a, .int .i64 b]
def quadV (x : S54) : Value := .agg #[.int .i64 x.f0.f0, .int .i64 x.f0.f1, .int .i64 x.f1, .int .i64 x.f2]
theorem pipe_cells : Try.prog.cellsOf 46 = 2 := by kernel_rfl
theorem int_cells : Try.prog.cellsOf 3 = 1 := by kernel_rfl
theorem types_succ : ∃ m, Try.prog.types.size = m + 1 := ⟨Try.prog.types.size - 1, by have : 0 < Try.prog.types.size := of_decide_eq_true (by kernel_rfl); omega⟩
theorem keyLits_int (m : Nat) (v : Value) : Try.prog.keyLits (m + 1) 3 [v] = (match v with | .int q' n => if q' = .i64 ∧ (Lit.int .i64 n).wf = true then some [.int .i64 n] else none | _ => none) := by
  simp only [Program.keyLits, Try.underlying3]
  cases v <;> rfl
def pipeL (a b : Int) : Lit := .string (keyBytes [.int .i64 a, .int .i64 b])
theorem keyOf_pipe {a b : Int} (ha : wf64 a) (hb : wf64 b) : keyOf Try.prog 46 (pairV a b) = some (pipeL a b) := by
  obtain ⟨m, hm⟩ := types_succ
  have kt : Try.prog.keyType 46 = true := by kernel_rfl
  unfold wf64 at ha hb
  have fm : (pairV a b).formed Try.prog 46 = true := by simp [pairV, Value.formed, Try.underlying46, pipe_cells]
  have hl : Try.prog.keyLits (m + 1 + 1) 46 [.int .i64 a, .int .i64 b] = some [.int .i64 a, .int .i64 b] := by
    unfold Program.keyLits
    simp only [Try.underlying46]
    simp [pipe_cells, int_cells, keyLits_int, ha, hb]
  rw [← hm] at hl
  unfold keyOf
  simp only [Try.underlying46, kt, fm, Bool.and_self, if_true, Option.map_eq_some_iff]
  exact ⟨_, hl, rfl⟩
instance pipeDec : DecidableEq S46 := fun a b => decidable_of_iff (a.f0 = b.f0 ∧ a.f1 = b.f1) ⟨fun h => by obtain ⟨x, y⟩ := a; obtain ⟨z, u⟩ := b; simp only at h; obtain ⟨rfl, rfl⟩ := h; rfl, fun h => by rw [h]; exact ⟨rfl, rfl⟩⟩
abbrev pipeR (v : Value) : Option (DataW Unit × List MemPlace) :=
  match v with
  | .agg ⟨[.int .i64 a, .int .i64 b, .int .i64 c, .int .i64 d]⟩ => some (.agg [.lit (.int .i64 a), .lit (.int .i64 b), .lit (.int .i64 c), .lit (.int .i64 d)], [])
  | _ => none
def quadD (x : S54) : DataW Unit := .agg [.lit (.int .i64 x.f0.f0), .lit (.int .i64 x.f0.f1), .lit (.int .i64 x.f1), .lit (.int .i64 x.f2)]
theorem pipeR_mk (x : S54) : pipeR (quadV x) = some (quadD x, []) := rfl
theorem pipeR_inv {v : Value} {y : DataW Unit × List MemPlace} (h : pipeR v = some y) : ∃ x : S54, v = quadV x ∧ y = (quadD x, []) := by
  unfold pipeR at h
  split at h
  · exact ⟨⟨⟨_, _⟩, _, _⟩, rfl, (Option.some.inj h).symm⟩
  · cases h
theorem quadD_inj {x y : S54} (h : quadD x = quadD y) : x = y := by
  obtain ⟨⟨a, b⟩, c, d⟩ := x
  obtain ⟨⟨a', b'⟩, c', d'⟩ := y
  simp [quadD] at h
  obtain ⟨rfl, rfl, rfl, rfl⟩ := h
  rfl
structure MapIs (D : DataW Unit) (m : S46 → Option S54) : Prop where
  isMap : Maps.IsMap D
  at_ : ∀ p : S46, wf64 p.f0 → wf64 p.f1 → ∀ z, D.atKey (pipeL p.f0 p.f1) z = ((m p).map quadD).getD z
theorem mapIs_empty : MapIs (.map []) (fun _ => none) := ⟨Maps.isMap_empty, fun _ _ _ _ => rfl⟩
theorem pipeL_inj {a b a' b' : Int} (ha : wf64 a) (hb : wf64 b) (ha' : wf64 a') (hb' : wf64 b') (h : pipeL a b = pipeL a' b') : a = a' ∧ b = b' := by
  have h1 := keyOf_pipe ha hb
  have h2 := keyOf_pipe ha' hb'
  rw [← h] at h2
  have e := pipeKeyed.inj h1 h2
  simp [pairV] at e
  exact e
theorem MapIs.put {D : DataW Unit} {m : S46 → Option S54} (h : MapIs D m) (p : S46) (ha : wf64 p.f0) (hb : wf64 p.f1) (x : S54) :
    MapIs (D.put (pipeL p.f0 p.f1) (quadD x)) (fun q => if q = p then some x else m q) := by
  refine ⟨h.isMap.put _ _, fun q hq0 hq1 z => ?_⟩
  by_cases e : q = p
  · subst e
    rw [Maps.atKey_put_same h.isMap (pipeKeyed.key (keyOf_pipe ha hb))]
    simp
  · have hne : pipeL q.f0 q.f1 ≠ pipeL p.f0 p.f1 := fun hh => e (by
      have := pipeL_inj hq0 hq1 ha hb hh
      obtain ⟨a, b⟩ := q
      obtain ⟨c, d⟩ := p
      simp only at this
      obtain ⟨rfl, rfl⟩ := this
      rfl)
    rw [Maps.atKey_put_other hne, h.at_ q hq0 hq1]
    simp [e]
def lastMap (l : List S54) (p : S46) : Option S54 := l.foldl (fun o x => if p = x.f0 then some x else o) none
theorem lastMap_snoc (l : List S54) (x : S54) : lastMap (l ++ [x]) = fun q => if q = x.f0 then some x else lastMap l q := by
  funext q
  simp [lastMap]
abbrev pipeMap (w : World) (b n : Nat) (l : List S54) : Prop := ∃ D, w.ownsMap Try.prog 46 pipeR b n D ∧ MapIs D (lastMap l)
end Go.Proofs.Ytobcafjhkimonaa.P


namespace Go.Proofs.Ytobcafjhkimonaa.P
open Go.RowKit Go.Proofs.YtobcafjhkimonaaW.PrintWords Go.Proofs.YtobcafjhkimonaaW.PrintLast Go.Proofs.YtobcafjhkimonaaW.PrintMore
open Go.Maps (Keyed)
set_option linter.unusedVariables false
set_option linter.unusedSimpArgs false
set_option maxHeartbeats 4000000 in
set_option maxRecDepth 100000 in
theorem impl_lastOf.calls (A0 : Option Addr) (c0 : Nat) (l0 : List S54) (w : World) (hr0 : Kd.C k54 w A0 l0.length l0) (hc0 : l0.length ≤ c0) (hl : l0.length ≤ 1000) (hw : ∀ x ∈ l0, wf64 x.f0.f0 ∧ wf64 x.f0.f1) :
    Calls Try.prog 37 #[.slice A0 l0.length c0] w fun e w' => ∃ b : Nat, e = .returned (.map (some b)) ∧ w.heap.size ≤ b ∧ pipeMap w' b l0.length l0 ∧ Below w.heap.size w w' := by
  have HR0 := Aside0.mk hr0
  have HW := Aside0.mk hw
  have HB := Aside0.mk (Below.refl w.heap.size w)
  clear hr0 hw
  have hown0 := World.ownsMap_made w Try.prog 46 pipeR
  have HO := Aside0.mk hown0
  clear hown0
  have hmm := @run_makeMap Try.prog
  go_enter Try.func37, Try.ntmps37
  go_wp2
  go_loopg [9] (l0.length + 1) (fun kq v9 w' => ∃ (i : Nat), v9 = .int .i64 (i : Int) ∧ Aside0 (i + kq = l0.length + 1) ∧ Aside0 (i ≤ l0.length) ∧ Aside0 (pipeMap w' w.heap.size i (l0.take i)) ∧ Aside0 (Below w.heap.size w w'))
  case atStart =>
    exact ⟨0, rfl, ⟨by omega⟩, ⟨by omega⟩, ⟨⟨_, HO.out, mapIs_empty⟩⟩, ⟨below_alloc HB.out _⟩⟩
  case round =>
    clear HB HO
    obtain ⟨i, rfl, HI1, HI2, HM, HB⟩ := hrel
    by_cases hlt : i < l0.length
    · have hb3 : decide ((i : Int) < (l0.length : Int)) = true := decide_eq_true (by omega)
      have hb4 : decide (i < l0.length) = true := decide_eq_true (by omega)
      obtain ⟨ad, e, hx0, hx1, hx2, hx3⟩ := at_T54 HR0.out (i : Int) (by omega) (by omega)
      cases e
      replace hx0 := (HB.out.cell (World.block_lt_of_cell? w _ hx0)).trans hx0
      replace hx1 := (HB.out.cell (World.block_lt_of_cell? w _ hx1)).trans hx1
      replace hx2 := (HB.out.cell (World.block_lt_of_cell? w _ hx2)).trans hx2
      replace hx3 := (HB.out.cell (World.block_lt_of_cell? w _ hx3)).trans hx3
      obtain ⟨x, hx⟩ : ∃ x, rd_T54 l0 (i : Int) = x := ⟨_, rfl⟩
      rw [hx] at hx0 hx1 hx2 hx3
      simp only [Int.toNat_natCast] at hx0 hx1 hx2 hx3
      have e0 : l0[i] = x := by rw [← hx]; simp [rd_T54, List.getD_eq_getElem?_getD, hlt]
      obtain ⟨q1, q2⟩ := HW.out x (by rw [← e0]; exact List.getElem_mem hlt)
      have HT : Aside0 (l0.take (i + 1) = l0.take i ++ [x]) := ⟨by rw [List.take_succ_eq_append_getElem hlt, e0]⟩
      have HQ := Aside0.mk q1
      have HQ2 := Aside0.mk q2
      obtain ⟨D, hD, hD2⟩ := HM.out
      have HD := Aside0.mk hD
      have HD2 := Aside0.mk hD2
      have HLT := Aside0.mk hlt
      clear hx e0 q1 q2 HM hD hD2
      go_wp2_with (first | (at_mapUpdate; refine wpList_mapUpdate_own _ rfl _ _ _ 59 rfl 46 54 pipeKeyed Try.underlying59 pipeR w.heap.size i D rfl (HD.out.alloc _) (show i < maxLen from Nat.lt_of_le_of_lt (show i ≤ 1000 by omega) (by decide)) (pairV x.f0.f0 x.f0.f1) (quadV x) _ rfl rfl (keyOf_pipe HQ.out HQ2.out) (quadD x) [] (pipeR_mk x) ?_; intro w2 h2 hg2; have H2 := Aside0.mk h2; have HG2 := Aside0.mk hg2; clear h2 hg2))
      go_roundg (l0.length - i)
      case measure => have := HI1.out; omega
      case rel =>
        refine ⟨i + 1, by go_num, ⟨by omega⟩, ⟨by omega⟩, ⟨⟨_, H2.out, ?_⟩⟩, ⟨?_⟩⟩
        · rw [HT.out, lastMap_snoc]
          exact MapIs.put HD2.out x.f0 HQ.out HQ2.out x
        · exact (below_alloc HB.out _).grown HG2.out (below_alloc HB.out _).size (fun k hk => by cases hk; exact Nat.le_refl _)
    · have hb3 : decide ((i : Int) < (l0.length : Int)) = false := decide_eq_false (by omega)
      have hb4 : decide (i < l0.length) = false := decide_eq_false (by omega)
      obtain rfl : i = l0.length := by have := HI2.out; omega
      go_wp2
      go_ret
      exact ⟨w.heap.size, rfl, Nat.le_refl _, by simpa using HM.out, HB.out⟩
def faultOf (l : List S54) (p : S46) : Int := ((lastMap l p).getD z54).f1
instance (a : Int) : Decidable (wf64 a) := by unfold wf64; infer_instance
theorem zero_entry (w : World) : (zeroValue 54).run Try.prog w = .ok (quadV z54) w := by kernel_rfl
theorem field_fault (a b c d : Int) (w : World) : (Instr.field 54 (.agg #[.int .i64 a, .int .i64 b, .int .i64 c, .int .i64 d]) 1).run Try.prog w = .ok (.int .i64 c) w := by kernel_rfl
theorem lookup_pipe {w : World} {b n : Nat} {D : DataW Unit} {m : S46 → Option S54} (h : w.ownsMap Try.prog 46 pipeR b n D) (hD : MapIs D m) (p : S46) (h0 : wf64 p.f0) (h1 : wf64 p.f1) :
    ∃ x : S54, (Instr.lookup 59 (.map (some b)) (.agg #[.int .i64 p.f0, .int .i64 p.f1]) false).run Try.prog w = .ok (.agg #[.int .i64 x.f0.f0, .int .i64 x.f0.f1, .int .i64 x.f1, .int .i64 x.f2]) w ∧ x = (m p).getD z54 := by
  obtain ⟨v, ps, hrun, hv⟩ := h.lookup pipeKeyed Try.underlying59 (zero_entry w) (pipeR_mk _) (keyOf_pipe h0 h1)
  obtain ⟨x, rfl, e⟩ := pipeR_inv hv
  refine ⟨x, hrun, ?_⟩
  rw [hD.at_ p h0 h1] at e
  simp only [Prod.mk.injEq] at e
  cases hm : m p with
  | none => rw [hm] at e; exact (quadD_inj e.1).symm
  | some y => rw [hm] at e; exact (quadD_inj e.1).symm
end Go.Proofs.Ytobcafjhkimonaa.P


namespace Go.Proofs.Ytobcafjhkimonaa.P
open Go.RowKit Go.Proofs.YtobcafjhkimonaaW.PrintWords Go.Proofs.YtobcafjhkimonaaW.PrintLast Go.Proofs.YtobcafjhkimonaaW.PrintMore Go.Proofs.Ytobcafjhkimonaa.V
attribute [local go_sem] cell_b frozen_b
attribute [local go_sem] max2_int min2_int max_two min_two max_three min_three max_four min_four
set_option linter.unusedVariables false
set_option linter.unusedSimpArgs false
def impl_FaultOf.f (l0 : List (S54)) (a1_0 : Int) (a1_1 : Int) : Option (Int) := if wf64 a1_0 ∧ wf64 a1_1 ∧ l0.length ≤ 1048577 then some (if Q.logOk l0 = true then faultOf l0 ⟨a1_0, a1_1⟩ else 0) else none
theorem logOk_wf {l : List S54} (h : Q.logOk l = true) : l.length ≤ 1000 ∧ ∀ x ∈ l, wf64 x.f0.f0 ∧ wf64 x.f0.f1 := by
  have h1 : l.length ≤ 30 := by simp [Q.logOk] at h; exact h.2
  refine ⟨by omega, fun x hx => ?_⟩
  have h2 : Q.logGo 0 l = true := by simp [Q.logOk] at h; exact h.1
  have key : ∀ (l : List S54) (p : Int), Q.logGo p l = true → ∀ x ∈ l, wf64 x.f0.f0 ∧ wf64 x.f0.f1 := by
    intro l
    induction l with
    | nil => intro p _ x hx; cases hx
    | cons e r ih =>
      intro p h x hx
      simp only [Q.logGo, Bool.and_eq_true] at h
      rcases List.mem_cons.1 hx with rfl | hx
      · have := h.1
        simp [Q.entOk] at this
        exact ⟨wf64_of (by omega) (by omega), wf64_of (by omega) (by omega)⟩
      · exact ih _ h.2.2 x hx
  exact key l 0 h2 x hx
set_option maxHeartbeats 8000000 in
set_option maxRecDepth 100000 in
set_option synthInstance.maxHeartbeats 400000 in
set_option synthInstance.maxSize 100000 in
theorem impl_FaultOf.calls (A0 : Option Addr) (c0 : Nat) (l0 : List (S54)) (a1_0 : Int) (a1_1 : Int) (r : Int) (w : World) (hr0 : Kd.C k54 w A0 l0.length l0) (hc0 : l0.length ≤ c0) (h : impl_FaultOf.f l0 a1_0 a1_1 = some r) :
    Calls Try.prog 27 #[.slice A0 l0.length c0, .agg #[.int .i64 a1_0, .int .i64 a1_1]] w fun e w' => e = .returned (.int .i64 r) ∧ Below w.heap.size w w' := by
  unfold impl_FaultOf.f at h
  by_cases h0 : wf64 a1_0 ∧ wf64 a1_1 ∧ l0.length ≤ 1048577
  rotate_left
  · rw [if_neg h0] at h; cases h
  rw [if_pos h0] at h
  obtain ⟨k, hk⟩ := Q.logOk_impl l0 h0.2.2
  have A := hk k (Nat.le_refl _)
  have i0 := RdE.mk hr0
  have i1 := LeI.mk hc0
  clear hk hr0 hc0
  by_cases hb : Q.logOk l0 = true
  · rw [if_pos hb] at h
    rw [hb] at A
    obtain ⟨hl, hw⟩ := logOk_wf hb
    obtain rfl := Option.some.inj h
    have HF : Aside0 (faultOf l0 ⟨a1_0, a1_1⟩ = ((lastMap l0 ⟨a1_0, a1_1⟩).getD z54).f1) := ⟨rfl⟩
    obtain ⟨res, hres⟩ : ∃ res, faultOf l0 ⟨a1_0, a1_1⟩ = res := ⟨_, rfl⟩
    rw [hres] at HF
    rw [hres]
    have A := Aside0.mk A
    have HW := Aside0.mk hw
    have H0 := Aside0.mk h0
    clear h hres hw h0 hb
    have hu74 := Try.underlying54
    have hu56 := Try.underlying46
    have hfe := field_fault
    go_enter Try.func27, Try.ntmps27
    go_wp2_with (first
      | ((with_reducible refine gate_dst (N := 3) rfl ?_); refine box_event rfl (N := 3) rfl (cs := #[.int .i64 a1_0, .int .i64 a1_1]) (t := 46) (by first | (go_simp; done) | (go_simp; rfl)) ?_; intro g hg w1 hk hb; have j1 := Born.mk hg; have j2 := Bel.mk hb; have j3 := Blk.mk hk; clear hg hb hk)
      | (go_at_call 23; refine (impl_LogOk.calls k _ _ _ true _ Rd.out LeI.out A.out).mono ?_; rintro e w2 ⟨rfl, hb⟩; have jb := Bel.mk hb; clear hb)
      | (go_at_call 37; refine (impl_lastOf.calls _ _ _ _ Rd.out LeI.out hl HW.out).mono ?_; rintro e w3 ⟨b, rfl, hb1, hm, hb⟩; obtain ⟨D, hD, hD2⟩ := hm; have jb := Bel.mk hb; obtain ⟨x, hrun, hx⟩ := lookup_pipe hD hD2 ⟨a1_0, a1_1⟩ H0.out.1 H0.out.2.1; have HX := Aside0.mk hx; clear hb hb1 hD hD2 hx)
      | ((with_reducible refine region_at ?_); intro w3 jw; go_region_held3 (fun w' => Sin w3 w') (first | exact ⟨From.out⟩ | skip) (first | (go_at_call 23; refine (impl_LogOk.calls k _ _ _ true _ Rd.out LeI.out A.out).mono ?_; rintro e w2 ⟨rfl, hb⟩; have jb := Bel.mk hb; clear hb) | (go_at_call 37; refine (impl_lastOf.calls _ _ _ _ Rd.out LeI.out hl HW.out).mono ?_; rintro e w3 ⟨b, rfl, hb1, hm, hb⟩; obtain ⟨D, hD, hD2⟩ := hm; have jb := Bel.mk hb; obtain ⟨x, hrun, hx⟩ := lookup_pipe hD hD2 ⟨a1_0, a1_1⟩ H0.out.1 H0.out.2.1; have HX := Aside0.mk hx; clear hb hb1 hD hD2 hx) )))
    go_ret
    have e9 : x.f1 = res := by rw [HF.out, ← HX.out]
    exact ⟨by rw [← e9]; rfl, From.out⟩
  · rw [if_neg hb] at h
    replace hb := Bool.eq_false_iff.mpr hb
    rw [hb] at A
    obtain rfl := Option.some.inj h
    have A := Aside0.mk A
    clear h h0 hb
    go_enter Try.func27, Try.ntmps27
    go_wp2_with (first
      | ((with_reducible refine gate_dst (N := 3) rfl ?_); refine box_event rfl (N := 3) rfl (cs := #[.int .i64 a1_0, .int .i64 a1_1]) (t := 46) (by first | (go_simp; done) | (go_simp; rfl)) ?_; intro g hg w1 hk hb; have j1 := Born.mk hg; have j2 := Bel.mk hb; have j3 := Blk.mk hk; clear hg hb hk)
      | (go_at_call 23; refine (impl_LogOk.calls k _ _ _ false _ Rd.out LeI.out A.out).mono ?_; rintro e w2 ⟨rfl, hb⟩; have jb := Bel.mk hb; clear hb))
    go_ret
    exact ⟨rfl, From.out⟩
end Go.Proofs.Ytobcafjhkimonaa.P


namespace Go.Proofs.Ytobcafjhkimonaa.P
open Go.RowKit Go.Proofs.YtobcafjhkimonaaW.PrintWords Go.Proofs.YtobcafjhkimonaaW.PrintLast Go.Proofs.YtobcafjhkimonaaW.PrintMore
attribute [local go_sem] max2_int min2_int max_two min_two max_three min_three max_four min_four
set_option linter.unusedVariables false
set_option linter.unusedSimpArgs false
def laws_FnExactFaultOf.f (k : Nat) (l0 : List (S57)) (a1_0 : Int) (a1_1 : Int) : Option (Bool) := (laws_szEntryS.f l0 1048576).bind fun t285 => (if t285 < 0 then (some true) else ((laws_toEntryS.f k l0).bind fun t286 => ((laws_toPipe.f a1_0 a1_1).bind fun bt289 => ((spec_FaultOf.f k t286 bt289.1 bt289.2).bind fun t291 => ((laws_toEntryS.f k l0).bind fun t292 => ((laws_toPipe.f a1_0 a1_1).bind fun bt295 => ((impl_FaultOf.f t292 bt295.1 bt295.2).bind fun t297 => (if t297 = t291 then ((laws_toEntryS.f k l0).bind fun t298 => ((laws_eqEntryS.f k t292 t298).bind fun t301 => (if t301 = true then (some true) else (some false)))) else (some false)))))))))
set_option maxHeartbeats 8000000 in
set_option maxRecDepth 100000 in
theorem laws_FnExactFaultOf.calls (k : Nat) (A0 : Option Addr) (c0 : Nat) (l0 : List (S57)) (a1_0 : Int) (a1_1 : Int) (r : Bool) (w : World) (hr0 : Kd.C k57 w A0 l0.length l0) (hc0 : l0.length ≤ c0) (h : laws_FnExactFaultOf.f k l0 a1_0 a1_1 = some r) (hrt_ : Aside0 (r = true)) :
    Calls Try.prog 7 #[.slice A0 l0.length c0, .agg #[.int .i64 a1_0, .int .i64 a1_1]] w fun e w' => e = .returned (.bool r) ∧ Below w.heap.size w w' := by
  have hu44 := Try.underlying44
  have HR0 := Aside0.mk hr0
  have HC0 := Aside0.mk hc0
  clear hr0 hc0
  have HB := Aside0.mk (Below.refl w.heap.size w)
  have H : ((laws_szEntryS.f l0 1048576).bind fun t285 => (if t285 < 0 then (some true) else ((laws_toEntryS.f k l0).bind fun t286 => ((laws_toPipe.f a1_0 a1_1).bind fun bt289 => ((spec_FaultOf.f k t286 bt289.1 bt289.2).bind fun t291 => ((laws_toEntryS.f k l0).bind fun t292 => ((laws_toPipe.f a1_0 a1_1).bind fun bt295 => ((impl_FaultOf.f t292 bt295.1 bt295.2).bind fun t297 => (if t297 = t291 then ((laws_toEntryS.f k l0).bind fun t298 => ((laws_eqEntryS.f k t292 t298).bind fun t301 => (if t301 = true then (some true) else (some false)))) else (some false)))))))))) = some r := h
  clear h
  replace H := Option.bind_eq_some_iff.mp H
  obtain ⟨t285, A30, H⟩ := H
  (try dsimp only at H)
  have A3 := Aside0.mk A30
  clear A30
  by_cases c4 : t285 < 0
  · rw [if_pos c4] at H
    have c4b0 : decide (t285 < 0) = true := decide_eq_true c4
    clear c4
    obtain rfl := Option.some.inj H
    go_enter Try.func7, Try.ntmps7
    go_wp2_with (first | ((with_reducible refine gate_dst (N := 3) rfl ?_); refine box_event ?hg (N := 3) ?hd (cs := #[.int .i64 a1_0, .int .i64 a1_1]) (t := 44) ?hr ?_; (case hd => rfl); (case hg => rfl); (case hr => first | (go_simp; done) | (go_simp; rfl)); intro gb284 hg w5 hbox hb; have n0_ := Aside0.mk (below_step (oB HB) hb); have n1_ := Aside0.mk (hbox); have n2_ := Aside0.mk ((by rw [hg]; exact (below_size (oB HB)) : w.heap.size ≤ gb284)); have n3_ := Aside0.mk ((by rw [hg]; exact (below_size (oB HB)) : w.heap.size ≤ gb284)); clear HB; have HB := n0_; have BK284 := n1_; have GW284 := n2_; have GE284 := n3_; clear n0_ n1_ n2_ n3_; clear hb hbox hg) | ((with_reducible refine gate_callee (f := 20) rfl ?_); refine goesL_ (some 11) rfl rfl Try.func20 (by kernel_rfl) rfl #[.slice A0 l0.length c0, .int .i64 1048576] rfl (by (try simp only [List.map_toArray, List.map_cons, List.map_nil]); first | done | rfl | (simp only [List.length_drop, List.length_take]; rfl)) ?_; (with_reducible refine (laws_szEntryS.calls _ _ l0 1048576 t285 _ ?side1 ?side2 A3.out).mono ?_); (case side1 => exact oc_ HR0.out); (case side2 => exact HC0.out); rintro e w' ⟨rfl, ⟨nd, rfl⟩⟩; refine ⟨_, rfl, ?_⟩))
    go_ret
    exact ⟨by first | rfl | (simp [errW_none, errW_some] <;> rfl) | (simp [*, errW_none, errW_some] <;> rfl), oB HB⟩
  · rw [if_neg c4] at H
    have c4b0 : decide (t285 < 0) = false := decide_eq_false c4
    clear c4
    replace H := Option.bind_eq_some_iff.mp H
    obtain ⟨t286, A60, H⟩ := H
    (try dsimp only at H)
    have A6 := Aside0.mk A60
    clear A60
    replace H := Option.bind_eq_some_iff.mp H
    obtain ⟨⟨t289, t290⟩, A70, H⟩ := H
    (try dsimp only at H)
    have A7 := Aside0.mk A70
    clear A70
    replace H := Option.bind_eq_some_iff.mp H
    obtain ⟨t291, A80, H⟩ := H
    (try dsimp only at H)
    have A8 := Aside0.mk A80
    clear A80
    replace H := Option.bind_eq_some_iff.mp H
    obtain ⟨t292, A90, H⟩ := H
    (try dsimp only at H)
    have A9 := Aside0.mk A90
    clear A90
    replace H := Option.bind_eq_some_iff.mp H
    obtain ⟨⟨t295, t296⟩, A100, H⟩ := H
    (try dsimp only at H)
    have A10 := Aside0.mk A100
    clear A100
    replace H := Option.bind_eq_some_iff.mp H
    obtain ⟨t297, A110, H⟩ := H
    (try dsimp only at H)
    have A11 := Aside0.mk A110
    clear A110
    by_cases c12 : t297 = t291
    · rw [if_pos c12] at H
      have c12b0 : (t297 == t291) = true := beq_iff_eq.mpr c12
      have c12b1 : (t297 != t291) = false := bne_eq_false_iff_eq.mpr c12
      clear c12
      replace H := Option.bind_eq_some_iff.mp H
      obtain ⟨t298, A130, H⟩ := H
      (try dsimp only at H)
      have A13 := Aside0.mk A130
      clear A130
      replace H := Option.bind_eq_some_iff.mp H
      obtain ⟨t301, A140, H⟩ := H
      (try dsimp only at H)
      have A14 := Aside0.mk A140
      clear A140
      by_cases c15 : t301 = true
      · subst c15
        rw [if_pos rfl] at H
        obtain rfl := Option.some.inj H
        go_enter Try.func7, Try.ntmps7
        try go_wp2_with (first | ((with_reducible refine gate_dst (N := 3) rfl ?_); refine box_event ?hg (N := 3) ?hd (cs := #[.int .i64 a1_0, .int .i64 a1_1]) (t := 44) ?hr ?_; (case hd => rfl); (case hg => rfl); (case hr => first | (go_simp; done) | (go_simp; rfl)); intro gb284 hg w16 hbox hb; have n0_ := Aside0.mk (below_step (oB HB) hb); have n1_ := Aside0.mk (hbox); have n2_ := Aside0.mk ((by rw [hg]; exact (below_size (oB HB)) : w.heap.size ≤ gb284)); have n3_ := Aside0.mk ((by rw [hg]; exact (below_size (oB HB)) : w.heap.size ≤ gb284)); clear HB; have HB := n0_; have BK284 := n1_; have GW284 := n2_; have GE284 := n3_; clear n0_ n1_ n2_ n3_; clear hb hbox hg) | ((with_reducible refine gate_callee (f := 20) rfl ?_); refine goesL_ (some 11) rfl rfl Try.func20 (by kernel_rfl) rfl #[.slice A0 l0.length c0, .int .i64 1048576] rfl (by (try simp only [List.map_toArray, List.map_cons, List.map_nil]); first | done | rfl | (simp only [List.length_drop, List.length_take]; rfl)) ?_; (with_reducible refine (laws_szEntryS.calls _ _ l0 1048576 t285 _ ?side1 ?side2 A3.out).mono ?_); (case side1 => exact oc_ HR0.out); (case side2 => exact HC0.out); rintro e w' ⟨rfl, ⟨nd, rfl⟩⟩; refine ⟨_, rfl, ?_⟩))
        (try (rw [drewN_self w16]; generalize hq_ : World.drewN w16 _ = w16; have n0_ : Aside0 (w16.heap[gb284]? = some (.cells #[.int .i64 a1_0, .int .i64 a1_1] 44 (0, 0))) := ⟨by rw [← hq_]; exact (oK BK284)⟩; have n1_ : Aside0 (Below w.heap.size w w16) := ⟨by rw [← hq_]; exact (oB HB)⟩; clear BK284 HB hq_; have BK284 := n0_; have HB := n1_; clear n0_ n1_))
        have n0_ := Aside0.mk (blk_drew BK284.out)
        have n1_ := Aside0.mk (below_drew1 HB.out)
        clear BK284
        clear HB
        have BK284 := n0_
        have HB := n1_
        clear n0_ n1_
        refine start_ (n := 6) (S := fun w' => w'.cell? ⟨gb284, 0, none⟩ = some (.int .i64 a1_0) ∧ w'.cell? ⟨gb284, 1, none⟩ = some (.int .i64 a1_1)) (ds := []) #[false, false, false, false, false, false] (by kernel_rfl) rfl rfl ⟨(blk_cell BK284.out 0).trans rfl, (blk_cell BK284.out 1).trans rfl⟩ (fun hHeld => ?_)
        generalize w16.drew = w17 at BK284 HB hHeld ⊢
        refine pure_ (i := 0) (N := some 14) (v := ?_) (a' := ?_) #[true, false, false, false, false, false] rfl rfl (by kernel_rfl) (fun _ _ _ h => h) (Or.inl ⟨by rfl, ?_⟩) ?_ ?_
        rotate_left
        · intro w'
          go_simp
          with_reducible rfl
        rotate_left
        · simp only [Act.put, List.setIfInBounds_toArray, List.set_cons_zero, List.set_cons_succ, i64_w, i32_w]
          rfl
        refine take_ (i := 2) (N := some 16) (v := ?_) (a' := ?_) #[true, false, true, false, false, false] rfl rfl (by kernel_rfl) (fun _ _ _ h => h) (Or.inl ⟨by rfl, ?_⟩) hHeld ?_ ?_
        rotate_left
        · rintro w' ⟨s0, s1⟩
          go_simp
          with_reducible rfl
        rotate_left
        · simp only [Act.put, List.setIfInBounds_toArray, List.set_cons_zero, List.set_cons_succ, i64_w, i32_w]
          rfl
        refine one_ (i := 1) (N := some 15) #[true, true, true, false, false, false] rfl rfl (by kernel_rfl) (by decide) (fun K hK => ?_)
        refine goes_ Try.func22 (by kernel_rfl) rfl #[.slice A0 l0.length c0] (by rfl) rfl rfl (by (try simp only [List.map_toArray, List.map_cons, List.map_nil]); first | done | rfl | (simp only [List.length_drop, List.length_take]; rfl)) ?_
        with_reducible refine (laws_toEntryS.calls k _ _ l0 t286 _ ?side1 ?side2 A6.out).mono ?_
        (case side1 => exact oc_ HR0.out)
        (case side2 => exact HC0.out)
        rintro e w18 ⟨v287, rfl, ho0, hb⟩
        refine ⟨_, rfl, ?_⟩
        have n0_ := Aside0.mk (Kd.R_lower ho0 (below_size (oB HB)))
        have n1_ := Aside0.mk (blk_below (g := gb284) (o := .cells #[.int .i64 a1_0, .int .i64 a1_1] 44 (0, 0)) (oK BK284) hb)
        have n2_ := Aside0.mk (below_step (oB HB) hb)
        clear BK284
        clear HB
        have HO288 := n0_
        have BK284 := n1_
        have HB := n2_
        clear n0_ n1_ n2_
        (try clear hb)
        (try clear hb2)
        (try clear hk)
        (try clear hi)
        (try clear ho0)
        refine hK.out _ _ ⟨(blk_cell BK284.out 0).trans rfl, (blk_cell BK284.out 1).trans rfl⟩ (fun hHeld => ?_)
        clear hK K
        refine norm_ (a' := ?_) ?_ ?_
        rotate_left
        · show Act.put _ (some 15) _ = _
          simp only [Act.put, List.setIfInBounds_toArray, List.set_cons_zero, List.set_cons_succ, i64_w, i32_w]
          rfl
        refine one_ (i := 3) (N := some 17) #[true, true, true, true, false, false] rfl rfl (by kernel_rfl) (by decide) (fun K hK => ?_)
        refine goes_ Try.func26 (by kernel_rfl) rfl #[.agg #[.int .i64 a1_0, .int .i64 a1_1]] (by rfl) rfl rfl (by (try simp only [List.map_toArray, List.map_cons, List.map_nil]); first | done | rfl | (simp only [List.length_drop, List.length_take]; rfl)) ?_
        with_reducible refine (laws_toPipe.calls a1_0 a1_1 t289 t290 _ A7.out).mono ?_
        rintro e w19 ⟨rfl, hb⟩
        refine ⟨_, rfl, ?_⟩
        have n0_ := Aside0.mk (Kd.R_below (oR HO288) hb)
        have n1_ := Aside0.mk (blk_below (g := gb284) (o := .cells #[.int .i64 a1_0, .int .i64 a1_1] 44 (0, 0)) (oK BK284) hb)
        have n2_ := Aside0.mk (below_step (oB HB) hb)
        clear HO288
        clear BK284
        clear HB
        have HO288 := n0_
        have BK284 := n1_
        have HB := n2_
        clear n0_ n1_ n2_
        (try clear hb)
        (try clear hb2)
        (try clear hk)
        (try clear hi)
        obtain ⟨Ao20, co20, eo20⟩ := Kd.R_slice HO288.out
        (first | subst eo20 | (injection eo20 with f1_ f2_ f3_; have f4_ := f1_.symm; have f5_ := f3_.symm; clear f1_ f2_ f3_; subst f4_; subst f5_))
        refine hK.out _ _ ⟨(blk_cell BK284.out 0).trans rfl, (blk_cell BK284.out 1).trans rfl⟩ (fun hHeld => ?_)
        clear hK K
        refine norm_ (a' := ?_) ?_ ?_
        rotate_left
        · show Act.put _ (some 17) _ = _
          simp only [Act.put, List.setIfInBounds_toArray, List.set_cons_zero, List.set_cons_succ, i64_w, i32_w]
          rfl
        refine one_ (i := 4) (N := some 18) #[true, true, true, true, true, false] rfl rfl (by kernel_rfl) (by decide) (fun K hK => ?_)
        refine goes_ Try.func25 (by kernel_rfl) rfl #[.slice Ao20 t286.length co20, .agg #[.int .i64 t289, .int .i64 t290]] (by rfl) rfl rfl (by (try simp only [List.map_toArray, List.map_cons, List.map_nil]); first | done | rfl | (simp only [List.length_drop, List.length_take]; rfl)) ?_
        with_reducible refine (spec_FaultOf.calls k _ _ t286 t289 t290 t291 _ ?side1 ?side2 A8.out).mono ?_
        (case side1 => repeat (first | exact (Kd.R_reads' HO288.out).2.2 | (with_reducible refine Kd.C_alloc ?_ _) | (with_reducible refine Kd.C_drewN ?_ _) | (with_reducible refine Kd.C_drew ?_)))
        (case side2 => exact (Kd.R_reads' HO288.out).2.1)
        rintro e w21 ⟨rfl, hb⟩
        refine ⟨_, rfl, ?_⟩
        have n0_ := Aside0.mk (Kd.R_below (oR HO288) hb)
        have n1_ := Aside0.mk (blk_below (g := gb284) (o := .cells #[.int .i64 a1_0, .int .i64 a1_1] 44 (0, 0)) (oK BK284) hb)
        have n2_ := Aside0.mk (below_step (oB HB) hb)
        clear HO288
        clear BK284
        clear HB
        have HO288 := n0_
        have BK284 := n1_
        have HB := n2_
        clear n0_ n1_ n2_
        (try clear hb)
        (try clear hb2)
        (try clear hk)
        (try clear hi)
        refine hK.out _ _ ⟨(blk_cell BK284.out 0).trans rfl, (blk_cell BK284.out 1).trans rfl⟩ (fun hHeld => ?_)
        clear hK K
        refine norm_ (a' := ?_) ?_ ?_
        rotate_left
        · show Act.put _ (some 18) _ = _
          simp only [Act.put, List.setIfInBounds_toArray, List.set_cons_zero, List.set_cons_succ, i64_w, i32_w]
          rfl
        refine pure_ (i := 5) (N := some 6) (v := ?_) (a' := ?_) #[true, true, true, true, true, true] rfl rfl (by kernel_rfl) (fun _ _ _ h => h) (Or.inl ⟨by rfl, ?_⟩) ?_ ?_
        rotate_left
        · intro w'
          go_simp
          with_reducible rfl
        rotate_left
        · simp only [Act.put, List.setIfInBounds_toArray, List.set_cons_zero, List.set_cons_succ, i64_w, i32_w]
          rfl
        refine done_ (by kernel_rfl) ?_
        try go_wp2_with (first | ((with_reducible refine gate_callee (f := 22) rfl ?_); refine goesL_ (some 20) rfl rfl Try.func22 (by kernel_rfl) rfl #[.slice A0 l0.length c0] rfl (by (try simp only [List.map_toArray, List.map_cons, List.map_nil]); first | done | rfl | (simp only [List.length_drop, List.length_take]; rfl)) ?_; (with_reducible refine (laws_toEntryS.calls k _ _ l0 t292 _ ?side1 ?side2 A9.out).mono ?_); (case side1 => exact oc_ HR0.out); (case side2 => exact HC0.out); rintro e w22 ⟨v293, rfl, ho0, hb⟩; refine ⟨_, rfl, ?_⟩; have n0_ := Aside0.mk (Kd.R_elder' (oR HO288) (Kd.R_base ho0) hb); have n1_ := Aside0.mk (Kd.R_lower (Kd.R_new' ho0 (Kd.R_lt (oR HO288))) (below_size (oB HB))); have n2_ := Aside0.mk (blk_below (g := gb284) (o := .cells #[.int .i64 a1_0, .int .i64 a1_1] 44 (0, 0)) (oK BK284) hb); have n3_ := Aside0.mk (below_step (oB HB) hb); clear HO288; clear BK284; clear HB; have HO288 := n0_; have HO294 := n1_; have BK284 := n2_; have HB := n3_; clear n0_ n1_ n2_ n3_; (try clear hb); (try clear hb2); (try clear hk); (try clear hi); (try clear ho0); have hcz23_0 : w22.cell? ⟨gb284, 0, none⟩ = some (.int .i64 a1_0) := (blk_cell BK284.out 0).trans rfl; have hcz23_1 : w22.cell? ⟨gb284, 1, none⟩ = some (.int .i64 a1_1) := (blk_cell BK284.out 1).trans rfl; have hfz23_0 := blk_frozen BK284.out 0; have hfz23_1 := blk_frozen BK284.out 1) | ((with_reducible refine gate_callee (f := 26) rfl ?_); refine goesL_ (some 23) rfl rfl Try.func26 (by kernel_rfl) rfl #[.agg #[.int .i64 a1_0, .int .i64 a1_1]] rfl (by (try simp only [List.map_toArray, List.map_cons, List.map_nil]); first | done | rfl | (simp only [List.length_drop, List.length_take]; rfl)) ?_; (with_reducible refine (laws_toPipe.calls a1_0 a1_1 t295 t296 _ A10.out).mono ?_); rintro e w24 ⟨rfl, hb⟩; refine ⟨_, rfl, ?_⟩; have n0_ := Aside0.mk (Kd.R_below (oR HO288) hb); have n1_ := Aside0.mk (Kd.R_below (oR HO294) hb); have n2_ := Aside0.mk (blk_below (g := gb284) (o := .cells #[.int .i64 a1_0, .int .i64 a1_1] 44 (0, 0)) (oK BK284) hb); have n3_ := Aside0.mk (below_step (oB HB) hb); clear HO288; clear HO294; clear BK284; clear HB; have HO288 := n0_; have HO294 := n1_; have BK284 := n2_; have HB := n3_; clear n0_ n1_ n2_ n3_; (try clear hb); (try clear hb2); (try clear hk); (try clear hi); obtain ⟨Ao25, co25, eo25⟩ := Kd.R_slice HO294.out; subst eo25) | ((with_reducible refine gate_callee (f := 27) rfl ?_); refine goesL_ (some 24) rfl rfl Try.func27 (by kernel_rfl) rfl #[.slice Ao25 t292.length co25, .agg #[.int .i64 t295, .int .i64 t296]] rfl (by (try simp only [List.map_toArray, List.map_cons, List.map_nil]); first | done | rfl | (simp only [List.length_drop, List.length_take]; rfl)) ?_; (with_reducible refine (impl_FaultOf.calls _ _ t292 t295 t296 t297 _ ?side1 ?side2 A11.out).mono ?_); (case side1 => repeat (first | exact (Kd.R_reads' HO294.out).2.2 | (with_reducible refine Kd.C_alloc ?_ _) | (with_reducible refine Kd.C_drewN ?_ _) | (with_reducible refine Kd.C_drew ?_))); (case side2 => exact (Kd.R_reads' HO294.out).2.1); rintro e w26 ⟨rfl, hb⟩; refine ⟨_, rfl, ?_⟩; have n0_ := Aside0.mk (Kd.R_below (oR HO288) hb); have n1_ := Aside0.mk (Kd.R_below (oR HO294) hb); have n2_ := Aside0.mk (blk_below (g := gb284) (o := .cells #[.int .i64 a1_0, .int .i64 a1_1] 44 (0, 0)) (oK BK284) hb); have n3_ := Aside0.mk (below_step (oB HB) hb); clear HO288; clear HO294; clear BK284; clear HB; have HO288 := n0_; have HO294 := n1_; have BK284 := n2_; have HB := n3_; clear n0_ n1_ n2_ n3_; (try clear hb); (try clear hb2); (try clear hk); (try clear hi)) | ((with_reducible refine gate_callee (f := 22) rfl ?_); refine goesL_ (some 30) rfl rfl Try.func22 (by kernel_rfl) rfl #[.slice A0 l0.length c0] rfl (by (try simp only [List.map_toArray, List.map_cons, List.map_nil]); first | done | rfl | (simp only [List.length_drop, List.length_take]; rfl)) ?_; (with_reducible refine (laws_toEntryS.calls k _ _ l0 t298 _ ?side1 ?side2 A13.out).mono ?_); (case side1 => exact oc_ HR0.out); (case side2 => exact HC0.out); rintro e w27 ⟨v299, rfl, ho0, hb⟩; refine ⟨_, rfl, ?_⟩; have n0_ := Aside0.mk (Kd.R_elder' (oR HO288) (Kd.R_base ho0) hb); have n1_ := Aside0.mk (Kd.R_elder' (oR HO294) (Kd.R_base ho0) hb); have n2_ := Aside0.mk (Kd.R_lower (Kd.R_new' (Kd.R_new' ho0 (Kd.R_lt (oR HO288))) (Kd.R_lt (oR HO294))) (below_size (oB HB))); have n3_ := Aside0.mk (blk_below (g := gb284) (o := .cells #[.int .i64 a1_0, .int .i64 a1_1] 44 (0, 0)) (oK BK284) hb); have n4_ := Aside0.mk (below_step (oB HB) hb); clear HO288; clear HO294; clear BK284; clear HB; have HO288 := n0_; have HO294 := n1_; have HO300 := n2_; have BK284 := n3_; have HB := n4_; clear n0_ n1_ n2_ n3_ n4_; (try clear hb); (try clear hb2); (try clear hk); (try clear hi); (try clear ho0); obtain ⟨Ao28, co28, eo28⟩ := Kd.R_slice HO300.out; subst eo28) | ((with_reducible refine gate_callee (f := 24) rfl ?_); refine goesL_ (some 31) rfl rfl Try.func24 (by kernel_rfl) rfl #[.slice Ao25 t292.length co25, .slice Ao28 t298.length co28] rfl (by (try simp only [List.map_toArray, List.map_cons, List.map_nil]); first | done | rfl | (simp only [List.length_drop, List.length_take]; rfl)) ?_; (with_reducible refine (laws_eqEntryS.calls k _ _ t292 _ _ t298 true _ ?side1 ?side2 ?side3 ?side4 A14.out).mono ?_); (case side1 => repeat (first | exact (Kd.R_reads' HO294.out).2.2 | (with_reducible refine Kd.C_alloc ?_ _) | (with_reducible refine Kd.C_drewN ?_ _) | (with_reducible refine Kd.C_drew ?_))); (case side2 => exact (Kd.R_reads' HO294.out).2.1); (case side3 => repeat (first | exact (Kd.R_reads' HO300.out).2.2 | (with_reducible refine Kd.C_alloc ?_ _) | (with_reducible refine Kd.C_drewN ?_ _) | (with_reducible refine Kd.C_drew ?_))); (case side4 => exact (Kd.R_reads' HO300.out).2.1); rintro e w29 ⟨rfl, hb⟩; refine ⟨_, rfl, ?_⟩; have n0_ := Aside0.mk (Kd.R_below (oR HO288) hb); have n1_ := Aside0.mk (Kd.R_below (oR HO294) hb); have n2_ := Aside0.mk (Kd.R_below (oR HO300) hb); have n3_ := Aside0.mk (blk_below (g := gb284) (o := .cells #[.int .i64 a1_0, .int .i64 a1_1] 44 (0, 0)) (oK BK284) hb); have n4_ := Aside0.mk (below_step (oB HB) hb); clear HO288; clear HO294; clear HO300; clear BK284; clear HB; have HO288 := n0_; have HO294 := n1_; have HO300 := n2_; have BK284 := n3_; have HB := n4_; clear n0_ n1_ n2_ n3_ n4_; (try clear hb); (try clear hb2); (try clear hk); (try clear hi)))
        go_ret
        exact ⟨by first | rfl | (simp [errW_none, errW_some] <;> rfl) | (simp [*, errW_none, errW_some] <;> rfl), oB HB⟩
      · replace c15 := Bool.eq_false_iff.mpr c15
        subst c15
        rw [if_neg (show ¬ (false = true) by decide)] at H
        exact absurd ((Option.some.inj H).trans hrt_.out) (by decide)
    · rw [if_neg c12] at H
      have c12b0 : (t297 == t291) = false := beq_eq_false_iff_ne.mpr c12
      have c12b1 : (t297 != t291) = true := bne_iff_ne.mpr c12
      exact absurd ((Option.some.inj H).trans hrt_.out) (by decide)
end Go.Proofs.Ytobcafjhkimonaa.P


namespace Go.Proofs.Ytobcafjhkimonaa.Q
set_option linter.unusedVariables false
set_option linter.unusedSimpArgs false
open Go.RowKit Go.Proofs.Ytobcafjhkimonaa.P Go.Proofs.YtobcafjhkimonaaW.PrintWords Go.Proofs.YtobcafjhkimonaaW.PrintMore
theorem faultOf_snoc (l : List S54) (x : S54) (p : S46) : faultOf (l ++ [x]) p = if p = x.f0 then x.f1 else faultOf l p := by
  unfold faultOf
  rw [lastMap_snoc]
  by_cases h : p = x.f0 <;> simp [h]
theorem pipe_eq {p q : S46} : p = q ↔ p.f0 = q.f0 ∧ p.f1 = q.f1 := by
  obtain ⟨a, b⟩ := p
  obtain ⟨c, d⟩ := q
  simp
theorem fault_spec (l : List S54) (a b : Int) (hl : l.length ≤ 1048577) : Ev (fun k => spec_FaultOf.f k l a b) (if logOk l = true then faultOf l ⟨a, b⟩ else 0) := by
  have HL := logOk_spec l hl
  by_cases h0 : logOk l = true
  rotate_left
  · rw [if_neg h0]
    replace h0 := Bool.eq_false_iff.mpr h0
    rw [h0] at HL
    unfold spec_FaultOf.f
    by_cases hz : l.length = 0
    · have : l = [] := List.length_eq_zero_iff.mp hz
      subst this
      exact absurd h0 (by decide)
    refine Ev.step (fun k => by rw [spec_FaultOf.l0]) (evp (by omega) (Ev.bind HL ?_))
    exact Ev.step (fun k => by rw [spec_FaultOf.j1]) (evn (by decide) (evs rfl))
  rw [if_pos h0]
  rw [h0] at HL
  have key : ∀ i, i ≤ l.length → Ev (fun k => spec_FaultOf.l0 k l (faultOf (l.take i) ⟨a, b⟩) (i : Int) a b) (faultOf l ⟨a, b⟩) := by
    refine down (n := l.length) ?_ ?_
    · refine Ev.step (fun k => by rw [spec_FaultOf.l0]) (evn (by omega) ?_)
      exact Ev.step (fun k => by rw [spec_FaultOf.j1]) (evn (by decide) (evs (by rw [List.take_length])))
    · intro i hi ih
      refine Ev.step (fun k => by rw [spec_FaultOf.l0]) (evp (by omega) (Ev.bind HL ?_))
      refine Ev.step (fun k => by rw [spec_FaultOf.j1]) (evp rfl (evp (by omega) (evp (by omega) ?_)))
      rw [rdE l i hi, w64 (n := (i : Int) + 1) (by omega) (by omega)]
      rw [List.take_succ_eq_append_getElem hi, faultOf_snoc] at ih
      by_cases he : (⟨a, b⟩ : S46) = l[i].f0
      · rw [if_pos he] at ih
        obtain ⟨e1, e2⟩ := pipe_eq.mp he
        simp only at e1 e2
        exact evp (by simp [← e1, ← e2]) ih
      · rw [if_neg he] at ih
        refine evn ?_ ih
        intro hh
        simp only [Bool.and_eq_true, beq_iff_eq] at hh
        exact he (pipe_eq.mpr ⟨hh.1.symm, hh.2.symm⟩)
  exact key 0 (Nat.zero_le _)
theorem fault_impl (l : List S54) (a b : Int) (ha : P.wf64 a) (hb : P.wf64 b) (hl : l.length ≤ 1048577) : impl_FaultOf.f l a b = some (if logOk l = true then faultOf l ⟨a, b⟩ else 0) := by
  unfold impl_FaultOf.f
  rw [if_pos ⟨ha, hb, hl⟩]
end Go.Proofs.Ytobcafjhkimonaa.Q


namespace Go.Proofs.Ytobcafjhkimonaa.Q
set_option linter.unusedVariables false
set_option linter.unusedSimpArgs false
open Go.RowKit Go.Deep Go.ChangeShapes Go.WideShapes Go.Proofs.YtobcafjhkimonaaW.PrintWords
def Opens {α : Type} (P : Program) (w : World) (d : Kd α) (T : TypeId) (G : α → Prop) : Prop :=
  ∀ (H : Type) (enc : TypeId × Value → H) (base : Nat) (spare : Nat → Bool) (held : Bool) (fuel : Nat) (cs : List Value) (x : DataW H × List MemPlace),
    DataW.trod enc P w base spare held fuel T cs = some x → ∃ v, d.K w v cs ∧ G v
def OpensFs {α : Type} (P : Program) (w : World) (d : Kd α) (off : Nat) (fs : Array Field) (i : Nat) (G : α → Prop) : Prop :=
  ∀ (H : Type) (enc : TypeId × Value → H) (base : Nat) (spare : Nat → Bool) (held : Bool) (fuel : Nat) (cs : List Value), cs.length = off + d.sz →
    (∀ j f, i ≤ j → fs[j]? = some f → ∃ y : DataW H × List MemPlace, DataW.trod enc P w base spare held fuel f.type ((cs.drop f.offset).take (P.cellsOf f.type)) = some y) → ∃ v, d.K w v (cs.drop off) ∧ G v
section
variable {P : Program} {w : World}
theorem Opens.int {k : IntKind} {T : TypeId} (ht : P.underlying T = some (.int k)) : Opens P w (Kd.int k) T (fun n => (Lit.int k n).wf = true) := by
  intro H enc base spare held fuel cs x hx
  obtain ⟨n, rfl, _, hw⟩ := DataW.trod_int ht hx
  exact ⟨n, rfl, hw⟩
theorem Opens.slice {α : Type} (z : α) {d : Kd α} {E T : TypeId} {G : α → Prop} (ht : P.underlying T = some (.slice E)) (hC : P.cellsOf E = d.sz) (h : Opens P w d E G) :
    Opens P w (Kd.slice E d) T (fun l => l.length ≤ 9223372036854775807 ∧ ∀ x ∈ l, G x) := by
  haveI : Inhabited α := ⟨z⟩
  intro H enc base spare held fuel cs x hx
  rcases open_slice ht hx with ⟨rfl, _⟩ | ⟨a, len, cap, m, n, D, Pl, rfl, hb, hl, hm, hmm, _, hi⟩
  · exact ⟨[], ⟨none, 0, rfl, Nat.le_refl _, rfl, by simp, fun h => absurd h (by simp)⟩, by simp, by simp⟩
  · have hlm : len ≤ m := by rw [hmm]; split <;> omega
    obtain ⟨V, hV⟩ := choose_lt (α := α) (n := len) (p := fun i v => G v ∧ ∃ c, c.length = d.sz ∧ d.K w v c ∧ ∀ j u, c[j]? = some u → w.cell? (a.add (i * d.sz + j)) = some u) (fun i hil => by
      obtain ⟨cs', h1, h2⟩ := hi i (by omega)
      obtain ⟨v, hv, g⟩ := h H enc base spare held n cs' _ h2
      obtain ⟨_, hcl, hat⟩ := World.cells?_some h1
      refine ⟨v, g, cs', by rw [hcl, hC], hv, fun j u hu => ?_⟩
      have hj : j < P.cellsOf E := by rw [← hcl]; exact (List.getElem?_eq_some_iff.1 hu).1
      have := hat j hj
      rw [hC, Go.Deep.add_add] at this
      rw [this, hu])
    refine ⟨(List.range len).map V, ⟨some a, cap, by simp, by simpa using hl, by simp, by have := hm; unfold maxLen at this; simp; omega, fun _ => ⟨a, rfl, fun j p hj => ?_⟩⟩, ?_⟩
    · have hj' : j < len := by have := (List.getElem?_eq_some_iff.1 hj).1; simpa using this
      obtain rfl : V j = p := by simpa [hj'] using hj
      exact (hV j hj').2
    · refine ⟨by have := hm; unfold maxLen at this; simp; omega, fun x hx => ?_⟩
      obtain ⟨i, hi, rfl⟩ := List.mem_map.1 hx
      exact (hV i (List.mem_range.1 hi)).1
theorem OpensFs.one {α : Type} {d : Kd α} {off i : Nat} {fs : Array Field} {f : Field} {G : α → Prop} (hf : fs[i]? = some f) (h : Opens P w d f.type G) (ho : f.offset = off) (hc : P.cellsOf f.type = d.sz) : OpensFs P w d off fs i G := by
  intro H enc base spare held fuel cs hlen hfs
  obtain ⟨y, hy⟩ := hfs i f (Nat.le_refl _) hf
  rw [ho, hc, List.take_of_length_le (by simp [hlen])] at hy
  exact h H enc base spare held fuel _ _ hy
theorem OpensFs.more {α β : Type} {d : Kd α} {d2 : Kd β} {off i : Nat} {fs : Array Field} {f : Field} {G : α → Prop} {G2 : β → Prop} (hf : fs[i]? = some f) (h : Opens P w d f.type G) (ho : f.offset = off) (hc : P.cellsOf f.type = d.sz)
    (h2 : OpensFs P w d2 (off + d.sz) fs (i + 1) G2) : OpensFs P w (Kd.pair d d2) off fs i (fun x => G x.1 ∧ G2 x.2) := by
  intro H enc base spare held fuel cs hlen hfs
  have hlen' : cs.length = off + (d.sz + d2.sz) := hlen
  obtain ⟨y, hy⟩ := hfs i f (Nat.le_refl _) hf
  rw [ho, hc] at hy
  obtain ⟨v, hv, g⟩ := h H enc base spare held fuel _ _ hy
  obtain ⟨v2, hv2, g2⟩ := h2 H enc base spare held fuel cs (by omega) (fun j f' hj hf' => hfs j f' (by omega) hf')
  refine ⟨(v, v2), ⟨_, _, ?_, hv, hv2⟩, g, g2⟩
  rw [← List.drop_drop, List.take_append_drop]
theorem Opens.pairs {α : Type} {d : Kd α} {T : TypeId} {fs : Array Field} {G : α → Prop} (ht : P.underlying T = some (.struct fs)) (hC : P.cellsOf T = d.sz) (h : OpensFs P w d 0 fs 0 G) : Opens P w d T G := by
  intro H enc base spare held fuel cs x hx
  obtain ⟨xs, n, _, _, hlen, hxl, hat⟩ := DataW.trod_struct ht hx
  exact h H enc base spare held n cs (by rw [hlen, hC, Nat.zero_add]) (fun j f' _ hf' => by
    have hi' : j < fs.size := (Array.getElem?_eq_some_iff.1 hf').1
    have e := hat j f' hf'
    rw [List.getElem?_eq_getElem (by omega)] at e
    exact ⟨_, e⟩)
theorem Opens.struct {α β : Type} {d : Kd α} {T : TypeId} {fs : Array Field} {f : β → α} {G0 : α → Prop} {G : β → Prop} (g : α → β) (ht : P.underlying T = some (.struct fs)) (hC : P.cellsOf T = d.sz) (hfg : ∀ x, f (g x) = x)
    (h : OpensFs P w d 0 fs 0 G0) (hg : ∀ x, G0 x → G (g x)) : Opens P w (Kd.iso d f) T G := by
  intro H enc base spare held fuel cs x hx
  obtain ⟨v, hv, g0⟩ := Opens.pairs ht hC h H enc base spare held fuel cs x hx
  refine ⟨g v, ?_, hg v g0⟩
  show d.K w (f (g v)) cs
  rw [hfg]
  exact hv
end
end Go.Proofs.Ytobcafjhkimonaa.Q


namespace Go.Proofs.Ytobcafjhkimonaa.Q
open Go.RowKit Go.Proofs.Ytobcafjhkimonaa.P Go.Proofs.YtobcafjhkimonaaW.PrintWords
def good44 (x : S44) : Prop := ((Lit.int .i64 x.f0).wf = true ∧ (Lit.int .i64 x.f1).wf = true)
theorem op44 {w : World} : Opens Try.prog w k44 44 good44 := (Opens.struct (fun x => (⟨x.1, x.2⟩ : S44)) (G := good44) Try.underlying44 (by kernel_rfl) (fun _ => rfl) (OpensFs.more rfl (Opens.int Try.underlying3) rfl (by kernel_rfl) (OpensFs.one rfl (Opens.int Try.underlying3) rfl (by kernel_rfl))) (fun _ h => h))
def good57 (x : S57) : Prop := (((Lit.int .i64 x.f0.f0).wf = true ∧ (Lit.int .i64 x.f0.f1).wf = true) ∧ (Lit.int .i64 x.f1).wf = true ∧ (Lit.int .i64 x.f2).wf = true)
theorem op57 {w : World} : Opens Try.prog w k57 57 good57 := (Opens.struct (fun x => (⟨x.1, x.2.1, x.2.2⟩ : S57)) (G := good57) Try.underlying57 (by kernel_rfl) (fun _ => rfl) (OpensFs.more rfl op44 rfl (by kernel_rfl) (OpensFs.more rfl (Opens.int Try.underlying3) rfl (by kernel_rfl) (OpensFs.one rfl (Opens.int Try.underlying3) rfl (by kernel_rfl)))) (fun _ h => h))
end Go.Proofs.Ytobcafjhkimonaa.Q


namespace Go.Proofs.Ytobcafjhkimonaa.Pure
set_option linter.unusedVariables false
set_option linter.unusedSimpArgs false
open Go.RowKit Go.Proofs.Ytobcafjhkimonaa.P Go.Proofs.Ytobcafjhkimonaa.Q Go.Proofs.YtobcafjhkimonaaW.PrintWords Go.Proofs.YtobcafjhkimonaaW.PrintLast
theorem FnExactFaultOf (l : List S57) (r n : Int) (h0 : l.length ≤ 9223372036854775807 ∧ ∀ y ∈ l, good57 y) (h1 : (Lit.int .i64 r).wf = true ∧ (Lit.int .i64 n).wf = true) : ∃ k, laws_FnExactFaultOf.f k l r n = some true := by
  refine Ev.rounds ?_
  unfold laws_FnExactFaultOf.f
  refine evb (szEntryS_eq l 1048576 (by omega) (by omega) h0.1) ?_
  by_cases h : (1048576 : Int) < l.length
  · rw [if_pos h]; exact evp (by omega) (Ev.now _)
  rw [if_neg h]
  refine evn (by omega) ?_
  have ll : (l.map cEntry).length ≤ 1048577 := by simp; omega
  have T := toEntryS_ev l (by omega)
  have E := eqEntryS_ev (l.map cEntry) (by omega)
  have A := fault_spec (l.map cEntry) r n ll
  have B := fault_impl (l.map cEntry) r n h1.1 h1.2 ll
  repeat' first
    | exact Ev.now _
    | refine Ev.bind T ?_
    | refine Ev.bind E ?_
    | refine Ev.bind A ?_
    | refine evb B ?_
    | refine evb (show laws_toPipe.f _ _ = some _ from rfl) ?_
    | refine evp rfl ?_
    | refine evn (by first | decide | (dsimp only; omega) | simp) ?_
end Go.Proofs.Ytobcafjhkimonaa.Pure


namespace Go.Proofs.Ytobcafjhkimonaa.fnExactFaultOf
open Go.ChangeShapes Go.WideShapes Go.ChangeAt Go.RowKit Go.Proofs.Ytobcafjhkimonaa.P Go.Proofs.Ytobcafjhkimonaa.Q Go.Proofs.YtobcafjhkimonaaW.PrintWords
open Go.ChangeMaps (open_string shut_string)
set_option linter.unusedVariables false
set_option linter.unusedSimpArgs false
theorem own : ownKnob Try.prog.godebug = none := by kernel_rfl
theorem laidOut : laidOutB Try.prog = true := by kernel_rfl
set_option maxRecDepth 100000 in
theorem lifted (os : Os) (started : os.Started) (H : Type) (enc : TypeId × Value → H) :
    ReturnsInHanded {} Try.checked os 7 .any (Rows.fnExactFaultOfSpec.pre6 enc Try.prog Try.f7 Rows.fnExactFaultOfRow.domain false) (Rows.fnExactFaultOfSpec.post enc Try.prog Try.f7 false true false false) := by
  refine returnsInHanded_of_change_sized (C := Try.checked) own started (by kernel_rfl) Try.func7
    (ChangeSpec.witness6 (enc := enc) (C := Try.checked) false ⟨#[], #[.slice none 0 0, .agg #[.int .i64 0, .int .i64 0]], []⟩ 8 (by kernel_rfl) (by kernel_rfl) (by kernel_rfl) (by kernel_rfl)) ?_
  intro W base args ds gs before hval0 hW hcnd hsz0 _
  have hval : ∀ (j : Nat) t v, Try.f7.params[j]? = some t → args[j]? = some v → Value.okWide Try.prog W .any base t v := hval0
  have hW' := hW
  obtain ⟨p, q, hA0, hV, rfl, hfz, hnd⟩ := hW
  have hA : DataW.TrodAll enc Try.prog W 0 (fun _ => true) true Try.f7.params.toList args.toList ds p := hA0
  rw [Try.params7] at hA hval
  obtain ⟨v0, vs0, d0, ds0, p0, q0, hargs, rfl, rfl, h0, r0⟩ := trodAll_cons hA
  obtain ⟨v1, vs1, d1, ds1, p1, q1, rfl, rfl, rfl, h1, r1⟩ := trodAll_cons r0
  obtain ⟨rfl, rfl, rfl⟩ := trodAll_nil r1
  obtain rfl : args = #[v0, v1] := by cases args; simp_all
  obtain ⟨rfl, rfl⟩ := trodVars_none hV
  have k0 := h0
  have lt0 : ∀ x ∈ p0, x.block < W.heap.size := by obtain ⟨m, hm⟩ := k0; exact DataW.trod_lt m _ _ _ hm
  obtain ⟨fuel0, f0⟩ := h0
  obtain ⟨x0, K0, G0⟩ := (show Opens Try.prog W (Kd.slice 57 k57) 36 _ from Opens.slice z57 Try.underlying36 (by kernel_rfl) op57) H enc 0 _ _ fuel0 _ _ f0
  obtain ⟨len0, cap0, adr0, rfl⟩ : ∃ l c a, v0 = .slice a l c := by obtain ⟨a, l, c, e⟩ := okWide_slice Try.underlying36 (hval 0 36 v0 rfl rfl); exact ⟨l, c, a, e⟩
  obtain ⟨A0, c0, e0, hc0, hr0⟩ := K0
  simp [Value.cells] at e0
  obtain ⟨rfl, rfl, rfl⟩ := e0
  have k1 := h1
  have lt1 : ∀ x ∈ p1, x.block < W.heap.size := by obtain ⟨m, hm⟩ := k1; exact DataW.trod_lt m _ _ _ hm
  obtain ⟨fuel1, f1⟩ := h1
  obtain ⟨x1, K1, G1⟩ := (show Opens Try.prog W (Kd.pair (Kd.int .i64) (Kd.int .i64)) 44 _ from Opens.pairs Try.underlying44 (by kernel_rfl) (OpensFs.more rfl (Opens.int Try.underlying3) rfl (by kernel_rfl) (OpensFs.one rfl (Opens.int Try.underlying3) rfl (by kernel_rfl)))) H enc 0 _ _ fuel1 _ _ f1
  obtain ⟨cs1, rfl, _⟩ := okWide_struct Try.underlying44 (hval 1 44 v1 rfl rfl)
  obtain ⟨_, _, e1, rfl, rfl⟩ := K1
  obtain rfl : cs1 = #[.int .i64 x1.1, .int .i64 x1.2] := Array.ext' e1
  obtain ⟨k, hP⟩ := Pure.FnExactFaultOf x0 x1.1 x1.2 G0 G1
  refine (P.laws_FnExactFaultOf.calls k _ _ x0 x1.1 x1.2 true W hr0 hc0 hP ⟨rfl⟩).mono fun e W' ⟨he, bel0⟩ => ?_
  have bel : Below W.heap.size W W' := bel0
  subst he
  exact ⟨_, rfl, _, _, _, [], _, [], hW', trodAll_mk1 (shut_bool Try.underlying4 _), (trodAll_cons_mk (Below.trod laidOut (by kernel_rfl) (of_decide_eq_true (by kernel_rfl)) k0 bel lt0) (trodAll_cons_mk (Below.trod laidOut (by kernel_rfl) (of_decide_eq_true (by kernel_rfl)) k1 bel lt1) trodAll_mk0)), rfl, bel.frame _, fun h => by cases h⟩
theorem over : Rows.fnExactFaultOfRow.holds Try.pinned (OpenSpec.ofChange Rows.fnExactFaultOfSpec) :=
  OpenClaim.holds_of_wide 7 Try.f7 rfl rfl rfl rfl rfl rfl rfl ⟨rfl, rfl, rfl, rfl, rfl⟩ rfl rfl rfl rfl rfl (by kernel_rfl) Try.func7 (by kernel_rfl)
    (of_decide_eq_true (by kernel_rfl)) (by unfold Func.isWrapper; first | (rw [if_pos (by decide +kernel)]; kernel_rfl) | (rw [if_neg (by decide +kernel)]; exact ⟨rfl, rfl⟩))
    (fun os started H enc _ => lifted os started H enc)
theorem proved : Rows.FnExactFaultOfSaid := over
#print axioms proved
end Go.Proofs.Ytobcafjhkimonaa.fnExactFaultOf
namespace Go.Proofs.Ytobcafjhkimonaa
theorem fnExactFaultOf_holds : Rows.FnExactFaultOfSaid := fnExactFaultOf.proved
end Go.Proofs.Ytobcafjhkimonaa

