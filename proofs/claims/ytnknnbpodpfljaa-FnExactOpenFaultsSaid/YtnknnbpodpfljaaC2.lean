/- What functions of the program come to (f), that their calls come to just this (calls), and the plain laws over lists and numbers. No condition but those of the given row. -/
import Derived.Test.YtnknnbpodpfljaaC1
import Derived.Maps.RangeWalk
import Derived.Maps.OwnSet
import Derived.Maps.OwnOps
import Derived.Maps.Ext
import Derived.DeepKeys5
import Derived.Shelf.SlSortFuncK.WholeK
import Derived.Shelf.GgSortFunc.Tiny
import Derived.Deep.RegionHeld3
import Derived.Shelf.GgSortFunc.Insertion
import Derived.Sort.WalkA6
import Derived.Sort.WalkC
import Derived.Sort.LotC
namespace Go.Proofs.Ytnknnbpodpfljaa.P
open Go.RowKit Go.Proofs.YtnknnbpodpfljaaW.PrintWords Go.Proofs.YtnknnbpodpfljaaW.PrintLast Go.Proofs.YtnknnbpodpfljaaW.PrintMore Go.Proofs.Ytnknnbpodpfljaa.V
attribute [local go_sem] cell_b frozen_b
attribute [local go_sem] max2_int min2_int max_two min_two max_three min_three max_four min_four
set_option linter.unusedVariables false
set_option linter.unusedSimpArgs false
def laws_toEntry.f (a0_0 : Int) (a0_1 : Int) (a0_2 : Int) (a0_3 : Int) : Option (Int × Int × Int × Int) := (laws_toPipe.f a0_0 a0_1).bind fun bt287 => (some (bt287.1, bt287.2, a0_2, a0_3))
set_option maxHeartbeats 8000000 in
set_option maxRecDepth 100000 in
set_option synthInstance.maxHeartbeats 400000 in
set_option synthInstance.maxSize 100000 in
theorem laws_toEntry.calls (a0_0 : Int) (a0_1 : Int) (a0_2 : Int) (a0_3 : Int) (r1 : Int) (r2 : Int) (r3 : Int) (r4 : Int) (w : World) (h : laws_toEntry.f a0_0 a0_1 a0_2 a0_3 = some (r1, r2, r3, r4)) :
    Calls Try.prog 46 #[.agg #[.int .i64 a0_0, .int .i64 a0_1, .int .i64 a0_2, .int .i64 a0_3]] w fun e w' => e = .returned (.agg #[.int .i64 r1, .int .i64 r2, .int .i64 r3, .int .i64 r4]) ∧ Below w.heap.size w w' := by
  unfold laws_toEntry.f at h
  have hu36 := Try.underlying36
  have hu66 := Try.underlying66
  (repeat' first | ((with_reducible replace h := ite_some h); rcases h with ⟨hc, h⟩ | ⟨hc, h⟩ <;> first | exact (none_some h).elim | exact absurd hc (by decide) | subst hc | (replace hc := Bool.eq_false_iff.mpr hc; subst hc) | (have hd := beq_iff_eq.mpr hc; have he := bne_eq_false_iff_eq.mpr hc; clear hc) | (have hd := beq_eq_false_iff_ne.mpr hc; have he := bne_iff_ne.mpr hc) | (have hd := decide_eq_false hc) | (have hd := decide_eq_true hc) | skip))
  all_goals go_enter Try.func46, Try.ntmps46
  all_goals go_wp2_with (first
    | ((with_reducible refine gate_dst (N := 1) rfl ?_); refine box_event rfl (N := 1) rfl (cs := #[.int .i64 a0_0, .int .i64 a0_1, .int .i64 a0_2, .int .i64 a0_3]) (t := 66) (by first | (go_simp; done) | (go_simp; rfl)) ?_; intro g hg w1 hk hb; have j1 := Born.mk hg; have j2 := Bel.mk hb; have j3 := Blk.mk hk; clear hg hb hk)
    | ((with_reducible refine gate_dst (N := 2) rfl ?_); refine box_event rfl (N := 2) rfl (cs := #[.int .i64 0, .int .i64 0, .int .i64 0, .int .i64 0]) (t := 36) (by first | (go_simp; done) | (go_simp; rfl)) ?_; intro g hg w1 hk hb; have j1 := Born.mk hg; have j2 := Bel.mk hb; have j3 := Blk.mk hk; clear hg hb hk)
    | ((with_reducible refine gate_dst (N := 3) rfl ?_); refine box_event rfl (N := 3) rfl (cs := #[.int .i64 0, .int .i64 0, .int .i64 0, .int .i64 0]) (t := 36) (by first | (go_simp; done) | (go_simp; rfl)) ?_; intro g hg w1 hk hb; have j1 := Born.mk hg; have j2 := Bel.mk hb; have j3 := Blk.mk hk; clear hg hb hk)
    | (go_at_call 60; replace h := Option.bind_eq_some_iff.mp h; obtain ⟨⟨t1, t2⟩, A, h⟩ := h; (try dsimp only at h); refine (laws_toPipe.calls _ _ _ _ _ A).mono ?_; rintro e w2 ⟨rfl, hb⟩; have jb := Bel.mk hb; clear A hb; (repeat' first | ((with_reducible replace h := ite_some h); rcases h with ⟨hc, h⟩ | ⟨hc, h⟩ <;> first | exact (none_some h).elim | exact absurd hc (by decide) | subst hc | (replace hc := Bool.eq_false_iff.mpr hc; subst hc) | (have hd := beq_iff_eq.mpr hc; have he := bne_eq_false_iff_eq.mpr hc; clear hc) | (have hd := beq_eq_false_iff_ne.mpr hc; have he := bne_iff_ne.mpr hc) | (have hd := decide_eq_false hc) | (have hd := decide_eq_true hc) | skip))))
  all_goals (repeat' first | ((with_reducible replace h := ite_some h); rcases h with ⟨hc, h⟩ | ⟨hc, h⟩ <;> first | exact (none_some h).elim | exact absurd hc (by decide) | subst hc | (replace hc := Bool.eq_false_iff.mpr hc; subst hc) | (have hd := beq_iff_eq.mpr hc; have he := bne_eq_false_iff_eq.mpr hc; clear hc) | (have hd := beq_eq_false_iff_ne.mpr hc; have he := bne_iff_ne.mpr hc) | (have hd := decide_eq_false hc) | (have hd := decide_eq_true hc) | skip))
  all_goals simp only [Option.some.injEq, Prod.mk.injEq] at h
  all_goals obtain ⟨rfl, rfl, rfl, rfl⟩ := h
  all_goals refine bodyPost_ret (results_cell_row rfl _ _ _ _ _ (0, 0) _ rfl Blk.out Try.underlying36 rfl (by kernel_rfl)) rfl ?_
  all_goals exact ⟨rfl, From.out⟩
end Go.Proofs.Ytnknnbpodpfljaa.P


namespace Go.Proofs.Ytnknnbpodpfljaa.P
open Go.RowKit Go.Proofs.YtnknnbpodpfljaaW.PrintWords Go.Proofs.YtnknnbpodpfljaaW.PrintLast Go.Proofs.YtnknnbpodpfljaaW.PrintMore
attribute [local go_sem] max2_int min2_int max_two min_two max_three min_three max_four min_four
set_option linter.unusedVariables false
set_option linter.unusedSimpArgs false
def laws_toEntryS.l0 : Nat → List (S66) → List (S36) → Int → Option ((List (S36)))
  | 0, _, _, _ => none
  | k + 1, x0, x3, x4 => if x4 < (x0.length : Int) then (if 0 ≤ x4 then ((laws_toEntry.f ((rd_T66 x0 x4).f0.f0) ((rd_T66 x0 x4).f0.f1) ((rd_T66 x0 x4).f1) ((rd_T66 x0 x4).f2)).bind fun bt293 => (if x4 < (x3.length : Int) then (laws_toEntryS.l0 k x0 (x3.set (x4 : Int).toNat (⟨(⟨bt293.1, bt293.2.1⟩ : S31), bt293.2.2.1, bt293.2.2.2⟩ : S36)) (wrap64 (x4 + 1))) else (none))) else (none)) else (some x3)
def laws_toEntryS.f (k : Nat) (l0 : List (S66)) : Option ((List (S36))) := if 0 ≤ (l0.length : Int) then (if ((l0.length : Int) : Int).toNat ≤ 8796093022208 then (laws_toEntryS.l0 k l0 (List.replicate ((l0.length : Int) : Int).toNat z36) 0) else (none)) else (none)
set_option maxHeartbeats 8000000 in
set_option maxRecDepth 100000 in
theorem laws_toEntryS.calls (k : Nat) (A0 : Option Addr) (c0 : Nat) (l0 : List (S66)) (r : List (S36)) (w : World) (hr0 : Kd.C k66 w A0 l0.length l0) (hc0 : l0.length ≤ c0) (h : laws_toEntryS.f k l0 = some r) :
    Calls Try.prog 21 #[.slice A0 l0.length c0] w fun e w' => ∃ v0_ : Value, e = .returned (v0_) ∧ Kd.R k36 36 w' w.heap.size (fun _ => True) v0_ r ∧ Below w.heap.size w w' := by
  have hu66 := Try.underlying66
  have hu36 := Try.underlying36
  have HR0 := Aside0.mk hr0
  have HC0 := Aside0.mk hc0
  clear hr0 hc0
  have HB := Aside0.mk (Below.refl w.heap.size w)
  have H : (if 0 ≤ (l0.length : Int) then (if ((l0.length : Int) : Int).toNat ≤ 8796093022208 then (laws_toEntryS.l0 k l0 (List.replicate ((l0.length : Int) : Int).toNat z36) 0) else (none)) else (none)) = some r := h
  clear h
  by_cases c2 : 0 ≤ (l0.length : Int)
  · rw [if_pos c2] at H
    have c2b0 := eq_true c2
    have c2b1 : decide (0 ≤ (l0.length : Int)) = true := decide_eq_true c2
    clear c2
    by_cases c3 : ((l0.length : Int) : Int).toNat ≤ 8796093022208
    · rw [if_pos c3] at H
      have c3b0 := eq_true c3
      have c3b1 : decide (((l0.length : Int) : Int).toNat ≤ 8796093022208) = true := decide_eq_true c3
      clear c3
      obtain ⟨y289, hy289⟩ : ∃ y_ : List (S36), y_ = (List.replicate ((l0.length : Int) : Int).toNat z36) := ⟨_, rfl⟩
      replace H : (laws_toEntryS.l0 k l0 y289 0) = some r := by first | (rw [hy289]; with_reducible exact H) | (have H2_ := (Option.bind_some _ _).symm.trans H; rw [hy289]; with_reducible exact H2_) | (have H2_ := (Option.bind_some _ _).symm.trans H; with_reducible exact H2_) | with_reducible exact H | (rw [hy289]; exact H) | exact H
      have Ny289 := Aside0.mk hy289
      clear hy289
      have H' := Aside0.mk H
      clear H
      go_enter Try.func21, Try.ntmps21
      go_wp2_with (first | ((with_reducible refine gate_dst (N := 7) rfl ?_); refine Kd.R_make k36 _ 36 rfl (N := 7) rfl 24 _ _ rfl (l0.length : Int) rfl rfl Try.underlying24 (.agg #[(.int .i64 0), (.int .i64 0), (.int .i64 0), (.int .i64 0)]) 32 info36 rfl (by decide) (by omega) z36 (ok := fun _ => True) (okp := fun _ => True) (k36_mkM _ _ _ z36 ) (fun _ hk => hk) trivial (of_decide_eq_true (by first | (with_reducible assumption) | assumption)) (Nat.le_trans (Nat.mul_le_mul_right _ (of_decide_eq_true (by first | (with_reducible assumption) | assumption) : (l0.length : Int).toNat ≤ 8796093022208)) (by omega)) (Below.refl _ _) (Nat.le_refl _) ?_; intro v290 w4 ho5 hb hg_ hnew_; clear hg_ hnew_; (first | rw [← Ny289.out] at ho5 | (simp only [Int.reduceToNat] at ho5; rw [← Ny289.out] at ho5)); have n0_ := Aside0.mk (Kd.R_lower ho5 (below_size (oB HB))); have n1_ := Aside0.mk (below_step (oB HB) hb); clear HB; have HO291 := n0_; have HB := n1_; clear n0_ n1_; clear hb ho5))
      go_loopg [4] k (fun kq v4 w' => ∃ (x3_1 : List (S36)) (x4_1 : Int), v4 = .int .i64 x4_1 ∧ Aside0 (laws_toEntryS.l0 kq l0 x3_1 x4_1 = some r) ∧ Aside0 (kq ≤ k) ∧ Aside0 (Kd.R k36 36 w' w.heap.size (fun _ => True) v290 x3_1) ∧ Aside0 (Below w.heap.size w w'))
      case atStart => exact ⟨(y289), (0), (by first | rfl | (simp; done) | (simp [*]; done)), H', ⟨Nat.le_refl _⟩, ⟨oR HO291⟩, ⟨oB HB⟩⟩
      case round =>
        clear H'
        try clear c2
        try clear c2b0
        try clear c2b1
        try clear p2
        try clear c3
        try clear c3b0
        try clear c3b1
        obtain ⟨x3_1, x4_1, rfl, HA, HK1, HO_3, HB⟩ := hrel
        cases gk with
        | zero => exact absurd HA.out (by simp [laws_toEntryS.l0])
        | succ k1 =>
          have H := HA.out
          clear HA
          simp only [laws_toEntryS.l0] at H
          by_cases c6 : x4_1 < (l0.length : Int)
          · rw [if_pos c6] at H
            have c6b0 : decide (x4_1 < (l0.length : Int)) = true := decide_eq_true c6
            clear c6
            by_cases c7 : 0 ≤ x4_1
            · rw [if_pos c7] at H
              have c7b0 : decide (0 ≤ x4_1) = true := decide_eq_true c7
              clear c7
              replace H := Option.bind_eq_some_iff.mp H
              obtain ⟨⟨t293, t294, t295, t296⟩, A80, H⟩ := H
              (try dsimp only at H)
              have A8 := Aside0.mk A80
              clear A80
              by_cases c9 : x4_1 < (x3_1.length : Int)
              · rw [if_pos c9] at H
                have c9b0 : decide (x4_1 < (x3_1.length : Int)) = true := decide_eq_true c9
                clear c9
                obtain ⟨y297, hy297⟩ : ∃ y_ : List (S36), y_ = (x3_1.set (x4_1 : Int).toNat (⟨(⟨t293, t294⟩ : S31), t295, t296⟩ : S36)) := ⟨_, rfl⟩
                replace H : (laws_toEntryS.l0 k1 l0 y297 (wrap64 (x4_1 + 1))) = some r := by first | (rw [hy297]; with_reducible exact H) | (have H2_ := (Option.bind_some _ _).symm.trans H; rw [hy297]; with_reducible exact H2_) | (have H2_ := (Option.bind_some _ _).symm.trans H; with_reducible exact H2_) | with_reducible exact H | (rw [hy297]; exact H) | exact H
                have Ny297 := Aside0.mk hy297
                clear hy297
                have H' := Aside0.mk H
                clear H
                have p292 : 0 ≤ (x4_1 : Int) := of_decide_eq_true (by first | (with_reducible assumption) | assumption)
                have q292 : x4_1 < (l0.length : Int) := of_decide_eq_true (by first | (with_reducible assumption) | assumption)
                obtain ⟨ad292, e292, hx292_0, hx292_1, hx292_2, hx292_3⟩ := at_T66 HR0.out x4_1 p292 q292
                cases e292
                replace hx292_0 := (HB.out.cell (World.block_lt_of_cell? w _ hx292_0)).trans hx292_0
                replace hx292_1 := (HB.out.cell (World.block_lt_of_cell? w _ hx292_1)).trans hx292_1
                replace hx292_2 := (HB.out.cell (World.block_lt_of_cell? w _ hx292_2)).trans hx292_2
                replace hx292_3 := (HB.out.cell (World.block_lt_of_cell? w _ hx292_3)).trans hx292_3
                replace p292 := eq_true p292
                replace q292 := eq_true q292
                go_wp2_with (first | ((with_reducible refine gate_callee (f := 46) rfl ?_); refine goesL_ (some 20) rfl rfl Try.func46 (by kernel_rfl) rfl #[.agg #[.int .i64 ((rd_T66 l0 x4_1).f0.f0), .int .i64 ((rd_T66 l0 x4_1).f0.f1), .int .i64 ((rd_T66 l0 x4_1).f1), .int .i64 ((rd_T66 l0 x4_1).f2)]] rfl (by (try simp only [List.map_toArray, List.map_cons, List.map_nil]); first | done | rfl | (simp only [List.length_drop, List.length_take]; rfl)) ?_; (with_reducible refine (laws_toEntry.calls ((rd_T66 l0 x4_1).f0.f0) ((rd_T66 l0 x4_1).f0.f1) ((rd_T66 l0 x4_1).f1) ((rd_T66 l0 x4_1).f2) t293 t294 t295 t296 _ A8.out).mono ?_); rintro e w11 ⟨rfl, hb⟩; refine ⟨_, rfl, ?_⟩; have n0_ := Aside0.mk (Kd.R_below (oR HO_3) hb); have n1_ := Aside0.mk (below_step (oB HB) hb); clear HO_3; clear HB; have HO_3 := n0_; have HB := n1_; clear n0_ n1_; (try clear hb); (try clear hb2); (try clear hk); (try clear hi); have p10 : 0 ≤ (x4_1 : Int) := of_decide_eq_true (by first | (with_reducible assumption) | assumption); have q10 : (x4_1 : Int) < ((x3_1.length : Int) : Int) := of_decide_eq_true (by first | (with_reducible assumption) | assumption); obtain ⟨go10, co10, eo10, gb10, gl10, cl10, HG10⟩ := Kd.R_form HO_3.out (by omega); (first | cases eo10 | (injection eo10 with ea_ en_ ec_; (first | subst ea_ | (injection ea_ with ea_; subst ea_)); subst ec_; clear en_)); have GB10 := Aside0.mk gb10; have GG10 := Aside0.mk HG10; clear gb10 gl10 HG10; obtain ⟨ce10, hcl10, hM10, hcc10, hfr10⟩ := Kd.R_elem HO_3.out z36 (x4_1 : Int) p10 q10; obtain rfl := k36_openM hM10; have hx10_0 : w11.cell? ⟨go10, (x4_1 : Int).toNat * 4, none⟩ = some (.int .i64 ((rd_T36 x3_1 x4_1).f0.f0)) := hcc10 0 _ rfl; have hx10_1 : w11.cell? ⟨go10, (x4_1 : Int).toNat * 4 + 1, none⟩ = some (.int .i64 ((rd_T36 x3_1 x4_1).f0.f1)) := hcc10 1 _ rfl; have hx10_2 : w11.cell? ⟨go10, (x4_1 : Int).toNat * 4 + 2, none⟩ = some (.int .i64 ((rd_T36 x3_1 x4_1).f1)) := hcc10 2 _ rfl; have hx10_3 : w11.cell? ⟨go10, (x4_1 : Int).toNat * 4 + 3, none⟩ = some (.int .i64 ((rd_T36 x3_1 x4_1).f2)) := hcc10 3 _ rfl; have hf10_0 : w11.frozen? ⟨go10, (x4_1 : Int).toNat * 4, none⟩ = false := hfr10 0; have hf10_1 : w11.frozen? ⟨go10, (x4_1 : Int).toNat * 4 + 1, none⟩ = false := hfr10 1; have hf10_2 : w11.frozen? ⟨go10, (x4_1 : Int).toNat * 4 + 2, none⟩ = false := hfr10 2; have hf10_3 : w11.frozen? ⟨go10, (x4_1 : Int).toNat * 4 + 3, none⟩ = false := hfr10 3; clear hcl10 hcc10 hfr10 hM10; replace p10 := eq_true p10; replace q10 := eq_true q10; have HX12 := Aside0.mk (show Kd.R k36 36 w11 w.heap.size (fun _ => True) (.slice (some ⟨go10, 0, none⟩) x3_1.length co10) x3_1 from (oR HO_3)); obtain ⟨ce12, hcl12, hM12, hcc12, hfr12⟩ := Kd.R_elem HX12.out z36 (x4_1 : Int) (of_decide_eq_true (by first | (with_reducible assumption) | assumption)) (by have h_ : (x4_1 : Int) < ((x3_1.length : Int) : Int) := of_decide_eq_true (by first | (with_reducible assumption) | assumption); first | exact h_ | (have e_ := (Kd.R_reads' HO_3.out).1; omega) | simpa using h_); obtain rfl := k36_openM hM12; have HP12 := Kd.R_seg HX12.out (x4_1 : Int) (of_decide_eq_true (by first | (with_reducible assumption) | assumption)) (by have h_ : (x4_1 : Int) < ((x3_1.length : Int) : Int) := of_decide_eq_true (by first | (with_reducible assumption) | assumption); first | exact h_ | (have e_ := (Kd.R_reads' HO_3.out).1; omega) | simpa using h_) (seg := [.int .i64 t293, .int .i64 t294, .int .i64 t295, .int .i64 t296]) (j := 0) hcl12 hcc12 (show 4 ≤ 4 from by decide) (x' := (⟨(⟨t293, t294⟩ : S31), t295, t296⟩ : S36)) (k36_mkM _ _ _ (⟨(⟨t293, t294⟩ : S31), t295, t296⟩ : S36) ) (fun _ hk => hk); have hx12_0 := hcc12 0 _ rfl; (try simp only [show (k36).sz = 4 from rfl, Nat.mul_one, Nat.add_zero] at hx12_0); have hf12_0 := hfr12 0; (try simp only [show (k36).sz = 4 from rfl, Nat.mul_one, Nat.add_zero] at hf12_0); have hx12_1 := hcc12 1 _ rfl; (try simp only [show (k36).sz = 4 from rfl, Nat.mul_one, Nat.add_zero] at hx12_1); have hf12_1 := hfr12 1; (try simp only [show (k36).sz = 4 from rfl, Nat.mul_one, Nat.add_zero] at hf12_1); have hx12_2 := hcc12 2 _ rfl; (try simp only [show (k36).sz = 4 from rfl, Nat.mul_one, Nat.add_zero] at hx12_2); have hf12_2 := hfr12 2; (try simp only [show (k36).sz = 4 from rfl, Nat.mul_one, Nat.add_zero] at hf12_2); have hx12_3 := hcc12 3 _ rfl; (try simp only [show (k36).sz = 4 from rfl, Nat.mul_one, Nat.add_zero] at hx12_3); have hf12_3 := hfr12 3; (try simp only [show (k36).sz = 4 from rfl, Nat.mul_one, Nat.add_zero] at hf12_3); clear hcl12 hcc12 hfr12 hM12) | ((with_reducible refine gate_store (t := 36) (p := 21) rfl ?_); refine store_event (t := 36) (p := 21) (v := ?vo_w13) (w1 := ((((w11.setCell ⟨go10, (x4_1 : Int).toNat * 4, none⟩ (.int .i64 t293)).setCell ⟨go10, (x4_1 : Int).toNat * 4 + 1, none⟩ (.int .i64 t294)).setCell ⟨go10, (x4_1 : Int).toNat * 4 + 2, none⟩ (.int .i64 t295)).setCell ⟨go10, (x4_1 : Int).toNat * 4 + 3, none⟩ (.int .i64 t296))) ?hg ?ho ?hn ?hr ?_; (case ho => rfl); (case hg => rfl); (case hn => rfl); (case hr => first | (go_simp; done) | (go_simp; rfl)); intro w13 hw; have hg : w11.grownBy w13 (some go10) := (by rw [hw]; exact HP12.2); have hp_ : Kd.R k36 36 w13 w.heap.size (fun _ => True) (.slice (some ⟨go10, 0, none⟩) x3_1.length co10) y297 := (by rw [hw, Ny297.out]; exact HP12.1); clear HP12; have n0_ := Aside0.mk (hp_); have n1_ := Aside0.mk ((by rw [hw]; exact below_set (below_set (below_set (below_set (HB.out) GB10.out) GB10.out) GB10.out) GB10.out : Below w.heap.size w w13)); clear HO_3; clear HB; have HO_3 := n0_; have HB := n1_; clear n0_ n1_; clear hg hw hp_))
                go_roundg k1
                case measure => have := HK1.out; omega
                case rel => exact ⟨(y297), (wrap64 (x4_1 + 1)), (by first | rfl | (simp; done) | (simp [*]; done)), H', ⟨by have := HK1.out; omega⟩, ⟨oR HO_3⟩, ⟨oB HB⟩⟩
              · rw [if_neg c9] at H
                exact absurd H (by simp)
            · rw [if_neg c7] at H
              exact absurd H (by simp)
          · rw [if_neg c6] at H
            have c6b0 : decide (x4_1 < (l0.length : Int)) = false := decide_eq_false c6
            clear c6
            obtain rfl := Option.some.inj H
            go_wp2
            go_ret
            exact ⟨_, by first | rfl | (simp [errW_none, errW_some] <;> rfl) | (simp [*, errW_none, errW_some] <;> rfl), oR HO_3, oB HB⟩
    · rw [if_neg c3] at H
      exact absurd H (by simp)
  · rw [if_neg c2] at H
    exact absurd H (by simp)
end Go.Proofs.Ytnknnbpodpfljaa.P


namespace Go.Proofs.Ytnknnbpodpfljaa.Q
set_option linter.unusedVariables false
set_option linter.unusedSimpArgs false
open Go.RowKit Go.Proofs.YtnknnbpodpfljaaW.PrintWords
theorem evp {α : Type} {c : Prop} [Decidable c] (h : c) {f g : Nat → Option α} {r : α} (k : Ev f r) : Ev (fun n => if c then f n else g n) r := by
  simp only [if_pos h]; exact k
theorem evn {α : Type} {c : Prop} [Decidable c] (h : ¬ c) {f g : Nat → Option α} {r : α} (k : Ev g r) : Ev (fun n => if c then f n else g n) r := by
  simp only [if_neg h]; exact k
theorem evb {α β : Type} {x : Option α} {f : Nat → α → Option β} {a : α} {r : β} (h : x = some a) (k : Ev (fun n => f n a) r) : Ev (fun n => x.bind (f n)) r := by
  simp only [h, Option.bind_some]; exact k
theorem evs {α : Type} {a b : α} (h : a = b) : Ev (fun _ => some a) b := h ▸ Ev.now a
theorem down {P : Nat → Prop} {n : Nat} (he : P n) (hs : ∀ i, i < n → P (i + 1) → P i) (i : Nat) (h : i ≤ n) : P i := by
  obtain ⟨d, rfl⟩ : ∃ d, n = i + d := ⟨n - i, by omega⟩
  clear h
  induction d generalizing i with
  | zero => exact he
  | succ d ih =>
    refine hs i (by omega) (ih (i + 1) ?_ ?_)
    · rw [show i + 1 + d = i + (d + 1) by omega]; exact he
    · intro j hj; exact hs j (by omega)
theorem w64 {n : Int} (h1 : -9223372036854775808 ≤ n) (h2 : n ≤ 9223372036854775807) : wrap64 n = n := by unfold wrap64; omega
theorem wf64 {n : Int} (h : (Lit.int .i64 n).wf = true) : -9223372036854775808 ≤ n ∧ n ≤ 9223372036854775807 := by
  simp [Lit.wf, IntKind.min, IntKind.max, IntKind.signed, IntKind.bits] at h
  omega
theorem drop_cons {α : Type} (l : List α) (i : Nat) (h : i < l.length) : l.drop i = l[i] :: l.drop (i + 1) := List.drop_eq_getElem_cons h
theorem drop_end {α : Type} (l : List α) : l.drop l.length = [] := List.drop_eq_nil_of_le (Nat.le_refl _)
theorem set_take {α : Type} (l : List α) (i : Nat) (v : α) (h : i < l.length) : (l.set i v).take (i + 1) = l.take i ++ [v] := by
  rw [List.take_set, List.take_succ_eq_append_getElem h, List.set_append_right _ _ (by simp; omega)]
  simp [Nat.min_eq_left (Nat.le_of_lt h)]
end Go.Proofs.Ytnknnbpodpfljaa.Q


namespace Go.Proofs.Ytnknnbpodpfljaa.P
open Go.RowKit Go.Proofs.YtnknnbpodpfljaaW.PrintWords Go.Proofs.YtnknnbpodpfljaaW.PrintLast Go.Proofs.YtnknnbpodpfljaaW.PrintMore
attribute [local go_sem] max2_int min2_int max_two min_two max_three min_three max_four min_four
set_option linter.unusedVariables false
set_option linter.unusedSimpArgs false
def impl_within.f (a0 : Int) (a1 : Int) (a2 : Int) : Option (Bool) := if a1 ≤ a0 then (some (decide (a0 ≤ a2))) else (some false)
set_option maxHeartbeats 8000000 in
set_option maxRecDepth 100000 in
theorem impl_within.calls (a0 : Int) (a1 : Int) (a2 : Int) (r : Bool) (w : World) (h : impl_within.f a0 a1 a2 = some r) :
    Calls Try.prog 45 #[.int .i64 a0, .int .i64 a1, .int .i64 a2] w fun e w' => e = .returned (.bool r) ∧ Drawn0 w w' := by
  have H : (if a1 ≤ a0 then (some (decide (a0 ≤ a2))) else (some false)) = some r := h
  clear h
  by_cases c4 : a1 ≤ a0
  · rw [if_pos c4] at H
    have c4b0 : decide (a1 ≤ a0) = true := decide_eq_true c4
    clear c4
    obtain rfl := Option.some.inj H
    go_enter Try.func45, Try.ntmps45
    go_wp2
    go_ret
    exact ⟨by first | rfl | (simp; done) | (simp [*]; done), by repeat (first | exact Drawn0.refl _ | apply Drawn0.step)⟩
  · rw [if_neg c4] at H
    have c4b0 : decide (a1 ≤ a0) = false := decide_eq_false c4
    clear c4
    obtain rfl := Option.some.inj H
    go_enter Try.func45, Try.ntmps45
    go_wp2
    go_ret
    exact ⟨by first | rfl | (simp; done) | (simp [*]; done), by repeat (first | exact Drawn0.refl _ | apply Drawn0.step)⟩
end Go.Proofs.Ytnknnbpodpfljaa.P


namespace Go.Proofs.Ytnknnbpodpfljaa.Q
set_option linter.unusedVariables false
set_option linter.unusedSimpArgs false
open Go.RowKit Go.Proofs.Ytnknnbpodpfljaa.P Go.Proofs.YtnknnbpodpfljaaW.PrintWords
theorem within_eq (a b c : Int) : impl_within.f a b c = some (decide (b ≤ a ∧ a ≤ c)) := by
  unfold impl_within.f; by_cases h : b ≤ a <;> simp [h]
theorem l01In_eq (a b c : Int) : spec_l01In.f a b c = some (decide (b ≤ a ∧ a ≤ c)) := by
  unfold spec_l01In.f; by_cases h : a ≥ b
  · rw [if_pos h]; simp [show b ≤ a from h]
  · rw [if_neg h]; simp [show ¬ b ≤ a from h]
end Go.Proofs.Ytnknnbpodpfljaa.Q


namespace Go.Proofs.Ytnknnbpodpfljaa.P
open Go.RowKit Go.Proofs.YtnknnbpodpfljaaW.PrintWords Go.Proofs.YtnknnbpodpfljaaW.PrintLast Go.Proofs.YtnknnbpodpfljaaW.PrintMore Go.Proofs.Ytnknnbpodpfljaa.V
attribute [local go_sem] cell_b frozen_b
attribute [local go_sem] max2_int min2_int max_two min_two max_three min_three max_four min_four
set_option linter.unusedVariables false
set_option linter.unusedSimpArgs false
def laws_eqPipe.f (a0_0 : Int) (a0_1 : Int) (a1_0 : Int) (a1_1 : Int) : Option (Bool) := if a0_0 = a1_0 then (if a0_1 = a1_1 then (some true) else (some false)) else (some false)
set_option maxHeartbeats 8000000 in
set_option maxRecDepth 100000 in
set_option synthInstance.maxHeartbeats 400000 in
set_option synthInstance.maxSize 100000 in
theorem laws_eqPipe.calls (a0_0 : Int) (a0_1 : Int) (a1_0 : Int) (a1_1 : Int) (r : Bool) (w : World) (h : laws_eqPipe.f a0_0 a0_1 a1_0 a1_1 = some r) :
    Calls Try.prog 26 #[.agg #[.int .i64 a0_0, .int .i64 a0_1], .agg #[.int .i64 a1_0, .int .i64 a1_1]] w fun e w' => e = .returned (.bool r) ∧ Below w.heap.size w w' := by
  unfold laws_eqPipe.f at h
  have hu31 := Try.underlying31
  (repeat' first | ((with_reducible replace h := ite_some h); rcases h with ⟨hc, h⟩ | ⟨hc, h⟩ <;> first | exact (none_some h).elim | exact absurd hc (by decide) | subst hc | (replace hc := Bool.eq_false_iff.mpr hc; subst hc) | (have hd := beq_iff_eq.mpr hc; have he := bne_eq_false_iff_eq.mpr hc; clear hc) | (have hd := beq_eq_false_iff_ne.mpr hc; have he := bne_iff_ne.mpr hc) | (have hd := decide_eq_false hc) | (have hd := decide_eq_true hc) | skip))
  all_goals go_enter Try.func26, Try.ntmps26
  all_goals go_wp2_with (first
    | ((with_reducible refine gate_dst (N := 2) rfl ?_); refine box_event rfl (N := 2) rfl (cs := #[.int .i64 a0_0, .int .i64 a0_1]) (t := 31) (by first | (go_simp; done) | (go_simp; rfl)) ?_; intro g hg w1 hk hb; have j1 := Born.mk hg; have j2 := Bel.mk hb; have j3 := Blk.mk hk; clear hg hb hk)
    | ((with_reducible refine gate_dst (N := 3) rfl ?_); refine box_event rfl (N := 3) rfl (cs := #[.int .i64 a1_0, .int .i64 a1_1]) (t := 31) (by first | (go_simp; done) | (go_simp; rfl)) ?_; intro g hg w1 hk hb; have j1 := Born.mk hg; have j2 := Bel.mk hb; have j3 := Blk.mk hk; clear hg hb hk))
  all_goals (repeat' first | ((with_reducible replace h := ite_some h); rcases h with ⟨hc, h⟩ | ⟨hc, h⟩ <;> first | exact (none_some h).elim | exact absurd hc (by decide) | subst hc | (replace hc := Bool.eq_false_iff.mpr hc; subst hc) | (have hd := beq_iff_eq.mpr hc; have he := bne_eq_false_iff_eq.mpr hc; clear hc) | (have hd := beq_eq_false_iff_ne.mpr hc; have he := bne_iff_ne.mpr hc) | (have hd := decide_eq_false hc) | (have hd := decide_eq_true hc) | skip))
  all_goals obtain rfl := Option.some.inj h
  all_goals go_ret
  all_goals exact ⟨rfl, From.out⟩
end Go.Proofs.Ytnknnbpodpfljaa.P


namespace Go.Proofs.Ytnknnbpodpfljaa.P
open Go.RowKit Go.Proofs.YtnknnbpodpfljaaW.PrintWords Go.Proofs.YtnknnbpodpfljaaW.PrintLast Go.Proofs.YtnknnbpodpfljaaW.PrintMore Go.Proofs.Ytnknnbpodpfljaa.V
attribute [local go_sem] cell_b frozen_b
attribute [local go_sem] max2_int min2_int max_two min_two max_three min_three max_four min_four
set_option linter.unusedVariables false
set_option linter.unusedSimpArgs false
def laws_eqEntry.f (a0_0 : Int) (a0_1 : Int) (a0_2 : Int) (a0_3 : Int) (a1_0 : Int) (a1_1 : Int) (a1_2 : Int) (a1_3 : Int) : Option (Bool) := (laws_eqPipe.f a0_0 a0_1 a1_0 a1_1).bind fun t305 => (if t305 = true then (if a0_2 = a1_2 then (if a0_3 = a1_3 then (some true) else (some false)) else (some false)) else (some false))
set_option maxHeartbeats 8000000 in
set_option maxRecDepth 100000 in
set_option synthInstance.maxHeartbeats 400000 in
set_option synthInstance.maxSize 100000 in
theorem laws_eqEntry.calls (a0_0 : Int) (a0_1 : Int) (a0_2 : Int) (a0_3 : Int) (a1_0 : Int) (a1_1 : Int) (a1_2 : Int) (a1_3 : Int) (r : Bool) (w : World) (h : laws_eqEntry.f a0_0 a0_1 a0_2 a0_3 a1_0 a1_1 a1_2 a1_3 = some r) :
    Calls Try.prog 47 #[.agg #[.int .i64 a0_0, .int .i64 a0_1, .int .i64 a0_2, .int .i64 a0_3], .agg #[.int .i64 a1_0, .int .i64 a1_1, .int .i64 a1_2, .int .i64 a1_3]] w fun e w' => e = .returned (.bool r) ∧ Below w.heap.size w w' := by
  unfold laws_eqEntry.f at h
  have hu36 := Try.underlying36
  (repeat' first | ((with_reducible replace h := ite_some h); rcases h with ⟨hc, h⟩ | ⟨hc, h⟩ <;> first | exact (none_some h).elim | exact absurd hc (by decide) | subst hc | (replace hc := Bool.eq_false_iff.mpr hc; subst hc) | (have hd := beq_iff_eq.mpr hc; have he := bne_eq_false_iff_eq.mpr hc; clear hc) | (have hd := beq_eq_false_iff_ne.mpr hc; have he := bne_iff_ne.mpr hc) | (have hd := decide_eq_false hc) | (have hd := decide_eq_true hc) | skip))
  all_goals go_enter Try.func47, Try.ntmps47
  all_goals go_wp2_with (first
    | ((with_reducible refine gate_dst (N := 2) rfl ?_); refine box_event rfl (N := 2) rfl (cs := #[.int .i64 a0_0, .int .i64 a0_1, .int .i64 a0_2, .int .i64 a0_3]) (t := 36) (by first | (go_simp; done) | (go_simp; rfl)) ?_; intro g hg w1 hk hb; have j1 := Born.mk hg; have j2 := Bel.mk hb; have j3 := Blk.mk hk; clear hg hb hk)
    | ((with_reducible refine gate_dst (N := 3) rfl ?_); refine box_event rfl (N := 3) rfl (cs := #[.int .i64 a1_0, .int .i64 a1_1, .int .i64 a1_2, .int .i64 a1_3]) (t := 36) (by first | (go_simp; done) | (go_simp; rfl)) ?_; intro g hg w1 hk hb; have j1 := Born.mk hg; have j2 := Bel.mk hb; have j3 := Blk.mk hk; clear hg hb hk)
    | (go_at_call 26; replace h := Option.bind_eq_some_iff.mp h; obtain ⟨t, A, h⟩ := h; (try dsimp only at h); refine (laws_eqPipe.calls _ _ _ _ _ _ A).mono ?_; rintro e w2 ⟨rfl, hb⟩; have jb := Bel.mk hb; clear A hb; (repeat' first | ((with_reducible replace h := ite_some h); rcases h with ⟨hc, h⟩ | ⟨hc, h⟩ <;> first | exact (none_some h).elim | exact absurd hc (by decide) | subst hc | (replace hc := Bool.eq_false_iff.mpr hc; subst hc) | (have hd := beq_iff_eq.mpr hc; have he := bne_eq_false_iff_eq.mpr hc; clear hc) | (have hd := beq_eq_false_iff_ne.mpr hc; have he := bne_iff_ne.mpr hc) | (have hd := decide_eq_false hc) | (have hd := decide_eq_true hc) | skip))))
  all_goals (repeat' first | ((with_reducible replace h := ite_some h); rcases h with ⟨hc, h⟩ | ⟨hc, h⟩ <;> first | exact (none_some h).elim | exact absurd hc (by decide) | subst hc | (replace hc := Bool.eq_false_iff.mpr hc; subst hc) | (have hd := beq_iff_eq.mpr hc; have he := bne_eq_false_iff_eq.mpr hc; clear hc) | (have hd := beq_eq_false_iff_ne.mpr hc; have he := bne_iff_ne.mpr hc) | (have hd := decide_eq_false hc) | (have hd := decide_eq_true hc) | skip))
  all_goals obtain rfl := Option.some.inj h
  all_goals go_ret
  all_goals exact ⟨rfl, From.out⟩
end Go.Proofs.Ytnknnbpodpfljaa.P


namespace Go.Proofs.Ytnknnbpodpfljaa.P
open Go.RowKit Go.Proofs.YtnknnbpodpfljaaW.PrintWords Go.Proofs.YtnknnbpodpfljaaW.PrintLast Go.Proofs.YtnknnbpodpfljaaW.PrintMore
attribute [local go_sem] max2_int min2_int max_two min_two max_three min_three max_four min_four
set_option linter.unusedVariables false
set_option linter.unusedSimpArgs false
def laws_eqEntryS.l0 : Nat → List (S36) → List (S36) → Int → Option (Bool)
  | 0, _, _, _ => none
  | k + 1, x0, x1, x5 => if x5 < (x0.length : Int) then (if 0 ≤ x5 then (if x5 < (x1.length : Int) then ((laws_eqEntry.f ((rd_T36 x0 x5).f0.f0) ((rd_T36 x0 x5).f0.f1) ((rd_T36 x0 x5).f1) ((rd_T36 x0 x5).f2) ((rd_T36 x1 x5).f0.f0) ((rd_T36 x1 x5).f0.f1) ((rd_T36 x1 x5).f1) ((rd_T36 x1 x5).f2)).bind fun t308 => (if t308 = true then (laws_eqEntryS.l0 k x0 x1 (wrap64 (x5 + 1))) else (some false))) else (none)) else (none)) else (some true)
def laws_eqEntryS.f (k : Nat) (l0 : List (S36)) (l1 : List (S36)) : Option (Bool) := if (l0.length : Int) = (l1.length : Int) then (laws_eqEntryS.l0 k l0 l1 0) else (some false)
def laws_eqEntryS.T6 : Bool × List (List Nat × List Nat) := (true, [([], []), ([], []), ([0, 1], [0, 1]), ([2], [2]), ([], []), ([], []), ([4, 5], [4, 5]), ([6], [6]), ([3, 7], [3, 7]), ([8], [8])])
def laws_eqEntryS.B6 : List Nat := [0, 0, 3, 7, 0, 0, 48, 112, 255, 511]
theorem laws_eqEntryS.tab6 : rtab .any (opsOf Try.f23 6) = laws_eqEntryS.T6 := by kernel_rfl
theorem laws_eqEntryS.bits6 : waitsOk laws_eqEntryS.T6.2 laws_eqEntryS.B6 = true := by kernel_rfl
set_option maxHeartbeats 8000000 in
set_option maxRecDepth 100000 in
theorem laws_eqEntryS.calls (k : Nat) (A0 : Option Addr) (c0 : Nat) (l0 : List (S36)) (A1 : Option Addr) (c1 : Nat) (l1 : List (S36)) (r : Bool) (w : World) (hr0 : Kd.C k36 w A0 l0.length l0) (hc0 : l0.length ≤ c0) (hr1 : Kd.C k36 w A1 l1.length l1) (hc1 : l1.length ≤ c1) (h : laws_eqEntryS.f k l0 l1 = some r) :
    Calls Try.prog 23 #[.slice A0 l0.length c0, .slice A1 l1.length c1] w fun e w' => e = .returned (.bool r) ∧ Below w.heap.size w w' := by
  have hu36 := Try.underlying36
  have HR0 := Aside0.mk hr0
  have HC0 := Aside0.mk hc0
  clear hr0 hc0
  have HR1 := Aside0.mk hr1
  have HC1 := Aside0.mk hc1
  clear hr1 hc1
  have HB := Aside0.mk (Below.refl w.heap.size w)
  have H : (if (l0.length : Int) = (l1.length : Int) then (laws_eqEntryS.l0 k l0 l1 0) else (some false)) = some r := h
  clear h
  by_cases c3 : (l0.length : Int) = (l1.length : Int)
  · rw [if_pos c3] at H
    have c3b0 : ((l0.length : Int) == (l1.length : Int)) = true := beq_iff_eq.mpr c3
    have c3b1 : ((l0.length : Int) != (l1.length : Int)) = false := bne_eq_false_iff_eq.mpr c3
    have c3b2 : (l0.length == l1.length) = true := by first | simpa using c3 | (simp at c3 ⊢; omega)
    clear c3
    have H' := Aside0.mk H
    clear H
    go_enter Try.func23, Try.ntmps23
    go_wp2
    go_loopg [5] k (fun kq v5 w' => ∃ (x5_1 : Int), v5 = .int .i64 x5_1 ∧ Aside0 (laws_eqEntryS.l0 kq l0 l1 x5_1 = some r) ∧ Aside0 (kq ≤ k) ∧ Aside0 (Below w.heap.size w w'))
    case atStart => exact ⟨(0), (by first | rfl | (simp; done) | (simp [*]; done)), H', ⟨Nat.le_refl _⟩, ⟨oB HB⟩⟩
    case round =>
      clear H'
      try clear c1
      try clear c2
      try clear p2
      try clear c3
      try clear c3b0
      try clear c3b1
      try clear c3b2
      obtain ⟨x5_1, rfl, HA, HK1, HB⟩ := hrel
      cases gk with
      | zero => exact absurd HA.out (by simp [laws_eqEntryS.l0])
      | succ k1 =>
        have H := HA.out
        clear HA
        simp only [laws_eqEntryS.l0] at H
        by_cases c4 : x5_1 < (l0.length : Int)
        · rw [if_pos c4] at H
          have c4b0 : decide (x5_1 < (l0.length : Int)) = true := decide_eq_true c4
          clear c4
          by_cases c5 : 0 ≤ x5_1
          · rw [if_pos c5] at H
            have c5b0 : decide (0 ≤ x5_1) = true := decide_eq_true c5
            clear c5
            by_cases c6 : x5_1 < (l1.length : Int)
            · rw [if_pos c6] at H
              have c6b0 : decide (x5_1 < (l1.length : Int)) = true := decide_eq_true c6
              clear c6
              replace H := Option.bind_eq_some_iff.mp H
              obtain ⟨t308, A70, H⟩ := H
              (try dsimp only at H)
              have A7 := Aside0.mk A70
              clear A70
              by_cases c8 : t308 = true
              · subst c8
                rw [if_pos rfl] at H
                have H' := Aside0.mk H
                clear H
                try go_wp2
                have n0_ := Aside0.mk (below_drew1 HB.out)
                clear HB
                have HB := n0_
                clear n0_
                have p306 : 0 ≤ (x5_1 : Int) := of_decide_eq_true (by first | (with_reducible assumption) | assumption)
                have q306 : x5_1 < (l0.length : Int) := of_decide_eq_true (by first | (with_reducible assumption) | assumption)
                obtain ⟨ad306, e306, hx306_0, hx306_1, hx306_2, hx306_3⟩ := at_T36 HR0.out x5_1 p306 q306
                have hw306_3 := hx306_3
                have hw306_2 := hx306_2
                have hw306_1 := hx306_1
                have hw306_0 := hx306_0
                cases e306
                replace hx306_0 := (HB.out.cell (World.block_lt_of_cell? w _ hx306_0)).trans hx306_0
                replace hx306_1 := (HB.out.cell (World.block_lt_of_cell? w _ hx306_1)).trans hx306_1
                replace hx306_2 := (HB.out.cell (World.block_lt_of_cell? w _ hx306_2)).trans hx306_2
                replace hx306_3 := (HB.out.cell (World.block_lt_of_cell? w _ hx306_3)).trans hx306_3
                replace p306 := eq_true p306
                replace q306 := eq_true q306
                have p307 : 0 ≤ (x5_1 : Int) := of_decide_eq_true (by first | (with_reducible assumption) | assumption)
                have q307 : x5_1 < (l1.length : Int) := of_decide_eq_true (by first | (with_reducible assumption) | assumption)
                obtain ⟨ad307, e307, hx307_0, hx307_1, hx307_2, hx307_3⟩ := at_T36 HR1.out x5_1 p307 q307
                have hw307_3 := hx307_3
                have hw307_2 := hx307_2
                have hw307_1 := hx307_1
                have hw307_0 := hx307_0
                cases e307
                replace hx307_0 := (HB.out.cell (World.block_lt_of_cell? w _ hx307_0)).trans hx307_0
                replace hx307_1 := (HB.out.cell (World.block_lt_of_cell? w _ hx307_1)).trans hx307_1
                replace hx307_2 := (HB.out.cell (World.block_lt_of_cell? w _ hx307_2)).trans hx307_2
                replace hx307_3 := (HB.out.cell (World.block_lt_of_cell? w _ hx307_3)).trans hx307_3
                replace p307 := eq_true p307
                replace q307 := eq_true q307
                refine start_ (n := 10) (S := fun w' => w'.cell? (ad306.add ((x5_1).toNat * 4)) = some (.int .i64 ((rd_T36 l0 x5_1).f0.f0)) ∧ w'.cell? ⟨(ad306.add ((x5_1).toNat * 4)).block, (ad306.add ((x5_1).toNat * 4)).off + 1, none⟩ = some (.int .i64 ((rd_T36 l0 x5_1).f0.f1)) ∧ w'.cell? ⟨(ad306.add ((x5_1).toNat * 4)).block, (ad306.add ((x5_1).toNat * 4)).off + 2, none⟩ = some (.int .i64 ((rd_T36 l0 x5_1).f1)) ∧ w'.cell? ⟨(ad306.add ((x5_1).toNat * 4)).block, (ad306.add ((x5_1).toNat * 4)).off + 3, none⟩ = some (.int .i64 ((rd_T36 l0 x5_1).f2)) ∧ w'.cell? (ad307.add ((x5_1).toNat * 4)) = some (.int .i64 ((rd_T36 l1 x5_1).f0.f0)) ∧ w'.cell? ⟨(ad307.add ((x5_1).toNat * 4)).block, (ad307.add ((x5_1).toNat * 4)).off + 1, none⟩ = some (.int .i64 ((rd_T36 l1 x5_1).f0.f1)) ∧ w'.cell? ⟨(ad307.add ((x5_1).toNat * 4)).block, (ad307.add ((x5_1).toNat * 4)).off + 2, none⟩ = some (.int .i64 ((rd_T36 l1 x5_1).f1)) ∧ w'.cell? ⟨(ad307.add ((x5_1).toNat * 4)).block, (ad307.add ((x5_1).toNat * 4)).off + 3, none⟩ = some (.int .i64 ((rd_T36 l1 x5_1).f2))) (ds := []) #[false, false, false, false, false, false, false, false, false, false] (by kernel_rfl) rfl rfl ⟨((HB.out.cell (World.block_lt_of_cell? w _ hw306_0)).trans hw306_0), ((HB.out.cell (World.block_lt_of_cell? w _ hw306_1)).trans hw306_1), ((HB.out.cell (World.block_lt_of_cell? w _ hw306_2)).trans hw306_2), ((HB.out.cell (World.block_lt_of_cell? w _ hw306_3)).trans hw306_3), ((HB.out.cell (World.block_lt_of_cell? w _ hw307_0)).trans hw307_0), ((HB.out.cell (World.block_lt_of_cell? w _ hw307_1)).trans hw307_1), ((HB.out.cell (World.block_lt_of_cell? w _ hw307_2)).trans hw307_2), ((HB.out.cell (World.block_lt_of_cell? w _ hw307_3)).trans hw307_3)⟩ (fun hHeld => ?_); refine with_tabW laws_eqEntryS.tab6 laws_eqEntryS.bits6 (fun HT_ HW_ => ?_)
                generalize wr.drew = w9 at HB hx306_0 hx306_1 hx306_2 hx306_3 hx307_0 hx307_1 hx307_2 hx307_3 hHeld ⊢
                refine pure_ (i := 0) (N := some 17) (v := ?_) (a' := ?_) #[true, false, false, false, false, false, false, false, false, false] rfl rfl (any_of HT_.out (by kernel_rfl)) (fun _ _ _ h => h) (Or.inl ⟨by rfl, ?_⟩) ?_ ?_
                rotate_left
                · intro w'
                  go_simp
                  with_reducible rfl
                rotate_left
                · simp only [Act.put, List.setIfInBounds_toArray, List.set_cons_zero, List.set_cons_succ, i64_w, i32_w]
                  rfl
                refine pure_ (i := 1) (N := some 18) (v := ?_) (a' := ?_) #[true, true, false, false, false, false, false, false, false, false] rfl rfl (any_of HT_.out (by kernel_rfl)) (fun _ _ _ h => h) (Or.inl ⟨by rfl, ?_⟩) ?_ ?_
                rotate_left
                · intro w'
                  go_simp
                  with_reducible rfl
                rotate_left
                · simp only [Act.put, List.setIfInBounds_toArray, List.set_cons_zero, List.set_cons_succ, i64_w, i32_w]
                  rfl
                refine pure_ (i := 2) (N := some 19) (v := ?_) (a' := ?_) #[true, true, true, false, false, false, false, false, false, false] rfl rfl (any_of HT_.out (by kernel_rfl)) (fun _ _ _ h => h) (Or.inl ⟨by rfl, ?_⟩) ?_ ?_
                rotate_left
                · intro w'
                  go_simp
                  with_reducible rfl
                rotate_left
                · simp only [Act.put, List.setIfInBounds_toArray, List.set_cons_zero, List.set_cons_succ, i64_w, i32_w]
                  rfl
                refine pure_ (i := 4) (N := some 21) (v := ?_) (a' := ?_) #[true, true, true, false, true, false, false, false, false, false] rfl rfl (any_of HT_.out (by kernel_rfl)) (fun _ _ _ h => h) (Or.inl ⟨by rfl, ?_⟩) ?_ ?_
                rotate_left
                · intro w'
                  go_simp
                  with_reducible rfl
                rotate_left
                · simp only [Act.put, List.setIfInBounds_toArray, List.set_cons_zero, List.set_cons_succ, i64_w, i32_w]
                  rfl
                refine pure_ (i := 5) (N := some 22) (v := ?_) (a' := ?_) #[true, true, true, false, true, true, false, false, false, false] rfl rfl (any_of HT_.out (by kernel_rfl)) (fun _ _ _ h => h) (Or.inl ⟨by rfl, ?_⟩) ?_ ?_
                rotate_left
                · intro w'
                  go_simp
                  with_reducible rfl
                rotate_left
                · simp only [Act.put, List.setIfInBounds_toArray, List.set_cons_zero, List.set_cons_succ, i64_w, i32_w]
                  rfl
                refine pure_ (i := 6) (N := some 23) (v := ?_) (a' := ?_) #[true, true, true, false, true, true, true, false, false, false] rfl rfl (any_of HT_.out (by kernel_rfl)) (fun _ _ _ h => h) (Or.inl ⟨by rfl, ?_⟩) ?_ ?_
                rotate_left
                · intro w'
                  go_simp
                  with_reducible rfl
                rotate_left
                · simp only [Act.put, List.setIfInBounds_toArray, List.set_cons_zero, List.set_cons_succ, i64_w, i32_w]
                  rfl
                refine take_ (i := 3) (N := some 20) (v := ?_) (a' := ?_) #[true, true, true, true, true, true, true, false, false, false] rfl rfl (take_ofW HT_.out HW_.out (by kernel_rfl)) (fun _ _ _ h => h) (Or.inl ⟨by rfl, ?_⟩) hHeld ?_ ?_
                rotate_left
                · rintro w' ⟨s0, s1, s2, s3, s4, s5, s6, s7⟩
                  go_simp
                  with_reducible rfl
                rotate_left
                · simp only [Act.put, List.setIfInBounds_toArray, List.set_cons_zero, List.set_cons_succ, i64_w, i32_w]
                  rfl
                refine take_ (i := 7) (N := some 24) (v := ?_) (a' := ?_) #[true, true, true, true, true, true, true, true, false, false] rfl rfl (take_ofW HT_.out HW_.out (by kernel_rfl)) (fun _ _ _ h => h) (Or.inl ⟨by rfl, ?_⟩) hHeld ?_ ?_
                rotate_left
                · rintro w' ⟨s0, s1, s2, s3, s4, s5, s6, s7⟩
                  go_simp
                  with_reducible rfl
                rotate_left
                · simp only [Act.put, List.setIfInBounds_toArray, List.set_cons_zero, List.set_cons_succ, i64_w, i32_w]
                  rfl
                refine one_ (i := 8) (N := some 25) #[true, true, true, true, true, true, true, true, true, false] rfl rfl (one_of HT_.out (by kernel_rfl)) (by decide) (fun K hK => ?_)
                refine goes_ Try.func47 (by kernel_rfl) rfl #[.agg #[.int .i64 ((rd_T36 l0 x5_1).f0.f0), .int .i64 ((rd_T36 l0 x5_1).f0.f1), .int .i64 ((rd_T36 l0 x5_1).f1), .int .i64 ((rd_T36 l0 x5_1).f2)], .agg #[.int .i64 ((rd_T36 l1 x5_1).f0.f0), .int .i64 ((rd_T36 l1 x5_1).f0.f1), .int .i64 ((rd_T36 l1 x5_1).f1), .int .i64 ((rd_T36 l1 x5_1).f2)]] (by rfl) rfl rfl (by (try simp only [List.map_toArray, List.map_cons, List.map_nil]); first | done | rfl | (simp only [List.length_drop, List.length_take]; rfl)) ?_
                with_reducible refine (laws_eqEntry.calls ((rd_T36 l0 x5_1).f0.f0) ((rd_T36 l0 x5_1).f0.f1) ((rd_T36 l0 x5_1).f1) ((rd_T36 l0 x5_1).f2) ((rd_T36 l1 x5_1).f0.f0) ((rd_T36 l1 x5_1).f0.f1) ((rd_T36 l1 x5_1).f1) ((rd_T36 l1 x5_1).f2) true _ A7.out).mono ?_
                rintro e w10 ⟨rfl, hb⟩
                refine ⟨_, rfl, ?_⟩
                have n0_ := Aside0.mk (below_step (oB HB) hb)
                clear HB
                have HB := n0_
                clear n0_
                (try clear hb)
                (try clear hb2)
                (try clear hk)
                (try clear hi)
                refine hK.out _ _ ⟨((HB.out.cell (World.block_lt_of_cell? w _ hw306_0)).trans hw306_0), ((HB.out.cell (World.block_lt_of_cell? w _ hw306_1)).trans hw306_1), ((HB.out.cell (World.block_lt_of_cell? w _ hw306_2)).trans hw306_2), ((HB.out.cell (World.block_lt_of_cell? w _ hw306_3)).trans hw306_3), ((HB.out.cell (World.block_lt_of_cell? w _ hw307_0)).trans hw307_0), ((HB.out.cell (World.block_lt_of_cell? w _ hw307_1)).trans hw307_1), ((HB.out.cell (World.block_lt_of_cell? w _ hw307_2)).trans hw307_2), ((HB.out.cell (World.block_lt_of_cell? w _ hw307_3)).trans hw307_3)⟩ (fun hHeld => ?_)
                clear hK K
                refine norm_ (a' := ?_) ?_ ?_
                rotate_left
                · show Act.put _ (some 25) _ = _
                  simp only [Act.put, List.setIfInBounds_toArray, List.set_cons_zero, List.set_cons_succ, i64_w, i32_w]
                  rfl
                refine pure_ (i := 9) (N := some 26) (v := ?_) (a' := ?_) #[true, true, true, true, true, true, true, true, true, true] rfl rfl (any_of HT_.out (by kernel_rfl)) (fun _ _ _ h => h) (Or.inl ⟨by rfl, ?_⟩) ?_ ?_
                rotate_left
                · intro w'
                  go_simp
                  with_reducible rfl
                rotate_left
                · simp only [Act.put, List.setIfInBounds_toArray, List.set_cons_zero, List.set_cons_succ, i64_w, i32_w]
                  rfl
                refine done_ (done_of HT_.out (by kernel_rfl)) ?_
                try go_wp2
                go_roundg k1
                case measure => have := HK1.out; omega
                case rel => exact ⟨(wrap64 (x5_1 + 1)), (by first | rfl | (simp; done) | (simp [*]; done)), H', ⟨by have := HK1.out; omega⟩, ⟨oB HB⟩⟩
              · replace c8 := Bool.eq_false_iff.mpr c8
                subst c8
                rw [if_neg (show ¬ (false = true) by decide)] at H
                obtain rfl := Option.some.inj H
                try go_wp2
                have n0_ := Aside0.mk (below_drew1 HB.out)
                clear HB
                have HB := n0_
                clear n0_
                have p306 : 0 ≤ (x5_1 : Int) := of_decide_eq_true (by first | (with_reducible assumption) | assumption)
                have q306 : x5_1 < (l0.length : Int) := of_decide_eq_true (by first | (with_reducible assumption) | assumption)
                obtain ⟨ad306, e306, hx306_0, hx306_1, hx306_2, hx306_3⟩ := at_T36 HR0.out x5_1 p306 q306
                have hw306_3 := hx306_3
                have hw306_2 := hx306_2
                have hw306_1 := hx306_1
                have hw306_0 := hx306_0
                cases e306
                replace hx306_0 := (HB.out.cell (World.block_lt_of_cell? w _ hx306_0)).trans hx306_0
                replace hx306_1 := (HB.out.cell (World.block_lt_of_cell? w _ hx306_1)).trans hx306_1
                replace hx306_2 := (HB.out.cell (World.block_lt_of_cell? w _ hx306_2)).trans hx306_2
                replace hx306_3 := (HB.out.cell (World.block_lt_of_cell? w _ hx306_3)).trans hx306_3
                replace p306 := eq_true p306
                replace q306 := eq_true q306
                have p307 : 0 ≤ (x5_1 : Int) := of_decide_eq_true (by first | (with_reducible assumption) | assumption)
                have q307 : x5_1 < (l1.length : Int) := of_decide_eq_true (by first | (with_reducible assumption) | assumption)
                obtain ⟨ad307, e307, hx307_0, hx307_1, hx307_2, hx307_3⟩ := at_T36 HR1.out x5_1 p307 q307
                have hw307_3 := hx307_3
                have hw307_2 := hx307_2
                have hw307_1 := hx307_1
                have hw307_0 := hx307_0
                cases e307
                replace hx307_0 := (HB.out.cell (World.block_lt_of_cell? w _ hx307_0)).trans hx307_0
                replace hx307_1 := (HB.out.cell (World.block_lt_of_cell? w _ hx307_1)).trans hx307_1
                replace hx307_2 := (HB.out.cell (World.block_lt_of_cell? w _ hx307_2)).trans hx307_2
                replace hx307_3 := (HB.out.cell (World.block_lt_of_cell? w _ hx307_3)).trans hx307_3
                replace p307 := eq_true p307
                replace q307 := eq_true q307
                refine start_ (n := 10) (S := fun w' => w'.cell? (ad306.add ((x5_1).toNat * 4)) = some (.int .i64 ((rd_T36 l0 x5_1).f0.f0)) ∧ w'.cell? ⟨(ad306.add ((x5_1).toNat * 4)).block, (ad306.add ((x5_1).toNat * 4)).off + 1, none⟩ = some (.int .i64 ((rd_T36 l0 x5_1).f0.f1)) ∧ w'.cell? ⟨(ad306.add ((x5_1).toNat * 4)).block, (ad306.add ((x5_1).toNat * 4)).off + 2, none⟩ = some (.int .i64 ((rd_T36 l0 x5_1).f1)) ∧ w'.cell? ⟨(ad306.add ((x5_1).toNat * 4)).block, (ad306.add ((x5_1).toNat * 4)).off + 3, none⟩ = some (.int .i64 ((rd_T36 l0 x5_1).f2)) ∧ w'.cell? (ad307.add ((x5_1).toNat * 4)) = some (.int .i64 ((rd_T36 l1 x5_1).f0.f0)) ∧ w'.cell? ⟨(ad307.add ((x5_1).toNat * 4)).block, (ad307.add ((x5_1).toNat * 4)).off + 1, none⟩ = some (.int .i64 ((rd_T36 l1 x5_1).f0.f1)) ∧ w'.cell? ⟨(ad307.add ((x5_1).toNat * 4)).block, (ad307.add ((x5_1).toNat * 4)).off + 2, none⟩ = some (.int .i64 ((rd_T36 l1 x5_1).f1)) ∧ w'.cell? ⟨(ad307.add ((x5_1).toNat * 4)).block, (ad307.add ((x5_1).toNat * 4)).off + 3, none⟩ = some (.int .i64 ((rd_T36 l1 x5_1).f2))) (ds := []) #[false, false, false, false, false, false, false, false, false, false] (by kernel_rfl) rfl rfl ⟨((HB.out.cell (World.block_lt_of_cell? w _ hw306_0)).trans hw306_0), ((HB.out.cell (World.block_lt_of_cell? w _ hw306_1)).trans hw306_1), ((HB.out.cell (World.block_lt_of_cell? w _ hw306_2)).trans hw306_2), ((HB.out.cell (World.block_lt_of_cell? w _ hw306_3)).trans hw306_3), ((HB.out.cell (World.block_lt_of_cell? w _ hw307_0)).trans hw307_0), ((HB.out.cell (World.block_lt_of_cell? w _ hw307_1)).trans hw307_1), ((HB.out.cell (World.block_lt_of_cell? w _ hw307_2)).trans hw307_2), ((HB.out.cell (World.block_lt_of_cell? w _ hw307_3)).trans hw307_3)⟩ (fun hHeld => ?_); refine with_tabW laws_eqEntryS.tab6 laws_eqEntryS.bits6 (fun HT_ HW_ => ?_)
                generalize wr.drew = w11 at HB hx306_0 hx306_1 hx306_2 hx306_3 hx307_0 hx307_1 hx307_2 hx307_3 hHeld ⊢
                refine pure_ (i := 0) (N := some 17) (v := ?_) (a' := ?_) #[true, false, false, false, false, false, false, false, false, false] rfl rfl (any_of HT_.out (by kernel_rfl)) (fun _ _ _ h => h) (Or.inl ⟨by rfl, ?_⟩) ?_ ?_
                rotate_left
                · intro w'
                  go_simp
                  with_reducible rfl
                rotate_left
                · simp only [Act.put, List.setIfInBounds_toArray, List.set_cons_zero, List.set_cons_succ, i64_w, i32_w]
                  rfl
                refine pure_ (i := 1) (N := some 18) (v := ?_) (a' := ?_) #[true, true, false, false, false, false, false, false, false, false] rfl rfl (any_of HT_.out (by kernel_rfl)) (fun _ _ _ h => h) (Or.inl ⟨by rfl, ?_⟩) ?_ ?_
                rotate_left
                · intro w'
                  go_simp
                  with_reducible rfl
                rotate_left
                · simp only [Act.put, List.setIfInBounds_toArray, List.set_cons_zero, List.set_cons_succ, i64_w, i32_w]
                  rfl
                refine pure_ (i := 2) (N := some 19) (v := ?_) (a' := ?_) #[true, true, true, false, false, false, false, false, false, false] rfl rfl (any_of HT_.out (by kernel_rfl)) (fun _ _ _ h => h) (Or.inl ⟨by rfl, ?_⟩) ?_ ?_
                rotate_left
                · intro w'
                  go_simp
                  with_reducible rfl
                rotate_left
                · simp only [Act.put, List.setIfInBounds_toArray, List.set_cons_zero, List.set_cons_succ, i64_w, i32_w]
                  rfl
                refine pure_ (i := 4) (N := some 21) (v := ?_) (a' := ?_) #[true, true, true, false, true, false, false, false, false, false] rfl rfl (any_of HT_.out (by kernel_rfl)) (fun _ _ _ h => h) (Or.inl ⟨by rfl, ?_⟩) ?_ ?_
                rotate_left
                · intro w'
                  go_simp
                  with_reducible rfl
                rotate_left
                · simp only [Act.put, List.setIfInBounds_toArray, List.set_cons_zero, List.set_cons_succ, i64_w, i32_w]
                  rfl
                refine pure_ (i := 5) (N := some 22) (v := ?_) (a' := ?_) #[true, true, true, false, true, true, false, false, false, false] rfl rfl (any_of HT_.out (by kernel_rfl)) (fun _ _ _ h => h) (Or.inl ⟨by rfl, ?_⟩) ?_ ?_
                rotate_left
                · intro w'
                  go_simp
                  with_reducible rfl
                rotate_left
                · simp only [Act.put, List.setIfInBounds_toArray, List.set_cons_zero, List.set_cons_succ, i64_w, i32_w]
                  rfl
                refine pure_ (i := 6) (N := some 23) (v := ?_) (a' := ?_) #[true, true, true, false, true, true, true, false, false, false] rfl rfl (any_of HT_.out (by kernel_rfl)) (fun _ _ _ h => h) (Or.inl ⟨by rfl, ?_⟩) ?_ ?_
                rotate_left
                · intro w'
                  go_simp
                  with_reducible rfl
                rotate_left
                · simp only [Act.put, List.setIfInBounds_toArray, List.set_cons_zero, List.set_cons_succ, i64_w, i32_w]
                  rfl
                refine take_ (i := 3) (N := some 20) (v := ?_) (a' := ?_) #[true, true, true, true, true, true, true, false, false, false] rfl rfl (take_ofW HT_.out HW_.out (by kernel_rfl)) (fun _ _ _ h => h) (Or.inl ⟨by rfl, ?_⟩) hHeld ?_ ?_
                rotate_left
                · rintro w' ⟨s0, s1, s2, s3, s4, s5, s6, s7⟩
                  go_simp
                  with_reducible rfl
                rotate_left
                · simp only [Act.put, List.setIfInBounds_toArray, List.set_cons_zero, List.set_cons_succ, i64_w, i32_w]
                  rfl
                refine take_ (i := 7) (N := some 24) (v := ?_) (a' := ?_) #[true, true, true, true, true, true, true, true, false, false] rfl rfl (take_ofW HT_.out HW_.out (by kernel_rfl)) (fun _ _ _ h => h) (Or.inl ⟨by rfl, ?_⟩) hHeld ?_ ?_
                rotate_left
                · rintro w' ⟨s0, s1, s2, s3, s4, s5, s6, s7⟩
                  go_simp
                  with_reducible rfl
                rotate_left
                · simp only [Act.put, List.setIfInBounds_toArray, List.set_cons_zero, List.set_cons_succ, i64_w, i32_w]
                  rfl
                refine one_ (i := 8) (N := some 25) #[true, true, true, true, true, true, true, true, true, false] rfl rfl (one_of HT_.out (by kernel_rfl)) (by decide) (fun K hK => ?_)
                refine goes_ Try.func47 (by kernel_rfl) rfl #[.agg #[.int .i64 ((rd_T36 l0 x5_1).f0.f0), .int .i64 ((rd_T36 l0 x5_1).f0.f1), .int .i64 ((rd_T36 l0 x5_1).f1), .int .i64 ((rd_T36 l0 x5_1).f2)], .agg #[.int .i64 ((rd_T36 l1 x5_1).f0.f0), .int .i64 ((rd_T36 l1 x5_1).f0.f1), .int .i64 ((rd_T36 l1 x5_1).f1), .int .i64 ((rd_T36 l1 x5_1).f2)]] (by rfl) rfl rfl (by (try simp only [List.map_toArray, List.map_cons, List.map_nil]); first | done | rfl | (simp only [List.length_drop, List.length_take]; rfl)) ?_
                with_reducible refine (laws_eqEntry.calls ((rd_T36 l0 x5_1).f0.f0) ((rd_T36 l0 x5_1).f0.f1) ((rd_T36 l0 x5_1).f1) ((rd_T36 l0 x5_1).f2) ((rd_T36 l1 x5_1).f0.f0) ((rd_T36 l1 x5_1).f0.f1) ((rd_T36 l1 x5_1).f1) ((rd_T36 l1 x5_1).f2) false _ A7.out).mono ?_
                rintro e w12 ⟨rfl, hb⟩
                refine ⟨_, rfl, ?_⟩
                have n0_ := Aside0.mk (below_step (oB HB) hb)
                clear HB
                have HB := n0_
                clear n0_
                (try clear hb)
                (try clear hb2)
                (try clear hk)
                (try clear hi)
                refine hK.out _ _ ⟨((HB.out.cell (World.block_lt_of_cell? w _ hw306_0)).trans hw306_0), ((HB.out.cell (World.block_lt_of_cell? w _ hw306_1)).trans hw306_1), ((HB.out.cell (World.block_lt_of_cell? w _ hw306_2)).trans hw306_2), ((HB.out.cell (World.block_lt_of_cell? w _ hw306_3)).trans hw306_3), ((HB.out.cell (World.block_lt_of_cell? w _ hw307_0)).trans hw307_0), ((HB.out.cell (World.block_lt_of_cell? w _ hw307_1)).trans hw307_1), ((HB.out.cell (World.block_lt_of_cell? w _ hw307_2)).trans hw307_2), ((HB.out.cell (World.block_lt_of_cell? w _ hw307_3)).trans hw307_3)⟩ (fun hHeld => ?_)
                clear hK K
                refine norm_ (a' := ?_) ?_ ?_
                rotate_left
                · show Act.put _ (some 25) _ = _
                  simp only [Act.put, List.setIfInBounds_toArray, List.set_cons_zero, List.set_cons_succ, i64_w, i32_w]
                  rfl
                refine pure_ (i := 9) (N := some 26) (v := ?_) (a' := ?_) #[true, true, true, true, true, true, true, true, true, true] rfl rfl (any_of HT_.out (by kernel_rfl)) (fun _ _ _ h => h) (Or.inl ⟨by rfl, ?_⟩) ?_ ?_
                rotate_left
                · intro w'
                  go_simp
                  with_reducible rfl
                rotate_left
                · simp only [Act.put, List.setIfInBounds_toArray, List.set_cons_zero, List.set_cons_succ, i64_w, i32_w]
                  rfl
                refine done_ (done_of HT_.out (by kernel_rfl)) ?_
                try go_wp2
                go_ret
                exact ⟨by first | rfl | (simp [errW_none, errW_some] <;> rfl) | (simp [*, errW_none, errW_some] <;> rfl), oB HB⟩
            · rw [if_neg c6] at H
              exact absurd H (by simp)
          · rw [if_neg c5] at H
            exact absurd H (by simp)
        · rw [if_neg c4] at H
          have c4b0 : decide (x5_1 < (l0.length : Int)) = false := decide_eq_false c4
          clear c4
          obtain rfl := Option.some.inj H
          go_wp2
          go_ret
          exact ⟨by first | rfl | (simp [errW_none, errW_some] <;> rfl) | (simp [*, errW_none, errW_some] <;> rfl), oB HB⟩
  · rw [if_neg c3] at H
    have c3b0 : ((l0.length : Int) == (l1.length : Int)) = false := beq_eq_false_iff_ne.mpr c3
    have c3b1 : ((l0.length : Int) != (l1.length : Int)) = true := bne_iff_ne.mpr c3
    have c3b2 : (l0.length == l1.length) = false := by first | simpa using c3 | (simp at c3 ⊢; omega)
    obtain rfl := Option.some.inj H
    go_enter Try.func23, Try.ntmps23
    go_wp2
    go_ret
    exact ⟨by first | rfl | (simp [errW_none, errW_some] <;> rfl) | (simp [*, errW_none, errW_some] <;> rfl), oB HB⟩
end Go.Proofs.Ytnknnbpodpfljaa.P


namespace Go.Proofs.Ytnknnbpodpfljaa.Q
set_option linter.unusedVariables false
set_option linter.unusedSimpArgs false
open Go.RowKit Go.Proofs.Ytnknnbpodpfljaa.P Go.Proofs.YtnknnbpodpfljaaW.PrintWords Go.Proofs.YtnknnbpodpfljaaW.PrintMore
def cEntry (x : S66) : S36 := ⟨⟨x.f0.f0, x.f0.f1⟩, x.f1, x.f2⟩
theorem rdE (l : List S36) (i : Nat) (h : i < l.length) : rd_T36 l (i : Int) = l[i] := by
  unfold rd_T36; simp [List.getD_eq_getElem?_getD, h]
theorem rdLE (l : List S66) (i : Nat) (h : i < l.length) : rd_T66 l (i : Int) = l[i] := by
  unfold rd_T66; simp [List.getD_eq_getElem?_getD, h]
theorem toEntryS_ev (l : List S66) (hl : l.length ≤ 1048576) : Ev (fun k => laws_toEntryS.f k l) (l.map cEntry) := by
  have key : ∀ i, i ≤ l.length → ∀ acc : List S36, acc.length = l.length → Ev (fun k => laws_toEntryS.l0 k l acc (i : Int)) (acc.take i ++ (l.drop i).map cEntry) := by
    refine down (n := l.length) ?_ ?_
    · intro acc ha
      refine Ev.step (fun k => by rw [laws_toEntryS.l0]) (evn (by omega) (evs ?_))
      rw [drop_end, List.map_nil, List.append_nil, List.take_of_length_le (by omega)]
    · intro i hi ih acc ha
      refine Ev.step (fun k => by rw [laws_toEntryS.l0]) (evp (by omega) (evp (by omega) ?_))
      rw [rdLE l i hi]
      refine evb (a := (l[i].f0.f0, l[i].f0.f1, l[i].f1, l[i].f2)) rfl (evp (by omega) ?_)
      rw [w64 (by omega) (by omega), Int.toNat_natCast]
      have := ih (acc.set i (cEntry l[i])) (by simpa using ha)
      rw [set_take _ _ _ (by omega), List.append_assoc] at this
      rw [drop_cons l i hi, List.map_cons]
      exact this
  have := key 0 (Nat.zero_le _) (List.replicate l.length z36) (by simp)
  unfold laws_toEntryS.f
  refine evp (by omega) (evp (by omega) ?_)
  simpa using this
theorem eqPipe_self (a b : Int) : laws_eqPipe.f a b a b = some true := by unfold laws_eqPipe.f; simp
theorem eqEntry_self (a b c d : Int) : laws_eqEntry.f a b c d a b c d = some true := by unfold laws_eqEntry.f; simp [eqPipe_self]
theorem eqEntryS_ev (l : List S36) (hl : l.length ≤ 9000000000000000000) : Ev (fun k => laws_eqEntryS.f k l l) true := by
  have key : ∀ i, i ≤ l.length → Ev (fun k => laws_eqEntryS.l0 k l l (i : Int)) true := by
    refine down (n := l.length) ?_ ?_
    · refine Ev.step (fun k => by rw [laws_eqEntryS.l0]) (evn (by omega) ?_)
      exact Ev.now _
    · intro i hi ih
      refine Ev.step (fun k => by rw [laws_eqEntryS.l0]) (evp (by omega) (evp (by omega) (evp (by omega) ?_)))
      refine evb (eqEntry_self _ _ _ _) (evp rfl ?_)
      rw [w64 (by omega) (by omega)]
      exact ih
  unfold laws_eqEntryS.f
  refine evp rfl ?_
  exact key 0 (Nat.zero_le _)
theorem szEntryS_eq (l : List S66) (m : Int) (h0 : 0 ≤ m) (hm : m ≤ 1048576) (hl : l.length ≤ 9223372036854775807) : laws_szEntryS.f l m = some (if m < l.length then -1 else m - l.length) := by
  unfold laws_szEntryS.f
  rw [w64 (by omega) (by omega)]
  by_cases h : m < l.length
  · rw [if_pos (by omega), if_pos h]
  · rw [if_neg (by omega), if_neg h]
end Go.Proofs.Ytnknnbpodpfljaa.Q


namespace Go.Proofs.Ytnknnbpodpfljaa.P
open Go.RowKit Go.Proofs.YtnknnbpodpfljaaW.PrintWords Go.Proofs.YtnknnbpodpfljaaW.PrintLast Go.Proofs.YtnknnbpodpfljaaW.PrintMore
attribute [local go_sem] max2_int min2_int max_two min_two max_three min_three max_four min_four
set_option linter.unusedVariables false
set_option linter.unusedSimpArgs false
def impl_LogOk.l0 : Nat → List (S36) → List (S36) → Int → Int → Option (Bool)
  | 0, _, _, _, _ => none
  | k + 1, x0, x5, x6, x7 => if x7 < x6 then (if 0 ≤ x7 then (if x7 < (x5.length : Int) then ((impl_within.f ((rd_T36 x5 x7).f0.f0) 0 3).bind fun t177 => (if t177 = true then ((impl_within.f ((rd_T36 x5 x7).f0.f1) 0 39).bind fun t178 => (if t178 = true then ((impl_within.f ((rd_T36 x5 x7).f1) 0 2).bind fun t179 => (if t179 = true then ((impl_within.f ((rd_T36 x5 x7).f2) 0 100000).bind fun t180 => (if t180 = true then (if x7 > 0 then (if 0 ≤ (wrap64 (x7 - 1)) then (if (wrap64 (x7 - 1)) < (x0.length : Int) then (if ((rd_T36 x0 (wrap64 (x7 - 1))).f2) > ((rd_T36 x5 x7).f2) then (some false) else (impl_LogOk.l0 k x0 x5 x6 (wrap64 (x7 + 1)))) else (none)) else (none)) else (impl_LogOk.l0 k x0 x5 x6 (wrap64 (x7 + 1)))) else (some false))) else (some false))) else (some false))) else (some false))) else (none)) else (none)) else (some (decide ((x0.length : Int) ≤ 30)))
def impl_LogOk.f (k : Nat) (l0 : List (S36)) : Option (Bool) := impl_LogOk.l0 k l0 l0 (l0.length : Int) 0
set_option maxHeartbeats 8000000 in
set_option maxRecDepth 100000 in
theorem impl_LogOk.calls (k : Nat) (A0 : Option Addr) (c0 : Nat) (l0 : List (S36)) (r : Bool) (w : World) (hr0 : Kd.C k36 w A0 l0.length l0) (hc0 : l0.length ≤ c0) (h : impl_LogOk.f k l0 = some r) :
    Calls Try.prog 18 #[.slice A0 l0.length c0] w fun e w' => e = .returned (.bool r) ∧ Below w.heap.size w w' := by
  have hu36 := Try.underlying36
  have HR0 := Aside0.mk hr0
  have HC0 := Aside0.mk hc0
  clear hr0 hc0
  have HB := Aside0.mk (Below.refl w.heap.size w)
  have H : (impl_LogOk.l0 k l0 l0 (l0.length : Int) 0) = some r := h
  clear h
  have H' := Aside0.mk H
  clear H
  go_enter Try.func18, Try.ntmps18
  go_wp2
  repeat (go_quiet (fail); try go_wp2)
  go_loopg [7] k (fun kq v7 w' => ∃ (x7_1 : Int), v7 = .int .i64 x7_1 ∧ Aside0 (impl_LogOk.l0 kq l0 l0 (l0.length : Int) x7_1 = some r) ∧ Aside0 (kq ≤ k) ∧ Aside0 (Below w.heap.size w w'))
  case atStart => exact ⟨(0), (by first | rfl | (simp; done) | (simp [*]; done)), H', ⟨Nat.le_refl _⟩, ⟨oB HB⟩⟩
  case round =>
    clear H'
    try clear c1
    obtain ⟨x7_1, rfl, HA, HK1, HB⟩ := hrel
    cases gk with
    | zero => exact absurd HA.out (by simp [impl_LogOk.l0])
    | succ k1 =>
      have H := HA.out
      clear HA
      simp only [impl_LogOk.l0] at H
      by_cases c2 : x7_1 < (l0.length : Int)
      · rw [if_pos c2] at H
        have c2b0 : decide (x7_1 < (l0.length : Int)) = true := decide_eq_true c2
        clear c2
        by_cases c3 : 0 ≤ x7_1
        · rw [if_pos c3] at H
          have c3b0 : decide (0 ≤ x7_1) = true := decide_eq_true c3
          clear c3
          by_cases c4 : x7_1 < (l0.length : Int)
          · rw [if_pos c4] at H
            have c4b0 : decide (x7_1 < (l0.length : Int)) = true := decide_eq_true c4
            clear c4
            replace H := Option.bind_eq_some_iff.mp H
            obtain ⟨t177, A50, H⟩ := H
            (try dsimp only at H)
            have A5 := Aside0.mk A50
            clear A50
            by_cases c6 : t177 = true
            · subst c6
              rw [if_pos rfl] at H
              replace H := Option.bind_eq_some_iff.mp H
              obtain ⟨t178, A70, H⟩ := H
              (try dsimp only at H)
              have A7 := Aside0.mk A70
              clear A70
              by_cases c8 : t178 = true
              · subst c8
                rw [if_pos rfl] at H
                replace H := Option.bind_eq_some_iff.mp H
                obtain ⟨t179, A90, H⟩ := H
                (try dsimp only at H)
                have A9 := Aside0.mk A90
                clear A90
                by_cases c10 : t179 = true
                · subst c10
                  rw [if_pos rfl] at H
                  replace H := Option.bind_eq_some_iff.mp H
                  obtain ⟨t180, A110, H⟩ := H
                  (try dsimp only at H)
                  have A11 := Aside0.mk A110
                  clear A110
                  by_cases c12 : t180 = true
                  · subst c12
                    rw [if_pos rfl] at H
                    by_cases c13 : x7_1 > 0
                    · rw [if_pos c13] at H
                      have c13b0 : decide (0 < x7_1) = true := decide_eq_true c13
                      clear c13
                      obtain ⟨ji14, hji14⟩ : ∃ j_ : Int, (wrap64 (x7_1 - 1)) = j_ := ⟨_, rfl⟩
                      replace H : (if 0 ≤ (ji14) then (if (ji14) < (l0.length : Int) then (if ((rd_T36 l0 (ji14)).f2) > ((rd_T36 l0 x7_1).f2) then (some false) else (impl_LogOk.l0 k1 l0 l0 (l0.length : Int) (wrap64 (x7_1 + 1)))) else (none)) else (none)) = some r := by first | (rw [hji14] at H; exact H) | (simp only [hji14] at H ⊢; exact H)
                      (try rw [hji14] at A5)
                      (try rw [hji14] at A7)
                      (try rw [hji14] at A9)
                      (try rw [hji14] at A11)
                      have hji14w : (IntKind.i64.wrap (x7_1 - 1)) = ji14 := (i64_w _).trans hji14
                      by_cases c15 : 0 ≤ (ji14)
                      · rw [if_pos c15] at H
                        have c15b0 : decide (0 ≤ (ji14)) = true := decide_eq_true c15
                        clear c15
                        by_cases c16 : (ji14) < (l0.length : Int)
                        · rw [if_pos c16] at H
                          have c16b0 : decide ((ji14) < (l0.length : Int)) = true := decide_eq_true c16
                          clear c16
                          by_cases c17 : ((rd_T36 l0 (ji14)).f2) > ((rd_T36 l0 x7_1).f2)
                          · rw [if_pos c17] at H
                            have c17b0 : decide (((rd_T36 l0 x7_1).f2) < ((rd_T36 l0 (ji14)).f2)) = true := decide_eq_true c17
                            clear c17
                            obtain rfl := Option.some.inj H
                            have p175 : 0 ≤ (x7_1 : Int) := of_decide_eq_true (by first | (with_reducible assumption) | assumption)
                            have q175 : x7_1 < (l0.length : Int) := of_decide_eq_true (by first | (with_reducible assumption) | assumption)
                            obtain ⟨ad175, e175, hx175_0, hx175_1, hx175_2, hx175_3⟩ := at_T36 HR0.out x7_1 p175 q175
                            cases e175
                            replace hx175_0 := (HB.out.cell (World.block_lt_of_cell? w _ hx175_0)).trans hx175_0
                            replace hx175_1 := (HB.out.cell (World.block_lt_of_cell? w _ hx175_1)).trans hx175_1
                            replace hx175_2 := (HB.out.cell (World.block_lt_of_cell? w _ hx175_2)).trans hx175_2
                            replace hx175_3 := (HB.out.cell (World.block_lt_of_cell? w _ hx175_3)).trans hx175_3
                            replace p175 := eq_true p175
                            replace q175 := eq_true q175
                            go_wp2_with (first | ((with_reducible refine gate_dst (N := 4) rfl ?_); refine box_event ?hg (N := 4) ?hd (cs := #[.int .i64 0, .int .i64 0, .int .i64 0, .int .i64 0]) (t := 36) ?hr ?_; (case hd => rfl); (case hg => rfl); (case hr => first | (go_simp; done) | (go_simp; rfl)); intro gb176 hg w18 hbox hb; have n0_ := Aside0.mk (below_step (oB HB) hb); have n1_ := Aside0.mk (hbox); have n2_ := Aside0.mk ((by rw [hg]; exact (below_size (oB HB)) : w.heap.size ≤ gb176)); have n3_ := Aside0.mk ((by rw [hg]; exact (below_size (oB HB)) : w.heap.size ≤ gb176)); clear HB; have HB := n0_; have BK176 := n1_; have GW176 := n2_; have GE176 := n3_; clear n0_ n1_ n2_ n3_; clear hb hbox hg; have hcz19_0 : w18.cell? ⟨gb176, 0, none⟩ = some (.int .i64 0) := (blk_cell BK176.out 0).trans rfl; have hcz19_1 : w18.cell? ⟨gb176, 1, none⟩ = some (.int .i64 0) := (blk_cell BK176.out 1).trans rfl; have hcz19_2 : w18.cell? ⟨gb176, 2, none⟩ = some (.int .i64 0) := (blk_cell BK176.out 2).trans rfl; have hcz19_3 : w18.cell? ⟨gb176, 3, none⟩ = some (.int .i64 0) := (blk_cell BK176.out 3).trans rfl; have hfz19_0 := blk_frozen BK176.out 0; have hfz19_1 := blk_frozen BK176.out 1; have hfz19_2 := blk_frozen BK176.out 2; have hfz19_3 := blk_frozen BK176.out 3) | (go_at_call 45; (with_reducible refine (impl_within.calls ((rd_T36 l0 x7_1).f0.f0) 0 3 true _ A5.out).mono ?_); rintro e w' ⟨rfl, ⟨nd, rfl⟩⟩; (try first | exact ⟨rfl, _, World.drewN_drewN _ _ _⟩ | exact ⟨rfl, _, Eq.trans (World.drewN_drewN _ _ _) (congrArg (World.drewN _) (Nat.add_assoc _ _ _))⟩)) | (go_at_call 45; (with_reducible refine (impl_within.calls ((rd_T36 l0 x7_1).f0.f1) 0 39 true _ A7.out).mono ?_); rintro e w' ⟨rfl, ⟨nd, rfl⟩⟩; (try first | exact ⟨rfl, _, World.drewN_drewN _ _ _⟩ | exact ⟨rfl, _, Eq.trans (World.drewN_drewN _ _ _) (congrArg (World.drewN _) (Nat.add_assoc _ _ _))⟩)) | (go_at_call 45; (with_reducible refine (impl_within.calls ((rd_T36 l0 x7_1).f1) 0 2 true _ A9.out).mono ?_); rintro e w' ⟨rfl, ⟨nd, rfl⟩⟩; (try first | exact ⟨rfl, _, World.drewN_drewN _ _ _⟩ | exact ⟨rfl, _, Eq.trans (World.drewN_drewN _ _ _) (congrArg (World.drewN _) (Nat.add_assoc _ _ _))⟩)) | (go_at_call 45; (with_reducible refine (impl_within.calls ((rd_T36 l0 x7_1).f2) 0 100000 true _ A11.out).mono ?_); rintro e w' ⟨rfl, ⟨nd, rfl⟩⟩; (try first | exact ⟨rfl, _, World.drewN_drewN _ _ _⟩ | exact ⟨rfl, _, Eq.trans (World.drewN_drewN _ _ _) (congrArg (World.drewN _) (Nat.add_assoc _ _ _))⟩); have p181 : 0 ≤ ((ji14) : Int) := of_decide_eq_true (by first | (with_reducible assumption) | assumption); have q181 : (ji14) < (l0.length : Int) := of_decide_eq_true (by first | (with_reducible assumption) | assumption); obtain ⟨ad181, e181, hx181_0, hx181_1, hx181_2, hx181_3⟩ := at_T36 HR0.out (ji14) p181 q181; obtain rfl : ad175 = ad181 := (by injection e181); have hn181_0 : ad175.block ≠ gb176 := Nat.ne_of_lt (Nat.lt_of_lt_of_le (by have := World.block_lt_of_cell? _ _ hx181_0; first | rwa [add_block] at this | exact this) GW176.out); have hn181_1 : ad175.block ≠ gb176 := Nat.ne_of_lt (Nat.lt_of_lt_of_le (by have := World.block_lt_of_cell? _ _ hx181_0; first | rwa [add_block] at this | exact this) GW176.out); have hn181_2 : ad175.block ≠ gb176 := Nat.ne_of_lt (Nat.lt_of_lt_of_le (by have := World.block_lt_of_cell? _ _ hx181_0; first | rwa [add_block] at this | exact this) GW176.out); have hn181_3 : ad175.block ≠ gb176 := Nat.ne_of_lt (Nat.lt_of_lt_of_le (by have := World.block_lt_of_cell? _ _ hx181_0; first | rwa [add_block] at this | exact this) GW176.out); replace hx181_0 := (HB.out.cell (World.block_lt_of_cell? w _ hx181_0)).trans hx181_0; replace hx181_1 := (HB.out.cell (World.block_lt_of_cell? w _ hx181_1)).trans hx181_1; replace hx181_2 := (HB.out.cell (World.block_lt_of_cell? w _ hx181_2)).trans hx181_2; replace hx181_3 := (HB.out.cell (World.block_lt_of_cell? w _ hx181_3)).trans hx181_3; replace hx181_0 := (cell_far (p := ⟨gb176, 0, none⟩) (by first | (rw [add_block]; exact hn181_0) | (show (Addr.add _ _).block ≠ _; rw [add_block]; exact hn181_0) | exact hn181_0) (.int .i64 ((rd_T36 l0 x7_1).f0.f0))).trans hx181_0; replace hx181_1 := (cell_far (p := ⟨gb176, 0, none⟩) (by first | (rw [add_block]; exact hn181_0) | (show (Addr.add _ _).block ≠ _; rw [add_block]; exact hn181_0) | exact hn181_0) (.int .i64 ((rd_T36 l0 x7_1).f0.f0))).trans hx181_1; replace hx181_2 := (cell_far (p := ⟨gb176, 0, none⟩) (by first | (rw [add_block]; exact hn181_0) | (show (Addr.add _ _).block ≠ _; rw [add_block]; exact hn181_0) | exact hn181_0) (.int .i64 ((rd_T36 l0 x7_1).f0.f0))).trans hx181_2; replace hx181_3 := (cell_far (p := ⟨gb176, 0, none⟩) (by first | (rw [add_block]; exact hn181_0) | (show (Addr.add _ _).block ≠ _; rw [add_block]; exact hn181_0) | exact hn181_0) (.int .i64 ((rd_T36 l0 x7_1).f0.f0))).trans hx181_3; replace hx181_0 := (cell_far (p := ⟨gb176, 1, none⟩) (by first | (rw [add_block]; exact hn181_1) | (show (Addr.add _ _).block ≠ _; rw [add_block]; exact hn181_1) | exact hn181_1) (.int .i64 ((rd_T36 l0 x7_1).f0.f1))).trans hx181_0; replace hx181_1 := (cell_far (p := ⟨gb176, 1, none⟩) (by first | (rw [add_block]; exact hn181_1) | (show (Addr.add _ _).block ≠ _; rw [add_block]; exact hn181_1) | exact hn181_1) (.int .i64 ((rd_T36 l0 x7_1).f0.f1))).trans hx181_1; replace hx181_2 := (cell_far (p := ⟨gb176, 1, none⟩) (by first | (rw [add_block]; exact hn181_1) | (show (Addr.add _ _).block ≠ _; rw [add_block]; exact hn181_1) | exact hn181_1) (.int .i64 ((rd_T36 l0 x7_1).f0.f1))).trans hx181_2; replace hx181_3 := (cell_far (p := ⟨gb176, 1, none⟩) (by first | (rw [add_block]; exact hn181_1) | (show (Addr.add _ _).block ≠ _; rw [add_block]; exact hn181_1) | exact hn181_1) (.int .i64 ((rd_T36 l0 x7_1).f0.f1))).trans hx181_3; replace hx181_0 := (cell_far (p := ⟨gb176, 2, none⟩) (by first | (rw [add_block]; exact hn181_2) | (show (Addr.add _ _).block ≠ _; rw [add_block]; exact hn181_2) | exact hn181_2) (.int .i64 ((rd_T36 l0 x7_1).f1))).trans hx181_0; replace hx181_1 := (cell_far (p := ⟨gb176, 2, none⟩) (by first | (rw [add_block]; exact hn181_2) | (show (Addr.add _ _).block ≠ _; rw [add_block]; exact hn181_2) | exact hn181_2) (.int .i64 ((rd_T36 l0 x7_1).f1))).trans hx181_1; replace hx181_2 := (cell_far (p := ⟨gb176, 2, none⟩) (by first | (rw [add_block]; exact hn181_2) | (show (Addr.add _ _).block ≠ _; rw [add_block]; exact hn181_2) | exact hn181_2) (.int .i64 ((rd_T36 l0 x7_1).f1))).trans hx181_2; replace hx181_3 := (cell_far (p := ⟨gb176, 2, none⟩) (by first | (rw [add_block]; exact hn181_2) | (show (Addr.add _ _).block ≠ _; rw [add_block]; exact hn181_2) | exact hn181_2) (.int .i64 ((rd_T36 l0 x7_1).f1))).trans hx181_3; replace hx181_0 := (cell_far (p := ⟨gb176, 3, none⟩) (by first | (rw [add_block]; exact hn181_3) | (show (Addr.add _ _).block ≠ _; rw [add_block]; exact hn181_3) | exact hn181_3) (.int .i64 ((rd_T36 l0 x7_1).f2))).trans hx181_0; replace hx181_1 := (cell_far (p := ⟨gb176, 3, none⟩) (by first | (rw [add_block]; exact hn181_3) | (show (Addr.add _ _).block ≠ _; rw [add_block]; exact hn181_3) | exact hn181_3) (.int .i64 ((rd_T36 l0 x7_1).f2))).trans hx181_1; replace hx181_2 := (cell_far (p := ⟨gb176, 3, none⟩) (by first | (rw [add_block]; exact hn181_3) | (show (Addr.add _ _).block ≠ _; rw [add_block]; exact hn181_3) | exact hn181_3) (.int .i64 ((rd_T36 l0 x7_1).f2))).trans hx181_2; replace hx181_3 := (cell_far (p := ⟨gb176, 3, none⟩) (by first | (rw [add_block]; exact hn181_3) | (show (Addr.add _ _).block ≠ _; rw [add_block]; exact hn181_3) | exact hn181_3) (.int .i64 ((rd_T36 l0 x7_1).f2))).trans hx181_3; (try have hy181_0 := fun (n_ : Nat) => (show ((((((w18.drewN n_).setCell ⟨gb176, 0, none⟩ (.int .i64 ((rd_T36 l0 x7_1).f0.f0))).setCell ⟨gb176, 1, none⟩ (.int .i64 ((rd_T36 l0 x7_1).f0.f1))).setCell ⟨gb176, 2, none⟩ (.int .i64 ((rd_T36 l0 x7_1).f1))).setCell ⟨gb176, 3, none⟩ (.int .i64 ((rd_T36 l0 x7_1).f2)))).cell? _ = some _ from hx181_0)); (try have hy181_1 := fun (n_ : Nat) => (show ((((((w18.drewN n_).setCell ⟨gb176, 0, none⟩ (.int .i64 ((rd_T36 l0 x7_1).f0.f0))).setCell ⟨gb176, 1, none⟩ (.int .i64 ((rd_T36 l0 x7_1).f0.f1))).setCell ⟨gb176, 2, none⟩ (.int .i64 ((rd_T36 l0 x7_1).f1))).setCell ⟨gb176, 3, none⟩ (.int .i64 ((rd_T36 l0 x7_1).f2)))).cell? _ = some _ from hx181_1)); (try have hy181_2 := fun (n_ : Nat) => (show ((((((w18.drewN n_).setCell ⟨gb176, 0, none⟩ (.int .i64 ((rd_T36 l0 x7_1).f0.f0))).setCell ⟨gb176, 1, none⟩ (.int .i64 ((rd_T36 l0 x7_1).f0.f1))).setCell ⟨gb176, 2, none⟩ (.int .i64 ((rd_T36 l0 x7_1).f1))).setCell ⟨gb176, 3, none⟩ (.int .i64 ((rd_T36 l0 x7_1).f2)))).cell? _ = some _ from hx181_2)); (try have hy181_3 := fun (n_ : Nat) => (show ((((((w18.drewN n_).setCell ⟨gb176, 0, none⟩ (.int .i64 ((rd_T36 l0 x7_1).f0.f0))).setCell ⟨gb176, 1, none⟩ (.int .i64 ((rd_T36 l0 x7_1).f0.f1))).setCell ⟨gb176, 2, none⟩ (.int .i64 ((rd_T36 l0 x7_1).f1))).setCell ⟨gb176, 3, none⟩ (.int .i64 ((rd_T36 l0 x7_1).f2)))).cell? _ = some _ from hx181_3)); clear hn181_0; clear hn181_1; clear hn181_2; clear hn181_3; replace p181 := eq_true p181; replace q181 := eq_true q181))
                            repeat (go_quiet (first | ((with_reducible refine gate_dst (N := 4) rfl ?_); refine box_event ?hg (N := 4) ?hd (cs := #[.int .i64 0, .int .i64 0, .int .i64 0, .int .i64 0]) (t := 36) ?hr ?_; (case hd => rfl); (case hg => rfl); (case hr => first | (go_simp; done) | (go_simp; rfl)); intro gb176 hg w18 hbox hb; have n0_ := Aside0.mk (below_step (oB HB) hb); have n1_ := Aside0.mk (hbox); have n2_ := Aside0.mk ((by rw [hg]; exact (below_size (oB HB)) : w.heap.size ≤ gb176)); have n3_ := Aside0.mk ((by rw [hg]; exact (below_size (oB HB)) : w.heap.size ≤ gb176)); clear HB; have HB := n0_; have BK176 := n1_; have GW176 := n2_; have GE176 := n3_; clear n0_ n1_ n2_ n3_; clear hb hbox hg; have hcz19_0 : w18.cell? ⟨gb176, 0, none⟩ = some (.int .i64 0) := (blk_cell BK176.out 0).trans rfl; have hcz19_1 : w18.cell? ⟨gb176, 1, none⟩ = some (.int .i64 0) := (blk_cell BK176.out 1).trans rfl; have hcz19_2 : w18.cell? ⟨gb176, 2, none⟩ = some (.int .i64 0) := (blk_cell BK176.out 2).trans rfl; have hcz19_3 : w18.cell? ⟨gb176, 3, none⟩ = some (.int .i64 0) := (blk_cell BK176.out 3).trans rfl; have hfz19_0 := blk_frozen BK176.out 0; have hfz19_1 := blk_frozen BK176.out 1; have hfz19_2 := blk_frozen BK176.out 2; have hfz19_3 := blk_frozen BK176.out 3) | (go_at_call 45; (with_reducible refine (impl_within.calls ((rd_T36 l0 x7_1).f0.f0) 0 3 true _ A5.out).mono ?_); rintro e w' ⟨rfl, ⟨nd, rfl⟩⟩; (try first | exact ⟨rfl, _, World.drewN_drewN _ _ _⟩ | exact ⟨rfl, _, Eq.trans (World.drewN_drewN _ _ _) (congrArg (World.drewN _) (Nat.add_assoc _ _ _))⟩)) | (go_at_call 45; (with_reducible refine (impl_within.calls ((rd_T36 l0 x7_1).f0.f1) 0 39 true _ A7.out).mono ?_); rintro e w' ⟨rfl, ⟨nd, rfl⟩⟩; (try first | exact ⟨rfl, _, World.drewN_drewN _ _ _⟩ | exact ⟨rfl, _, Eq.trans (World.drewN_drewN _ _ _) (congrArg (World.drewN _) (Nat.add_assoc _ _ _))⟩)) | (go_at_call 45; (with_reducible refine (impl_within.calls ((rd_T36 l0 x7_1).f1) 0 2 true _ A9.out).mono ?_); rintro e w' ⟨rfl, ⟨nd, rfl⟩⟩; (try first | exact ⟨rfl, _, World.drewN_drewN _ _ _⟩ | exact ⟨rfl, _, Eq.trans (World.drewN_drewN _ _ _) (congrArg (World.drewN _) (Nat.add_assoc _ _ _))⟩)) | (go_at_call 45; (with_reducible refine (impl_within.calls ((rd_T36 l0 x7_1).f2) 0 100000 true _ A11.out).mono ?_); rintro e w' ⟨rfl, ⟨nd, rfl⟩⟩; (try first | exact ⟨rfl, _, World.drewN_drewN _ _ _⟩ | exact ⟨rfl, _, Eq.trans (World.drewN_drewN _ _ _) (congrArg (World.drewN _) (Nat.add_assoc _ _ _))⟩); have p181 : 0 ≤ ((ji14) : Int) := of_decide_eq_true (by first | (with_reducible assumption) | assumption); have q181 : (ji14) < (l0.length : Int) := of_decide_eq_true (by first | (with_reducible assumption) | assumption); obtain ⟨ad181, e181, hx181_0, hx181_1, hx181_2, hx181_3⟩ := at_T36 HR0.out (ji14) p181 q181; obtain rfl : ad175 = ad181 := (by injection e181); have hn181_0 : ad175.block ≠ gb176 := Nat.ne_of_lt (Nat.lt_of_lt_of_le (by have := World.block_lt_of_cell? _ _ hx181_0; first | rwa [add_block] at this | exact this) GW176.out); have hn181_1 : ad175.block ≠ gb176 := Nat.ne_of_lt (Nat.lt_of_lt_of_le (by have := World.block_lt_of_cell? _ _ hx181_0; first | rwa [add_block] at this | exact this) GW176.out); have hn181_2 : ad175.block ≠ gb176 := Nat.ne_of_lt (Nat.lt_of_lt_of_le (by have := World.block_lt_of_cell? _ _ hx181_0; first | rwa [add_block] at this | exact this) GW176.out); have hn181_3 : ad175.block ≠ gb176 := Nat.ne_of_lt (Nat.lt_of_lt_of_le (by have := World.block_lt_of_cell? _ _ hx181_0; first | rwa [add_block] at this | exact this) GW176.out); replace hx181_0 := (HB.out.cell (World.block_lt_of_cell? w _ hx181_0)).trans hx181_0; replace hx181_1 := (HB.out.cell (World.block_lt_of_cell? w _ hx181_1)).trans hx181_1; replace hx181_2 := (HB.out.cell (World.block_lt_of_cell? w _ hx181_2)).trans hx181_2; replace hx181_3 := (HB.out.cell (World.block_lt_of_cell? w _ hx181_3)).trans hx181_3; replace hx181_0 := (cell_far (p := ⟨gb176, 0, none⟩) (by first | (rw [add_block]; exact hn181_0) | (show (Addr.add _ _).block ≠ _; rw [add_block]; exact hn181_0) | exact hn181_0) (.int .i64 ((rd_T36 l0 x7_1).f0.f0))).trans hx181_0; replace hx181_1 := (cell_far (p := ⟨gb176, 0, none⟩) (by first | (rw [add_block]; exact hn181_0) | (show (Addr.add _ _).block ≠ _; rw [add_block]; exact hn181_0) | exact hn181_0) (.int .i64 ((rd_T36 l0 x7_1).f0.f0))).trans hx181_1; replace hx181_2 := (cell_far (p := ⟨gb176, 0, none⟩) (by first | (rw [add_block]; exact hn181_0) | (show (Addr.add _ _).block ≠ _; rw [add_block]; exact hn181_0) | exact hn181_0) (.int .i64 ((rd_T36 l0 x7_1).f0.f0))).trans hx181_2; replace hx181_3 := (cell_far (p := ⟨gb176, 0, none⟩) (by first | (rw [add_block]; exact hn181_0) | (show (Addr.add _ _).block ≠ _; rw [add_block]; exact hn181_0) | exact hn181_0) (.int .i64 ((rd_T36 l0 x7_1).f0.f0))).trans hx181_3; replace hx181_0 := (cell_far (p := ⟨gb176, 1, none⟩) (by first | (rw [add_block]; exact hn181_1) | (show (Addr.add _ _).block ≠ _; rw [add_block]; exact hn181_1) | exact hn181_1) (.int .i64 ((rd_T36 l0 x7_1).f0.f1))).trans hx181_0; replace hx181_1 := (cell_far (p := ⟨gb176, 1, none⟩) (by first | (rw [add_block]; exact hn181_1) | (show (Addr.add _ _).block ≠ _; rw [add_block]; exact hn181_1) | exact hn181_1) (.int .i64 ((rd_T36 l0 x7_1).f0.f1))).trans hx181_1; replace hx181_2 := (cell_far (p := ⟨gb176, 1, none⟩) (by first | (rw [add_block]; exact hn181_1) | (show (Addr.add _ _).block ≠ _; rw [add_block]; exact hn181_1) | exact hn181_1) (.int .i64 ((rd_T36 l0 x7_1).f0.f1))).trans hx181_2; replace hx181_3 := (cell_far (p := ⟨gb176, 1, none⟩) (by first | (rw [add_block]; exact hn181_1) | (show (Addr.add _ _).block ≠ _; rw [add_block]; exact hn181_1) | exact hn181_1) (.int .i64 ((rd_T36 l0 x7_1).f0.f1))).trans hx181_3; replace hx181_0 := (cell_far (p := ⟨gb176, 2, none⟩) (by first | (rw [add_block]; exact hn181_2) | (show (Addr.add _ _).block ≠ _; rw [add_block]; exact hn181_2) | exact hn181_2) (.int .i64 ((rd_T36 l0 x7_1).f1))).trans hx181_0; replace hx181_1 := (cell_far (p := ⟨gb176, 2, none⟩) (by first | (rw [add_block]; exact hn181_2) | (show (Addr.add _ _).block ≠ _; rw [add_block]; exact hn181_2) | exact hn181_2) (.int .i64 ((rd_T36 l0 x7_1).f1))).trans hx181_1; replace hx181_2 := (cell_far (p := ⟨gb176, 2, none⟩) (by first | (rw [add_block]; exact hn181_2) | (show (Addr.add _ _).block ≠ _; rw [add_block]; exact hn181_2) | exact hn181_2) (.int .i64 ((rd_T36 l0 x7_1).f1))).trans hx181_2; replace hx181_3 := (cell_far (p := ⟨gb176, 2, none⟩) (by first | (rw [add_block]; exact hn181_2) | (show (Addr.add _ _).block ≠ _; rw [add_block]; exact hn181_2) | exact hn181_2) (.int .i64 ((rd_T36 l0 x7_1).f1))).trans hx181_3; replace hx181_0 := (cell_far (p := ⟨gb176, 3, none⟩) (by first | (rw [add_block]; exact hn181_3) | (show (Addr.add _ _).block ≠ _; rw [add_block]; exact hn181_3) | exact hn181_3) (.int .i64 ((rd_T36 l0 x7_1).f2))).trans hx181_0; replace hx181_1 := (cell_far (p := ⟨gb176, 3, none⟩) (by first | (rw [add_block]; exact hn181_3) | (show (Addr.add _ _).block ≠ _; rw [add_block]; exact hn181_3) | exact hn181_3) (.int .i64 ((rd_T36 l0 x7_1).f2))).trans hx181_1; replace hx181_2 := (cell_far (p := ⟨gb176, 3, none⟩) (by first | (rw [add_block]; exact hn181_3) | (show (Addr.add _ _).block ≠ _; rw [add_block]; exact hn181_3) | exact hn181_3) (.int .i64 ((rd_T36 l0 x7_1).f2))).trans hx181_2; replace hx181_3 := (cell_far (p := ⟨gb176, 3, none⟩) (by first | (rw [add_block]; exact hn181_3) | (show (Addr.add _ _).block ≠ _; rw [add_block]; exact hn181_3) | exact hn181_3) (.int .i64 ((rd_T36 l0 x7_1).f2))).trans hx181_3; (try have hy181_0 := fun (n_ : Nat) => (show ((((((w18.drewN n_).setCell ⟨gb176, 0, none⟩ (.int .i64 ((rd_T36 l0 x7_1).f0.f0))).setCell ⟨gb176, 1, none⟩ (.int .i64 ((rd_T36 l0 x7_1).f0.f1))).setCell ⟨gb176, 2, none⟩ (.int .i64 ((rd_T36 l0 x7_1).f1))).setCell ⟨gb176, 3, none⟩ (.int .i64 ((rd_T36 l0 x7_1).f2)))).cell? _ = some _ from hx181_0)); (try have hy181_1 := fun (n_ : Nat) => (show ((((((w18.drewN n_).setCell ⟨gb176, 0, none⟩ (.int .i64 ((rd_T36 l0 x7_1).f0.f0))).setCell ⟨gb176, 1, none⟩ (.int .i64 ((rd_T36 l0 x7_1).f0.f1))).setCell ⟨gb176, 2, none⟩ (.int .i64 ((rd_T36 l0 x7_1).f1))).setCell ⟨gb176, 3, none⟩ (.int .i64 ((rd_T36 l0 x7_1).f2)))).cell? _ = some _ from hx181_1)); (try have hy181_2 := fun (n_ : Nat) => (show ((((((w18.drewN n_).setCell ⟨gb176, 0, none⟩ (.int .i64 ((rd_T36 l0 x7_1).f0.f0))).setCell ⟨gb176, 1, none⟩ (.int .i64 ((rd_T36 l0 x7_1).f0.f1))).setCell ⟨gb176, 2, none⟩ (.int .i64 ((rd_T36 l0 x7_1).f1))).setCell ⟨gb176, 3, none⟩ (.int .i64 ((rd_T36 l0 x7_1).f2)))).cell? _ = some _ from hx181_2)); (try have hy181_3 := fun (n_ : Nat) => (show ((((((w18.drewN n_).setCell ⟨gb176, 0, none⟩ (.int .i64 ((rd_T36 l0 x7_1).f0.f0))).setCell ⟨gb176, 1, none⟩ (.int .i64 ((rd_T36 l0 x7_1).f0.f1))).setCell ⟨gb176, 2, none⟩ (.int .i64 ((rd_T36 l0 x7_1).f1))).setCell ⟨gb176, 3, none⟩ (.int .i64 ((rd_T36 l0 x7_1).f2)))).cell? _ = some _ from hx181_3)); clear hn181_0; clear hn181_1; clear hn181_2; clear hn181_3; replace p181 := eq_true p181; replace q181 := eq_true q181)); try go_wp2_with (first | ((with_reducible refine gate_dst (N := 4) rfl ?_); refine box_event ?hg (N := 4) ?hd (cs := #[.int .i64 0, .int .i64 0, .int .i64 0, .int .i64 0]) (t := 36) ?hr ?_; (case hd => rfl); (case hg => rfl); (case hr => first | (go_simp; done) | (go_simp; rfl)); intro gb176 hg w18 hbox hb; have n0_ := Aside0.mk (below_step (oB HB) hb); have n1_ := Aside0.mk (hbox); have n2_ := Aside0.mk ((by rw [hg]; exact (below_size (oB HB)) : w.heap.size ≤ gb176)); have n3_ := Aside0.mk ((by rw [hg]; exact (below_size (oB HB)) : w.heap.size ≤ gb176)); clear HB; have HB := n0_; have BK176 := n1_; have GW176 := n2_; have GE176 := n3_; clear n0_ n1_ n2_ n3_; clear hb hbox hg; have hcz19_0 : w18.cell? ⟨gb176, 0, none⟩ = some (.int .i64 0) := (blk_cell BK176.out 0).trans rfl; have hcz19_1 : w18.cell? ⟨gb176, 1, none⟩ = some (.int .i64 0) := (blk_cell BK176.out 1).trans rfl; have hcz19_2 : w18.cell? ⟨gb176, 2, none⟩ = some (.int .i64 0) := (blk_cell BK176.out 2).trans rfl; have hcz19_3 : w18.cell? ⟨gb176, 3, none⟩ = some (.int .i64 0) := (blk_cell BK176.out 3).trans rfl; have hfz19_0 := blk_frozen BK176.out 0; have hfz19_1 := blk_frozen BK176.out 1; have hfz19_2 := blk_frozen BK176.out 2; have hfz19_3 := blk_frozen BK176.out 3) | (go_at_call 45; (with_reducible refine (impl_within.calls ((rd_T36 l0 x7_1).f0.f0) 0 3 true _ A5.out).mono ?_); rintro e w' ⟨rfl, ⟨nd, rfl⟩⟩; (try first | exact ⟨rfl, _, World.drewN_drewN _ _ _⟩ | exact ⟨rfl, _, Eq.trans (World.drewN_drewN _ _ _) (congrArg (World.drewN _) (Nat.add_assoc _ _ _))⟩)) | (go_at_call 45; (with_reducible refine (impl_within.calls ((rd_T36 l0 x7_1).f0.f1) 0 39 true _ A7.out).mono ?_); rintro e w' ⟨rfl, ⟨nd, rfl⟩⟩; (try first | exact ⟨rfl, _, World.drewN_drewN _ _ _⟩ | exact ⟨rfl, _, Eq.trans (World.drewN_drewN _ _ _) (congrArg (World.drewN _) (Nat.add_assoc _ _ _))⟩)) | (go_at_call 45; (with_reducible refine (impl_within.calls ((rd_T36 l0 x7_1).f1) 0 2 true _ A9.out).mono ?_); rintro e w' ⟨rfl, ⟨nd, rfl⟩⟩; (try first | exact ⟨rfl, _, World.drewN_drewN _ _ _⟩ | exact ⟨rfl, _, Eq.trans (World.drewN_drewN _ _ _) (congrArg (World.drewN _) (Nat.add_assoc _ _ _))⟩)) | (go_at_call 45; (with_reducible refine (impl_within.calls ((rd_T36 l0 x7_1).f2) 0 100000 true _ A11.out).mono ?_); rintro e w' ⟨rfl, ⟨nd, rfl⟩⟩; (try first | exact ⟨rfl, _, World.drewN_drewN _ _ _⟩ | exact ⟨rfl, _, Eq.trans (World.drewN_drewN _ _ _) (congrArg (World.drewN _) (Nat.add_assoc _ _ _))⟩); have p181 : 0 ≤ ((ji14) : Int) := of_decide_eq_true (by first | (with_reducible assumption) | assumption); have q181 : (ji14) < (l0.length : Int) := of_decide_eq_true (by first | (with_reducible assumption) | assumption); obtain ⟨ad181, e181, hx181_0, hx181_1, hx181_2, hx181_3⟩ := at_T36 HR0.out (ji14) p181 q181; obtain rfl : ad175 = ad181 := (by injection e181); have hn181_0 : ad175.block ≠ gb176 := Nat.ne_of_lt (Nat.lt_of_lt_of_le (by have := World.block_lt_of_cell? _ _ hx181_0; first | rwa [add_block] at this | exact this) GW176.out); have hn181_1 : ad175.block ≠ gb176 := Nat.ne_of_lt (Nat.lt_of_lt_of_le (by have := World.block_lt_of_cell? _ _ hx181_0; first | rwa [add_block] at this | exact this) GW176.out); have hn181_2 : ad175.block ≠ gb176 := Nat.ne_of_lt (Nat.lt_of_lt_of_le (by have := World.block_lt_of_cell? _ _ hx181_0; first | rwa [add_block] at this | exact this) GW176.out); have hn181_3 : ad175.block ≠ gb176 := Nat.ne_of_lt (Nat.lt_of_lt_of_le (by have := World.block_lt_of_cell? _ _ hx181_0; first | rwa [add_block] at this | exact this) GW176.out); replace hx181_0 := (HB.out.cell (World.block_lt_of_cell? w _ hx181_0)).trans hx181_0; replace hx181_1 := (HB.out.cell (World.block_lt_of_cell? w _ hx181_1)).trans hx181_1; replace hx181_2 := (HB.out.cell (World.block_lt_of_cell? w _ hx181_2)).trans hx181_2; replace hx181_3 := (HB.out.cell (World.block_lt_of_cell? w _ hx181_3)).trans hx181_3; replace hx181_0 := (cell_far (p := ⟨gb176, 0, none⟩) (by first | (rw [add_block]; exact hn181_0) | (show (Addr.add _ _).block ≠ _; rw [add_block]; exact hn181_0) | exact hn181_0) (.int .i64 ((rd_T36 l0 x7_1).f0.f0))).trans hx181_0; replace hx181_1 := (cell_far (p := ⟨gb176, 0, none⟩) (by first | (rw [add_block]; exact hn181_0) | (show (Addr.add _ _).block ≠ _; rw [add_block]; exact hn181_0) | exact hn181_0) (.int .i64 ((rd_T36 l0 x7_1).f0.f0))).trans hx181_1; replace hx181_2 := (cell_far (p := ⟨gb176, 0, none⟩) (by first | (rw [add_block]; exact hn181_0) | (show (Addr.add _ _).block ≠ _; rw [add_block]; exact hn181_0) | exact hn181_0) (.int .i64 ((rd_T36 l0 x7_1).f0.f0))).trans hx181_2; replace hx181_3 := (cell_far (p := ⟨gb176, 0, none⟩) (by first | (rw [add_block]; exact hn181_0) | (show (Addr.add _ _).block ≠ _; rw [add_block]; exact hn181_0) | exact hn181_0) (.int .i64 ((rd_T36 l0 x7_1).f0.f0))).trans hx181_3; replace hx181_0 := (cell_far (p := ⟨gb176, 1, none⟩) (by first | (rw [add_block]; exact hn181_1) | (show (Addr.add _ _).block ≠ _; rw [add_block]; exact hn181_1) | exact hn181_1) (.int .i64 ((rd_T36 l0 x7_1).f0.f1))).trans hx181_0; replace hx181_1 := (cell_far (p := ⟨gb176, 1, none⟩) (by first | (rw [add_block]; exact hn181_1) | (show (Addr.add _ _).block ≠ _; rw [add_block]; exact hn181_1) | exact hn181_1) (.int .i64 ((rd_T36 l0 x7_1).f0.f1))).trans hx181_1; replace hx181_2 := (cell_far (p := ⟨gb176, 1, none⟩) (by first | (rw [add_block]; exact hn181_1) | (show (Addr.add _ _).block ≠ _; rw [add_block]; exact hn181_1) | exact hn181_1) (.int .i64 ((rd_T36 l0 x7_1).f0.f1))).trans hx181_2; replace hx181_3 := (cell_far (p := ⟨gb176, 1, none⟩) (by first | (rw [add_block]; exact hn181_1) | (show (Addr.add _ _).block ≠ _; rw [add_block]; exact hn181_1) | exact hn181_1) (.int .i64 ((rd_T36 l0 x7_1).f0.f1))).trans hx181_3; replace hx181_0 := (cell_far (p := ⟨gb176, 2, none⟩) (by first | (rw [add_block]; exact hn181_2) | (show (Addr.add _ _).block ≠ _; rw [add_block]; exact hn181_2) | exact hn181_2) (.int .i64 ((rd_T36 l0 x7_1).f1))).trans hx181_0; replace hx181_1 := (cell_far (p := ⟨gb176, 2, none⟩) (by first | (rw [add_block]; exact hn181_2) | (show (Addr.add _ _).block ≠ _; rw [add_block]; exact hn181_2) | exact hn181_2) (.int .i64 ((rd_T36 l0 x7_1).f1))).trans hx181_1; replace hx181_2 := (cell_far (p := ⟨gb176, 2, none⟩) (by first | (rw [add_block]; exact hn181_2) | (show (Addr.add _ _).block ≠ _; rw [add_block]; exact hn181_2) | exact hn181_2) (.int .i64 ((rd_T36 l0 x7_1).f1))).trans hx181_2; replace hx181_3 := (cell_far (p := ⟨gb176, 2, none⟩) (by first | (rw [add_block]; exact hn181_2) | (show (Addr.add _ _).block ≠ _; rw [add_block]; exact hn181_2) | exact hn181_2) (.int .i64 ((rd_T36 l0 x7_1).f1))).trans hx181_3; replace hx181_0 := (cell_far (p := ⟨gb176, 3, none⟩) (by first | (rw [add_block]; exact hn181_3) | (show (Addr.add _ _).block ≠ _; rw [add_block]; exact hn181_3) | exact hn181_3) (.int .i64 ((rd_T36 l0 x7_1).f2))).trans hx181_0; replace hx181_1 := (cell_far (p := ⟨gb176, 3, none⟩) (by first | (rw [add_block]; exact hn181_3) | (show (Addr.add _ _).block ≠ _; rw [add_block]; exact hn181_3) | exact hn181_3) (.int .i64 ((rd_T36 l0 x7_1).f2))).trans hx181_1; replace hx181_2 := (cell_far (p := ⟨gb176, 3, none⟩) (by first | (rw [add_block]; exact hn181_3) | (show (Addr.add _ _).block ≠ _; rw [add_block]; exact hn181_3) | exact hn181_3) (.int .i64 ((rd_T36 l0 x7_1).f2))).trans hx181_2; replace hx181_3 := (cell_far (p := ⟨gb176, 3, none⟩) (by first | (rw [add_block]; exact hn181_3) | (show (Addr.add _ _).block ≠ _; rw [add_block]; exact hn181_3) | exact hn181_3) (.int .i64 ((rd_T36 l0 x7_1).f2))).trans hx181_3; (try have hy181_0 := fun (n_ : Nat) => (show ((((((w18.drewN n_).setCell ⟨gb176, 0, none⟩ (.int .i64 ((rd_T36 l0 x7_1).f0.f0))).setCell ⟨gb176, 1, none⟩ (.int .i64 ((rd_T36 l0 x7_1).f0.f1))).setCell ⟨gb176, 2, none⟩ (.int .i64 ((rd_T36 l0 x7_1).f1))).setCell ⟨gb176, 3, none⟩ (.int .i64 ((rd_T36 l0 x7_1).f2)))).cell? _ = some _ from hx181_0)); (try have hy181_1 := fun (n_ : Nat) => (show ((((((w18.drewN n_).setCell ⟨gb176, 0, none⟩ (.int .i64 ((rd_T36 l0 x7_1).f0.f0))).setCell ⟨gb176, 1, none⟩ (.int .i64 ((rd_T36 l0 x7_1).f0.f1))).setCell ⟨gb176, 2, none⟩ (.int .i64 ((rd_T36 l0 x7_1).f1))).setCell ⟨gb176, 3, none⟩ (.int .i64 ((rd_T36 l0 x7_1).f2)))).cell? _ = some _ from hx181_1)); (try have hy181_2 := fun (n_ : Nat) => (show ((((((w18.drewN n_).setCell ⟨gb176, 0, none⟩ (.int .i64 ((rd_T36 l0 x7_1).f0.f0))).setCell ⟨gb176, 1, none⟩ (.int .i64 ((rd_T36 l0 x7_1).f0.f1))).setCell ⟨gb176, 2, none⟩ (.int .i64 ((rd_T36 l0 x7_1).f1))).setCell ⟨gb176, 3, none⟩ (.int .i64 ((rd_T36 l0 x7_1).f2)))).cell? _ = some _ from hx181_2)); (try have hy181_3 := fun (n_ : Nat) => (show ((((((w18.drewN n_).setCell ⟨gb176, 0, none⟩ (.int .i64 ((rd_T36 l0 x7_1).f0.f0))).setCell ⟨gb176, 1, none⟩ (.int .i64 ((rd_T36 l0 x7_1).f0.f1))).setCell ⟨gb176, 2, none⟩ (.int .i64 ((rd_T36 l0 x7_1).f1))).setCell ⟨gb176, 3, none⟩ (.int .i64 ((rd_T36 l0 x7_1).f2)))).cell? _ = some _ from hx181_3)); clear hn181_0; clear hn181_1; clear hn181_2; clear hn181_3; replace p181 := eq_true p181; replace q181 := eq_true q181)))
                            go_ret
                            exact ⟨by first | rfl | (simp [errW_none, errW_some] <;> rfl) | (simp only [← hji14]; first | rfl | (simp [errW_none, errW_some] <;> rfl)) | (simp [*, errW_none, errW_some] <;> rfl), oB HB⟩
                          · rw [if_neg c17] at H
                            have c17b0 : decide (((rd_T36 l0 x7_1).f2) < ((rd_T36 l0 (ji14)).f2)) = false := decide_eq_false c17
                            clear c17
                            have H' := Aside0.mk H
                            clear H
                            have p175 : 0 ≤ (x7_1 : Int) := of_decide_eq_true (by first | (with_reducible assumption) | assumption)
                            have q175 : x7_1 < (l0.length : Int) := of_decide_eq_true (by first | (with_reducible assumption) | assumption)
                            obtain ⟨ad175, e175, hx175_0, hx175_1, hx175_2, hx175_3⟩ := at_T36 HR0.out x7_1 p175 q175
                            cases e175
                            replace hx175_0 := (HB.out.cell (World.block_lt_of_cell? w _ hx175_0)).trans hx175_0
                            replace hx175_1 := (HB.out.cell (World.block_lt_of_cell? w _ hx175_1)).trans hx175_1
                            replace hx175_2 := (HB.out.cell (World.block_lt_of_cell? w _ hx175_2)).trans hx175_2
                            replace hx175_3 := (HB.out.cell (World.block_lt_of_cell? w _ hx175_3)).trans hx175_3
                            replace p175 := eq_true p175
                            replace q175 := eq_true q175
                            go_wp2_with (first | ((with_reducible refine gate_dst (N := 4) rfl ?_); refine box_event ?hg (N := 4) ?hd (cs := #[.int .i64 0, .int .i64 0, .int .i64 0, .int .i64 0]) (t := 36) ?hr ?_; (case hd => rfl); (case hg => rfl); (case hr => first | (go_simp; done) | (go_simp; rfl)); intro gb176 hg w20 hbox hb; have n0_ := Aside0.mk (below_step (oB HB) hb); have n1_ := Aside0.mk (hbox); have n2_ := Aside0.mk ((by rw [hg]; exact (below_size (oB HB)) : w.heap.size ≤ gb176)); have n3_ := Aside0.mk ((by rw [hg]; exact (below_size (oB HB)) : w.heap.size ≤ gb176)); clear HB; have HB := n0_; have BK176 := n1_; have GW176 := n2_; have GE176 := n3_; clear n0_ n1_ n2_ n3_; clear hb hbox hg; have hcz21_0 : w20.cell? ⟨gb176, 0, none⟩ = some (.int .i64 0) := (blk_cell BK176.out 0).trans rfl; have hcz21_1 : w20.cell? ⟨gb176, 1, none⟩ = some (.int .i64 0) := (blk_cell BK176.out 1).trans rfl; have hcz21_2 : w20.cell? ⟨gb176, 2, none⟩ = some (.int .i64 0) := (blk_cell BK176.out 2).trans rfl; have hcz21_3 : w20.cell? ⟨gb176, 3, none⟩ = some (.int .i64 0) := (blk_cell BK176.out 3).trans rfl; have hfz21_0 := blk_frozen BK176.out 0; have hfz21_1 := blk_frozen BK176.out 1; have hfz21_2 := blk_frozen BK176.out 2; have hfz21_3 := blk_frozen BK176.out 3) | (go_at_call 45; (with_reducible refine (impl_within.calls ((rd_T36 l0 x7_1).f0.f0) 0 3 true _ A5.out).mono ?_); rintro e w' ⟨rfl, ⟨nd, rfl⟩⟩; (try first | exact ⟨rfl, _, World.drewN_drewN _ _ _⟩ | exact ⟨rfl, _, Eq.trans (World.drewN_drewN _ _ _) (congrArg (World.drewN _) (Nat.add_assoc _ _ _))⟩)) | (go_at_call 45; (with_reducible refine (impl_within.calls ((rd_T36 l0 x7_1).f0.f1) 0 39 true _ A7.out).mono ?_); rintro e w' ⟨rfl, ⟨nd, rfl⟩⟩; (try first | exact ⟨rfl, _, World.drewN_drewN _ _ _⟩ | exact ⟨rfl, _, Eq.trans (World.drewN_drewN _ _ _) (congrArg (World.drewN _) (Nat.add_assoc _ _ _))⟩)) | (go_at_call 45; (with_reducible refine (impl_within.calls ((rd_T36 l0 x7_1).f1) 0 2 true _ A9.out).mono ?_); rintro e w' ⟨rfl, ⟨nd, rfl⟩⟩; (try first | exact ⟨rfl, _, World.drewN_drewN _ _ _⟩ | exact ⟨rfl, _, Eq.trans (World.drewN_drewN _ _ _) (congrArg (World.drewN _) (Nat.add_assoc _ _ _))⟩)) | (go_at_call 45; (with_reducible refine (impl_within.calls ((rd_T36 l0 x7_1).f2) 0 100000 true _ A11.out).mono ?_); rintro e w' ⟨rfl, ⟨nd, rfl⟩⟩; (try first | exact ⟨rfl, _, World.drewN_drewN _ _ _⟩ | exact ⟨rfl, _, Eq.trans (World.drewN_drewN _ _ _) (congrArg (World.drewN _) (Nat.add_assoc _ _ _))⟩); have p181 : 0 ≤ ((ji14) : Int) := of_decide_eq_true (by first | (with_reducible assumption) | assumption); have q181 : (ji14) < (l0.length : Int) := of_decide_eq_true (by first | (with_reducible assumption) | assumption); obtain ⟨ad181, e181, hx181_0, hx181_1, hx181_2, hx181_3⟩ := at_T36 HR0.out (ji14) p181 q181; obtain rfl : ad175 = ad181 := (by injection e181); have hn181_0 : ad175.block ≠ gb176 := Nat.ne_of_lt (Nat.lt_of_lt_of_le (by have := World.block_lt_of_cell? _ _ hx181_0; first | rwa [add_block] at this | exact this) GW176.out); have hn181_1 : ad175.block ≠ gb176 := Nat.ne_of_lt (Nat.lt_of_lt_of_le (by have := World.block_lt_of_cell? _ _ hx181_0; first | rwa [add_block] at this | exact this) GW176.out); have hn181_2 : ad175.block ≠ gb176 := Nat.ne_of_lt (Nat.lt_of_lt_of_le (by have := World.block_lt_of_cell? _ _ hx181_0; first | rwa [add_block] at this | exact this) GW176.out); have hn181_3 : ad175.block ≠ gb176 := Nat.ne_of_lt (Nat.lt_of_lt_of_le (by have := World.block_lt_of_cell? _ _ hx181_0; first | rwa [add_block] at this | exact this) GW176.out); replace hx181_0 := (HB.out.cell (World.block_lt_of_cell? w _ hx181_0)).trans hx181_0; replace hx181_1 := (HB.out.cell (World.block_lt_of_cell? w _ hx181_1)).trans hx181_1; replace hx181_2 := (HB.out.cell (World.block_lt_of_cell? w _ hx181_2)).trans hx181_2; replace hx181_3 := (HB.out.cell (World.block_lt_of_cell? w _ hx181_3)).trans hx181_3; replace hx181_0 := (cell_far (p := ⟨gb176, 0, none⟩) (by first | (rw [add_block]; exact hn181_0) | (show (Addr.add _ _).block ≠ _; rw [add_block]; exact hn181_0) | exact hn181_0) (.int .i64 ((rd_T36 l0 x7_1).f0.f0))).trans hx181_0; replace hx181_1 := (cell_far (p := ⟨gb176, 0, none⟩) (by first | (rw [add_block]; exact hn181_0) | (show (Addr.add _ _).block ≠ _; rw [add_block]; exact hn181_0) | exact hn181_0) (.int .i64 ((rd_T36 l0 x7_1).f0.f0))).trans hx181_1; replace hx181_2 := (cell_far (p := ⟨gb176, 0, none⟩) (by first | (rw [add_block]; exact hn181_0) | (show (Addr.add _ _).block ≠ _; rw [add_block]; exact hn181_0) | exact hn181_0) (.int .i64 ((rd_T36 l0 x7_1).f0.f0))).trans hx181_2; replace hx181_3 := (cell_far (p := ⟨gb176, 0, none⟩) (by first | (rw [add_block]; exact hn181_0) | (show (Addr.add _ _).block ≠ _; rw [add_block]; exact hn181_0) | exact hn181_0) (.int .i64 ((rd_T36 l0 x7_1).f0.f0))).trans hx181_3; replace hx181_0 := (cell_far (p := ⟨gb176, 1, none⟩) (by first | (rw [add_block]; exact hn181_1) | (show (Addr.add _ _).block ≠ _; rw [add_block]; exact hn181_1) | exact hn181_1) (.int .i64 ((rd_T36 l0 x7_1).f0.f1))).trans hx181_0; replace hx181_1 := (cell_far (p := ⟨gb176, 1, none⟩) (by first | (rw [add_block]; exact hn181_1) | (show (Addr.add _ _).block ≠ _; rw [add_block]; exact hn181_1) | exact hn181_1) (.int .i64 ((rd_T36 l0 x7_1).f0.f1))).trans hx181_1; replace hx181_2 := (cell_far (p := ⟨gb176, 1, none⟩) (by first | (rw [add_block]; exact hn181_1) | (show (Addr.add _ _).block ≠ _; rw [add_block]; exact hn181_1) | exact hn181_1) (.int .i64 ((rd_T36 l0 x7_1).f0.f1))).trans hx181_2; replace hx181_3 := (cell_far (p := ⟨gb176, 1, none⟩) (by first | (rw [add_block]; exact hn181_1) | (show (Addr.add _ _).block ≠ _; rw [add_block]; exact hn181_1) | exact hn181_1) (.int .i64 ((rd_T36 l0 x7_1).f0.f1))).trans hx181_3; replace hx181_0 := (cell_far (p := ⟨gb176, 2, none⟩) (by first | (rw [add_block]; exact hn181_2) | (show (Addr.add _ _).block ≠ _; rw [add_block]; exact hn181_2) | exact hn181_2) (.int .i64 ((rd_T36 l0 x7_1).f1))).trans hx181_0; replace hx181_1 := (cell_far (p := ⟨gb176, 2, none⟩) (by first | (rw [add_block]; exact hn181_2) | (show (Addr.add _ _).block ≠ _; rw [add_block]; exact hn181_2) | exact hn181_2) (.int .i64 ((rd_T36 l0 x7_1).f1))).trans hx181_1; replace hx181_2 := (cell_far (p := ⟨gb176, 2, none⟩) (by first | (rw [add_block]; exact hn181_2) | (show (Addr.add _ _).block ≠ _; rw [add_block]; exact hn181_2) | exact hn181_2) (.int .i64 ((rd_T36 l0 x7_1).f1))).trans hx181_2; replace hx181_3 := (cell_far (p := ⟨gb176, 2, none⟩) (by first | (rw [add_block]; exact hn181_2) | (show (Addr.add _ _).block ≠ _; rw [add_block]; exact hn181_2) | exact hn181_2) (.int .i64 ((rd_T36 l0 x7_1).f1))).trans hx181_3; replace hx181_0 := (cell_far (p := ⟨gb176, 3, none⟩) (by first | (rw [add_block]; exact hn181_3) | (show (Addr.add _ _).block ≠ _; rw [add_block]; exact hn181_3) | exact hn181_3) (.int .i64 ((rd_T36 l0 x7_1).f2))).trans hx181_0; replace hx181_1 := (cell_far (p := ⟨gb176, 3, none⟩) (by first | (rw [add_block]; exact hn181_3) | (show (Addr.add _ _).block ≠ _; rw [add_block]; exact hn181_3) | exact hn181_3) (.int .i64 ((rd_T36 l0 x7_1).f2))).trans hx181_1; replace hx181_2 := (cell_far (p := ⟨gb176, 3, none⟩) (by first | (rw [add_block]; exact hn181_3) | (show (Addr.add _ _).block ≠ _; rw [add_block]; exact hn181_3) | exact hn181_3) (.int .i64 ((rd_T36 l0 x7_1).f2))).trans hx181_2; replace hx181_3 := (cell_far (p := ⟨gb176, 3, none⟩) (by first | (rw [add_block]; exact hn181_3) | (show (Addr.add _ _).block ≠ _; rw [add_block]; exact hn181_3) | exact hn181_3) (.int .i64 ((rd_T36 l0 x7_1).f2))).trans hx181_3; (try have hy181_0 := fun (n_ : Nat) => (show ((((((w20.drewN n_).setCell ⟨gb176, 0, none⟩ (.int .i64 ((rd_T36 l0 x7_1).f0.f0))).setCell ⟨gb176, 1, none⟩ (.int .i64 ((rd_T36 l0 x7_1).f0.f1))).setCell ⟨gb176, 2, none⟩ (.int .i64 ((rd_T36 l0 x7_1).f1))).setCell ⟨gb176, 3, none⟩ (.int .i64 ((rd_T36 l0 x7_1).f2)))).cell? _ = some _ from hx181_0)); (try have hy181_1 := fun (n_ : Nat) => (show ((((((w20.drewN n_).setCell ⟨gb176, 0, none⟩ (.int .i64 ((rd_T36 l0 x7_1).f0.f0))).setCell ⟨gb176, 1, none⟩ (.int .i64 ((rd_T36 l0 x7_1).f0.f1))).setCell ⟨gb176, 2, none⟩ (.int .i64 ((rd_T36 l0 x7_1).f1))).setCell ⟨gb176, 3, none⟩ (.int .i64 ((rd_T36 l0 x7_1).f2)))).cell? _ = some _ from hx181_1)); (try have hy181_2 := fun (n_ : Nat) => (show ((((((w20.drewN n_).setCell ⟨gb176, 0, none⟩ (.int .i64 ((rd_T36 l0 x7_1).f0.f0))).setCell ⟨gb176, 1, none⟩ (.int .i64 ((rd_T36 l0 x7_1).f0.f1))).setCell ⟨gb176, 2, none⟩ (.int .i64 ((rd_T36 l0 x7_1).f1))).setCell ⟨gb176, 3, none⟩ (.int .i64 ((rd_T36 l0 x7_1).f2)))).cell? _ = some _ from hx181_2)); (try have hy181_3 := fun (n_ : Nat) => (show ((((((w20.drewN n_).setCell ⟨gb176, 0, none⟩ (.int .i64 ((rd_T36 l0 x7_1).f0.f0))).setCell ⟨gb176, 1, none⟩ (.int .i64 ((rd_T36 l0 x7_1).f0.f1))).setCell ⟨gb176, 2, none⟩ (.int .i64 ((rd_T36 l0 x7_1).f1))).setCell ⟨gb176, 3, none⟩ (.int .i64 ((rd_T36 l0 x7_1).f2)))).cell? _ = some _ from hx181_3)); clear hn181_0; clear hn181_1; clear hn181_2; clear hn181_3; replace p181 := eq_true p181; replace q181 := eq_true q181))
                            repeat (go_quiet (first | ((with_reducible refine gate_dst (N := 4) rfl ?_); refine box_event ?hg (N := 4) ?hd (cs := #[.int .i64 0, .int .i64 0, .int .i64 0, .int .i64 0]) (t := 36) ?hr ?_; (case hd => rfl); (case hg => rfl); (case hr => first | (go_simp; done) | (go_simp; rfl)); intro gb176 hg w20 hbox hb; have n0_ := Aside0.mk (below_step (oB HB) hb); have n1_ := Aside0.mk (hbox); have n2_ := Aside0.mk ((by rw [hg]; exact (below_size (oB HB)) : w.heap.size ≤ gb176)); have n3_ := Aside0.mk ((by rw [hg]; exact (below_size (oB HB)) : w.heap.size ≤ gb176)); clear HB; have HB := n0_; have BK176 := n1_; have GW176 := n2_; have GE176 := n3_; clear n0_ n1_ n2_ n3_; clear hb hbox hg; have hcz21_0 : w20.cell? ⟨gb176, 0, none⟩ = some (.int .i64 0) := (blk_cell BK176.out 0).trans rfl; have hcz21_1 : w20.cell? ⟨gb176, 1, none⟩ = some (.int .i64 0) := (blk_cell BK176.out 1).trans rfl; have hcz21_2 : w20.cell? ⟨gb176, 2, none⟩ = some (.int .i64 0) := (blk_cell BK176.out 2).trans rfl; have hcz21_3 : w20.cell? ⟨gb176, 3, none⟩ = some (.int .i64 0) := (blk_cell BK176.out 3).trans rfl; have hfz21_0 := blk_frozen BK176.out 0; have hfz21_1 := blk_frozen BK176.out 1; have hfz21_2 := blk_frozen BK176.out 2; have hfz21_3 := blk_frozen BK176.out 3) | (go_at_call 45; (with_reducible refine (impl_within.calls ((rd_T36 l0 x7_1).f0.f0) 0 3 true _ A5.out).mono ?_); rintro e w' ⟨rfl, ⟨nd, rfl⟩⟩; (try first | exact ⟨rfl, _, World.drewN_drewN _ _ _⟩ | exact ⟨rfl, _, Eq.trans (World.drewN_drewN _ _ _) (congrArg (World.drewN _) (Nat.add_assoc _ _ _))⟩)) | (go_at_call 45; (with_reducible refine (impl_within.calls ((rd_T36 l0 x7_1).f0.f1) 0 39 true _ A7.out).mono ?_); rintro e w' ⟨rfl, ⟨nd, rfl⟩⟩; (try first | exact ⟨rfl, _, World.drewN_drewN _ _ _⟩ | exact ⟨rfl, _, Eq.trans (World.drewN_drewN _ _ _) (congrArg (World.drewN _) (Nat.add_assoc _ _ _))⟩)) | (go_at_call 45; (with_reducible refine (impl_within.calls ((rd_T36 l0 x7_1).f1) 0 2 true _ A9.out).mono ?_); rintro e w' ⟨rfl, ⟨nd, rfl⟩⟩; (try first | exact ⟨rfl, _, World.drewN_drewN _ _ _⟩ | exact ⟨rfl, _, Eq.trans (World.drewN_drewN _ _ _) (congrArg (World.drewN _) (Nat.add_assoc _ _ _))⟩)) | (go_at_call 45; (with_reducible refine (impl_within.calls ((rd_T36 l0 x7_1).f2) 0 100000 true _ A11.out).mono ?_); rintro e w' ⟨rfl, ⟨nd, rfl⟩⟩; (try first | exact ⟨rfl, _, World.drewN_drewN _ _ _⟩ | exact ⟨rfl, _, Eq.trans (World.drewN_drewN _ _ _) (congrArg (World.drewN _) (Nat.add_assoc _ _ _))⟩); have p181 : 0 ≤ ((ji14) : Int) := of_decide_eq_true (by first | (with_reducible assumption) | assumption); have q181 : (ji14) < (l0.length : Int) := of_decide_eq_true (by first | (with_reducible assumption) | assumption); obtain ⟨ad181, e181, hx181_0, hx181_1, hx181_2, hx181_3⟩ := at_T36 HR0.out (ji14) p181 q181; obtain rfl : ad175 = ad181 := (by injection e181); have hn181_0 : ad175.block ≠ gb176 := Nat.ne_of_lt (Nat.lt_of_lt_of_le (by have := World.block_lt_of_cell? _ _ hx181_0; first | rwa [add_block] at this | exact this) GW176.out); have hn181_1 : ad175.block ≠ gb176 := Nat.ne_of_lt (Nat.lt_of_lt_of_le (by have := World.block_lt_of_cell? _ _ hx181_0; first | rwa [add_block] at this | exact this) GW176.out); have hn181_2 : ad175.block ≠ gb176 := Nat.ne_of_lt (Nat.lt_of_lt_of_le (by have := World.block_lt_of_cell? _ _ hx181_0; first | rwa [add_block] at this | exact this) GW176.out); have hn181_3 : ad175.block ≠ gb176 := Nat.ne_of_lt (Nat.lt_of_lt_of_le (by have := World.block_lt_of_cell? _ _ hx181_0; first | rwa [add_block] at this | exact this) GW176.out); replace hx181_0 := (HB.out.cell (World.block_lt_of_cell? w _ hx181_0)).trans hx181_0; replace hx181_1 := (HB.out.cell (World.block_lt_of_cell? w _ hx181_1)).trans hx181_1; replace hx181_2 := (HB.out.cell (World.block_lt_of_cell? w _ hx181_2)).trans hx181_2; replace hx181_3 := (HB.out.cell (World.block_lt_of_cell? w _ hx181_3)).trans hx181_3; replace hx181_0 := (cell_far (p := ⟨gb176, 0, none⟩) (by first | (rw [add_block]; exact hn181_0) | (show (Addr.add _ _).block ≠ _; rw [add_block]; exact hn181_0) | exact hn181_0) (.int .i64 ((rd_T36 l0 x7_1).f0.f0))).trans hx181_0; replace hx181_1 := (cell_far (p := ⟨gb176, 0, none⟩) (by first | (rw [add_block]; exact hn181_0) | (show (Addr.add _ _).block ≠ _; rw [add_block]; exact hn181_0) | exact hn181_0) (.int .i64 ((rd_T36 l0 x7_1).f0.f0))).trans hx181_1; replace hx181_2 := (cell_far (p := ⟨gb176, 0, none⟩) (by first | (rw [add_block]; exact hn181_0) | (show (Addr.add _ _).block ≠ _; rw [add_block]; exact hn181_0) | exact hn181_0) (.int .i64 ((rd_T36 l0 x7_1).f0.f0))).trans hx181_2; replace hx181_3 := (cell_far (p := ⟨gb176, 0, none⟩) (by first | (rw [add_block]; exact hn181_0) | (show (Addr.add _ _).block ≠ _; rw [add_block]; exact hn181_0) | exact hn181_0) (.int .i64 ((rd_T36 l0 x7_1).f0.f0))).trans hx181_3; replace hx181_0 := (cell_far (p := ⟨gb176, 1, none⟩) (by first | (rw [add_block]; exact hn181_1) | (show (Addr.add _ _).block ≠ _; rw [add_block]; exact hn181_1) | exact hn181_1) (.int .i64 ((rd_T36 l0 x7_1).f0.f1))).trans hx181_0; replace hx181_1 := (cell_far (p := ⟨gb176, 1, none⟩) (by first | (rw [add_block]; exact hn181_1) | (show (Addr.add _ _).block ≠ _; rw [add_block]; exact hn181_1) | exact hn181_1) (.int .i64 ((rd_T36 l0 x7_1).f0.f1))).trans hx181_1; replace hx181_2 := (cell_far (p := ⟨gb176, 1, none⟩) (by first | (rw [add_block]; exact hn181_1) | (show (Addr.add _ _).block ≠ _; rw [add_block]; exact hn181_1) | exact hn181_1) (.int .i64 ((rd_T36 l0 x7_1).f0.f1))).trans hx181_2; replace hx181_3 := (cell_far (p := ⟨gb176, 1, none⟩) (by first | (rw [add_block]; exact hn181_1) | (show (Addr.add _ _).block ≠ _; rw [add_block]; exact hn181_1) | exact hn181_1) (.int .i64 ((rd_T36 l0 x7_1).f0.f1))).trans hx181_3; replace hx181_0 := (cell_far (p := ⟨gb176, 2, none⟩) (by first | (rw [add_block]; exact hn181_2) | (show (Addr.add _ _).block ≠ _; rw [add_block]; exact hn181_2) | exact hn181_2) (.int .i64 ((rd_T36 l0 x7_1).f1))).trans hx181_0; replace hx181_1 := (cell_far (p := ⟨gb176, 2, none⟩) (by first | (rw [add_block]; exact hn181_2) | (show (Addr.add _ _).block ≠ _; rw [add_block]; exact hn181_2) | exact hn181_2) (.int .i64 ((rd_T36 l0 x7_1).f1))).trans hx181_1; replace hx181_2 := (cell_far (p := ⟨gb176, 2, none⟩) (by first | (rw [add_block]; exact hn181_2) | (show (Addr.add _ _).block ≠ _; rw [add_block]; exact hn181_2) | exact hn181_2) (.int .i64 ((rd_T36 l0 x7_1).f1))).trans hx181_2; replace hx181_3 := (cell_far (p := ⟨gb176, 2, none⟩) (by first | (rw [add_block]; exact hn181_2) | (show (Addr.add _ _).block ≠ _; rw [add_block]; exact hn181_2) | exact hn181_2) (.int .i64 ((rd_T36 l0 x7_1).f1))).trans hx181_3; replace hx181_0 := (cell_far (p := ⟨gb176, 3, none⟩) (by first | (rw [add_block]; exact hn181_3) | (show (Addr.add _ _).block ≠ _; rw [add_block]; exact hn181_3) | exact hn181_3) (.int .i64 ((rd_T36 l0 x7_1).f2))).trans hx181_0; replace hx181_1 := (cell_far (p := ⟨gb176, 3, none⟩) (by first | (rw [add_block]; exact hn181_3) | (show (Addr.add _ _).block ≠ _; rw [add_block]; exact hn181_3) | exact hn181_3) (.int .i64 ((rd_T36 l0 x7_1).f2))).trans hx181_1; replace hx181_2 := (cell_far (p := ⟨gb176, 3, none⟩) (by first | (rw [add_block]; exact hn181_3) | (show (Addr.add _ _).block ≠ _; rw [add_block]; exact hn181_3) | exact hn181_3) (.int .i64 ((rd_T36 l0 x7_1).f2))).trans hx181_2; replace hx181_3 := (cell_far (p := ⟨gb176, 3, none⟩) (by first | (rw [add_block]; exact hn181_3) | (show (Addr.add _ _).block ≠ _; rw [add_block]; exact hn181_3) | exact hn181_3) (.int .i64 ((rd_T36 l0 x7_1).f2))).trans hx181_3; (try have hy181_0 := fun (n_ : Nat) => (show ((((((w20.drewN n_).setCell ⟨gb176, 0, none⟩ (.int .i64 ((rd_T36 l0 x7_1).f0.f0))).setCell ⟨gb176, 1, none⟩ (.int .i64 ((rd_T36 l0 x7_1).f0.f1))).setCell ⟨gb176, 2, none⟩ (.int .i64 ((rd_T36 l0 x7_1).f1))).setCell ⟨gb176, 3, none⟩ (.int .i64 ((rd_T36 l0 x7_1).f2)))).cell? _ = some _ from hx181_0)); (try have hy181_1 := fun (n_ : Nat) => (show ((((((w20.drewN n_).setCell ⟨gb176, 0, none⟩ (.int .i64 ((rd_T36 l0 x7_1).f0.f0))).setCell ⟨gb176, 1, none⟩ (.int .i64 ((rd_T36 l0 x7_1).f0.f1))).setCell ⟨gb176, 2, none⟩ (.int .i64 ((rd_T36 l0 x7_1).f1))).setCell ⟨gb176, 3, none⟩ (.int .i64 ((rd_T36 l0 x7_1).f2)))).cell? _ = some _ from hx181_1)); (try have hy181_2 := fun (n_ : Nat) => (show ((((((w20.drewN n_).setCell ⟨gb176, 0, none⟩ (.int .i64 ((rd_T36 l0 x7_1).f0.f0))).setCell ⟨gb176, 1, none⟩ (.int .i64 ((rd_T36 l0 x7_1).f0.f1))).setCell ⟨gb176, 2, none⟩ (.int .i64 ((rd_T36 l0 x7_1).f1))).setCell ⟨gb176, 3, none⟩ (.int .i64 ((rd_T36 l0 x7_1).f2)))).cell? _ = some _ from hx181_2)); (try have hy181_3 := fun (n_ : Nat) => (show ((((((w20.drewN n_).setCell ⟨gb176, 0, none⟩ (.int .i64 ((rd_T36 l0 x7_1).f0.f0))).setCell ⟨gb176, 1, none⟩ (.int .i64 ((rd_T36 l0 x7_1).f0.f1))).setCell ⟨gb176, 2, none⟩ (.int .i64 ((rd_T36 l0 x7_1).f1))).setCell ⟨gb176, 3, none⟩ (.int .i64 ((rd_T36 l0 x7_1).f2)))).cell? _ = some _ from hx181_3)); clear hn181_0; clear hn181_1; clear hn181_2; clear hn181_3; replace p181 := eq_true p181; replace q181 := eq_true q181)); try go_wp2_with (first | ((with_reducible refine gate_dst (N := 4) rfl ?_); refine box_event ?hg (N := 4) ?hd (cs := #[.int .i64 0, .int .i64 0, .int .i64 0, .int .i64 0]) (t := 36) ?hr ?_; (case hd => rfl); (case hg => rfl); (case hr => first | (go_simp; done) | (go_simp; rfl)); intro gb176 hg w20 hbox hb; have n0_ := Aside0.mk (below_step (oB HB) hb); have n1_ := Aside0.mk (hbox); have n2_ := Aside0.mk ((by rw [hg]; exact (below_size (oB HB)) : w.heap.size ≤ gb176)); have n3_ := Aside0.mk ((by rw [hg]; exact (below_size (oB HB)) : w.heap.size ≤ gb176)); clear HB; have HB := n0_; have BK176 := n1_; have GW176 := n2_; have GE176 := n3_; clear n0_ n1_ n2_ n3_; clear hb hbox hg; have hcz21_0 : w20.cell? ⟨gb176, 0, none⟩ = some (.int .i64 0) := (blk_cell BK176.out 0).trans rfl; have hcz21_1 : w20.cell? ⟨gb176, 1, none⟩ = some (.int .i64 0) := (blk_cell BK176.out 1).trans rfl; have hcz21_2 : w20.cell? ⟨gb176, 2, none⟩ = some (.int .i64 0) := (blk_cell BK176.out 2).trans rfl; have hcz21_3 : w20.cell? ⟨gb176, 3, none⟩ = some (.int .i64 0) := (blk_cell BK176.out 3).trans rfl; have hfz21_0 := blk_frozen BK176.out 0; have hfz21_1 := blk_frozen BK176.out 1; have hfz21_2 := blk_frozen BK176.out 2; have hfz21_3 := blk_frozen BK176.out 3) | (go_at_call 45; (with_reducible refine (impl_within.calls ((rd_T36 l0 x7_1).f0.f0) 0 3 true _ A5.out).mono ?_); rintro e w' ⟨rfl, ⟨nd, rfl⟩⟩; (try first | exact ⟨rfl, _, World.drewN_drewN _ _ _⟩ | exact ⟨rfl, _, Eq.trans (World.drewN_drewN _ _ _) (congrArg (World.drewN _) (Nat.add_assoc _ _ _))⟩)) | (go_at_call 45; (with_reducible refine (impl_within.calls ((rd_T36 l0 x7_1).f0.f1) 0 39 true _ A7.out).mono ?_); rintro e w' ⟨rfl, ⟨nd, rfl⟩⟩; (try first | exact ⟨rfl, _, World.drewN_drewN _ _ _⟩ | exact ⟨rfl, _, Eq.trans (World.drewN_drewN _ _ _) (congrArg (World.drewN _) (Nat.add_assoc _ _ _))⟩)) | (go_at_call 45; (with_reducible refine (impl_within.calls ((rd_T36 l0 x7_1).f1) 0 2 true _ A9.out).mono ?_); rintro e w' ⟨rfl, ⟨nd, rfl⟩⟩; (try first | exact ⟨rfl, _, World.drewN_drewN _ _ _⟩ | exact ⟨rfl, _, Eq.trans (World.drewN_drewN _ _ _) (congrArg (World.drewN _) (Nat.add_assoc _ _ _))⟩)) | (go_at_call 45; (with_reducible refine (impl_within.calls ((rd_T36 l0 x7_1).f2) 0 100000 true _ A11.out).mono ?_); rintro e w' ⟨rfl, ⟨nd, rfl⟩⟩; (try first | exact ⟨rfl, _, World.drewN_drewN _ _ _⟩ | exact ⟨rfl, _, Eq.trans (World.drewN_drewN _ _ _) (congrArg (World.drewN _) (Nat.add_assoc _ _ _))⟩); have p181 : 0 ≤ ((ji14) : Int) := of_decide_eq_true (by first | (with_reducible assumption) | assumption); have q181 : (ji14) < (l0.length : Int) := of_decide_eq_true (by first | (with_reducible assumption) | assumption); obtain ⟨ad181, e181, hx181_0, hx181_1, hx181_2, hx181_3⟩ := at_T36 HR0.out (ji14) p181 q181; obtain rfl : ad175 = ad181 := (by injection e181); have hn181_0 : ad175.block ≠ gb176 := Nat.ne_of_lt (Nat.lt_of_lt_of_le (by have := World.block_lt_of_cell? _ _ hx181_0; first | rwa [add_block] at this | exact this) GW176.out); have hn181_1 : ad175.block ≠ gb176 := Nat.ne_of_lt (Nat.lt_of_lt_of_le (by have := World.block_lt_of_cell? _ _ hx181_0; first | rwa [add_block] at this | exact this) GW176.out); have hn181_2 : ad175.block ≠ gb176 := Nat.ne_of_lt (Nat.lt_of_lt_of_le (by have := World.block_lt_of_cell? _ _ hx181_0; first | rwa [add_block] at this | exact this) GW176.out); have hn181_3 : ad175.block ≠ gb176 := Nat.ne_of_lt (Nat.lt_of_lt_of_le (by have := World.block_lt_of_cell? _ _ hx181_0; first | rwa [add_block] at this | exact this) GW176.out); replace hx181_0 := (HB.out.cell (World.block_lt_of_cell? w _ hx181_0)).trans hx181_0; replace hx181_1 := (HB.out.cell (World.block_lt_of_cell? w _ hx181_1)).trans hx181_1; replace hx181_2 := (HB.out.cell (World.block_lt_of_cell? w _ hx181_2)).trans hx181_2; replace hx181_3 := (HB.out.cell (World.block_lt_of_cell? w _ hx181_3)).trans hx181_3; replace hx181_0 := (cell_far (p := ⟨gb176, 0, none⟩) (by first | (rw [add_block]; exact hn181_0) | (show (Addr.add _ _).block ≠ _; rw [add_block]; exact hn181_0) | exact hn181_0) (.int .i64 ((rd_T36 l0 x7_1).f0.f0))).trans hx181_0; replace hx181_1 := (cell_far (p := ⟨gb176, 0, none⟩) (by first | (rw [add_block]; exact hn181_0) | (show (Addr.add _ _).block ≠ _; rw [add_block]; exact hn181_0) | exact hn181_0) (.int .i64 ((rd_T36 l0 x7_1).f0.f0))).trans hx181_1; replace hx181_2 := (cell_far (p := ⟨gb176, 0, none⟩) (by first | (rw [add_block]; exact hn181_0) | (show (Addr.add _ _).block ≠ _; rw [add_block]; exact hn181_0) | exact hn181_0) (.int .i64 ((rd_T36 l0 x7_1).f0.f0))).trans hx181_2; replace hx181_3 := (cell_far (p := ⟨gb176, 0, none⟩) (by first | (rw [add_block]; exact hn181_0) | (show (Addr.add _ _).block ≠ _; rw [add_block]; exact hn181_0) | exact hn181_0) (.int .i64 ((rd_T36 l0 x7_1).f0.f0))).trans hx181_3; replace hx181_0 := (cell_far (p := ⟨gb176, 1, none⟩) (by first | (rw [add_block]; exact hn181_1) | (show (Addr.add _ _).block ≠ _; rw [add_block]; exact hn181_1) | exact hn181_1) (.int .i64 ((rd_T36 l0 x7_1).f0.f1))).trans hx181_0; replace hx181_1 := (cell_far (p := ⟨gb176, 1, none⟩) (by first | (rw [add_block]; exact hn181_1) | (show (Addr.add _ _).block ≠ _; rw [add_block]; exact hn181_1) | exact hn181_1) (.int .i64 ((rd_T36 l0 x7_1).f0.f1))).trans hx181_1; replace hx181_2 := (cell_far (p := ⟨gb176, 1, none⟩) (by first | (rw [add_block]; exact hn181_1) | (show (Addr.add _ _).block ≠ _; rw [add_block]; exact hn181_1) | exact hn181_1) (.int .i64 ((rd_T36 l0 x7_1).f0.f1))).trans hx181_2; replace hx181_3 := (cell_far (p := ⟨gb176, 1, none⟩) (by first | (rw [add_block]; exact hn181_1) | (show (Addr.add _ _).block ≠ _; rw [add_block]; exact hn181_1) | exact hn181_1) (.int .i64 ((rd_T36 l0 x7_1).f0.f1))).trans hx181_3; replace hx181_0 := (cell_far (p := ⟨gb176, 2, none⟩) (by first | (rw [add_block]; exact hn181_2) | (show (Addr.add _ _).block ≠ _; rw [add_block]; exact hn181_2) | exact hn181_2) (.int .i64 ((rd_T36 l0 x7_1).f1))).trans hx181_0; replace hx181_1 := (cell_far (p := ⟨gb176, 2, none⟩) (by first | (rw [add_block]; exact hn181_2) | (show (Addr.add _ _).block ≠ _; rw [add_block]; exact hn181_2) | exact hn181_2) (.int .i64 ((rd_T36 l0 x7_1).f1))).trans hx181_1; replace hx181_2 := (cell_far (p := ⟨gb176, 2, none⟩) (by first | (rw [add_block]; exact hn181_2) | (show (Addr.add _ _).block ≠ _; rw [add_block]; exact hn181_2) | exact hn181_2) (.int .i64 ((rd_T36 l0 x7_1).f1))).trans hx181_2; replace hx181_3 := (cell_far (p := ⟨gb176, 2, none⟩) (by first | (rw [add_block]; exact hn181_2) | (show (Addr.add _ _).block ≠ _; rw [add_block]; exact hn181_2) | exact hn181_2) (.int .i64 ((rd_T36 l0 x7_1).f1))).trans hx181_3; replace hx181_0 := (cell_far (p := ⟨gb176, 3, none⟩) (by first | (rw [add_block]; exact hn181_3) | (show (Addr.add _ _).block ≠ _; rw [add_block]; exact hn181_3) | exact hn181_3) (.int .i64 ((rd_T36 l0 x7_1).f2))).trans hx181_0; replace hx181_1 := (cell_far (p := ⟨gb176, 3, none⟩) (by first | (rw [add_block]; exact hn181_3) | (show (Addr.add _ _).block ≠ _; rw [add_block]; exact hn181_3) | exact hn181_3) (.int .i64 ((rd_T36 l0 x7_1).f2))).trans hx181_1; replace hx181_2 := (cell_far (p := ⟨gb176, 3, none⟩) (by first | (rw [add_block]; exact hn181_3) | (show (Addr.add _ _).block ≠ _; rw [add_block]; exact hn181_3) | exact hn181_3) (.int .i64 ((rd_T36 l0 x7_1).f2))).trans hx181_2; replace hx181_3 := (cell_far (p := ⟨gb176, 3, none⟩) (by first | (rw [add_block]; exact hn181_3) | (show (Addr.add _ _).block ≠ _; rw [add_block]; exact hn181_3) | exact hn181_3) (.int .i64 ((rd_T36 l0 x7_1).f2))).trans hx181_3; (try have hy181_0 := fun (n_ : Nat) => (show ((((((w20.drewN n_).setCell ⟨gb176, 0, none⟩ (.int .i64 ((rd_T36 l0 x7_1).f0.f0))).setCell ⟨gb176, 1, none⟩ (.int .i64 ((rd_T36 l0 x7_1).f0.f1))).setCell ⟨gb176, 2, none⟩ (.int .i64 ((rd_T36 l0 x7_1).f1))).setCell ⟨gb176, 3, none⟩ (.int .i64 ((rd_T36 l0 x7_1).f2)))).cell? _ = some _ from hx181_0)); (try have hy181_1 := fun (n_ : Nat) => (show ((((((w20.drewN n_).setCell ⟨gb176, 0, none⟩ (.int .i64 ((rd_T36 l0 x7_1).f0.f0))).setCell ⟨gb176, 1, none⟩ (.int .i64 ((rd_T36 l0 x7_1).f0.f1))).setCell ⟨gb176, 2, none⟩ (.int .i64 ((rd_T36 l0 x7_1).f1))).setCell ⟨gb176, 3, none⟩ (.int .i64 ((rd_T36 l0 x7_1).f2)))).cell? _ = some _ from hx181_1)); (try have hy181_2 := fun (n_ : Nat) => (show ((((((w20.drewN n_).setCell ⟨gb176, 0, none⟩ (.int .i64 ((rd_T36 l0 x7_1).f0.f0))).setCell ⟨gb176, 1, none⟩ (.int .i64 ((rd_T36 l0 x7_1).f0.f1))).setCell ⟨gb176, 2, none⟩ (.int .i64 ((rd_T36 l0 x7_1).f1))).setCell ⟨gb176, 3, none⟩ (.int .i64 ((rd_T36 l0 x7_1).f2)))).cell? _ = some _ from hx181_2)); (try have hy181_3 := fun (n_ : Nat) => (show ((((((w20.drewN n_).setCell ⟨gb176, 0, none⟩ (.int .i64 ((rd_T36 l0 x7_1).f0.f0))).setCell ⟨gb176, 1, none⟩ (.int .i64 ((rd_T36 l0 x7_1).f0.f1))).setCell ⟨gb176, 2, none⟩ (.int .i64 ((rd_T36 l0 x7_1).f1))).setCell ⟨gb176, 3, none⟩ (.int .i64 ((rd_T36 l0 x7_1).f2)))).cell? _ = some _ from hx181_3)); clear hn181_0; clear hn181_1; clear hn181_2; clear hn181_3; replace p181 := eq_true p181; replace q181 := eq_true q181)))
                            go_roundg k1
                            case measure => have := HK1.out; omega
                            case rel => exact ⟨(wrap64 (x7_1 + 1)), (by first | rfl | (simp; done) | (simp [*]; done)), H', ⟨by have := HK1.out; omega⟩, ⟨oB HB⟩⟩
                        · rw [if_neg c16] at H
                          exact absurd H (by simp)
                      · rw [if_neg c15] at H
                        exact absurd H (by simp)
                    · rw [if_neg c13] at H
                      have c13b0 : decide (0 < x7_1) = false := decide_eq_false c13
                      clear c13
                      have H' := Aside0.mk H
                      clear H
                      have p175 : 0 ≤ (x7_1 : Int) := of_decide_eq_true (by first | (with_reducible assumption) | assumption)
                      have q175 : x7_1 < (l0.length : Int) := of_decide_eq_true (by first | (with_reducible assumption) | assumption)
                      obtain ⟨ad175, e175, hx175_0, hx175_1, hx175_2, hx175_3⟩ := at_T36 HR0.out x7_1 p175 q175
                      cases e175
                      replace hx175_0 := (HB.out.cell (World.block_lt_of_cell? w _ hx175_0)).trans hx175_0
                      replace hx175_1 := (HB.out.cell (World.block_lt_of_cell? w _ hx175_1)).trans hx175_1
                      replace hx175_2 := (HB.out.cell (World.block_lt_of_cell? w _ hx175_2)).trans hx175_2
                      replace hx175_3 := (HB.out.cell (World.block_lt_of_cell? w _ hx175_3)).trans hx175_3
                      replace p175 := eq_true p175
                      replace q175 := eq_true q175
                      go_wp2_with (first | ((with_reducible refine gate_dst (N := 4) rfl ?_); refine box_event ?hg (N := 4) ?hd (cs := #[.int .i64 0, .int .i64 0, .int .i64 0, .int .i64 0]) (t := 36) ?hr ?_; (case hd => rfl); (case hg => rfl); (case hr => first | (go_simp; done) | (go_simp; rfl)); intro gb176 hg w22 hbox hb; have n0_ := Aside0.mk (below_step (oB HB) hb); have n1_ := Aside0.mk (hbox); have n2_ := Aside0.mk ((by rw [hg]; exact (below_size (oB HB)) : w.heap.size ≤ gb176)); have n3_ := Aside0.mk ((by rw [hg]; exact (below_size (oB HB)) : w.heap.size ≤ gb176)); clear HB; have HB := n0_; have BK176 := n1_; have GW176 := n2_; have GE176 := n3_; clear n0_ n1_ n2_ n3_; clear hb hbox hg; have hcz23_0 : w22.cell? ⟨gb176, 0, none⟩ = some (.int .i64 0) := (blk_cell BK176.out 0).trans rfl; have hcz23_1 : w22.cell? ⟨gb176, 1, none⟩ = some (.int .i64 0) := (blk_cell BK176.out 1).trans rfl; have hcz23_2 : w22.cell? ⟨gb176, 2, none⟩ = some (.int .i64 0) := (blk_cell BK176.out 2).trans rfl; have hcz23_3 : w22.cell? ⟨gb176, 3, none⟩ = some (.int .i64 0) := (blk_cell BK176.out 3).trans rfl; have hfz23_0 := blk_frozen BK176.out 0; have hfz23_1 := blk_frozen BK176.out 1; have hfz23_2 := blk_frozen BK176.out 2; have hfz23_3 := blk_frozen BK176.out 3) | (go_at_call 45; (with_reducible refine (impl_within.calls ((rd_T36 l0 x7_1).f0.f0) 0 3 true _ A5.out).mono ?_); rintro e w' ⟨rfl, ⟨nd, rfl⟩⟩; (try first | exact ⟨rfl, _, World.drewN_drewN _ _ _⟩ | exact ⟨rfl, _, Eq.trans (World.drewN_drewN _ _ _) (congrArg (World.drewN _) (Nat.add_assoc _ _ _))⟩)) | (go_at_call 45; (with_reducible refine (impl_within.calls ((rd_T36 l0 x7_1).f0.f1) 0 39 true _ A7.out).mono ?_); rintro e w' ⟨rfl, ⟨nd, rfl⟩⟩; (try first | exact ⟨rfl, _, World.drewN_drewN _ _ _⟩ | exact ⟨rfl, _, Eq.trans (World.drewN_drewN _ _ _) (congrArg (World.drewN _) (Nat.add_assoc _ _ _))⟩)) | (go_at_call 45; (with_reducible refine (impl_within.calls ((rd_T36 l0 x7_1).f1) 0 2 true _ A9.out).mono ?_); rintro e w' ⟨rfl, ⟨nd, rfl⟩⟩; (try first | exact ⟨rfl, _, World.drewN_drewN _ _ _⟩ | exact ⟨rfl, _, Eq.trans (World.drewN_drewN _ _ _) (congrArg (World.drewN _) (Nat.add_assoc _ _ _))⟩)) | (go_at_call 45; (with_reducible refine (impl_within.calls ((rd_T36 l0 x7_1).f2) 0 100000 true _ A11.out).mono ?_); rintro e w' ⟨rfl, ⟨nd, rfl⟩⟩; (try first | exact ⟨rfl, _, World.drewN_drewN _ _ _⟩ | exact ⟨rfl, _, Eq.trans (World.drewN_drewN _ _ _) (congrArg (World.drewN _) (Nat.add_assoc _ _ _))⟩)))
                      repeat (go_quiet (first | ((with_reducible refine gate_dst (N := 4) rfl ?_); refine box_event ?hg (N := 4) ?hd (cs := #[.int .i64 0, .int .i64 0, .int .i64 0, .int .i64 0]) (t := 36) ?hr ?_; (case hd => rfl); (case hg => rfl); (case hr => first | (go_simp; done) | (go_simp; rfl)); intro gb176 hg w22 hbox hb; have n0_ := Aside0.mk (below_step (oB HB) hb); have n1_ := Aside0.mk (hbox); have n2_ := Aside0.mk ((by rw [hg]; exact (below_size (oB HB)) : w.heap.size ≤ gb176)); have n3_ := Aside0.mk ((by rw [hg]; exact (below_size (oB HB)) : w.heap.size ≤ gb176)); clear HB; have HB := n0_; have BK176 := n1_; have GW176 := n2_; have GE176 := n3_; clear n0_ n1_ n2_ n3_; clear hb hbox hg; have hcz23_0 : w22.cell? ⟨gb176, 0, none⟩ = some (.int .i64 0) := (blk_cell BK176.out 0).trans rfl; have hcz23_1 : w22.cell? ⟨gb176, 1, none⟩ = some (.int .i64 0) := (blk_cell BK176.out 1).trans rfl; have hcz23_2 : w22.cell? ⟨gb176, 2, none⟩ = some (.int .i64 0) := (blk_cell BK176.out 2).trans rfl; have hcz23_3 : w22.cell? ⟨gb176, 3, none⟩ = some (.int .i64 0) := (blk_cell BK176.out 3).trans rfl; have hfz23_0 := blk_frozen BK176.out 0; have hfz23_1 := blk_frozen BK176.out 1; have hfz23_2 := blk_frozen BK176.out 2; have hfz23_3 := blk_frozen BK176.out 3) | (go_at_call 45; (with_reducible refine (impl_within.calls ((rd_T36 l0 x7_1).f0.f0) 0 3 true _ A5.out).mono ?_); rintro e w' ⟨rfl, ⟨nd, rfl⟩⟩; (try first | exact ⟨rfl, _, World.drewN_drewN _ _ _⟩ | exact ⟨rfl, _, Eq.trans (World.drewN_drewN _ _ _) (congrArg (World.drewN _) (Nat.add_assoc _ _ _))⟩)) | (go_at_call 45; (with_reducible refine (impl_within.calls ((rd_T36 l0 x7_1).f0.f1) 0 39 true _ A7.out).mono ?_); rintro e w' ⟨rfl, ⟨nd, rfl⟩⟩; (try first | exact ⟨rfl, _, World.drewN_drewN _ _ _⟩ | exact ⟨rfl, _, Eq.trans (World.drewN_drewN _ _ _) (congrArg (World.drewN _) (Nat.add_assoc _ _ _))⟩)) | (go_at_call 45; (with_reducible refine (impl_within.calls ((rd_T36 l0 x7_1).f1) 0 2 true _ A9.out).mono ?_); rintro e w' ⟨rfl, ⟨nd, rfl⟩⟩; (try first | exact ⟨rfl, _, World.drewN_drewN _ _ _⟩ | exact ⟨rfl, _, Eq.trans (World.drewN_drewN _ _ _) (congrArg (World.drewN _) (Nat.add_assoc _ _ _))⟩)) | (go_at_call 45; (with_reducible refine (impl_within.calls ((rd_T36 l0 x7_1).f2) 0 100000 true _ A11.out).mono ?_); rintro e w' ⟨rfl, ⟨nd, rfl⟩⟩; (try first | exact ⟨rfl, _, World.drewN_drewN _ _ _⟩ | exact ⟨rfl, _, Eq.trans (World.drewN_drewN _ _ _) (congrArg (World.drewN _) (Nat.add_assoc _ _ _))⟩))); try go_wp2_with (first | ((with_reducible refine gate_dst (N := 4) rfl ?_); refine box_event ?hg (N := 4) ?hd (cs := #[.int .i64 0, .int .i64 0, .int .i64 0, .int .i64 0]) (t := 36) ?hr ?_; (case hd => rfl); (case hg => rfl); (case hr => first | (go_simp; done) | (go_simp; rfl)); intro gb176 hg w22 hbox hb; have n0_ := Aside0.mk (below_step (oB HB) hb); have n1_ := Aside0.mk (hbox); have n2_ := Aside0.mk ((by rw [hg]; exact (below_size (oB HB)) : w.heap.size ≤ gb176)); have n3_ := Aside0.mk ((by rw [hg]; exact (below_size (oB HB)) : w.heap.size ≤ gb176)); clear HB; have HB := n0_; have BK176 := n1_; have GW176 := n2_; have GE176 := n3_; clear n0_ n1_ n2_ n3_; clear hb hbox hg; have hcz23_0 : w22.cell? ⟨gb176, 0, none⟩ = some (.int .i64 0) := (blk_cell BK176.out 0).trans rfl; have hcz23_1 : w22.cell? ⟨gb176, 1, none⟩ = some (.int .i64 0) := (blk_cell BK176.out 1).trans rfl; have hcz23_2 : w22.cell? ⟨gb176, 2, none⟩ = some (.int .i64 0) := (blk_cell BK176.out 2).trans rfl; have hcz23_3 : w22.cell? ⟨gb176, 3, none⟩ = some (.int .i64 0) := (blk_cell BK176.out 3).trans rfl; have hfz23_0 := blk_frozen BK176.out 0; have hfz23_1 := blk_frozen BK176.out 1; have hfz23_2 := blk_frozen BK176.out 2; have hfz23_3 := blk_frozen BK176.out 3) | (go_at_call 45; (with_reducible refine (impl_within.calls ((rd_T36 l0 x7_1).f0.f0) 0 3 true _ A5.out).mono ?_); rintro e w' ⟨rfl, ⟨nd, rfl⟩⟩; (try first | exact ⟨rfl, _, World.drewN_drewN _ _ _⟩ | exact ⟨rfl, _, Eq.trans (World.drewN_drewN _ _ _) (congrArg (World.drewN _) (Nat.add_assoc _ _ _))⟩)) | (go_at_call 45; (with_reducible refine (impl_within.calls ((rd_T36 l0 x7_1).f0.f1) 0 39 true _ A7.out).mono ?_); rintro e w' ⟨rfl, ⟨nd, rfl⟩⟩; (try first | exact ⟨rfl, _, World.drewN_drewN _ _ _⟩ | exact ⟨rfl, _, Eq.trans (World.drewN_drewN _ _ _) (congrArg (World.drewN _) (Nat.add_assoc _ _ _))⟩)) | (go_at_call 45; (with_reducible refine (impl_within.calls ((rd_T36 l0 x7_1).f1) 0 2 true _ A9.out).mono ?_); rintro e w' ⟨rfl, ⟨nd, rfl⟩⟩; (try first | exact ⟨rfl, _, World.drewN_drewN _ _ _⟩ | exact ⟨rfl, _, Eq.trans (World.drewN_drewN _ _ _) (congrArg (World.drewN _) (Nat.add_assoc _ _ _))⟩)) | (go_at_call 45; (with_reducible refine (impl_within.calls ((rd_T36 l0 x7_1).f2) 0 100000 true _ A11.out).mono ?_); rintro e w' ⟨rfl, ⟨nd, rfl⟩⟩; (try first | exact ⟨rfl, _, World.drewN_drewN _ _ _⟩ | exact ⟨rfl, _, Eq.trans (World.drewN_drewN _ _ _) (congrArg (World.drewN _) (Nat.add_assoc _ _ _))⟩))))
                      go_roundg k1
                      case measure => have := HK1.out; omega
                      case rel => exact ⟨(wrap64 (x7_1 + 1)), (by first | rfl | (simp; done) | (simp [*]; done)), H', ⟨by have := HK1.out; omega⟩, ⟨oB HB⟩⟩
                  · replace c12 := Bool.eq_false_iff.mpr c12
                    subst c12
                    rw [if_neg (show ¬ (false = true) by decide)] at H
                    obtain rfl := Option.some.inj H
                    have p175 : 0 ≤ (x7_1 : Int) := of_decide_eq_true (by first | (with_reducible assumption) | assumption)
                    have q175 : x7_1 < (l0.length : Int) := of_decide_eq_true (by first | (with_reducible assumption) | assumption)
                    obtain ⟨ad175, e175, hx175_0, hx175_1, hx175_2, hx175_3⟩ := at_T36 HR0.out x7_1 p175 q175
                    cases e175
                    replace hx175_0 := (HB.out.cell (World.block_lt_of_cell? w _ hx175_0)).trans hx175_0
                    replace hx175_1 := (HB.out.cell (World.block_lt_of_cell? w _ hx175_1)).trans hx175_1
                    replace hx175_2 := (HB.out.cell (World.block_lt_of_cell? w _ hx175_2)).trans hx175_2
                    replace hx175_3 := (HB.out.cell (World.block_lt_of_cell? w _ hx175_3)).trans hx175_3
                    replace p175 := eq_true p175
                    replace q175 := eq_true q175
                    go_wp2_with (first | ((with_reducible refine gate_dst (N := 4) rfl ?_); refine box_event ?hg (N := 4) ?hd (cs := #[.int .i64 0, .int .i64 0, .int .i64 0, .int .i64 0]) (t := 36) ?hr ?_; (case hd => rfl); (case hg => rfl); (case hr => first | (go_simp; done) | (go_simp; rfl)); intro gb176 hg w24 hbox hb; have n0_ := Aside0.mk (below_step (oB HB) hb); have n1_ := Aside0.mk (hbox); have n2_ := Aside0.mk ((by rw [hg]; exact (below_size (oB HB)) : w.heap.size ≤ gb176)); have n3_ := Aside0.mk ((by rw [hg]; exact (below_size (oB HB)) : w.heap.size ≤ gb176)); clear HB; have HB := n0_; have BK176 := n1_; have GW176 := n2_; have GE176 := n3_; clear n0_ n1_ n2_ n3_; clear hb hbox hg; have hcz25_0 : w24.cell? ⟨gb176, 0, none⟩ = some (.int .i64 0) := (blk_cell BK176.out 0).trans rfl; have hcz25_1 : w24.cell? ⟨gb176, 1, none⟩ = some (.int .i64 0) := (blk_cell BK176.out 1).trans rfl; have hcz25_2 : w24.cell? ⟨gb176, 2, none⟩ = some (.int .i64 0) := (blk_cell BK176.out 2).trans rfl; have hcz25_3 : w24.cell? ⟨gb176, 3, none⟩ = some (.int .i64 0) := (blk_cell BK176.out 3).trans rfl; have hfz25_0 := blk_frozen BK176.out 0; have hfz25_1 := blk_frozen BK176.out 1; have hfz25_2 := blk_frozen BK176.out 2; have hfz25_3 := blk_frozen BK176.out 3) | (go_at_call 45; (with_reducible refine (impl_within.calls ((rd_T36 l0 x7_1).f0.f0) 0 3 true _ A5.out).mono ?_); rintro e w' ⟨rfl, ⟨nd, rfl⟩⟩; (try first | exact ⟨rfl, _, World.drewN_drewN _ _ _⟩ | exact ⟨rfl, _, Eq.trans (World.drewN_drewN _ _ _) (congrArg (World.drewN _) (Nat.add_assoc _ _ _))⟩)) | (go_at_call 45; (with_reducible refine (impl_within.calls ((rd_T36 l0 x7_1).f0.f1) 0 39 true _ A7.out).mono ?_); rintro e w' ⟨rfl, ⟨nd, rfl⟩⟩; (try first | exact ⟨rfl, _, World.drewN_drewN _ _ _⟩ | exact ⟨rfl, _, Eq.trans (World.drewN_drewN _ _ _) (congrArg (World.drewN _) (Nat.add_assoc _ _ _))⟩)) | (go_at_call 45; (with_reducible refine (impl_within.calls ((rd_T36 l0 x7_1).f1) 0 2 true _ A9.out).mono ?_); rintro e w' ⟨rfl, ⟨nd, rfl⟩⟩; (try first | exact ⟨rfl, _, World.drewN_drewN _ _ _⟩ | exact ⟨rfl, _, Eq.trans (World.drewN_drewN _ _ _) (congrArg (World.drewN _) (Nat.add_assoc _ _ _))⟩)) | (go_at_call 45; (with_reducible refine (impl_within.calls ((rd_T36 l0 x7_1).f2) 0 100000 false _ A11.out).mono ?_); rintro e w' ⟨rfl, ⟨nd, rfl⟩⟩; (try first | exact ⟨rfl, _, World.drewN_drewN _ _ _⟩ | exact ⟨rfl, _, Eq.trans (World.drewN_drewN _ _ _) (congrArg (World.drewN _) (Nat.add_assoc _ _ _))⟩)))
                    repeat (go_quiet (first | ((with_reducible refine gate_dst (N := 4) rfl ?_); refine box_event ?hg (N := 4) ?hd (cs := #[.int .i64 0, .int .i64 0, .int .i64 0, .int .i64 0]) (t := 36) ?hr ?_; (case hd => rfl); (case hg => rfl); (case hr => first | (go_simp; done) | (go_simp; rfl)); intro gb176 hg w24 hbox hb; have n0_ := Aside0.mk (below_step (oB HB) hb); have n1_ := Aside0.mk (hbox); have n2_ := Aside0.mk ((by rw [hg]; exact (below_size (oB HB)) : w.heap.size ≤ gb176)); have n3_ := Aside0.mk ((by rw [hg]; exact (below_size (oB HB)) : w.heap.size ≤ gb176)); clear HB; have HB := n0_; have BK176 := n1_; have GW176 := n2_; have GE176 := n3_; clear n0_ n1_ n2_ n3_; clear hb hbox hg; have hcz25_0 : w24.cell? ⟨gb176, 0, none⟩ = some (.int .i64 0) := (blk_cell BK176.out 0).trans rfl; have hcz25_1 : w24.cell? ⟨gb176, 1, none⟩ = some (.int .i64 0) := (blk_cell BK176.out 1).trans rfl; have hcz25_2 : w24.cell? ⟨gb176, 2, none⟩ = some (.int .i64 0) := (blk_cell BK176.out 2).trans rfl; have hcz25_3 : w24.cell? ⟨gb176, 3, none⟩ = some (.int .i64 0) := (blk_cell BK176.out 3).trans rfl; have hfz25_0 := blk_frozen BK176.out 0; have hfz25_1 := blk_frozen BK176.out 1; have hfz25_2 := blk_frozen BK176.out 2; have hfz25_3 := blk_frozen BK176.out 3) | (go_at_call 45; (with_reducible refine (impl_within.calls ((rd_T36 l0 x7_1).f0.f0) 0 3 true _ A5.out).mono ?_); rintro e w' ⟨rfl, ⟨nd, rfl⟩⟩; (try first | exact ⟨rfl, _, World.drewN_drewN _ _ _⟩ | exact ⟨rfl, _, Eq.trans (World.drewN_drewN _ _ _) (congrArg (World.drewN _) (Nat.add_assoc _ _ _))⟩)) | (go_at_call 45; (with_reducible refine (impl_within.calls ((rd_T36 l0 x7_1).f0.f1) 0 39 true _ A7.out).mono ?_); rintro e w' ⟨rfl, ⟨nd, rfl⟩⟩; (try first | exact ⟨rfl, _, World.drewN_drewN _ _ _⟩ | exact ⟨rfl, _, Eq.trans (World.drewN_drewN _ _ _) (congrArg (World.drewN _) (Nat.add_assoc _ _ _))⟩)) | (go_at_call 45; (with_reducible refine (impl_within.calls ((rd_T36 l0 x7_1).f1) 0 2 true _ A9.out).mono ?_); rintro e w' ⟨rfl, ⟨nd, rfl⟩⟩; (try first | exact ⟨rfl, _, World.drewN_drewN _ _ _⟩ | exact ⟨rfl, _, Eq.trans (World.drewN_drewN _ _ _) (congrArg (World.drewN _) (Nat.add_assoc _ _ _))⟩)) | (go_at_call 45; (with_reducible refine (impl_within.calls ((rd_T36 l0 x7_1).f2) 0 100000 false _ A11.out).mono ?_); rintro e w' ⟨rfl, ⟨nd, rfl⟩⟩; (try first | exact ⟨rfl, _, World.drewN_drewN _ _ _⟩ | exact ⟨rfl, _, Eq.trans (World.drewN_drewN _ _ _) (congrArg (World.drewN _) (Nat.add_assoc _ _ _))⟩))); try go_wp2_with (first | ((with_reducible refine gate_dst (N := 4) rfl ?_); refine box_event ?hg (N := 4) ?hd (cs := #[.int .i64 0, .int .i64 0, .int .i64 0, .int .i64 0]) (t := 36) ?hr ?_; (case hd => rfl); (case hg => rfl); (case hr => first | (go_simp; done) | (go_simp; rfl)); intro gb176 hg w24 hbox hb; have n0_ := Aside0.mk (below_step (oB HB) hb); have n1_ := Aside0.mk (hbox); have n2_ := Aside0.mk ((by rw [hg]; exact (below_size (oB HB)) : w.heap.size ≤ gb176)); have n3_ := Aside0.mk ((by rw [hg]; exact (below_size (oB HB)) : w.heap.size ≤ gb176)); clear HB; have HB := n0_; have BK176 := n1_; have GW176 := n2_; have GE176 := n3_; clear n0_ n1_ n2_ n3_; clear hb hbox hg; have hcz25_0 : w24.cell? ⟨gb176, 0, none⟩ = some (.int .i64 0) := (blk_cell BK176.out 0).trans rfl; have hcz25_1 : w24.cell? ⟨gb176, 1, none⟩ = some (.int .i64 0) := (blk_cell BK176.out 1).trans rfl; have hcz25_2 : w24.cell? ⟨gb176, 2, none⟩ = some (.int .i64 0) := (blk_cell BK176.out 2).trans rfl; have hcz25_3 : w24.cell? ⟨gb176, 3, none⟩ = some (.int .i64 0) := (blk_cell BK176.out 3).trans rfl; have hfz25_0 := blk_frozen BK176.out 0; have hfz25_1 := blk_frozen BK176.out 1; have hfz25_2 := blk_frozen BK176.out 2; have hfz25_3 := blk_frozen BK176.out 3) | (go_at_call 45; (with_reducible refine (impl_within.calls ((rd_T36 l0 x7_1).f0.f0) 0 3 true _ A5.out).mono ?_); rintro e w' ⟨rfl, ⟨nd, rfl⟩⟩; (try first | exact ⟨rfl, _, World.drewN_drewN _ _ _⟩ | exact ⟨rfl, _, Eq.trans (World.drewN_drewN _ _ _) (congrArg (World.drewN _) (Nat.add_assoc _ _ _))⟩)) | (go_at_call 45; (with_reducible refine (impl_within.calls ((rd_T36 l0 x7_1).f0.f1) 0 39 true _ A7.out).mono ?_); rintro e w' ⟨rfl, ⟨nd, rfl⟩⟩; (try first | exact ⟨rfl, _, World.drewN_drewN _ _ _⟩ | exact ⟨rfl, _, Eq.trans (World.drewN_drewN _ _ _) (congrArg (World.drewN _) (Nat.add_assoc _ _ _))⟩)) | (go_at_call 45; (with_reducible refine (impl_within.calls ((rd_T36 l0 x7_1).f1) 0 2 true _ A9.out).mono ?_); rintro e w' ⟨rfl, ⟨nd, rfl⟩⟩; (try first | exact ⟨rfl, _, World.drewN_drewN _ _ _⟩ | exact ⟨rfl, _, Eq.trans (World.drewN_drewN _ _ _) (congrArg (World.drewN _) (Nat.add_assoc _ _ _))⟩)) | (go_at_call 45; (with_reducible refine (impl_within.calls ((rd_T36 l0 x7_1).f2) 0 100000 false _ A11.out).mono ?_); rintro e w' ⟨rfl, ⟨nd, rfl⟩⟩; (try first | exact ⟨rfl, _, World.drewN_drewN _ _ _⟩ | exact ⟨rfl, _, Eq.trans (World.drewN_drewN _ _ _) (congrArg (World.drewN _) (Nat.add_assoc _ _ _))⟩))))
                    go_ret
                    exact ⟨by first | rfl | (simp [errW_none, errW_some] <;> rfl) | (simp [*, errW_none, errW_some] <;> rfl), oB HB⟩
                · replace c10 := Bool.eq_false_iff.mpr c10
                  subst c10
                  rw [if_neg (show ¬ (false = true) by decide)] at H
                  obtain rfl := Option.some.inj H
                  have p175 : 0 ≤ (x7_1 : Int) := of_decide_eq_true (by first | (with_reducible assumption) | assumption)
                  have q175 : x7_1 < (l0.length : Int) := of_decide_eq_true (by first | (with_reducible assumption) | assumption)
                  obtain ⟨ad175, e175, hx175_0, hx175_1, hx175_2, hx175_3⟩ := at_T36 HR0.out x7_1 p175 q175
                  cases e175
                  replace hx175_0 := (HB.out.cell (World.block_lt_of_cell? w _ hx175_0)).trans hx175_0
                  replace hx175_1 := (HB.out.cell (World.block_lt_of_cell? w _ hx175_1)).trans hx175_1
                  replace hx175_2 := (HB.out.cell (World.block_lt_of_cell? w _ hx175_2)).trans hx175_2
                  replace hx175_3 := (HB.out.cell (World.block_lt_of_cell? w _ hx175_3)).trans hx175_3
                  replace p175 := eq_true p175
                  replace q175 := eq_true q175
                  go_wp2_with (first | ((with_reducible refine gate_dst (N := 4) rfl ?_); refine box_event ?hg (N := 4) ?hd (cs := #[.int .i64 0, .int .i64 0, .int .i64 0, .int .i64 0]) (t := 36) ?hr ?_; (case hd => rfl); (case hg => rfl); (case hr => first | (go_simp; done) | (go_simp; rfl)); intro gb176 hg w26 hbox hb; have n0_ := Aside0.mk (below_step (oB HB) hb); have n1_ := Aside0.mk (hbox); have n2_ := Aside0.mk ((by rw [hg]; exact (below_size (oB HB)) : w.heap.size ≤ gb176)); have n3_ := Aside0.mk ((by rw [hg]; exact (below_size (oB HB)) : w.heap.size ≤ gb176)); clear HB; have HB := n0_; have BK176 := n1_; have GW176 := n2_; have GE176 := n3_; clear n0_ n1_ n2_ n3_; clear hb hbox hg; have hcz27_0 : w26.cell? ⟨gb176, 0, none⟩ = some (.int .i64 0) := (blk_cell BK176.out 0).trans rfl; have hcz27_1 : w26.cell? ⟨gb176, 1, none⟩ = some (.int .i64 0) := (blk_cell BK176.out 1).trans rfl; have hcz27_2 : w26.cell? ⟨gb176, 2, none⟩ = some (.int .i64 0) := (blk_cell BK176.out 2).trans rfl; have hcz27_3 : w26.cell? ⟨gb176, 3, none⟩ = some (.int .i64 0) := (blk_cell BK176.out 3).trans rfl; have hfz27_0 := blk_frozen BK176.out 0; have hfz27_1 := blk_frozen BK176.out 1; have hfz27_2 := blk_frozen BK176.out 2; have hfz27_3 := blk_frozen BK176.out 3) | (go_at_call 45; (with_reducible refine (impl_within.calls ((rd_T36 l0 x7_1).f0.f0) 0 3 true _ A5.out).mono ?_); rintro e w' ⟨rfl, ⟨nd, rfl⟩⟩; (try first | exact ⟨rfl, _, World.drewN_drewN _ _ _⟩ | exact ⟨rfl, _, Eq.trans (World.drewN_drewN _ _ _) (congrArg (World.drewN _) (Nat.add_assoc _ _ _))⟩)) | (go_at_call 45; (with_reducible refine (impl_within.calls ((rd_T36 l0 x7_1).f0.f1) 0 39 true _ A7.out).mono ?_); rintro e w' ⟨rfl, ⟨nd, rfl⟩⟩; (try first | exact ⟨rfl, _, World.drewN_drewN _ _ _⟩ | exact ⟨rfl, _, Eq.trans (World.drewN_drewN _ _ _) (congrArg (World.drewN _) (Nat.add_assoc _ _ _))⟩)) | (go_at_call 45; (with_reducible refine (impl_within.calls ((rd_T36 l0 x7_1).f1) 0 2 false _ A9.out).mono ?_); rintro e w' ⟨rfl, ⟨nd, rfl⟩⟩; (try first | exact ⟨rfl, _, World.drewN_drewN _ _ _⟩ | exact ⟨rfl, _, Eq.trans (World.drewN_drewN _ _ _) (congrArg (World.drewN _) (Nat.add_assoc _ _ _))⟩)))
                  repeat (go_quiet (first | ((with_reducible refine gate_dst (N := 4) rfl ?_); refine box_event ?hg (N := 4) ?hd (cs := #[.int .i64 0, .int .i64 0, .int .i64 0, .int .i64 0]) (t := 36) ?hr ?_; (case hd => rfl); (case hg => rfl); (case hr => first | (go_simp; done) | (go_simp; rfl)); intro gb176 hg w26 hbox hb; have n0_ := Aside0.mk (below_step (oB HB) hb); have n1_ := Aside0.mk (hbox); have n2_ := Aside0.mk ((by rw [hg]; exact (below_size (oB HB)) : w.heap.size ≤ gb176)); have n3_ := Aside0.mk ((by rw [hg]; exact (below_size (oB HB)) : w.heap.size ≤ gb176)); clear HB; have HB := n0_; have BK176 := n1_; have GW176 := n2_; have GE176 := n3_; clear n0_ n1_ n2_ n3_; clear hb hbox hg; have hcz27_0 : w26.cell? ⟨gb176, 0, none⟩ = some (.int .i64 0) := (blk_cell BK176.out 0).trans rfl; have hcz27_1 : w26.cell? ⟨gb176, 1, none⟩ = some (.int .i64 0) := (blk_cell BK176.out 1).trans rfl; have hcz27_2 : w26.cell? ⟨gb176, 2, none⟩ = some (.int .i64 0) := (blk_cell BK176.out 2).trans rfl; have hcz27_3 : w26.cell? ⟨gb176, 3, none⟩ = some (.int .i64 0) := (blk_cell BK176.out 3).trans rfl; have hfz27_0 := blk_frozen BK176.out 0; have hfz27_1 := blk_frozen BK176.out 1; have hfz27_2 := blk_frozen BK176.out 2; have hfz27_3 := blk_frozen BK176.out 3) | (go_at_call 45; (with_reducible refine (impl_within.calls ((rd_T36 l0 x7_1).f0.f0) 0 3 true _ A5.out).mono ?_); rintro e w' ⟨rfl, ⟨nd, rfl⟩⟩; (try first | exact ⟨rfl, _, World.drewN_drewN _ _ _⟩ | exact ⟨rfl, _, Eq.trans (World.drewN_drewN _ _ _) (congrArg (World.drewN _) (Nat.add_assoc _ _ _))⟩)) | (go_at_call 45; (with_reducible refine (impl_within.calls ((rd_T36 l0 x7_1).f0.f1) 0 39 true _ A7.out).mono ?_); rintro e w' ⟨rfl, ⟨nd, rfl⟩⟩; (try first | exact ⟨rfl, _, World.drewN_drewN _ _ _⟩ | exact ⟨rfl, _, Eq.trans (World.drewN_drewN _ _ _) (congrArg (World.drewN _) (Nat.add_assoc _ _ _))⟩)) | (go_at_call 45; (with_reducible refine (impl_within.calls ((rd_T36 l0 x7_1).f1) 0 2 false _ A9.out).mono ?_); rintro e w' ⟨rfl, ⟨nd, rfl⟩⟩; (try first | exact ⟨rfl, _, World.drewN_drewN _ _ _⟩ | exact ⟨rfl, _, Eq.trans (World.drewN_drewN _ _ _) (congrArg (World.drewN _) (Nat.add_assoc _ _ _))⟩))); try go_wp2_with (first | ((with_reducible refine gate_dst (N := 4) rfl ?_); refine box_event ?hg (N := 4) ?hd (cs := #[.int .i64 0, .int .i64 0, .int .i64 0, .int .i64 0]) (t := 36) ?hr ?_; (case hd => rfl); (case hg => rfl); (case hr => first | (go_simp; done) | (go_simp; rfl)); intro gb176 hg w26 hbox hb; have n0_ := Aside0.mk (below_step (oB HB) hb); have n1_ := Aside0.mk (hbox); have n2_ := Aside0.mk ((by rw [hg]; exact (below_size (oB HB)) : w.heap.size ≤ gb176)); have n3_ := Aside0.mk ((by rw [hg]; exact (below_size (oB HB)) : w.heap.size ≤ gb176)); clear HB; have HB := n0_; have BK176 := n1_; have GW176 := n2_; have GE176 := n3_; clear n0_ n1_ n2_ n3_; clear hb hbox hg; have hcz27_0 : w26.cell? ⟨gb176, 0, none⟩ = some (.int .i64 0) := (blk_cell BK176.out 0).trans rfl; have hcz27_1 : w26.cell? ⟨gb176, 1, none⟩ = some (.int .i64 0) := (blk_cell BK176.out 1).trans rfl; have hcz27_2 : w26.cell? ⟨gb176, 2, none⟩ = some (.int .i64 0) := (blk_cell BK176.out 2).trans rfl; have hcz27_3 : w26.cell? ⟨gb176, 3, none⟩ = some (.int .i64 0) := (blk_cell BK176.out 3).trans rfl; have hfz27_0 := blk_frozen BK176.out 0; have hfz27_1 := blk_frozen BK176.out 1; have hfz27_2 := blk_frozen BK176.out 2; have hfz27_3 := blk_frozen BK176.out 3) | (go_at_call 45; (with_reducible refine (impl_within.calls ((rd_T36 l0 x7_1).f0.f0) 0 3 true _ A5.out).mono ?_); rintro e w' ⟨rfl, ⟨nd, rfl⟩⟩; (try first | exact ⟨rfl, _, World.drewN_drewN _ _ _⟩ | exact ⟨rfl, _, Eq.trans (World.drewN_drewN _ _ _) (congrArg (World.drewN _) (Nat.add_assoc _ _ _))⟩)) | (go_at_call 45; (with_reducible refine (impl_within.calls ((rd_T36 l0 x7_1).f0.f1) 0 39 true _ A7.out).mono ?_); rintro e w' ⟨rfl, ⟨nd, rfl⟩⟩; (try first | exact ⟨rfl, _, World.drewN_drewN _ _ _⟩ | exact ⟨rfl, _, Eq.trans (World.drewN_drewN _ _ _) (congrArg (World.drewN _) (Nat.add_assoc _ _ _))⟩)) | (go_at_call 45; (with_reducible refine (impl_within.calls ((rd_T36 l0 x7_1).f1) 0 2 false _ A9.out).mono ?_); rintro e w' ⟨rfl, ⟨nd, rfl⟩⟩; (try first | exact ⟨rfl, _, World.drewN_drewN _ _ _⟩ | exact ⟨rfl, _, Eq.trans (World.drewN_drewN _ _ _) (congrArg (World.drewN _) (Nat.add_assoc _ _ _))⟩))))
                  go_ret
                  exact ⟨by first | rfl | (simp [errW_none, errW_some] <;> rfl) | (simp [*, errW_none, errW_some] <;> rfl), oB HB⟩
              · replace c8 := Bool.eq_false_iff.mpr c8
                subst c8
                rw [if_neg (show ¬ (false = true) by decide)] at H
                obtain rfl := Option.some.inj H
                have p175 : 0 ≤ (x7_1 : Int) := of_decide_eq_true (by first | (with_reducible assumption) | assumption)
                have q175 : x7_1 < (l0.length : Int) := of_decide_eq_true (by first | (with_reducible assumption) | assumption)
                obtain ⟨ad175, e175, hx175_0, hx175_1, hx175_2, hx175_3⟩ := at_T36 HR0.out x7_1 p175 q175
                cases e175
                replace hx175_0 := (HB.out.cell (World.block_lt_of_cell? w _ hx175_0)).trans hx175_0
                replace hx175_1 := (HB.out.cell (World.block_lt_of_cell? w _ hx175_1)).trans hx175_1
                replace hx175_2 := (HB.out.cell (World.block_lt_of_cell? w _ hx175_2)).trans hx175_2
                replace hx175_3 := (HB.out.cell (World.block_lt_of_cell? w _ hx175_3)).trans hx175_3
                replace p175 := eq_true p175
                replace q175 := eq_true q175
                go_wp2_with (first | ((with_reducible refine gate_dst (N := 4) rfl ?_); refine box_event ?hg (N := 4) ?hd (cs := #[.int .i64 0, .int .i64 0, .int .i64 0, .int .i64 0]) (t := 36) ?hr ?_; (case hd => rfl); (case hg => rfl); (case hr => first | (go_simp; done) | (go_simp; rfl)); intro gb176 hg w28 hbox hb; have n0_ := Aside0.mk (below_step (oB HB) hb); have n1_ := Aside0.mk (hbox); have n2_ := Aside0.mk ((by rw [hg]; exact (below_size (oB HB)) : w.heap.size ≤ gb176)); have n3_ := Aside0.mk ((by rw [hg]; exact (below_size (oB HB)) : w.heap.size ≤ gb176)); clear HB; have HB := n0_; have BK176 := n1_; have GW176 := n2_; have GE176 := n3_; clear n0_ n1_ n2_ n3_; clear hb hbox hg; have hcz29_0 : w28.cell? ⟨gb176, 0, none⟩ = some (.int .i64 0) := (blk_cell BK176.out 0).trans rfl; have hcz29_1 : w28.cell? ⟨gb176, 1, none⟩ = some (.int .i64 0) := (blk_cell BK176.out 1).trans rfl; have hcz29_2 : w28.cell? ⟨gb176, 2, none⟩ = some (.int .i64 0) := (blk_cell BK176.out 2).trans rfl; have hcz29_3 : w28.cell? ⟨gb176, 3, none⟩ = some (.int .i64 0) := (blk_cell BK176.out 3).trans rfl; have hfz29_0 := blk_frozen BK176.out 0; have hfz29_1 := blk_frozen BK176.out 1; have hfz29_2 := blk_frozen BK176.out 2; have hfz29_3 := blk_frozen BK176.out 3) | (go_at_call 45; (with_reducible refine (impl_within.calls ((rd_T36 l0 x7_1).f0.f0) 0 3 true _ A5.out).mono ?_); rintro e w' ⟨rfl, ⟨nd, rfl⟩⟩; (try first | exact ⟨rfl, _, World.drewN_drewN _ _ _⟩ | exact ⟨rfl, _, Eq.trans (World.drewN_drewN _ _ _) (congrArg (World.drewN _) (Nat.add_assoc _ _ _))⟩)) | (go_at_call 45; (with_reducible refine (impl_within.calls ((rd_T36 l0 x7_1).f0.f1) 0 39 false _ A7.out).mono ?_); rintro e w' ⟨rfl, ⟨nd, rfl⟩⟩; (try first | exact ⟨rfl, _, World.drewN_drewN _ _ _⟩ | exact ⟨rfl, _, Eq.trans (World.drewN_drewN _ _ _) (congrArg (World.drewN _) (Nat.add_assoc _ _ _))⟩)))
                repeat (go_quiet (first | ((with_reducible refine gate_dst (N := 4) rfl ?_); refine box_event ?hg (N := 4) ?hd (cs := #[.int .i64 0, .int .i64 0, .int .i64 0, .int .i64 0]) (t := 36) ?hr ?_; (case hd => rfl); (case hg => rfl); (case hr => first | (go_simp; done) | (go_simp; rfl)); intro gb176 hg w28 hbox hb; have n0_ := Aside0.mk (below_step (oB HB) hb); have n1_ := Aside0.mk (hbox); have n2_ := Aside0.mk ((by rw [hg]; exact (below_size (oB HB)) : w.heap.size ≤ gb176)); have n3_ := Aside0.mk ((by rw [hg]; exact (below_size (oB HB)) : w.heap.size ≤ gb176)); clear HB; have HB := n0_; have BK176 := n1_; have GW176 := n2_; have GE176 := n3_; clear n0_ n1_ n2_ n3_; clear hb hbox hg; have hcz29_0 : w28.cell? ⟨gb176, 0, none⟩ = some (.int .i64 0) := (blk_cell BK176.out 0).trans rfl; have hcz29_1 : w28.cell? ⟨gb176, 1, none⟩ = some (.int .i64 0) := (blk_cell BK176.out 1).trans rfl; have hcz29_2 : w28.cell? ⟨gb176, 2, none⟩ = some (.int .i64 0) := (blk_cell BK176.out 2).trans rfl; have hcz29_3 : w28.cell? ⟨gb176, 3, none⟩ = some (.int .i64 0) := (blk_cell BK176.out 3).trans rfl; have hfz29_0 := blk_frozen BK176.out 0; have hfz29_1 := blk_frozen BK176.out 1; have hfz29_2 := blk_frozen BK176.out 2; have hfz29_3 := blk_frozen BK176.out 3) | (go_at_call 45; (with_reducible refine (impl_within.calls ((rd_T36 l0 x7_1).f0.f0) 0 3 true _ A5.out).mono ?_); rintro e w' ⟨rfl, ⟨nd, rfl⟩⟩; (try first | exact ⟨rfl, _, World.drewN_drewN _ _ _⟩ | exact ⟨rfl, _, Eq.trans (World.drewN_drewN _ _ _) (congrArg (World.drewN _) (Nat.add_assoc _ _ _))⟩)) | (go_at_call 45; (with_reducible refine (impl_within.calls ((rd_T36 l0 x7_1).f0.f1) 0 39 false _ A7.out).mono ?_); rintro e w' ⟨rfl, ⟨nd, rfl⟩⟩; (try first | exact ⟨rfl, _, World.drewN_drewN _ _ _⟩ | exact ⟨rfl, _, Eq.trans (World.drewN_drewN _ _ _) (congrArg (World.drewN _) (Nat.add_assoc _ _ _))⟩))); try go_wp2_with (first | ((with_reducible refine gate_dst (N := 4) rfl ?_); refine box_event ?hg (N := 4) ?hd (cs := #[.int .i64 0, .int .i64 0, .int .i64 0, .int .i64 0]) (t := 36) ?hr ?_; (case hd => rfl); (case hg => rfl); (case hr => first | (go_simp; done) | (go_simp; rfl)); intro gb176 hg w28 hbox hb; have n0_ := Aside0.mk (below_step (oB HB) hb); have n1_ := Aside0.mk (hbox); have n2_ := Aside0.mk ((by rw [hg]; exact (below_size (oB HB)) : w.heap.size ≤ gb176)); have n3_ := Aside0.mk ((by rw [hg]; exact (below_size (oB HB)) : w.heap.size ≤ gb176)); clear HB; have HB := n0_; have BK176 := n1_; have GW176 := n2_; have GE176 := n3_; clear n0_ n1_ n2_ n3_; clear hb hbox hg; have hcz29_0 : w28.cell? ⟨gb176, 0, none⟩ = some (.int .i64 0) := (blk_cell BK176.out 0).trans rfl; have hcz29_1 : w28.cell? ⟨gb176, 1, none⟩ = some (.int .i64 0) := (blk_cell BK176.out 1).trans rfl; have hcz29_2 : w28.cell? ⟨gb176, 2, none⟩ = some (.int .i64 0) := (blk_cell BK176.out 2).trans rfl; have hcz29_3 : w28.cell? ⟨gb176, 3, none⟩ = some (.int .i64 0) := (blk_cell BK176.out 3).trans rfl; have hfz29_0 := blk_frozen BK176.out 0; have hfz29_1 := blk_frozen BK176.out 1; have hfz29_2 := blk_frozen BK176.out 2; have hfz29_3 := blk_frozen BK176.out 3) | (go_at_call 45; (with_reducible refine (impl_within.calls ((rd_T36 l0 x7_1).f0.f0) 0 3 true _ A5.out).mono ?_); rintro e w' ⟨rfl, ⟨nd, rfl⟩⟩; (try first | exact ⟨rfl, _, World.drewN_drewN _ _ _⟩ | exact ⟨rfl, _, Eq.trans (World.drewN_drewN _ _ _) (congrArg (World.drewN _) (Nat.add_assoc _ _ _))⟩)) | (go_at_call 45; (with_reducible refine (impl_within.calls ((rd_T36 l0 x7_1).f0.f1) 0 39 false _ A7.out).mono ?_); rintro e w' ⟨rfl, ⟨nd, rfl⟩⟩; (try first | exact ⟨rfl, _, World.drewN_drewN _ _ _⟩ | exact ⟨rfl, _, Eq.trans (World.drewN_drewN _ _ _) (congrArg (World.drewN _) (Nat.add_assoc _ _ _))⟩))))
                go_ret
                exact ⟨by first | rfl | (simp [errW_none, errW_some] <;> rfl) | (simp [*, errW_none, errW_some] <;> rfl), oB HB⟩
            · replace c6 := Bool.eq_false_iff.mpr c6
              subst c6
              rw [if_neg (show ¬ (false = true) by decide)] at H
              obtain rfl := Option.some.inj H
              have p175 : 0 ≤ (x7_1 : Int) := of_decide_eq_true (by first | (with_reducible assumption) | assumption)
              have q175 : x7_1 < (l0.length : Int) := of_decide_eq_true (by first | (with_reducible assumption) | assumption)
              obtain ⟨ad175, e175, hx175_0, hx175_1, hx175_2, hx175_3⟩ := at_T36 HR0.out x7_1 p175 q175
              cases e175
              replace hx175_0 := (HB.out.cell (World.block_lt_of_cell? w _ hx175_0)).trans hx175_0
              replace hx175_1 := (HB.out.cell (World.block_lt_of_cell? w _ hx175_1)).trans hx175_1
              replace hx175_2 := (HB.out.cell (World.block_lt_of_cell? w _ hx175_2)).trans hx175_2
              replace hx175_3 := (HB.out.cell (World.block_lt_of_cell? w _ hx175_3)).trans hx175_3
              replace p175 := eq_true p175
              replace q175 := eq_true q175
              go_wp2_with (first | ((with_reducible refine gate_dst (N := 4) rfl ?_); refine box_event ?hg (N := 4) ?hd (cs := #[.int .i64 0, .int .i64 0, .int .i64 0, .int .i64 0]) (t := 36) ?hr ?_; (case hd => rfl); (case hg => rfl); (case hr => first | (go_simp; done) | (go_simp; rfl)); intro gb176 hg w30 hbox hb; have n0_ := Aside0.mk (below_step (oB HB) hb); have n1_ := Aside0.mk (hbox); have n2_ := Aside0.mk ((by rw [hg]; exact (below_size (oB HB)) : w.heap.size ≤ gb176)); have n3_ := Aside0.mk ((by rw [hg]; exact (below_size (oB HB)) : w.heap.size ≤ gb176)); clear HB; have HB := n0_; have BK176 := n1_; have GW176 := n2_; have GE176 := n3_; clear n0_ n1_ n2_ n3_; clear hb hbox hg; have hcz31_0 : w30.cell? ⟨gb176, 0, none⟩ = some (.int .i64 0) := (blk_cell BK176.out 0).trans rfl; have hcz31_1 : w30.cell? ⟨gb176, 1, none⟩ = some (.int .i64 0) := (blk_cell BK176.out 1).trans rfl; have hcz31_2 : w30.cell? ⟨gb176, 2, none⟩ = some (.int .i64 0) := (blk_cell BK176.out 2).trans rfl; have hcz31_3 : w30.cell? ⟨gb176, 3, none⟩ = some (.int .i64 0) := (blk_cell BK176.out 3).trans rfl; have hfz31_0 := blk_frozen BK176.out 0; have hfz31_1 := blk_frozen BK176.out 1; have hfz31_2 := blk_frozen BK176.out 2; have hfz31_3 := blk_frozen BK176.out 3) | (go_at_call 45; (with_reducible refine (impl_within.calls ((rd_T36 l0 x7_1).f0.f0) 0 3 false _ A5.out).mono ?_); rintro e w' ⟨rfl, ⟨nd, rfl⟩⟩; (try first | exact ⟨rfl, _, World.drewN_drewN _ _ _⟩ | exact ⟨rfl, _, Eq.trans (World.drewN_drewN _ _ _) (congrArg (World.drewN _) (Nat.add_assoc _ _ _))⟩)))
              repeat (go_quiet (first | ((with_reducible refine gate_dst (N := 4) rfl ?_); refine box_event ?hg (N := 4) ?hd (cs := #[.int .i64 0, .int .i64 0, .int .i64 0, .int .i64 0]) (t := 36) ?hr ?_; (case hd => rfl); (case hg => rfl); (case hr => first | (go_simp; done) | (go_simp; rfl)); intro gb176 hg w30 hbox hb; have n0_ := Aside0.mk (below_step (oB HB) hb); have n1_ := Aside0.mk (hbox); have n2_ := Aside0.mk ((by rw [hg]; exact (below_size (oB HB)) : w.heap.size ≤ gb176)); have n3_ := Aside0.mk ((by rw [hg]; exact (below_size (oB HB)) : w.heap.size ≤ gb176)); clear HB; have HB := n0_; have BK176 := n1_; have GW176 := n2_; have GE176 := n3_; clear n0_ n1_ n2_ n3_; clear hb hbox hg; have hcz31_0 : w30.cell? ⟨gb176, 0, none⟩ = some (.int .i64 0) := (blk_cell BK176.out 0).trans rfl; have hcz31_1 : w30.cell? ⟨gb176, 1, none⟩ = some (.int .i64 0) := (blk_cell BK176.out 1).trans rfl; have hcz31_2 : w30.cell? ⟨gb176, 2, none⟩ = some (.int .i64 0) := (blk_cell BK176.out 2).trans rfl; have hcz31_3 : w30.cell? ⟨gb176, 3, none⟩ = some (.int .i64 0) := (blk_cell BK176.out 3).trans rfl; have hfz31_0 := blk_frozen BK176.out 0; have hfz31_1 := blk_frozen BK176.out 1; have hfz31_2 := blk_frozen BK176.out 2; have hfz31_3 := blk_frozen BK176.out 3) | (go_at_call 45; (with_reducible refine (impl_within.calls ((rd_T36 l0 x7_1).f0.f0) 0 3 false _ A5.out).mono ?_); rintro e w' ⟨rfl, ⟨nd, rfl⟩⟩; (try first | exact ⟨rfl, _, World.drewN_drewN _ _ _⟩ | exact ⟨rfl, _, Eq.trans (World.drewN_drewN _ _ _) (congrArg (World.drewN _) (Nat.add_assoc _ _ _))⟩))); try go_wp2_with (first | ((with_reducible refine gate_dst (N := 4) rfl ?_); refine box_event ?hg (N := 4) ?hd (cs := #[.int .i64 0, .int .i64 0, .int .i64 0, .int .i64 0]) (t := 36) ?hr ?_; (case hd => rfl); (case hg => rfl); (case hr => first | (go_simp; done) | (go_simp; rfl)); intro gb176 hg w30 hbox hb; have n0_ := Aside0.mk (below_step (oB HB) hb); have n1_ := Aside0.mk (hbox); have n2_ := Aside0.mk ((by rw [hg]; exact (below_size (oB HB)) : w.heap.size ≤ gb176)); have n3_ := Aside0.mk ((by rw [hg]; exact (below_size (oB HB)) : w.heap.size ≤ gb176)); clear HB; have HB := n0_; have BK176 := n1_; have GW176 := n2_; have GE176 := n3_; clear n0_ n1_ n2_ n3_; clear hb hbox hg; have hcz31_0 : w30.cell? ⟨gb176, 0, none⟩ = some (.int .i64 0) := (blk_cell BK176.out 0).trans rfl; have hcz31_1 : w30.cell? ⟨gb176, 1, none⟩ = some (.int .i64 0) := (blk_cell BK176.out 1).trans rfl; have hcz31_2 : w30.cell? ⟨gb176, 2, none⟩ = some (.int .i64 0) := (blk_cell BK176.out 2).trans rfl; have hcz31_3 : w30.cell? ⟨gb176, 3, none⟩ = some (.int .i64 0) := (blk_cell BK176.out 3).trans rfl; have hfz31_0 := blk_frozen BK176.out 0; have hfz31_1 := blk_frozen BK176.out 1; have hfz31_2 := blk_frozen BK176.out 2; have hfz31_3 := blk_frozen BK176.out 3) | (go_at_call 45; (with_reducible refine (impl_within.calls ((rd_T36 l0 x7_1).f0.f0) 0 3 false _ A5.out).mono ?_); rintro e w' ⟨rfl, ⟨nd, rfl⟩⟩; (try first | exact ⟨rfl, _, World.drewN_drewN _ _ _⟩ | exact ⟨rfl, _, Eq.trans (World.drewN_drewN _ _ _) (congrArg (World.drewN _) (Nat.add_assoc _ _ _))⟩))))
              go_ret
              exact ⟨by first | rfl | (simp [errW_none, errW_some] <;> rfl) | (simp [*, errW_none, errW_some] <;> rfl), oB HB⟩
          · rw [if_neg c4] at H
            exact absurd H (by simp)
        · rw [if_neg c3] at H
          exact absurd H (by simp)
      · rw [if_neg c2] at H
        have c2b0 : decide (x7_1 < (l0.length : Int)) = false := decide_eq_false c2
        clear c2
        obtain rfl := Option.some.inj H
        go_wp2
        repeat (go_quiet (fail); try go_wp2)
        go_ret
        exact ⟨by first | rfl | (simp [errW_none, errW_some] <;> rfl) | (simp [*, errW_none, errW_some] <;> rfl), oB HB⟩
end Go.Proofs.Ytnknnbpodpfljaa.P


namespace Go.Proofs.Ytnknnbpodpfljaa.Q
set_option linter.unusedVariables false
set_option linter.unusedSimpArgs false
open Go.RowKit Go.Proofs.Ytnknnbpodpfljaa.P Go.Proofs.YtnknnbpodpfljaaW.PrintWords Go.Proofs.YtnknnbpodpfljaaW.PrintMore
def entOk (e : S36) : Bool := decide (0 ≤ e.f0.f0 ∧ e.f0.f0 ≤ 3) && (decide (0 ≤ e.f0.f1 ∧ e.f0.f1 ≤ 39) && (decide (0 ≤ e.f1 ∧ e.f1 ≤ 2) && decide (0 ≤ e.f2 ∧ e.f2 ≤ 100000)))
def logGo : Int → List S36 → Bool
  | _, [] => true
  | p, e :: r => entOk e && (decide (p ≤ e.f2) && logGo e.f2 r)
def logOk (l : List S36) : Bool := logGo 0 l && decide (l.length ≤ 30)
def prevM (l : List S36) (i : Nat) : Int := if i = 0 then 0 else (l.getD (i - 1) z36).f2
theorem prevM_succ (l : List S36) (i : Nat) (h : i < l.length) : prevM l (i + 1) = l[i].f2 := by simp [prevM, List.getD_eq_getElem?_getD, h]
theorem prevM_pos (l : List S36) (i : Nat) (h0 : 0 < i) (h : i < l.length) : prevM l i = l[i - 1].f2 := by
  simp [prevM, List.getD_eq_getElem?_getD, show i ≠ 0 by omega, show i - 1 < l.length by omega]
theorem logOk_spec (l : List S36) (hl : l.length ≤ 1048577) : Ev (fun k => spec_LogOk.f k l) (logOk l) := by
  have key : ∀ i, i ≤ l.length → Ev (fun k => spec_LogOk.l0 k l (i : Int)) (logGo (prevM l i) (l.drop i) && decide (l.length ≤ 30)) := by
    refine down (n := l.length) ?_ ?_
    · refine Ev.step (fun k => by rw [spec_LogOk.l0]) (evn (by omega) (evs ?_))
      rw [drop_end]
      simp [logGo]; omega
    · intro i hi ih
      refine Ev.step (fun k => by rw [spec_LogOk.l0]) (evp (by omega) (evp (by omega) ?_))
      rw [rdE l i hi, drop_cons l i hi, logGo]
      refine evb (l01In_eq _ _ _) ?_
      by_cases h1 : 0 ≤ l[i].f0.f0 ∧ l[i].f0.f0 ≤ 3
      rotate_left
      · exact evn (by simpa using h1) (evs (by simp [entOk, h1]))
      refine evp (by simpa using h1) (evb (l01In_eq _ _ _) ?_)
      by_cases h2 : 0 ≤ l[i].f0.f1 ∧ l[i].f0.f1 ≤ 39
      rotate_left
      · exact evn (by simpa using h2) (evs (by simp [entOk, h2]))
      refine evp (by simpa using h2) (evb (l01In_eq _ _ _) ?_)
      by_cases h3 : 0 ≤ l[i].f1 ∧ l[i].f1 ≤ 2
      rotate_left
      · exact evn (by simpa using h3) (evs (by simp [entOk, h3]))
      refine evp (by simpa using h3) (evb (l01In_eq _ _ _) ?_)
      by_cases h4 : 0 ≤ l[i].f2 ∧ l[i].f2 ≤ 100000
      rotate_left
      · exact evn (by simpa using h4) (evs (by simp [entOk, h4]))
      refine evp (by simpa using h4) ?_
      have hE : entOk l[i] = true := by simp [entOk, h1, h2, h3, h4]
      rw [hE, Bool.true_and]
      have hp : prevM l (i + 1) = l[i].f2 := prevM_succ l i hi
      rw [hp] at ih
      rw [w64 (n := (i : Int) + 1) (by omega) (by omega)]
      by_cases h0 : 0 < i
      · refine evp (by omega) ?_
        rw [w64 (n := (i : Int) - 1) (by omega) (by omega)]
        refine evp (by omega) (evp (by omega) ?_)
        have e1 : (i : Int) - 1 = ((i - 1 : Nat) : Int) := by omega
        rw [e1, rdE l (i - 1) (by omega)]
        have e2 : prevM l i = l[i - 1].f2 := prevM_pos l i h0 hi
        by_cases h5 : l[i - 1].f2 ≤ l[i].f2
        · refine evn (by omega) ?_
          rw [e2]; simp only [h5, decide_true, Bool.true_and]
          exact ih
        · refine evp (by omega) (evs ?_)
          rw [e2]; simp [h5]
      · refine evn (by omega) ?_
        have e2 : prevM l i = 0 := by obtain rfl : i = 0 := by omega
                                      rfl
        rw [e2]; simp only [h4.1, decide_true, Bool.true_and]
        exact ih
  exact key 0 (Nat.zero_le _)
theorem logOk_impl (l : List S36) (hl : l.length ≤ 1048577) : Ev (fun k => impl_LogOk.f k l) (logOk l) := by
  have key : ∀ i, i ≤ l.length → Ev (fun k => impl_LogOk.l0 k l l (l.length : Int) (i : Int)) (logGo (prevM l i) (l.drop i) && decide (l.length ≤ 30)) := by
    refine down (n := l.length) ?_ ?_
    · refine Ev.step (fun k => by rw [impl_LogOk.l0]) (evn (by omega) (evs ?_))
      rw [drop_end]
      simp [logGo]; omega
    · intro i hi ih
      refine Ev.step (fun k => by rw [impl_LogOk.l0]) (evp (by omega) (evp (by omega) (evp (by omega) ?_)))
      rw [rdE l i hi, drop_cons l i hi, logGo]
      refine evb (within_eq _ _ _) ?_
      by_cases h1 : 0 ≤ l[i].f0.f0 ∧ l[i].f0.f0 ≤ 3
      rotate_left
      · exact evn (by simpa using h1) (evs (by simp [entOk, h1]))
      refine evp (by simpa using h1) (evb (within_eq _ _ _) ?_)
      by_cases h2 : 0 ≤ l[i].f0.f1 ∧ l[i].f0.f1 ≤ 39
      rotate_left
      · exact evn (by simpa using h2) (evs (by simp [entOk, h2]))
      refine evp (by simpa using h2) (evb (within_eq _ _ _) ?_)
      by_cases h3 : 0 ≤ l[i].f1 ∧ l[i].f1 ≤ 2
      rotate_left
      · exact evn (by simpa using h3) (evs (by simp [entOk, h3]))
      refine evp (by simpa using h3) (evb (within_eq _ _ _) ?_)
      by_cases h4 : 0 ≤ l[i].f2 ∧ l[i].f2 ≤ 100000
      rotate_left
      · exact evn (by simpa using h4) (evs (by simp [entOk, h4]))
      refine evp (by simpa using h4) ?_
      have hE : entOk l[i] = true := by simp [entOk, h1, h2, h3, h4]
      rw [hE, Bool.true_and]
      have hp : prevM l (i + 1) = l[i].f2 := prevM_succ l i hi
      rw [hp] at ih
      rw [w64 (n := (i : Int) + 1) (by omega) (by omega)]
      by_cases h0 : 0 < i
      · refine evp (by omega) ?_
        rw [w64 (n := (i : Int) - 1) (by omega) (by omega)]
        refine evp (by omega) (evp (by omega) ?_)
        have e1 : (i : Int) - 1 = ((i - 1 : Nat) : Int) := by omega
        rw [e1, rdE l (i - 1) (by omega)]
        have e2 : prevM l i = l[i - 1].f2 := prevM_pos l i h0 hi
        by_cases h5 : l[i - 1].f2 ≤ l[i].f2
        · refine evn (by omega) ?_
          rw [e2]; simp only [h5, decide_true, Bool.true_and]
          exact ih
        · refine evp (by omega) (evs ?_)
          rw [e2]; simp [h5]
      · refine evn (by omega) ?_
        have e2 : prevM l i = 0 := by obtain rfl : i = 0 := by omega
                                      rfl
        rw [e2]; simp only [h4.1, decide_true, Bool.true_and]
        exact ih
  exact key 0 (Nat.zero_le _)
end Go.Proofs.Ytnknnbpodpfljaa.Q


namespace Go.Proofs.Ytnknnbpodpfljaa.P
open Go.RowKit Go.Proofs.YtnknnbpodpfljaaW.PrintWords Go.Proofs.YtnknnbpodpfljaaW.PrintLast Go.Proofs.YtnknnbpodpfljaaW.PrintMore
open Go.Maps (Keyed)
set_option linter.unusedVariables false
set_option linter.unusedSimpArgs false
theorem mapLaidOut : laidOutB Try.prog = true := by kernel_rfl
theorem pipeLaw : WideMaps.KeyLaw Try.prog 31 := deep_law_gate mapLaidOut (of_decide_eq_true (by kernel_rfl)) (of_decide_eq_true (by kernel_rfl)) (by kernel_rfl) (by kernel_rfl)
theorem pipeKeyed : Keyed Try.prog 31 := Keyed.of_law pipeLaw
def wf64 (a : Int) : Prop := (Lit.int .i64 a).wf = true
theorem wf64_of {a : Int} (h : -9223372036854775808 ≤ a) (h2 : a ≤ 9223372036854775807) : wf64 a := by
  have e1 : IntKind.i64.min = -9223372036854775808 := by decide
  have e2 : IntKind.i64.max = 9223372036854775807 := by decide
  unfold wf64 Lit.wf
  simp [e1, e2]
  omega
def pairV (a b : Int) : Value := .agg #[.int .i64 a, .int .i64 b]
def quadV (x : S36) : Value := .agg #[.int .i64 x.f0.f0, .int .i64 x.f0.f1, .int .i64 x.f1, .int .i64 x.f2]
theorem pipe_cells : Try.prog.cellsOf 31 = 2 := by kernel_rfl
theorem int_cells : Try.prog.cellsOf 3 = 1 := by kernel_rfl
theorem types_succ : ∃ m, Try.prog.types.size = m + 1 := ⟨Try.prog.types.size - 1, by have : 0 < Try.prog.types.size := of_decide_eq_true (by kernel_rfl); omega⟩
theorem keyLits_int (m : Nat) (v : Value) : Try.prog.keyLits (m + 1) 3 [v] = (match v with | .int q' n => if q' = .i64 ∧ (Lit.int .i64 n).wf = true then some [.int .i64 n] else none | _ => none) := by
  simp only [Program.keyLits, Try.underlying3]
  cases v <;> rfl
def pipeL (a b : Int) : Lit := .string (keyBytes [.int .i64 a, .int .i64 b])
theorem keyOf_pipe {a b : Int} (ha : wf64 a) (hb : wf64 b) : keyOf Try.prog 31 (pairV a b) = some (pipeL a b) := by
  obtain ⟨m, hm⟩ := types_succ
  have kt : Try.prog.keyType 31 = true := by kernel_rfl
  unfold wf64 at ha hb
  have fm : (pairV a b).formed Try.prog 31 = true := by simp [pairV, Value.formed, Try.underlying31, pipe_cells]
  have hl : Try.prog.keyLits (m + 1 + 1) 31 [.int .i64 a, .int .i64 b] = some [.int .i64 a, .int .i64 b] := by
    unfold Program.keyLits
    simp only [Try.underlying31]
    simp [pipe_cells, int_cells, keyLits_int, ha, hb]
  rw [← hm] at hl
  unfold keyOf
  simp only [Try.underlying31, kt, fm, Bool.and_self, if_true, Option.map_eq_some_iff]
  exact ⟨_, hl, rfl⟩
theorem keyOf_pipe_inv {v : Value} {l : Lit} (h : keyOf Try.prog 31 v = some l) : ∃ a b, v = pairV a b ∧ wf64 a ∧ wf64 b := by
  obtain ⟨m, hm⟩ := types_succ
  have kt : Try.prog.keyType 31 = true := by kernel_rfl
  unfold keyOf at h
  simp only [Try.underlying31, kt, Bool.true_and] at h
  split at h
  case isFalse => cases h
  case isTrue hf =>
    cases v <;> simp [Value.formed, Try.underlying31, pipe_cells] at hf
    rename_i cs
    obtain ⟨c0, c1, rfl⟩ : ∃ c0 c1, cs = #[c0, c1] := by
      rcases cs with ⟨_ | ⟨x, _ | ⟨y, _ | ⟨z, t⟩⟩⟩⟩ <;> simp at hf ⊢
    simp only [Option.map_eq_some_iff] at h
    obtain ⟨ls, h, _⟩ := h
    rw [hm] at h
    replace h : Try.prog.keyLits (m + 1 + 1) 31 [c0, c1] = some ls := h
    unfold Program.keyLits at h
    simp only [Try.underlying31] at h
    simp [pipe_cells, int_cells, keyLits_int] at h
    cases c0 <;> simp at h
    rename_i k0 n0
    by_cases e0 : k0 = .i64 ∧ (Lit.int .i64 n0).wf = true
    · obtain ⟨rfl, e0⟩ := e0
      cases c1 <;> simp [e0] at h
      rename_i k1 n1
      by_cases e1 : k1 = .i64 ∧ (Lit.int .i64 n1).wf = true
      · obtain ⟨rfl, e1⟩ := e1
        exact ⟨_, _, rfl, e0, e1⟩
      · simp [e1] at h
    · simp [e0] at h
instance pipeDec : DecidableEq S31 := fun a b => decidable_of_iff (a.f0 = b.f0 ∧ a.f1 = b.f1) ⟨fun h => by obtain ⟨x, y⟩ := a; obtain ⟨z, u⟩ := b; simp only at h; obtain ⟨rfl, rfl⟩ := h; rfl, fun h => by rw [h]; exact ⟨rfl, rfl⟩⟩
abbrev pipeR (v : Value) : Option (DataW Unit × List MemPlace) :=
  match v with
  | .agg ⟨[.int .i64 a, .int .i64 b, .int .i64 c, .int .i64 d]⟩ => some (.agg [.lit (.int .i64 a), .lit (.int .i64 b), .lit (.int .i64 c), .lit (.int .i64 d)], [])
  | _ => none
def quadD (x : S36) : DataW Unit := .agg [.lit (.int .i64 x.f0.f0), .lit (.int .i64 x.f0.f1), .lit (.int .i64 x.f1), .lit (.int .i64 x.f2)]
theorem pipeR_mk (x : S36) : pipeR (quadV x) = some (quadD x, []) := rfl
theorem pipeR_inv {v : Value} {y : DataW Unit × List MemPlace} (h : pipeR v = some y) : ∃ x : S36, v = quadV x ∧ y = (quadD x, []) := by
  unfold pipeR at h
  split at h
  · exact ⟨⟨⟨_, _⟩, _, _⟩, rfl, (Option.some.inj h).symm⟩
  · cases h
theorem quadD_inj {x y : S36} (h : quadD x = quadD y) : x = y := by
  obtain ⟨⟨a, b⟩, c, d⟩ := x
  obtain ⟨⟨a', b'⟩, c', d'⟩ := y
  simp [quadD] at h
  obtain ⟨rfl, rfl, rfl, rfl⟩ := h
  rfl
structure MapIs (D : DataW Unit) (m : S31 → Option S36) : Prop where
  isMap : Maps.IsMap D
  at_ : ∀ p : S31, wf64 p.f0 → wf64 p.f1 → ∀ z, D.atKey (pipeL p.f0 p.f1) z = ((m p).map quadD).getD z
theorem mapIs_empty : MapIs (.map []) (fun _ => none) := ⟨Maps.isMap_empty, fun _ _ _ _ => rfl⟩
theorem pipeL_inj {a b a' b' : Int} (ha : wf64 a) (hb : wf64 b) (ha' : wf64 a') (hb' : wf64 b') (h : pipeL a b = pipeL a' b') : a = a' ∧ b = b' := by
  have h1 := keyOf_pipe ha hb
  have h2 := keyOf_pipe ha' hb'
  rw [← h] at h2
  have e := pipeKeyed.inj h1 h2
  simp [pairV] at e
  exact e
theorem MapIs.put {D : DataW Unit} {m : S31 → Option S36} (h : MapIs D m) (p : S31) (ha : wf64 p.f0) (hb : wf64 p.f1) (x : S36) :
    MapIs (D.put (pipeL p.f0 p.f1) (quadD x)) (fun q => if q = p then some x else m q) := by
  refine ⟨h.isMap.put _ _, fun q hq0 hq1 z => ?_⟩
  by_cases e : q = p
  · subst e
    rw [Maps.atKey_put_same h.isMap (pipeKeyed.key (keyOf_pipe ha hb))]
    simp
  · have hne : pipeL q.f0 q.f1 ≠ pipeL p.f0 p.f1 := fun hh => e (by
      have := pipeL_inj hq0 hq1 ha hb hh
      obtain ⟨a, b⟩ := q
      obtain ⟨c, d⟩ := p
      simp only at this
      obtain ⟨rfl, rfl⟩ := this
      rfl)
    rw [Maps.atKey_put_other hne, h.at_ q hq0 hq1]
    simp [e]
def lastMap (l : List S36) (p : S31) : Option S36 := l.foldl (fun o x => if p = x.f0 then some x else o) none
theorem lastMap_snoc (l : List S36) (x : S36) : lastMap (l ++ [x]) = fun q => if q = x.f0 then some x else lastMap l q := by
  funext q
  simp [lastMap]
abbrev pipeMap (w : World) (b n : Nat) (l : List S36) : Prop := ∃ D, w.ownsMap Try.prog 31 pipeR b n D ∧ MapIs D (lastMap l)
end Go.Proofs.Ytnknnbpodpfljaa.P


namespace Go.Proofs.Ytnknnbpodpfljaa.P
set_option linter.unusedVariables false
set_option linter.unusedSimpArgs false
open Go.RowKit Go.Proofs.YtnknnbpodpfljaaW.PrintWords
theorem logOk_all {l : List S36} (h : Q.logOk l = true) : l.length ≤ 30 ∧ (∀ x ∈ l, wf64 x.f0.f0 ∧ wf64 x.f0.f1) ∧ ∀ x ∈ l, 0 ≤ x.f1 ∧ x.f1 ≤ 2 := by
  have h1 : l.length ≤ 30 := by simp [Q.logOk] at h; exact h.2
  have h2 : Q.logGo 0 l = true := by simp [Q.logOk] at h; exact h.1
  have key : ∀ (l : List S36) (p : Int), Q.logGo p l = true → ∀ x ∈ l, (wf64 x.f0.f0 ∧ wf64 x.f0.f1) ∧ 0 ≤ x.f1 ∧ x.f1 ≤ 2 := by
    intro l
    induction l with
    | nil => intro p _ x hx; cases hx
    | cons e r ih =>
      intro p h x hx
      simp only [Q.logGo, Bool.and_eq_true] at h
      rcases List.mem_cons.1 hx with rfl | hx
      · have := h.1
        simp [Q.entOk] at this
        exact ⟨⟨wf64_of (by omega) (by omega), wf64_of (by omega) (by omega)⟩, by omega, by omega⟩
      · exact ih _ h.2.2 x hx
  exact ⟨h1, fun x hx => (key l 0 h2 x hx).1, fun x hx => (key l 0 h2 x hx).2⟩
end Go.Proofs.Ytnknnbpodpfljaa.P


namespace Go.Proofs.Ytnknnbpodpfljaa.P
open Go.RowKit Go.Proofs.YtnknnbpodpfljaaW.PrintWords Go.Proofs.YtnknnbpodpfljaaW.PrintLast Go.Proofs.YtnknnbpodpfljaaW.PrintMore
open Go.Maps (Keyed)
set_option linter.unusedVariables false
set_option linter.unusedSimpArgs false
set_option maxHeartbeats 4000000 in
set_option maxRecDepth 100000 in
theorem impl_lastOf.calls (A0 : Option Addr) (c0 : Nat) (l0 : List S36) (w : World) (hr0 : Kd.C k36 w A0 l0.length l0) (hc0 : l0.length ≤ c0) (hl : l0.length ≤ 1000) (hw : ∀ x ∈ l0, wf64 x.f0.f0 ∧ wf64 x.f0.f1) :
    Calls Try.prog 43 #[.slice A0 l0.length c0] w fun e w' => ∃ b : Nat, e = .returned (.map (some b)) ∧ w.heap.size ≤ b ∧ pipeMap w' b l0.length l0 ∧ Below w.heap.size w w' := by
  have HR0 := Aside0.mk hr0
  have HW := Aside0.mk hw
  have HB := Aside0.mk (Below.refl w.heap.size w)
  clear hr0 hw
  have hown0 := World.ownsMap_made w Try.prog 31 pipeR
  have HO := Aside0.mk hown0
  clear hown0
  have hmm := @run_makeMap Try.prog
  go_enter Try.func43, Try.ntmps43
  go_wp2
  go_loopg [9] (l0.length + 1) (fun kq v9 w' => ∃ (i : Nat), v9 = .int .i64 (i : Int) ∧ Aside0 (i + kq = l0.length + 1) ∧ Aside0 (i ≤ l0.length) ∧ Aside0 (pipeMap w' w.heap.size i (l0.take i)) ∧ Aside0 (Below w.heap.size w w'))
  case atStart =>
    exact ⟨0, rfl, ⟨by omega⟩, ⟨by omega⟩, ⟨⟨_, HO.out, mapIs_empty⟩⟩, ⟨below_alloc HB.out _⟩⟩
  case round =>
    clear HB HO
    obtain ⟨i, rfl, HI1, HI2, HM, HB⟩ := hrel
    by_cases hlt : i < l0.length
    · have hb3 : decide ((i : Int) < (l0.length : Int)) = true := decide_eq_true (by omega)
      have hb4 : decide (i < l0.length) = true := decide_eq_true (by omega)
      obtain ⟨ad, e, hx0, hx1, hx2, hx3⟩ := at_T36 HR0.out (i : Int) (by omega) (by omega)
      cases e
      replace hx0 := (HB.out.cell (World.block_lt_of_cell? w _ hx0)).trans hx0
      replace hx1 := (HB.out.cell (World.block_lt_of_cell? w _ hx1)).trans hx1
      replace hx2 := (HB.out.cell (World.block_lt_of_cell? w _ hx2)).trans hx2
      replace hx3 := (HB.out.cell (World.block_lt_of_cell? w _ hx3)).trans hx3
      obtain ⟨x, hx⟩ : ∃ x, rd_T36 l0 (i : Int) = x := ⟨_, rfl⟩
      rw [hx] at hx0 hx1 hx2 hx3
      simp only [Int.toNat_natCast] at hx0 hx1 hx2 hx3
      have e0 : l0[i] = x := by rw [← hx]; simp [rd_T36, List.getD_eq_getElem?_getD, hlt]
      obtain ⟨q1, q2⟩ := HW.out x (by rw [← e0]; exact List.getElem_mem hlt)
      have HT : Aside0 (l0.take (i + 1) = l0.take i ++ [x]) := ⟨by rw [List.take_succ_eq_append_getElem hlt, e0]⟩
      have HQ := Aside0.mk q1
      have HQ2 := Aside0.mk q2
      obtain ⟨D, hD, hD2⟩ := HM.out
      have HD := Aside0.mk hD
      have HD2 := Aside0.mk hD2
      have HLT := Aside0.mk hlt
      clear hx e0 q1 q2 HM hD hD2
      go_wp2_with (first | (at_mapUpdate; refine wpList_mapUpdate_own _ rfl _ _ _ 60 rfl 31 36 pipeKeyed Try.underlying60 pipeR w.heap.size i D rfl (HD.out.alloc _) (show i < maxLen from Nat.lt_of_le_of_lt (show i ≤ 1000 by omega) (by decide)) (pairV x.f0.f0 x.f0.f1) (quadV x) _ rfl rfl (keyOf_pipe HQ.out HQ2.out) (quadD x) [] (pipeR_mk x) ?_; intro w2 h2 hg2; have H2 := Aside0.mk h2; have HG2 := Aside0.mk hg2; clear h2 hg2))
      go_roundg (l0.length - i)
      case measure => have := HI1.out; omega
      case rel =>
        refine ⟨i + 1, by go_num, ⟨by omega⟩, ⟨by omega⟩, ⟨⟨_, H2.out, ?_⟩⟩, ⟨?_⟩⟩
        · rw [HT.out, lastMap_snoc]
          exact MapIs.put HD2.out x.f0 HQ.out HQ2.out x
        · exact (below_alloc HB.out _).grown HG2.out (below_alloc HB.out _).size (fun k hk => by cases hk; exact Nat.le_refl _)
    · have hb3 : decide ((i : Int) < (l0.length : Int)) = false := decide_eq_false (by omega)
      have hb4 : decide (i < l0.length) = false := decide_eq_false (by omega)
      obtain rfl : i = l0.length := by have := HI2.out; omega
      go_wp2
      go_ret
      exact ⟨w.heap.size, rfl, Nat.le_refl _, by simpa using HM.out, HB.out⟩
instance (a : Int) : Decidable (wf64 a) := by unfold wf64; infer_instance
end Go.Proofs.Ytnknnbpodpfljaa.P


namespace Go.Proofs.Ytnknnbpodpfljaa.P
open Go.RowKit Go.Proofs.YtnknnbpodpfljaaW.PrintWords Go.Proofs.YtnknnbpodpfljaaW.PrintLast Go.Proofs.YtnknnbpodpfljaaW.PrintMore Go.Proofs.Ytnknnbpodpfljaa.V
open Go.Maps (Keyed)
set_option linter.unusedVariables false
set_option linter.unusedSimpArgs false
attribute [local go_sem] cell_b frozen_b
structure Found (m : S31 → Option S36) (left : Lit → Bool) (xs : List S36) : Prop where
  all : ∀ x ∈ xs, m x.f0 = some x ∧ x.f1 ≠ 0 ∧ wf64 x.f0.f0 ∧ wf64 x.f0.f1 ∧ left (pipeL x.f0.f0 x.f0.f1) = false
  nodup : xs.Pairwise (fun a b => a.f0 ≠ b.f0)
  got : ∀ (p : S31) (x : S36), wf64 p.f0 → wf64 p.f1 → m p = some x → x.f1 ≠ 0 → left (pipeL p.f0 p.f1) = false → x ∈ xs
theorem Found.step {m : S31 → Option S36} {left : Lit → Bool} {xs : List S36} (h : Found m left xs) (c : S36) (h0 : wf64 c.f0.f0) (h1 : wf64 c.f0.f1) (hm : m c.f0 = some c)
    (hl : left (pipeL c.f0.f0 c.f0.f1) = true) : Found m (fun z => left z && !z.sameKey (pipeL c.f0.f0 c.f0.f1)) (if c.f1 ≠ 0 then xs ++ [c] else xs) := by
  have hk := pipeKeyed.key (keyOf_pipe h0 h1)
  have hself : (pipeL c.f0.f0 c.f0.f1).sameKey (pipeL c.f0.f0 c.f0.f1) = true := WideAt.sameKey_self hk
  have hold : ∀ p x, wf64 p.f0 → wf64 p.f1 → m p = some x → x.f1 ≠ 0 → (left (pipeL p.f0 p.f1) && !(pipeL p.f0 p.f1).sameKey (pipeL c.f0.f0 c.f0.f1)) = false → x ∈ xs ∨ x = c := by
    intro p x p0 p1 hp hx hf
    rw [Bool.and_eq_false_iff] at hf
    rcases hf with hf | hf
    · exact .inl (h.got p x p0 p1 hp hx hf)
    · by_cases he : pipeL p.f0 p.f1 = pipeL c.f0.f0 c.f0.f1
      · obtain ⟨e0, e1⟩ := pipeL_inj p0 p1 h0 h1 he
        have : p = c.f0 := by
          obtain ⟨a, b⟩ := p
          obtain ⟨⟨u, v⟩, _, _⟩ := c
          simp only at e0 e1
          rw [e0, e1]
        subst this
        rw [hm] at hp
        exact .inr (Option.some.inj hp).symm
      · rw [Maps.sameKey_ne he] at hf; cases hf
  by_cases hc : c.f1 ≠ 0
  · rw [if_pos hc]
    refine ⟨fun x hx => ?_, ?_, fun p x p0 p1 hp hx hf => ?_⟩
    · rcases List.mem_append.1 hx with hx | hx
      · obtain ⟨a, b, u, v, w⟩ := h.all x hx
        exact ⟨a, b, u, v, by rw [w]; rfl⟩
      · rw [List.mem_singleton] at hx
        subst hx
        exact ⟨hm, hc, h0, h1, by rw [hself]; simp⟩
    · refine List.pairwise_append.2 ⟨h.nodup, List.pairwise_singleton _ _, fun a ha b hb e => ?_⟩
      rw [List.mem_singleton] at hb
      subst hb
      have := (h.all a ha).2.2.2.2
      rw [e, hl] at this
      cases this
    · rcases hold p x p0 p1 hp hx hf with h' | h'
      · exact List.mem_append_left _ h'
      · rw [h']; simp
  · rw [if_neg hc]
    refine ⟨fun x hx => ?_, h.nodup, fun p x p0 p1 hp hx hf => ?_⟩
    · obtain ⟨a, b, u, v, w⟩ := h.all x hx
      exact ⟨a, b, u, v, by rw [w]; rfl⟩
    · rcases hold p x p0 p1 hp hx hf with h' | h'
      · exact h'
      · rw [h'] at hx; exact absurd hx hc
theorem mapIs_key {D : DataW Unit} {m : S31 → Option S36} (h : MapIs D m) {p : S31} (h0 : wf64 p.f0) (h1 : wf64 p.f1) {c : S36} (hat : ∀ zd, D.atKey (pipeL p.f0 p.f1) zd = quadD c) : m p = some c := by
  cases hm : m p with
  | none =>
    have a := (h.at_ p h0 h1 (.map [])).symm.trans (hat _)
    rw [hm] at a
    exact absurd a (by simp [quadD])
  | some x =>
    have a := (h.at_ p h0 h1 (.map [])).symm.trans (hat _)
    rw [hm] at a
    exact congrArg some (quadD_inj a)
end Go.Proofs.Ytnknnbpodpfljaa.P


namespace Go.Proofs.Ytnknnbpodpfljaa.Q
set_option linter.unusedVariables false
set_option linter.unusedSimpArgs false
open Go.RowKit Go.Proofs.Ytnknnbpodpfljaa.P Go.Proofs.YtnknnbpodpfljaaW.PrintWords Go.Proofs.YtnknnbpodpfljaaW.PrintMore
def beforeE (a b : S36) : Bool := if a.f1 = b.f1 then (if a.f2 = b.f2 then (if a.f0.f0 = b.f0.f0 then decide (a.f0.f1 < b.f0.f1) else decide (a.f0.f0 < b.f0.f0)) else decide (a.f2 < b.f2)) else decide (a.f1 > b.f1)
theorem before_eq (a b : S36) : spec_l35Before.f a.f0.f0 a.f0.f1 a.f1 a.f2 b.f0.f0 b.f0.f1 b.f1 b.f2 = some (beforeE a b) := by
  unfold spec_l35Before.f beforeE
  by_cases h1 : a.f1 = b.f1 <;> by_cases h2 : a.f2 = b.f2 <;> by_cases h3 : a.f0.f0 = b.f0.f0 <;> simp [h1, h2, h3]
theorem entry_eq {a b : S36} (h0 : a.f0.f0 = b.f0.f0) (h1 : a.f0.f1 = b.f0.f1) (h2 : a.f1 = b.f1) (h3 : a.f2 = b.f2) : a = b := by
  obtain ⟨⟨x, y⟩, z, u⟩ := a
  obtain ⟨⟨x', y'⟩, z', u'⟩ := b
  simp only at h0 h1 h2 h3
  rw [h0, h1, h2, h3]
theorem before_total {a b : S36} (h : a ≠ b) : beforeE a b = true ∨ beforeE b a = true := by
  unfold beforeE
  by_cases h1 : a.f1 = b.f1
  · by_cases h2 : a.f2 = b.f2
    · by_cases h3 : a.f0.f0 = b.f0.f0
      · by_cases h4 : a.f0.f1 = b.f0.f1
        · exact absurd (entry_eq h3 h4 h1 h2) h
        · simp [h1, h2, h3]; omega
      · simp [h1, h2, h3, Ne.symm h3]; omega
    · simp [h1, h2, Ne.symm h2]; omega
  · simp [h1, Ne.symm h1]; omega
theorem before_asymm {a b : S36} (h : beforeE a b = true) : beforeE b a = false := by
  unfold beforeE at h ⊢
  by_cases h1 : a.f1 = b.f1
  · by_cases h2 : a.f2 = b.f2
    · by_cases h3 : a.f0.f0 = b.f0.f0
      · simp [h1, h2, h3] at h ⊢; omega
      · simp [h1, h2, h3, Ne.symm h3] at h ⊢; omega
    · simp [h1, h2, Ne.symm h2] at h ⊢; omega
  · simp [h1, Ne.symm h1] at h ⊢; omega
theorem before_irrefl (a : S36) : beforeE a a = false := by simp [beforeE]
theorem before_iff {a b : S36} : beforeE a b = true ↔ a.f1 > b.f1 ∨ (a.f1 = b.f1 ∧ (a.f2 < b.f2 ∨ (a.f2 = b.f2 ∧ (a.f0.f0 < b.f0.f0 ∨ (a.f0.f0 = b.f0.f0 ∧ a.f0.f1 < b.f0.f1))))) := by
  unfold beforeE
  by_cases h1 : a.f1 = b.f1
  · by_cases h2 : a.f2 = b.f2
    · by_cases h3 : a.f0.f0 = b.f0.f0
      · rw [if_pos h1, if_pos h2, if_pos h3, decide_eq_true_eq]; omega
      · rw [if_pos h1, if_pos h2, if_neg h3, decide_eq_true_eq]; omega
    · rw [if_pos h1, if_neg h2, decide_eq_true_eq]; omega
  · rw [if_neg h1, decide_eq_true_eq]; omega
theorem before_trans {a b c : S36} (h : beforeE a b = true) (k : beforeE b c = true) : beforeE a c = true := by
  rw [before_iff] at h k ⊢
  omega
theorem sorted_ext : ∀ {xs ys : List S36}, xs.Pairwise (fun a b => beforeE a b = true) → ys.Pairwise (fun a b => beforeE a b = true) → (∀ a, a ∈ xs ↔ a ∈ ys) → xs = ys
  | [], [], _, _, _ => rfl
  | [], y :: _, _, _, h => by have := (h y).mpr (by simp); simp at this
  | x :: _, [], _, _, h => by have := (h x).mp (by simp); simp at this
  | x :: xs, y :: ys, hx, hy, h => by
    obtain ⟨hx1, hx2⟩ := List.pairwise_cons.1 hx
    obtain ⟨hy1, hy2⟩ := List.pairwise_cons.1 hy
    have e : x = y := by
      rcases List.mem_cons.1 ((h x).mp (by simp)) with e | e
      · exact e
      rcases List.mem_cons.1 ((h y).mpr (by simp)) with e' | e'
      · exact e'.symm
      have a1 := hy1 x e
      have a2 := hx1 y e'
      rw [before_asymm a1] at a2
      cases a2
    subst e
    rw [sorted_ext hx2 hy2 (fun a => ⟨fun ha => by
      rcases List.mem_cons.1 ((h a).mp (List.mem_cons_of_mem _ ha)) with e | e
      · subst e; have := hx1 a ha; rw [before_irrefl] at this; cases this
      · exact e, fun ha => by
      rcases List.mem_cons.1 ((h a).mpr (List.mem_cons_of_mem _ ha)) with e | e
      · subst e; have := hy1 a ha; rw [before_irrefl] at this; cases this
      · exact e⟩)]
def insAt (x : S36) (out : List S36) : Nat → List S36
  | 0 => x :: out
  | n + 1 => if beforeE x (out.getD n z36) = true then insAt x out n else out.take (n + 1) ++ x :: out.drop (n + 1)
theorem mem_insAt (x : S36) (out : List S36) (a : S36) : ∀ n, a ∈ insAt x out n ↔ a = x ∨ a ∈ out
  | 0 => by simp [insAt]
  | n + 1 => by
    unfold insAt
    split
    · exact mem_insAt x out a n
    · rw [List.mem_append, List.mem_cons]
      constructor
      · rintro (h | h | h)
        · exact .inr (List.mem_of_mem_take h)
        · exact .inl h
        · exact .inr (List.mem_of_mem_drop h)
      · rintro (h | h)
        · exact .inr (.inl h)
        · rw [← List.take_append_drop (n + 1) out, List.mem_append] at h
          rcases h with h | h
          · exact .inl h
          · exact .inr (.inr h)
theorem insAt_length (x : S36) (out : List S36) : ∀ n, (insAt x out n).length = out.length + 1
  | 0 => by simp [insAt]
  | n + 1 => by
    unfold insAt
    split
    · exact insAt_length x out n
    · have := congrArg List.length (List.take_append_drop (n + 1) out)
      simp only [List.length_append, List.length_cons] at this ⊢
      omega
theorem sorted_insAt (x : S36) (out : List S36) (hs : out.Pairwise (fun a b => beforeE a b = true)) (hx : ∀ a ∈ out, a ≠ x) :
    ∀ n, n ≤ out.length → (∀ a ∈ out.drop n, beforeE x a = true) → (insAt x out n).Pairwise (fun a b => beforeE a b = true)
  | 0, _, h => by
    unfold insAt
    exact List.pairwise_cons.2 ⟨fun a ha => h a (by simpa using ha), hs⟩
  | n + 1, hn, h => by
    have hlt : n < out.length := by omega
    have e : out.getD n z36 = out[n] := by simp [List.getD_eq_getElem?_getD, hlt]
    unfold insAt
    rw [e]
    split
    · rename_i hb
      refine sorted_insAt x out hs hx n (by omega) fun a ha => ?_
      rw [List.drop_eq_getElem_cons hlt] at ha
      rcases List.mem_cons.1 ha with rfl | ha
      · exact hb
      · exact h a ha
    · rename_i hb
      have hnx : beforeE out[n] x = true := by
        rcases before_total (hx out[n] (List.getElem_mem hlt)) with h' | h'
        · exact h'
        · exact absurd h' hb
      have hs' := hs
      rw [← List.take_append_drop (n + 1) out] at hs'
      obtain ⟨p1, p2, p3⟩ := List.pairwise_append.1 hs'
      refine List.pairwise_append.2 ⟨p1, List.pairwise_cons.2 ⟨h, p2⟩, fun a ha b hb' => ?_⟩
      have hax : beforeE a x = true := by
        rw [List.take_succ_eq_append_getElem hlt, List.mem_append, List.mem_singleton] at ha
        rcases ha with ha | rfl
        · rw [List.take_succ_eq_append_getElem hlt] at p1
          exact before_trans ((List.pairwise_append.1 p1).2.2 a ha out[n] (by simp)) hnx
        · exact hnx
      rcases List.mem_cons.1 hb' with rfl | hb'
      · exact hax
      · exact p3 a ha b hb'
end Go.Proofs.Ytnknnbpodpfljaa.Q


namespace Go.Proofs.Ytnknnbpodpfljaa.Q
set_option linter.unusedVariables false
set_option linter.unusedSimpArgs false
open Go.RowKit Go.Proofs.Ytnknnbpodpfljaa.P Go.Proofs.YtnknnbpodpfljaaW.PrintWords Go.Proofs.YtnknnbpodpfljaaW.PrintMore
def neP (x y : S36) : Bool := !(y.f0.f0 == x.f0.f0) || !(y.f0.f1 == x.f0.f1)
def lastAt (l : List S36) (i : Nat) : Bool := ((l.getD i z36).f1 != 0) && (l.drop (i + 1)).all (neP (l.getD i z36))
def openUp (l : List S36) : Nat → List S36
  | 0 => []
  | i + 1 => if lastAt l i = true then insAt (l.getD i z36) (openUp l i) (openUp l i).length else openUp l i
theorem openUp_length (l : List S36) : ∀ i, (openUp l i).length ≤ i
  | 0 => by simp [openUp]
  | i + 1 => by
    have := openUp_length l i
    unfold openUp
    split
    · rw [insAt_length]; omega
    · omega
theorem eta_entry (x : S36) : (⟨(⟨x.f0.f0, x.f0.f1⟩ : S31), x.f1, x.f2⟩ : S36) = x := rfl
theorem hole_get (out : List S36) (y : S36) (n : Nat) (h : n < out.length) : rd_T36 (out.take (n + 1) ++ y :: out.drop (n + 1)) (n : Int) = out.getD n z36 := by
  unfold rd_T36
  rw [Int.toNat_natCast, List.getD_eq_getElem?_getD, List.getElem?_append_left (by rw [List.length_take]; omega), List.getD_eq_getElem?_getD]
  simp [List.getElem?_take]
theorem hole_set (out : List S36) (y x : S36) (n : Nat) (h : n ≤ out.length) : (out.take n ++ y :: out.drop n).set n x = out.take n ++ x :: out.drop n := by
  have e : (out.take n).length = n := by rw [List.length_take]; omega
  rw [List.set_append_right _ _ (by omega), e, Nat.sub_self]
  rfl
theorem hole_len (out : List S36) (y : S36) (n : Nat) (h : n ≤ out.length) : (out.take n ++ y :: out.drop n).length = out.length + 1 := by
  simp only [List.length_append, List.length_cons, List.length_take, List.length_drop]; omega
theorem hole_shift (out : List S36) (n : Nat) (h : n < out.length) : out.take (n + 1) ++ out.getD n z36 :: out.drop (n + 1) = out.take n ++ out.getD n z36 :: out.drop n := by
  have e : out.getD n z36 = out[n] := by simp [List.getD_eq_getElem?_getD, h]
  rw [e, List.take_succ_eq_append_getElem h, List.drop_eq_getElem_cons h, List.append_assoc]
  rfl
theorem open_l2 (l : List S36) (i : Nat) (hi : i < l.length) (hl : l.length ≤ 1048577) (out : List S36) (ho : out.length ≤ 1048577) (R : List S36) :
    ∀ n, n ≤ out.length → Ev (fun k => spec_OpenFaults.l0 k l (insAt l[i] out n) ((i : Int) + 1)) R → ∀ y, Ev (fun k => spec_OpenFaults.l2 k l (out.take n ++ y :: out.drop n) (i : Int) (n : Int)) R
  | 0, hn, H, y => by
    refine Ev.step (fun k => by rw [spec_OpenFaults.l2]) (evn (by omega) ?_)
    rw [hole_len out y 0 (by omega)]
    refine evp (by omega) (evp (by omega) (evp (by omega) (evp (by omega) ?_)))
    rw [rdE l i hi, w64 (n := (i : Int) + 1) (by omega) (by omega), eta_entry]
    simpa [insAt] using H
  | n + 1, hn, H, y => by
    refine Ev.step (fun k => by rw [spec_OpenFaults.l2]) ?_
    have e1 : ((n + 1 : Nat) : Int) - 1 = (n : Int) := by omega
    rw [w64 (n := ((n + 1 : Nat) : Int) - 1) (by omega) (by omega), e1]
    rw [hole_len out y (n + 1) hn, hole_get out y n (by omega)]
    refine evp (by omega) (evp (by omega) (evp (by omega) (evp (by omega) (evp (by omega) ?_))))
    rw [rdE l i hi]
    refine evb (before_eq _ _) ?_
    have et : (((n + 1 : Nat) : Int)).toNat = n + 1 := by omega
    rw [et, hole_set out y _ (n + 1) hn, hole_set out y _ (n + 1) hn, eta_entry, eta_entry]
    by_cases hb : beforeE l[i] (out.getD n z36) = true
    · refine evp hb (evp (by omega) (evp (by omega) ?_))
      rw [hole_shift out n (by omega)]
      refine open_l2 l i hi hl out ho R n (by omega) ?_ _
      unfold insAt at H
      rwa [if_pos hb] at H
    · refine evn hb (evp (by omega) (evp (by omega) ?_))
      rw [w64 (n := (i : Int) + 1) (by omega) (by omega)]
      unfold insAt at H
      rwa [if_neg hb] at H
theorem open_spec (l : List S36) (hl : l.length ≤ 1048577) : Ev (fun k => spec_OpenFaults.f k l) (if logOk l = true then openUp l l.length else []) := by
  have HL := logOk_spec l hl
  by_cases h0 : logOk l = true
  rotate_left
  · rw [if_neg h0]
    replace h0 := Bool.eq_false_iff.mpr h0
    rw [h0] at HL
    unfold spec_OpenFaults.f
    by_cases hz : l.length = 0
    · have : l = [] := List.length_eq_zero_iff.mp hz
      subst this
      exact absurd h0 (by decide)
    refine Ev.step (fun k => by rw [spec_OpenFaults.l0]) (evp (by omega) (Ev.bind HL ?_))
    exact Ev.step (fun k => by rw [spec_OpenFaults.j1]) (evn (by decide) (evs rfl))
  rw [if_pos h0]
  rw [h0] at HL
  obtain ⟨R, hR⟩ : ∃ R, openUp l l.length = R := ⟨_, rfl⟩
  have key : ∀ i, i ≤ l.length → Ev (fun k => spec_OpenFaults.l0 k l (openUp l i) (i : Int)) R := by
    refine down (n := l.length) ?_ ?_
    · refine Ev.step (fun k => by rw [spec_OpenFaults.l0]) (evn (by omega) ?_)
      exact Ev.step (fun k => by rw [spec_OpenFaults.j1]) (evn (by decide) (evs hR))
    · intro i hi ih
      have eg : l.getD i z36 = l[i] := by simp [List.getD_eq_getElem?_getD, hi]
      refine Ev.step (fun k => by rw [spec_OpenFaults.l0]) (evp (by omega) (Ev.bind HL ?_))
      refine Ev.step (fun k => by rw [spec_OpenFaults.j1]) (evp rfl (evp (by omega) (evp (by omega) ?_)))
      rw [rdE l i hi, w64 (n := (i : Int) + 1) (by omega) (by omega)]
      have key1 : ∀ j, j ≤ l.length → ∀ b, (b && (l.drop j).all (neP l[i])) = lastAt l i → Ev (fun k => spec_OpenFaults.l1 k l (openUp l i) (i : Int) b (j : Int)) R := by
        refine down (n := l.length) ?_ ?_
        · intro b hb
          rw [drop_end] at hb
          simp only [List.all_nil, Bool.and_true] at hb
          refine Ev.step (fun k => by rw [spec_OpenFaults.l1]) (evn (by omega) ?_)
          have ho := openUp_length l i
          cases b with
          | true =>
            refine evp rfl (evp (by omega) (evp (by omega) (evp (by omega) ?_)))
            rw [rdE l i hi, eta_entry]
            have := open_l2 l i hi hl (openUp l i) (by omega) R (openUp l i).length (Nat.le_refl _) (by
              have e : ((i + 1 : Nat) : Int) = (i : Int) + 1 := by omega
              rw [← e]
              unfold openUp at ih
              rw [if_pos hb.symm, eg] at ih
              exact ih) l[i]
            rwa [List.take_length, drop_end] at this
          | false =>
            refine evn (by decide) ?_
            rw [w64 (n := (i : Int) + 1) (by omega) (by omega)]
            have e : ((i + 1 : Nat) : Int) = (i : Int) + 1 := by omega
            rw [← e]
            unfold openUp at ih
            rw [if_neg (by rw [← hb]; decide)] at ih
            exact ih
        · intro j hj ih1 b hb
          refine Ev.step (fun k => by rw [spec_OpenFaults.l1]) (evp (by omega) ?_)
          rw [drop_cons l j hj, List.all_cons] at hb
          have e : (j : Int) + 1 = ((j + 1 : Nat) : Int) := by omega
          rw [w64 (n := (j : Int) + 1) (by omega) (by omega), e]
          cases b with
          | true =>
            refine evp rfl (evp (by omega) (evp (by omega) (evp (by omega) ?_)))
            rw [rdE l j hj, rdE l i hi]
            exact ih1 _ (by rw [← hb]; simp [neP])
          | false => exact evn (by decide) (ih1 false (by rw [← hb]; simp))
      have e : (i : Int) + 1 = ((i + 1 : Nat) : Int) := by omega
      rw [e]
      exact key1 (i + 1) hi _ (by unfold lastAt; rw [eg])
  rw [hR]
  exact key 0 (Nat.zero_le _)
end Go.Proofs.Ytnknnbpodpfljaa.Q


namespace Go.Proofs.Ytnknnbpodpfljaa.Q
set_option linter.unusedVariables false
set_option linter.unusedSimpArgs false
open Go.RowKit Go.Proofs.Ytnknnbpodpfljaa.P Go.Proofs.YtnknnbpodpfljaaW.PrintWords Go.Proofs.YtnknnbpodpfljaaW.PrintMore
theorem neP_iff {x y : S36} : neP x y = true ↔ y.f0 ≠ x.f0 := by
  have e : y.f0 = x.f0 ↔ y.f0.f0 = x.f0.f0 ∧ y.f0.f1 = x.f0.f1 := by
    obtain ⟨⟨a, b⟩, c, d⟩ := x
    obtain ⟨⟨a', b'⟩, c', d'⟩ := y
    simp
  unfold neP
  rw [ne_eq, e]
  by_cases h0 : y.f0.f0 = x.f0.f0 <;> by_cases h1 : y.f0.f1 = x.f0.f1 <;> simp [h0, h1]
theorem lastMap_iff (l : List S36) (p : S31) (x : S36) :
    ∀ n, n ≤ l.length → (lastMap (l.take n) p = some x ↔ ∃ i, i < n ∧ l[i]? = some x ∧ x.f0 = p ∧ ∀ j y, i < j → j < n → l[j]? = some y → y.f0 ≠ p)
  | 0, _ => by
    constructor
    · intro h; simp [lastMap] at h
    · rintro ⟨i, hi, _⟩; omega
  | n + 1, hn => by
    have hlt : n < l.length := by omega
    have ih := lastMap_iff l p x n (by omega)
    have eg : l[n]? = some l[n] := List.getElem?_eq_getElem hlt
    rw [List.take_succ_eq_append_getElem hlt, lastMap_snoc]
    by_cases hp : p = l[n].f0
    · simp only [if_pos hp, Option.some.injEq]
      constructor
      · intro e
        subst e
        exact ⟨n, by omega, eg, hp.symm, fun j y h1 h2 _ => by omega⟩
      · rintro ⟨i, hi, h1, h2, h3⟩
        by_cases hin : i = n
        · subst hin; rw [eg] at h1; exact Option.some.inj h1
        · exact absurd hp.symm (h3 n _ (by omega) (by omega) eg)
    · simp only [if_neg hp]
      rw [ih]
      constructor
      · rintro ⟨i, hi, h1, h2, h3⟩
        refine ⟨i, by omega, h1, h2, fun j y k1 k2 k3 => ?_⟩
        by_cases hjn : j = n
        · subst hjn; rw [eg] at k3; cases k3; exact fun e => hp e.symm
        · exact h3 j y k1 (by omega) k3
      · rintro ⟨i, hi, h1, h2, h3⟩
        by_cases hin : i = n
        · subst hin; rw [eg] at h1; cases h1; exact absurd h2.symm hp
        · exact ⟨i, by omega, h1, h2, fun j y k1 k2 k3 => h3 j y k1 (by omega) k3⟩
theorem lastAt_iff (l : List S36) (i : Nat) (x : S36) (hx : l[i]? = some x) : lastAt l i = true ↔ x.f1 ≠ 0 ∧ ∀ j y, i < j → l[j]? = some y → y.f0 ≠ x.f0 := by
  have eg : l.getD i z36 = x := by simp [List.getD_eq_getElem?_getD, hx]
  unfold lastAt
  rw [eg, Bool.and_eq_true, bne_iff_ne, List.all_eq_true]
  constructor
  · rintro ⟨h1, h2⟩
    refine ⟨h1, fun j y hj hy => neP_iff.mp (h2 y ?_)⟩
    rw [List.mem_iff_getElem?]
    exact ⟨j - (i + 1), by rw [List.getElem?_drop, show i + 1 + (j - (i + 1)) = j by omega]; exact hy⟩
  · rintro ⟨h1, h2⟩
    refine ⟨h1, fun y hy => neP_iff.mpr ?_⟩
    rw [List.mem_iff_getElem?] at hy
    obtain ⟨k, hk⟩ := hy
    rw [List.getElem?_drop] at hk
    exact h2 _ y (by omega) hk
theorem mem_openUp (l : List S36) (x : S36) : ∀ n, n ≤ l.length → (x ∈ openUp l n ↔ ∃ i, i < n ∧ lastAt l i = true ∧ l[i]? = some x)
  | 0, _ => by
    constructor
    · intro h; simp [openUp] at h
    · rintro ⟨i, hi, _⟩; omega
  | n + 1, hn => by
    have hlt : n < l.length := by omega
    have eg : l[n]? = some l[n] := List.getElem?_eq_getElem hlt
    have ed : l.getD n z36 = l[n] := by simp [List.getD_eq_getElem?_getD, hlt]
    have ih := mem_openUp l x n (by omega)
    unfold openUp
    split
    · rename_i hl
      rw [mem_insAt, ih, ed]
      constructor
      · rintro (e | ⟨i, h1, h2, h3⟩)
        · exact ⟨n, by omega, hl, by rw [e]; exact eg⟩
        · exact ⟨i, by omega, h2, h3⟩
      · rintro ⟨i, h1, h2, h3⟩
        by_cases hin : i = n
        · subst hin; rw [eg] at h3; exact .inl (Option.some.inj h3).symm
        · exact .inr ⟨i, by omega, h2, h3⟩
    · rename_i hl
      rw [ih]
      constructor
      · rintro ⟨i, h1, h2, h3⟩; exact ⟨i, by omega, h2, h3⟩
      · rintro ⟨i, h1, h2, h3⟩
        by_cases hin : i = n
        · subst hin; exact absurd h2 hl
        · exact ⟨i, by omega, h2, h3⟩
theorem sorted_openUp (l : List S36) : ∀ n, n ≤ l.length → (openUp l n).Pairwise (fun a b => beforeE a b = true)
  | 0, _ => by simp [openUp]
  | n + 1, hn => by
    have hlt : n < l.length := by omega
    have eg : l[n]? = some l[n] := List.getElem?_eq_getElem hlt
    have ed : l.getD n z36 = l[n] := by simp [List.getD_eq_getElem?_getD, hlt]
    have ih := sorted_openUp l n (by omega)
    unfold openUp
    split
    · refine sorted_insAt _ _ ih (fun a ha e => ?_) _ (Nat.le_refl _) (by rw [drop_end]; intro a ha; cases ha)
      rw [ed] at e
      obtain ⟨i, h1, h2, h3⟩ := (mem_openUp l a n (by omega)).mp ha
      exact ((lastAt_iff l i a h3).mp h2).2 n _ h1 eg (by rw [e])
    · exact ih
theorem mem_open (l : List S36) (x : S36) : x ∈ openUp l l.length ↔ lastMap l x.f0 = some x ∧ x.f1 ≠ 0 := by
  rw [mem_openUp l x l.length (Nat.le_refl _)]
  have H := lastMap_iff l x.f0 x l.length (Nat.le_refl _)
  rw [List.take_length] at H
  rw [H]
  constructor
  · rintro ⟨i, h1, h2, h3⟩
    obtain ⟨k1, k2⟩ := (lastAt_iff l i x h3).mp h2
    exact ⟨⟨i, h1, h3, rfl, fun j y a b c => k2 j y a c⟩, k1⟩
  · rintro ⟨⟨i, h1, h2, _, h3⟩, k1⟩
    refine ⟨i, h1, (lastAt_iff l i x h2).mpr ⟨k1, fun j y a c => h3 j y a ?_ c⟩, h2⟩
    exact (List.getElem?_eq_some_iff.mp c).1
theorem open_unique (l xs : List S36) (hs : xs.Pairwise (fun a b => beforeE a b = true)) (hm : ∀ x, x ∈ xs ↔ lastMap l x.f0 = some x ∧ x.f1 ≠ 0) : xs = openUp l l.length :=
  sorted_ext hs (sorted_openUp l l.length (Nat.le_refl _)) (fun a => (hm a).trans (mem_open l a).symm)
end Go.Proofs.Ytnknnbpodpfljaa.Q


namespace Go.Proofs.Ytnknnbpodpfljaa.P
open Go.RowKit Go.Sort Go.Proofs.YtnknnbpodpfljaaW.PrintWords
set_option linter.unusedVariables false
set_option linter.unusedSimpArgs false
structure Plain {α : Type} (d : Kd α) (enc : α → List Value) : Prop where
  len : ∀ x, (enc x).length = d.sz
  pos : 0 < d.sz
  of : ∀ {w base ok x cs}, d.M w base ok x cs → cs = enc x
  make : ∀ w base ok x, d.M w base ok x (enc x)
theorem onCells_block (w : World) (g j : Nat) (f : Array Value → Array Value) : (mapBlock w g f).heap[j]? = if g = j then w.heap[j]?.map (onCells f) else w.heap[j]? := by
  unfold mapBlock
  simp only [Array.getElem?_modify]
section
variable {α : Type} [Inhabited α] {d : Kd α} {e base g cap : Nat} {W : World} {ok : Nat → Prop} {xs : List α} {enc : α → List Value}
theorem chunk_at {inner : List Value} {k i c : Nat} (hc : c < k) : ((inner.drop (i * k)).take k)[c]? = inner[i * k + c]? := by
  rw [List.getElem?_take_of_lt hc, List.getElem?_drop]
theorem holds_of_R (hp : Plain d enc) (h : d.R e W base ok (.slice (some ⟨g, 0, none⟩) xs.length cap) xs) : HoldsK enc d.sz W g 0 xs.toArray := by
  obtain ⟨_, inner, ho, hr⟩ := h
  rcases ho.2 with ⟨hn, _⟩ | ⟨g', cap', cur, hv, hg, hh, hle, hmx, hcs, htk⟩
  · simp at hn
  obtain ⟨rfl, rfl⟩ : g = g' ∧ cap = cap' := by simp at hv; exact hv
  intro j hj
  have hj' : j < xs.length * d.sz := by simpa using hj
  have hk := hp.pos
  have hi : j / d.sz < xs.length := by rw [Nat.div_lt_iff_lt_mul hk]; exact hj'
  have hc : j % d.sz < d.sz := Nat.mod_lt _ hk
  have hjj : j / d.sz * d.sz + j % d.sz = j := by rw [Nat.mul_comm]; exact Nat.div_add_mod j d.sz
  have e1 := hp.of (hr.2 (j / d.sz) xs[j / d.sz] (List.getElem?_eq_getElem hi))
  have e2 : inner[j]? = (enc xs[j / d.sz])[j % d.sz]? := by rw [← e1, chunk_at hc, hjj]
  have e3 : cur[j]? = inner[j]? := by
    rw [← htk, List.getElem?_take_of_lt hj']
    simp
  rw [get_flatK _ _ _ _ (by simpa using hj'), Nat.zero_add]
  refine ⟨?_, blk_frozen hh j⟩
  rw [blk_cell hh j, e3, e2]
  have hl : j % d.sz < (enc xs[j / d.sz]).length := by rw [hp.len]; exact hc
  simp [hi, hl]
end
theorem sorted_pairwise {α : Type} [Inhabited α] {lt : α → α → Bool} {D D' : Array α} (hp : PermIn 0 D.size D D') (hs : SortedIn lt 0 D.size D') (tot : ∀ a ∈ D.toList, ∀ b ∈ D.toList, a ≠ b → lt a b = true ∨ lt b a = true) (nd : D.toList.Nodup) :
    D'.toList.Perm D.toList ∧ D'.toList.Pairwise (fun a b => lt a b = true) := by
  have hsz := hp.1
  have hpm : D'.toList.Perm D.toList := by
    have := hp.2.2
    rw [Array.extract_eq_self_of_le (by omega), Array.extract_eq_self_of_le (by omega)] at this
    exact this
  refine ⟨hpm, ?_⟩
  have nd' : D'.toList.Nodup := hpm.nodup_iff.mpr nd
  rw [List.pairwise_iff_getElem]
  intro i j hi hj hij
  have hi' : i < D'.size := by simpa using hi
  have hj' : j < D'.size := by simpa using hj
  have h1 := hs i j (Nat.zero_le _) hij (by omega)
  simp only [getElem!_pos D' i hi', getElem!_pos D' j hj'] at h1
  have hne : D'.toList[i] ≠ D'.toList[j] := by
    intro he
    have := (List.pairwise_iff_getElem.1 nd') i j hi hj hij
    exact this he
  rcases tot D'.toList[i] (hpm.mem_iff.1 (List.getElem_mem hi)) D'.toList[j] (hpm.mem_iff.1 (List.getElem_mem hj)) hne with h | h
  · exact h
  · simp only [Array.getElem_toList] at h
    rw [h] at h1
    cases h1
end Go.Proofs.Ytnknnbpodpfljaa.P


namespace Go.Proofs.Ytnknnbpodpfljaa.S
open Go.RowKit Go.Sort Go.Proofs.Ytnknnbpodpfljaa.P Go.Proofs.Ytnknnbpodpfljaa.Q Go.Proofs.Ytnknnbpodpfljaa.V Go.Proofs.YtnknnbpodpfljaaW.PrintWords
set_option linter.unusedVariables false
set_option linter.unusedSimpArgs false
attribute [local go_sem] cell_b frozen_b
abbrev E := S36
instance : Inhabited E := ⟨z36⟩
def enc4 (x : E) : List Value := [.int .i64 x.f0.f0, .int .i64 x.f0.f1, .int .i64 x.f1, .int .i64 x.f2]
abbrev val4 (x : E) : Value := .agg #[.int .i64 x.f0.f0, .int .i64 x.f0.f1, .int .i64 x.f1, .int .i64 x.f2]
class Cel (W : World) (a : Addr) (v : outParam Value) : Prop where out : W.cell? a = some v
section
variable {w w0 W : World} {a : Addr} {v : Value} {o : Obj} {n : Nat}
theorem cel_lt (h : Cel W a v) : a.block < W.heap.size := World.block_lt_of_cell? W a h.out
instance [h : Cel W a v] : Cel (W.alloc o) a v := ⟨((below_alloc (RowKit.Below.refl W.heap.size W) o).cell (cel_lt h)).trans h.out⟩
instance [h : Cel W a v] : Cel W.drew a v := ⟨h.out⟩
instance [h : Cel W a v] : Cel (W.drewN n) a v := ⟨h.out⟩
instance [b : Bel w W] [h : Cel w a v] : Cel W a v := ⟨(b.out.cell (cel_lt h)).trans h.out⟩
instance [b : Sin w0 W] [h : Cel w0 a v] : Cel W a v := ⟨(b.out.cell (cel_lt h)).trans h.out⟩
theorem cell_c (W : World) (a : Addr) {v : Value} [h : Cel W a v] : W.cell? a = some v := h.out
end
def Ftd (x : E) : Prop := x.f1 = 1 ∨ x.f1 = 2
theorem bne_t {a b : Int} (h : a ≠ b) : (a != b) = true := bne_iff_ne.mpr h
theorem bne_f {a b : Int} (h : a = b) : (a != b) = false := bne_eq_false_iff_eq.mpr h
set_option maxHeartbeats 8000000 in
set_option maxRecDepth 100000 in
set_option synthInstance.maxHeartbeats 400000 in
set_option synthInstance.maxSize 100000 in
theorem sooner_calls (a b : E) (w : World) (ha : Ftd a) (hb : Ftd b) :
    Calls Try.prog 50 #[val4 a, val4 b] w fun e w' => e = .returned (.bool (beforeE a b)) ∧ Below w.heap.size w w' := by
  obtain ⟨⟨a0, a1⟩, a2, a3⟩ := a
  obtain ⟨⟨b0, b1⟩, b2, b3⟩ := b
  obtain ⟨r, hr⟩ : ∃ r, beforeE ⟨⟨a0, a1⟩, a2, a3⟩ ⟨⟨b0, b1⟩, b2, b3⟩ = r := ⟨_, rfl⟩
  rw [hr]
  unfold Ftd at ha hb
  simp only at ha hb
  unfold beforeE at hr
  simp only at hr
  have hu := Try.underlying36
  have hu2 := Try.underlying31
  have done_ : ∀ {p q s : Prop} [Decidable p] [Decidable q] [Decidable s], True := fun {_ _ _} _ _ _ => trivial
  clear done_
  by_cases h1 : a2 = b2
  · rw [if_pos h1] at hr
    have h1 := bne_f h1
    by_cases h2 : a3 = b3
    · rw [if_pos h2] at hr
      have h2 := bne_f h2
      by_cases h3 : a0 = b0
      · rw [if_pos h3] at hr
        have h3 := bne_f h3
        clear ha hb
        go_enter Try.func50, Try.ntmps50
        go_wp2
        go_ret
        exact ⟨rfl, From.out⟩
      · rw [if_neg h3] at hr
        have h3 := bne_t h3
        clear ha hb
        go_enter Try.func50, Try.ntmps50
        go_wp2
        go_ret
        exact ⟨rfl, From.out⟩
    · rw [if_neg h2] at hr
      have h2 := bne_t h2
      clear ha hb
      go_enter Try.func50, Try.ntmps50
      go_wp2
      go_ret
      exact ⟨rfl, From.out⟩
  · rw [if_neg h1] at hr
    have h4 : (a2 == 2) = r := by rw [← hr, Bool.eq_iff_iff, beq_iff_eq, decide_eq_true_eq]; omega
    have h1 := bne_t h1
    clear ha hb hr
    go_enter Try.func50, Try.ntmps50
    go_wp2
    go_ret
    exact ⟨rfl, From.out⟩
structure SoC where
  g : Nat
  bs : Nat
  n : Nat
  c : Nat
  lb : Array Value
  sb : Array Value
class SoG (C : outParam SoC) : Prop where
  swap : SwapSwapsK Try.prog 75 C.sb enc4 4 C.g 0 C.n
  small : C.n < 50
  lb : C.lb = #[.pointer (some ⟨C.bs, 0, none⟩)]
  ne : C.bs ≠ C.g
structure SoAt (C : SoC) (W : World) (D : Array E) : Prop where
  hold : HoldsK enc4 4 W C.g 0 D
  size : D.size = C.n
  box : W.heap[C.bs]? = some (.cells #[.slice (some ⟨C.g, 0, none⟩) C.n C.c] 24 (0, 0))
  lt : C.g < W.heap.size
  shape : ∃ cur : Array Value, W.heap[C.g]? = some (.cells cur 36 (0, 0)) ∧ cur.size = C.c * 4
  ftd : ∀ x ∈ D, Ftd x
class So (C : outParam SoC) (W : World) (D : outParam (Array E)) : Prop where out : SoAt C W D
theorem SoAt.at_ {C : SoC} {W : World} {D : Array E} (h : SoAt C W D) (i : Nat) (hi : i < C.n) :
    W.cell? ⟨C.g, i * 4, none⟩ = some (.int .i64 D[i]!.f0.f0) ∧ W.cell? ⟨C.g, i * 4 + 1, none⟩ = some (.int .i64 D[i]!.f0.f1) ∧ W.cell? ⟨C.g, i * 4 + 2, none⟩ = some (.int .i64 D[i]!.f1) ∧ W.cell? ⟨C.g, i * 4 + 3, none⟩ = some (.int .i64 D[i]!.f2) := by
  have hi' : i < D.size := by rw [h.size]; exact hi
  have c0 := (h.hold.cell (i := i) (c := 0) hi' (by omega)).1
  have c1 := (h.hold.cell (i := i) (c := 1) hi' (by omega)).1
  have c2 := (h.hold.cell (i := i) (c := 2) hi' (by omega)).1
  have c3 := (h.hold.cell (i := i) (c := 3) hi' (by omega)).1
  simp only [Nat.zero_add, Nat.add_zero] at c0 c1 c2 c3
  exact ⟨c0, c1, c2, c3⟩
theorem SoAt.ftd' {C : SoC} {W : World} {D : Array E} (h : SoAt C W D) (i : Nat) (hi : i < C.n) : Ftd D[i]! := by
  have hi' : i < D.size := by rw [h.size]; exact hi
  rw [getElem!_pos D i hi']
  exact h.ftd _ (Array.getElem_mem hi')
attribute [local go_sem] cell_c
set_option maxHeartbeats 8000000 in
set_option maxRecDepth 100000 in
set_option synthInstance.maxHeartbeats 400000 in
set_option synthInstance.maxSize 100000 in
theorem less_calls (C : SoC) (w : World) (D : Array E) (h : SoAt C w D) (hlb : C.lb = #[.pointer (some ⟨C.bs, 0, none⟩)]) (hn : C.n < 50) (i j : Nat) (hi : i < C.n) (hj : j < C.n) :
    Calls Try.prog 49 (#[.int .i64 i, .int .i64 j] ++ C.lb) w fun e w' => e = .returned (.bool (beforeE D[i]! D[j]!)) ∧ Below w.heap.size w w' := by
  obtain ⟨i0, i1, i2, i3⟩ := h.at_ i hi
  obtain ⟨j0, j1, j2, j3⟩ := h.at_ j hj
  have fi := h.ftd' i hi
  have fj := h.ftd' j hj
  generalize D[i]! = x at *
  generalize D[j]! = y at *
  have hbx := h.box
  rw [hlb]
  obtain ⟨g, bs, n, c, lb, sb⟩ := C
  simp only at *
  have jB : Blk w bs #[.slice (some ⟨g, 0, none⟩) n c] 24 := ⟨hbx⟩
  have hs := fun W => sooner_calls x y W fi fj
  have HS := Aside0.mk hs
  have k0 := Cel.mk i0
  have k1 := Cel.mk i1
  have k2 := Cel.mk i2
  have k3 := Cel.mk i3
  have k4 := Cel.mk j0
  have k5 := Cel.mk j1
  have k6 := Cel.mk j2
  have k7 := Cel.mk j3
  clear i0 i1 i2 i3 j0 j1 j2 j3
  have hi1 : (0 : Int) ≤ (i : Int) := by omega
  have hi2 : (i : Int) < (n : Int) := by omega
  have hj1 : (0 : Int) ≤ (j : Int) := by omega
  have hj2 : (j : Int) < (n : Int) := by omega
  clear h hlb hbx hs fi fj hn hi hj
  have hu := Try.underlying36
  go_enter Try.func49, Try.ntmps49
  go_wp2
  refine region_at ?_
  intro w3 jw
  go_region_held3 (fun w' => Sin w3 w') (first | exact ⟨From.out⟩ | skip) (first | (go_at_call 50; refine (HS.out _).mono ?_; rintro e w2 ⟨rfl, hb⟩; have jb := Bel.mk hb; clear hb))
  all_goals go_wp2
  all_goals go_ret
  all_goals exact ⟨rfl, From.out⟩
end Go.Proofs.Ytnknnbpodpfljaa.S


namespace Go.Proofs.Ytnknnbpodpfljaa.S
open Go.RowKit Go.Sort Go.Proofs.Ytnknnbpodpfljaa.P Go.Proofs.Ytnknnbpodpfljaa.Q Go.Proofs.Ytnknnbpodpfljaa.V Go.Proofs.YtnknnbpodpfljaaW.PrintWords
set_option linter.unusedVariables false
set_option linter.unusedSimpArgs false
class Ix (i : Int) (n : Nat) : Prop where
  lo : 0 ≤ i
  hi : i < (n : Int)
theorem enc4_len (x : E) : (enc4 x).length = 4 := rfl
def swapW (C : SoC) (D : Array E) (W : World) (i j : Int) : World := (W.setCells C.g (0 + i.toNat * 4) (enc4 D[j.toNat]!)).setCells C.g (0 + j.toNat * 4) (enc4 D[i.toNat]!)
theorem swapW_eq {C : SoC} {W : World} {D : Array E} (h : SoAt C W D) (i j : Int) (hi : i.toNat < C.n) (hj : j.toNat < C.n) : swapW C D W i j = putRowK enc4 4 W C.g 0 (swp D i.toNat j.toNat) := by
  have := swap_worldK enc4 4 enc4_len W 0 0 C.g 0 D i.toNat j.toNat (by rw [h.size]; exact hi) (by rw [h.size]; exact hj)
  rw [show ((putRowK enc4 4 (Sort.ahead W 0) C.g 0 D).drewN 0) = W by
    rw [show ∀ X : World, X.drewN 0 = X from fun _ => rfl]
    exact putRowK_self enc4 4 W C.g 0 D h.hold] at this
  exact this
theorem mem_swp {D : Array E} {i j : Nat} {x : E} (h : x ∈ swp D i j) (hi : i < D.size) (hj : j < D.size) : x ∈ D := by
  obtain ⟨k, hk, rfl⟩ := Array.mem_iff_getElem.mp h
  have hk' : k < D.size := by simpa [size_swp] using hk
  rw [← getElem!_pos (swp D i j) k hk]
  by_cases e1 : k = j
  · subst e1; rw [swp_right D i k hk', getElem!_pos D i hi]; exact Array.getElem_mem hi
  · by_cases e2 : k = i
    · subst e2; rw [swp_left D k j hk' e1, getElem!_pos D j hj]; exact Array.getElem_mem hj
    · rw [swp_other D i j k e2 e1, getElem!_pos D k hk']; exact Array.getElem_mem hk'
theorem put_shape {W : World} {g : Nat} {D : Array E} {c : Nat} (h : ∃ cur : Array Value, W.heap[g]? = some (.cells cur 36 (0, 0)) ∧ cur.size = c) : ∃ cur : Array Value, (putRowK enc4 4 W g 0 D).heap[g]? = some (.cells cur 36 (0, 0)) ∧ cur.size = c := by
  obtain ⟨cur, hc, hs⟩ := h
  refine ⟨putCells id 0 (flatK enc4 4 D) cur, ?_, by simpa [putCells] using hs⟩
  unfold putRowK putRow
  rw [onCells_block, if_pos rfl, hc]
  rfl
class Fr (C : outParam SoC) (w0 W : World) : Prop where out : w0.grownBy W (some C.g)
section
variable {C : SoC} {w w0 W : World} {D : Array E} {o : Obj} {n x i : Nat} {v : Value} {cs : Array Value} {t : TypeId}
theorem SoAt.move (h : SoAt C w D) (hs : w.heap.size ≤ W.heap.size) (h1 : W.heap[C.g]? = w.heap[C.g]?) (h2 : W.heap[C.bs]? = w.heap[C.bs]?) : SoAt C W D :=
  ⟨fun j hj => by
    obtain ⟨a, b⟩ := h.hold j hj
    exact ⟨(World.cell?_of_block (a := ⟨C.g, 0 + j, none⟩) h1).trans a, (World.frozen?_of_block (a := ⟨C.g, 0 + j, none⟩) h1).trans b⟩, h.size, h2.trans h.box, Nat.lt_of_lt_of_le h.lt hs, by rw [h1]; exact h.shape, h.ftd⟩
theorem SoAt.bs_lt (h : SoAt C W D) : C.bs < W.heap.size := blk_lt h.box
theorem SoAt.below (h : SoAt C w D) (hb : RowKit.Below w.heap.size w W) : SoAt C W D := h.move hb.size (hb.block _ h.lt) (hb.block _ h.bs_lt)
instance [h : So C W D] : So C (W.alloc o) D := ⟨h.out.below (below_alloc (RowKit.Below.refl _ _) o)⟩
instance [h : So C W D] : So C W.drew D := ⟨h.out.below (below_drew1 (RowKit.Below.refl _ _))⟩
instance [h : So C W D] : So C (W.drewN n) D := ⟨h.out.below (pw_below_drewN (RowKit.Below.refl _ _) n)⟩
instance [b : Bel w W] [h : So C w D] : So C W D := ⟨h.out.below b.out⟩
instance [h : So C W D] [k : Born W x] : NeB x C.g := ⟨by rw [k.out]; exact Nat.ne_of_gt h.out.lt⟩
instance [h : So C W D] [k : Born W x] : NeB x C.bs := ⟨by rw [k.out]; exact Nat.ne_of_gt h.out.bs_lt⟩
instance [h : So C W D] [k : NeB x C.g] [l : NeB x C.bs] : So C (W.setCell ⟨x, i, none⟩ v) D :=
  ⟨h.out.move (by simp) (Below.heap_setCell W ⟨x, i, none⟩ v _ (Ne.symm k.out)) (Below.heap_setCell W ⟨x, i, none⟩ v _ (Ne.symm l.out))⟩
theorem swap_heap (h : SoAt C W D) (i j : Int) (hi : i.toNat < C.n) (hj : j.toNat < C.n) : W.grownBy (swapW C D W i j) (some C.g) := by
  rw [swapW_eq h i j hi hj]
  refine ⟨rfl, rfl, rfl, by simp [putRowK], fun k hk hne => ?_⟩
  unfold putRowK putRow
  rw [onCells_block, if_neg (fun hh => hne (by rw [hh]))]
theorem ix_nat {i : Int} {n : Nat} (h : Ix i n) : i.toNat < n := by have := h.lo; have := h.hi; omega
theorem so_swap [g : SoG C] (h : SoAt C W D) (i j : Int) (hi : i.toNat < C.n) (hj : j.toNat < C.n) : SoAt C (swapW C D W i j) (swp D i.toNat j.toNat) := by
  have hg := swap_heap h i j hi hj
  refine ⟨?_, by rw [size_swp]; exact h.size, (hg.block _ h.bs_lt (fun e => g.ne (Option.some.inj e))).trans h.box, Nat.lt_of_lt_of_le h.lt hg.size, by rw [swapW_eq h i j hi hj]; exact put_shape h.shape, fun x hx => h.ftd x (mem_swp hx (by rw [h.size]; exact hi) (by rw [h.size]; exact hj))⟩
  rw [swapW_eq h i j hi hj]
  exact holdsK_putRowK enc4 4 W C.g 0 D _ h.hold (size_swp _ _ _)
instance {i j : Int} [g : SoG C] [h : So C W D] [a : Ix i C.n] [b : Ix j C.n] : So C (swapW C D W i j) (swp D i.toNat j.toNat) := ⟨so_swap h.out i j (ix_nat a) (ix_nat b)⟩
instance {i j : Int} [h : So C W D] [k : Blk W x cs t] [l : NeB x C.g] [a : Ix i C.n] [b : Ix j C.n] : Blk (swapW C D W i j) x cs t := ⟨((swap_heap h.out i j (ix_nat a) (ix_nat b)).block x (blk_lt k.out) (fun e => l.out (Option.some.inj e))).trans k.out⟩
theorem swap_run (W : World) (i j : Int) [g : SoG C] [h : So C W D] [a : Ix i C.n] [b : Ix j C.n] : (callFunc 75 (#[.int .i64 i, .int .i64 j] ++ C.sb)).run Try.prog W = .ok (.value (.tuple #[])) (swapW C D W i j) := by
  have := g.swap W D h.out.hold h.out.size i.toNat j.toNat (ix_nat a) (ix_nat b)
  rw [show ((i.toNat : Nat) : Int) = i from Int.toNat_of_nonneg a.lo, show ((j.toNat : Nat) : Int) = j from Int.toNat_of_nonneg b.lo] at this
  exact this
theorem less_at [g : SoG C] [h : So C W D] (i j : Int) [a : Ix i C.n] [b : Ix j C.n] :
    Calls Try.prog 49 (#[.int .i64 i, .int .i64 j] ++ C.lb) W fun e w' => e = .returned (.bool (beforeE D[i.toNat]! D[j.toNat]!)) ∧ RowKit.Below W.heap.size W w' := by
  have := less_calls C W D h.out g.lb g.small i.toNat j.toNat (ix_nat a) (ix_nat b)
  rw [show ((i.toNat : Nat) : Int) = i from Int.toNat_of_nonneg a.lo, show ((j.toNat : Nat) : Int) = j from Int.toNat_of_nonneg b.lo] at this
  exact this
class Les (D : Array E) (i j : Int) (b : outParam Bool) : Prop where out : beforeE D[i.toNat]! D[j.toNat]! = b
theorem Les.of {D : Array E} {i j : Int} {b : Bool} {i' j' : Nat} (h : beforeE D[i']! D[j']! = b) (hi : i = i') (hj : j = j') : Les D i j b := ⟨by rw [hi, hj, Int.toNat_natCast, Int.toNat_natCast]; exact h⟩
theorem less_is {b : Bool} [g : SoG C] [h : So C W D] (i j : Int) [a : Ix i C.n] [k : Ix j C.n] [l : Les D i j b] :
    Calls Try.prog 49 (#[.int .i64 i, .int .i64 j] ++ C.lb) W fun e w' => e = .returned (.bool b) ∧ RowKit.Below W.heap.size W w' :=
  (less_at i j).mono fun e w' h => ⟨by rw [h.1, l.out], h.2⟩
theorem grownBy_trans {w0 w W : World} {r : Option Nat} (h : w0.grownBy w r) (k : w.grownBy W r) : w0.grownBy W r :=
  ⟨k.os.trans h.os, k.tape.trans h.tape, k.output.trans h.output, Nat.le_trans h.size k.size, fun j hj hne => (k.block j (Nat.lt_of_lt_of_le hj h.size) hne).trans (h.block j hj hne)⟩
theorem grownBy_below {w W : World} {r : Option Nat} (h : RowKit.Below w.heap.size w W) : w.grownBy W r := ⟨h.os, h.tape, h.output, h.size, fun j hj _ => h.block j hj⟩
instance [h : So C w D] : Fr C w w := ⟨grownBy_below (RowKit.Below.refl _ _)⟩
instance [h : Fr C w W] : Fr C w (W.alloc o) := ⟨grownBy_trans h.out (grownBy_below (below_alloc (RowKit.Below.refl _ _) o))⟩
instance [h : Fr C w W] : Fr C w W.drew := ⟨grownBy_trans h.out (grownBy_below (below_drew1 (RowKit.Below.refl _ _)))⟩
instance [h : Fr C w W] : Fr C w (W.drewN n) := ⟨grownBy_trans h.out (grownBy_below (pw_below_drewN (RowKit.Below.refl _ _) n))⟩
instance [b : Bel w W] [h : Fr C w0 w] : Fr C w0 W := ⟨grownBy_trans h.out (grownBy_below b.out)⟩
instance {i j : Int} [h : Fr C w0 W] [k : So C W D] [a : Ix i C.n] [b : Ix j C.n] : Fr C w0 (swapW C D W i j) := ⟨grownBy_trans h.out (swap_heap k.out i j (ix_nat a) (ix_nat b))⟩
class Gb (C : outParam SoC) (w : outParam World) (W : World) : Prop where out : w.grownBy W (some C.g)
instance [b : Gb C w W] [h : Fr C w0 w] : Fr C w0 W := ⟨grownBy_trans h.out b.out⟩
instance [b : Gb C w W] [h : Blk w x cs t] [l : NeB x C.g] : Blk W x cs t := ⟨(b.out.block x (blk_lt h.out) (fun e => l.out (Option.some.inj e))).trans h.out⟩
end
end Go.Proofs.Ytnknnbpodpfljaa.S


namespace Go.Proofs.Ytnknnbpodpfljaa.S
open Go.RowKit Go.Sort Go.Proofs.Ytnknnbpodpfljaa.P Go.Proofs.Ytnknnbpodpfljaa.Q Go.Proofs.Ytnknnbpodpfljaa.V Go.Proofs.YtnknnbpodpfljaaW.PrintWords
set_option linter.unusedVariables false
set_option linter.unusedSimpArgs false
attribute [local go_sem] cell_b frozen_b swap_run
abbrev datV (C : SoC) : Value := .agg #[.func (.func 49) #[] C.lb, .func (.func 75) #[] C.sb]
set_option maxHeartbeats 8000000 in
set_option maxRecDepth 100000 in
set_option synthInstance.maxHeartbeats 400000 in
set_option synthInstance.maxSize 100000 in
theorem insertion_calls (C : SoC) [SoG C] (w : World) (D : Array E) (h : SoAt C w D) (a b : Nat) (hab : a ≤ b) (hb : b ≤ C.n) :
    Calls Try.prog 78 #[datV C, .int .i64 a, .int .i64 b] w fun e w' => e = .returned (.tuple #[]) ∧ SoAt C w' (insertionSort beforeE D a b) ∧ w.grownBy w' (some C.g) := by
  have j0 := So.mk h
  have hsm := SoG.small (C := C)
  have jx : NeB w.heap.size C.g := ⟨Nat.ne_of_gt h.lt⟩
  clear h
  have hu := Try.underlying88
  go_enter Try.func78, Try.ntmps78
  go_wp2
  go_loopw [6] (fun vi wr => ∃ (i : Nat) (dk : Array E), vi = .int .i64 i ∧ Aside0 (a < i) ∧ Aside0 (i ≤ b + 1) ∧ So C wr dk ∧ Fr C w wr ∧ Blk wr w.heap.size #[.func (.func 49) #[] C.lb, .func (.func 75) #[] C.sb] 88 ∧ Aside0 (insOuter beforeE a b i dk = insOuter beforeE a b (a + 1) D)) (fun vi _ => b + 1 - (intOf vi).toNat)
  case atStart => exact ⟨a + 1, D, by go_num, ⟨by omega⟩, ⟨by omega⟩, inferInstance, inferInstance, ⟨blk_new w _⟩, ⟨rfl⟩⟩
  case round =>
    clear j0
    obtain ⟨i, dk, rfl, HA, HI, j1, j2, j3, HO⟩ := hrel
    by_cases hib : i < b
    · have hib1 : decide ((i : Int) < (b : Int)) = true := decide_eq_true (by omega)
      go_wp2
      go_loopw [7] (fun vj wr2 => ∃ (j : Nat) (dj : Array E), vj = .int .i64 j ∧ Aside0 (a ≤ j) ∧ Aside0 (j ≤ i) ∧ So C wr2 dj ∧ Fr C w wr2 ∧ Blk wr2 w.heap.size #[.func (.func 49) #[] C.lb, .func (.func 75) #[] C.sb] 88 ∧ Aside0 (insInner beforeE a j dj = insInner beforeE a i dk)) (fun vj _ => (intOf vj).toNat)
      case atStart => exact ⟨i, dk, rfl, ⟨by have := HA.out; omega⟩, ⟨Nat.le_refl _⟩, j1, j2, j3, ⟨rfl⟩⟩
      case round =>
        clear j1 j2 j3
        obtain ⟨j, dj, rfl, HAJ, HJI, j1, j2, j3, HN⟩ := hrel
        have hjb := HJI.out
        have haj := HAJ.out
        by_cases hja : a < j
        · have hja1 : decide ((a : Int) < (j : Int)) = true := decide_eq_true (by omega)
          have x1 : Ix (j : Int) C.n := ⟨by omega, by omega⟩
          have x2 : Ix ((j : Int) - 1) C.n := ⟨by omega, by omega⟩
          have e1 : ((j : Int) - 1).toNat = j - 1 := by omega
          cases hl : beforeE dj[j]! dj[j - 1]! with
          | true =>
            go_wp2_with (first | (go_at_call 49; refine (less_at _ _).mono ?_; rintro e w2 ⟨he, hb⟩; rw [Int.toNat_natCast, e1, hl] at he; subst he; have jb := Bel.mk hb; clear hb))
            refine ⟨⟨j - 1, swp dj j (j - 1), by congr 1; omega, ⟨by omega⟩, ⟨by omega⟩, ?_, inferInstance, inferInstance, ⟨?_⟩⟩, by simp [intOf]; omega⟩
            · have k : So C (swapW C dj w2 (j : Int) ((j : Int) - 1)) (swp dj (j : Int).toNat ((j : Int) - 1).toNat) := inferInstance
              rw [Int.toNat_natCast, e1] at k
              exact k
            · rw [← HN.out, insInner_go beforeE a j dj hja hl]
          | false =>
            go_wp2_with (first | (go_at_call 49; refine (less_at _ _).mono ?_; rintro e w2 ⟨he, hb⟩; rw [Int.toNat_natCast, e1, hl] at he; subst he; have jb := Bel.mk hb; clear hb))
            refine ⟨⟨i + 1, dj, by go_num, ⟨by have := HA.out; omega⟩, ⟨by omega⟩, inferInstance, inferInstance, inferInstance, ⟨?_⟩⟩, by simp [intOf]; omega⟩
            rw [← HO.out, insOuter_go beforeE a b i dk hib, ← HN.out, insInner_stop beforeE a j dj (.inr hl)]
        · have hja1 : decide ((a : Int) < (j : Int)) = false := decide_eq_false (by omega)
          go_wp2
          refine ⟨⟨i + 1, dj, by go_num, ⟨by have := HA.out; omega⟩, ⟨by omega⟩, inferInstance, inferInstance, inferInstance, ⟨?_⟩⟩, by simp [intOf]; omega⟩
          rw [← HO.out, insOuter_go beforeE a b i dk hib, ← HN.out, insInner_stop beforeE a j dj (.inl (by omega))]
    · have hib1 : decide ((i : Int) < (b : Int)) = false := decide_eq_false (by omega)
      go_wp2
      go_end0
      refine ⟨rfl, ?_, Fr.out⟩
      have := HO.out
      rw [insOuter_stop beforeE a b i dk hib] at this
      unfold insertionSort
      rw [← this]
      exact So.out
end Go.Proofs.Ytnknnbpodpfljaa.S


namespace Go.Proofs.Ytnknnbpodpfljaa.S
open Go.RowKit Go.Sort Go.Proofs.Ytnknnbpodpfljaa.P Go.Proofs.Ytnknnbpodpfljaa.Q Go.Proofs.Ytnknnbpodpfljaa.V Go.Proofs.YtnknnbpodpfljaaW.PrintWords
set_option linter.unusedVariables false
set_option linter.unusedSimpArgs false
attribute [local go_sem] cell_b frozen_b swap_run
abbrev datC (C : SoC) : Array Value := #[.func (.func 49) #[] C.lb, .func (.func 75) #[] C.sb]
theorem so_cast {C : SoC} {W : World} {D D' : Array E} (h : So C W D) (e : D = D') : SoAt C W D' := e ▸ h.out
set_option maxHeartbeats 8000000 in
set_option maxRecDepth 100000 in
set_option synthInstance.maxHeartbeats 400000 in
set_option synthInstance.maxSize 100000 in
theorem siftDown_calls (C : SoC) [SoG C] (w : World) (D : Array E) (h : SoAt C w D) (lo hi first : Nat) (hf : first + hi ≤ C.n) (hlo : lo ≤ C.n) :
    Calls Try.prog 86 #[datV C, .int .i64 lo, .int .i64 hi, .int .i64 first] w fun e w' => e = .returned (.tuple #[]) ∧ SoAt C w' (siftDown beforeE hi first lo D) ∧ w.grownBy w' (some C.g) := by
  have j0 := So.mk h
  have hsm := SoG.small (C := C)
  have jx : NeB w.heap.size C.g := ⟨Nat.ne_of_gt h.lt⟩
  clear h
  have hu := Try.underlying88
  go_enter Try.func86, Try.ntmps86
  go_wp2
  go_loopw [8] (fun v wr => ∃ (r : Nat) (dk : Array E), v = .int .i64 r ∧ Aside0 (r ≤ C.n) ∧ So C wr dk ∧ Fr C w wr ∧ Blk wr w.heap.size (datC C) 88 ∧ Aside0 (siftDown beforeE hi first r dk = siftDown beforeE hi first lo D)) (fun v _ => hi - (intOf v).toNat)
  case atStart => exact ⟨lo, D, rfl, ⟨hlo⟩, inferInstance, inferInstance, ⟨blk_new w _⟩, ⟨rfl⟩⟩
  case round =>
    clear j0
    obtain ⟨r, dk, rfl, HR, j1, j2, j3, HO⟩ := hrel
    have hrn := HR.out
    have huf := HO.out
    rw [siftDown] at huf
    by_cases c1 : 2 * r + 1 ≥ hi
    · rw [dif_pos c1] at huf
      have huf := Aside0.mk huf
      have d1 : decide ((hi : Int) ≤ 2 * (r : Int) + 1) = true := decide_eq_true (by omega)
      go_wp2
      go_end0
      exact ⟨rfl, so_cast j1 huf.out, Fr.out⟩
    rw [dif_neg c1] at huf
    have d1 : decide ((hi : Int) ≤ 2 * (r : Int) + 1) = false := decide_eq_false (by omega)
    have x1 : Ix ((first : Int) + (2 * (r : Int) + 1)) C.n := ⟨by omega, by omega⟩
    have x0 : Ix ((first : Int) + (r : Int)) C.n := ⟨by omega, by omega⟩
    by_cases c2 : 2 * r + 1 + 1 < hi
    · have d2 : decide (2 * (r : Int) + 1 + 1 < (hi : Int)) = true := decide_eq_true (by omega)
      have x2 : Ix ((first : Int) + (2 * (r : Int) + 1) + 1) C.n := ⟨by omega, by omega⟩
      have x3 : Ix ((first : Int) + (2 * (r : Int) + 1 + 1)) C.n := ⟨by omega, by omega⟩
      cases l1 : beforeE dk[first + (2 * r + 1)]! dk[first + (2 * r + 1) + 1]! with
      | true =>
        have y1 : Les dk ((first : Int) + (2 * (r : Int) + 1)) ((first : Int) + (2 * (r : Int) + 1) + 1) true := Les.of l1 (by omega) (by omega)
        rw [l1, decide_eq_true c2, Bool.and_self, if_pos rfl] at huf
        clear l1
        cases l2 : beforeE dk[first + r]! dk[first + (2 * r + 2)]! with
        | true =>
          have y2 : Les dk ((first : Int) + (r : Int)) ((first : Int) + (2 * (r : Int) + 1 + 1)) true := Les.of l2 (by omega) (by omega)
          rw [l2, if_neg (by decide), dif_pos c2] at huf
          have huf := Aside0.mk huf
          clear l2
          go_wp2_with (first | (go_at_call 49; refine (less_is _ _).mono ?_; rintro e w2 ⟨rfl, hb⟩; have jb := Bel.mk hb; clear hb))
          refine ⟨⟨2 * r + 2, swp dk (first + r) (first + (2 * r + 2)), by first | rfl | (congr 1; omega), ⟨by omega⟩, ⟨so_cast (D' := swp dk (first + r) (first + (2 * r + 2))) inferInstance (by first | rfl | (congr 1 <;> omega))⟩, inferInstance, inferInstance, huf⟩, by simp [intOf]; omega⟩
        | false =>
          have y2 : Les dk ((first : Int) + (r : Int)) ((first : Int) + (2 * (r : Int) + 1 + 1)) false := Les.of l2 (by omega) (by omega)
          rw [l2, if_pos (by decide)] at huf
          have huf := Aside0.mk huf
          clear l2
          go_wp2_with (first | (go_at_call 49; refine (less_is _ _).mono ?_; rintro e w2 ⟨rfl, hb⟩; have jb := Bel.mk hb; clear hb))
          ((try simp only [Exit.inBlock, Exit.then]); refine bodyPost_ret (results_none rfl _ _ _) rfl ?_)
          exact ⟨rfl, so_cast inferInstance huf.out, Fr.out⟩
      | false =>
        have y1 : Les dk ((first : Int) + (2 * (r : Int) + 1)) ((first : Int) + (2 * (r : Int) + 1) + 1) false := Les.of l1 (by omega) (by omega)
        rw [l1, Bool.and_false, if_neg (by decide)] at huf
        clear l1
        cases l2 : beforeE dk[first + r]! dk[first + (2 * r + 1)]! with
        | true =>
          have y2 : Les dk ((first : Int) + (r : Int)) ((first : Int) + (2 * (r : Int) + 1)) true := Les.of l2 (by omega) (by omega)
          rw [l2, if_neg (by decide)] at huf
          have huf := Aside0.mk huf
          clear l2
          go_wp2_with (first | (go_at_call 49; refine (less_is _ _).mono ?_; rintro e w2 ⟨rfl, hb⟩; have jb := Bel.mk hb; clear hb))
          refine ⟨⟨2 * r + 1, swp dk (first + r) (first + (2 * r + 1)), by first | rfl | (congr 1; omega), ⟨by omega⟩, ⟨so_cast (D' := swp dk (first + r) (first + (2 * r + 1))) inferInstance (by first | rfl | (congr 1 <;> omega))⟩, inferInstance, inferInstance, huf⟩, by simp [intOf]; omega⟩
        | false =>
          have y2 : Les dk ((first : Int) + (r : Int)) ((first : Int) + (2 * (r : Int) + 1)) false := Les.of l2 (by omega) (by omega)
          rw [l2, if_pos (by decide)] at huf
          have huf := Aside0.mk huf
          clear l2
          go_wp2_with (first | (go_at_call 49; refine (less_is _ _).mono ?_; rintro e w2 ⟨rfl, hb⟩; have jb := Bel.mk hb; clear hb))
          ((try simp only [Exit.inBlock, Exit.then]); refine bodyPost_ret (results_none rfl _ _ _) rfl ?_)
          exact ⟨rfl, so_cast inferInstance huf.out, Fr.out⟩
    · have d2 : decide (2 * (r : Int) + 1 + 1 < (hi : Int)) = false := decide_eq_false (by omega)
      rw [decide_eq_false c2, Bool.false_and, if_neg (by decide)] at huf
      cases l2 : beforeE dk[first + r]! dk[first + (2 * r + 1)]! with
      | true =>
        have y2 : Les dk ((first : Int) + (r : Int)) ((first : Int) + (2 * (r : Int) + 1)) true := Les.of l2 (by omega) (by omega)
        rw [l2, if_neg (by decide)] at huf
        have huf := Aside0.mk huf
        clear l2
        go_wp2_with (first | (go_at_call 49; refine (less_is _ _).mono ?_; rintro e w2 ⟨rfl, hb⟩; have jb := Bel.mk hb; clear hb))
        refine ⟨⟨2 * r + 1, swp dk (first + r) (first + (2 * r + 1)), by first | rfl | (congr 1; omega), ⟨by omega⟩, ⟨so_cast (D' := swp dk (first + r) (first + (2 * r + 1))) inferInstance (by first | rfl | (congr 1 <;> omega))⟩, inferInstance, inferInstance, huf⟩, by simp [intOf]; omega⟩
      | false =>
        have y2 : Les dk ((first : Int) + (r : Int)) ((first : Int) + (2 * (r : Int) + 1)) false := Les.of l2 (by omega) (by omega)
        rw [l2, if_pos (by decide)] at huf
        have huf := Aside0.mk huf
        clear l2
        go_wp2_with (first | (go_at_call 49; refine (less_is _ _).mono ?_; rintro e w2 ⟨rfl, hb⟩; have jb := Bel.mk hb; clear hb))
        ((try simp only [Exit.inBlock, Exit.then]); refine bodyPost_ret (results_none rfl _ _ _) rfl ?_)
        exact ⟨rfl, so_cast inferInstance huf.out, Fr.out⟩
theorem siftDown_at {C : SoC} {W : World} {D : Array E} [SoG C] [h : So C W D] (lo' hi' first' : Int) (lo hi first : Nat) (e1 : lo' = lo) (e2 : hi' = hi) (e3 : first' = first) (hf : first + hi ≤ C.n) (hlo : lo ≤ C.n) :
    Calls Try.prog 86 #[datV C, .int .i64 lo', .int .i64 hi', .int .i64 first'] W fun e w' => e = .returned (.tuple #[]) ∧ SoAt C w' (siftDown beforeE hi first lo D) ∧ W.grownBy w' (some C.g) := by
  subst e1 e2 e3
  exact siftDown_calls C W D h.out lo hi first hf hlo
end Go.Proofs.Ytnknnbpodpfljaa.S


namespace Go.Proofs.Ytnknnbpodpfljaa.S
open Go.RowKit Go.Sort Go.Proofs.Ytnknnbpodpfljaa.P Go.Proofs.Ytnknnbpodpfljaa.Q Go.Proofs.Ytnknnbpodpfljaa.V Go.Proofs.YtnknnbpodpfljaaW.PrintWords
set_option linter.unusedVariables false
set_option linter.unusedSimpArgs false
attribute [local go_sem] cell_b frozen_b swap_run
set_option maxHeartbeats 8000000 in
set_option maxRecDepth 100000 in
set_option synthInstance.maxHeartbeats 400000 in
set_option synthInstance.maxSize 100000 in
theorem heapSort_calls (C : SoC) [SoG C] (w : World) (D : Array E) (h : SoAt C w D) (a b : Nat) (hab : a ≤ b) (hb : b ≤ C.n) :
    Calls Try.prog 79 #[datV C, .int .i64 a, .int .i64 b] w fun e w' => e = .returned (.tuple #[]) ∧ SoAt C w' (heapSort beforeE D a b) ∧ w.grownBy w' (some C.g) := by
  have j0 := So.mk h
  have hsm := SoG.small (C := C)
  have jx : NeB w.heap.size C.g := ⟨Nat.ne_of_gt h.lt⟩
  clear h
  have hu := Try.underlying88
  have hq : Int.tdiv ((b : Int) - (a : Int) - 1) 2 = (((b - a - 1) / 2 : Nat) : Int) := by
    by_cases h0 : b - a = 0
    · rw [h0, show (b : Int) - (a : Int) - 1 = -1 by omega]; decide
    · rw [show (b : Int) - (a : Int) - 1 = ((b - a - 1 : Nat) : Int) by omega]; rfl
  go_enter Try.func79, Try.ntmps79
  go_wp2
  go_loopw [9] (fun v wr => ∃ (k : Nat) (z : Int) (dk : Array E), v = .int .i64 z ∧ Aside0 (z = (k : Int) - 1) ∧ Aside0 (k ≤ (b - a - 1) / 2 + 1) ∧ So C wr dk ∧ Fr C w wr ∧ Blk wr w.heap.size (datC C) 88 ∧ Aside0 (heapBuild beforeE (b - a) a k dk = heapBuild beforeE (b - a) a ((b - a - 1) / 2 + 1) D)) (fun v _ => (intOf v + 1).toNat)
  case atStart =>
    refine ⟨(b - a - 1) / 2 + 1, _, D, rfl, ⟨?_⟩, ⟨Nat.le_refl _⟩, inferInstance, inferInstance, ⟨blk_new w _⟩, ⟨rfl⟩⟩
    omega
  case round =>
    clear j0
    obtain ⟨k, z, dk, rfl, HZ, HK, j1, j2, j3, HO⟩ := hrel
    have hz := HZ.out
    have hk := HK.out
    cases k with
    | succ m =>
      obtain rfl : z = (m : Int) := by omega
      have d1 : decide (0 ≤ (m : Int)) = true := decide_eq_true (by omega)
      clear hq hz
      go_wp2_with (first | (go_at_call 86; refine (siftDown_at _ _ _ m (b - a) a rfl (by omega) rfl (by omega) (by omega)).mono ?_; rintro e w2 ⟨rfl, hs, hg⟩; have k1 := So.mk hs; have k2 := Gb.mk hg; clear hs hg))
      exact ⟨⟨m, _, _, rfl, ⟨rfl⟩, ⟨by omega⟩, k1, inferInstance, inferInstance, ⟨HO.out⟩⟩, by simp [intOf]⟩
    | zero =>
      obtain rfl : z = -1 := by omega
      have ho : dk = heapBuild beforeE (b - a) a ((b - a - 1) / 2 + 1) D := HO.out
      clear hq hz HO
      go_wp2
      go_loopw [10] (fun v wr => ∃ (k : Nat) (z : Int) (dj : Array E), v = .int .i64 z ∧ Aside0 (z = (k : Int) - 1) ∧ Aside0 (k ≤ b - a) ∧ So C wr dj ∧ Fr C w wr ∧ Blk wr w.heap.size (datC C) 88 ∧ Aside0 (heapPop beforeE a k dj = heapSort beforeE D a b)) (fun v _ => (intOf v + 1).toNat)
      case atStart => exact ⟨b - a, _, dk, rfl, ⟨by omega⟩, ⟨Nat.le_refl _⟩, j1, j2, j3, ⟨by rw [ho]; rfl⟩⟩
      case round =>
        clear j1 j2 j3 HZ HK ho hk
        obtain ⟨k, z, dj, rfl, HZ, HK, j1, j2, j3, HO⟩ := hrel
        have hz := HZ.out
        have hk := HK.out
        cases k with
        | succ m =>
          obtain rfl : z = (m : Int) := by omega
          have d1 : decide (0 ≤ (m : Int)) = true := decide_eq_true (by omega)
          have x1 : Ix (a : Int) C.n := ⟨by omega, by omega⟩
          have x2 : Ix ((a : Int) + (m : Int)) C.n := ⟨by omega, by omega⟩
          clear hz
          go_wp2_with (first | (go_at_call 86; refine (siftDown_at _ _ _ 0 m a rfl rfl rfl (by omega) (by omega)).mono ?_; rintro e w2 ⟨rfl, hs, hg⟩; have k1 := So.mk hs; have k2 := Gb.mk hg; clear hs hg))
          refine ⟨⟨m, _, _, rfl, ⟨rfl⟩, ⟨by omega⟩, ⟨so_cast (D' := siftDown beforeE m a 0 (swp dj a (a + m))) k1 (by first | rfl | (congr 2 <;> omega))⟩, inferInstance, inferInstance, ⟨HO.out⟩⟩, by simp [intOf]⟩
        | zero =>
          obtain rfl : z = -1 := by omega
          have ho : dj = heapSort beforeE D a b := HO.out
          clear hz
          go_wp2
          go_end0
          exact ⟨rfl, so_cast j1 ho, Fr.out⟩
end Go.Proofs.Ytnknnbpodpfljaa.S


namespace Go.Proofs.Ytnknnbpodpfljaa.S
open Go.RowKit Go.Sort Go.Proofs.Ytnknnbpodpfljaa.P Go.Proofs.Ytnknnbpodpfljaa.Q Go.Proofs.Ytnknnbpodpfljaa.V Go.Proofs.YtnknnbpodpfljaaW.PrintWords
set_option linter.unusedVariables false
set_option linter.unusedSimpArgs false
attribute [local go_sem] cell_b frozen_b swap_run
class Fx (x : outParam Nat) (w0 W : World) : Prop where out : w0.grownBy W (some x)
class Gx (x : outParam Nat) (w : outParam World) (W : World) : Prop where out : w.grownBy W (some x)
section
variable {C : SoC} {w w0 W : World} {D : Array E} {o : Obj} {n x y i : Nat} {v : Value} {cs : Array Value} {t : TypeId}
instance [h : Fx x w W] : Fx x w (W.alloc o) := ⟨grownBy_trans h.out (grownBy_below (below_alloc (RowKit.Below.refl _ _) o))⟩
instance [h : Fx x w W] : Fx x w W.drew := ⟨grownBy_trans h.out (grownBy_below (below_drew1 (RowKit.Below.refl _ _)))⟩
instance [h : Fx x w W] : Fx x w (W.drewN n) := ⟨grownBy_trans h.out (grownBy_below (pw_below_drewN (RowKit.Below.refl _ _) n))⟩
instance [b : Bel w W] [h : Fx x w0 w] : Fx x w0 W := ⟨grownBy_trans h.out (grownBy_below b.out)⟩
instance [b : Gx x w W] [h : Fx x w0 w] : Fx x w0 W := ⟨grownBy_trans h.out b.out⟩
instance [h : Fx x w W] : Fx x w (W.setCell ⟨x, i, none⟩ v) := ⟨grownBy_trans h.out ⟨rfl, rfl, rfl, by simp, fun k _ hk => Below.heap_setCell W ⟨x, i, none⟩ v k (fun e => hk (by rw [e]))⟩⟩
instance [b : Gx x w W] [h : Blk w y cs t] [l : NeB y x] : Blk W y cs t := ⟨(b.out.block y (blk_lt h.out) (fun e => l.out (Option.some.inj e))).trans h.out⟩
instance [b : Gx x w W] [h : From w0 w] [l : Nw w0 x] : From w0 W := ⟨h.out.grown b.out h.out.size (fun k hk => by cases hk; exact l.out)⟩
end
set_option maxHeartbeats 8000000 in
set_option maxRecDepth 100000 in
set_option synthInstance.maxHeartbeats 400000 in
set_option synthInstance.maxSize 100000 in
theorem order2_calls (C : SoC) [SoG C] (w : World) (D : Array E) (h : SoAt C w D) (a b : Int) (ha : Ix a C.n) (hb : Ix b C.n) (x : Nat) (s : Int) (hs : 0 ≤ s) (hs2 : s ≤ 100) (hx : w.heap[x]? = some (.cells #[.int .i64 s] 3 (0, 0))) (hg : x ≠ C.g) (hbs : x ≠ C.bs) :
    Calls Try.prog 91 #[datV C, .int .i64 a, .int .i64 b, .pointer (some ⟨x, 0, none⟩)] w fun e w' => ∃ r1 r2 s' : Int, e = .returned (.tuple #[.int .i64 r1, .int .i64 r2]) ∧ ((r1 = a ∧ r2 = b) ∨ (r1 = b ∧ r2 = a)) ∧ 0 ≤ s' ∧ s' ≤ s + 1 ∧ SoAt C w' D ∧ w'.heap[x]? = some (.cells #[.int .i64 s'] 3 (0, 0)) ∧ w.grownBy w' (some x) := by
  have j0 := So.mk h
  have hxl : x < w.heap.size := blk_lt hx
  have jn : NeB w.heap.size x := ⟨by omega⟩
  have jn2 : NeB x w.heap.size := ⟨by omega⟩
  have jg : NeB x C.g := ⟨hg⟩
  have jb : NeB x C.bs := ⟨hbs⟩
  have jx := Blk.mk hx
  have jf : Fx x w w := ⟨grownBy_below (RowKit.Below.refl _ _)⟩
  have jy := fun o : Obj => blk_new w o
  clear h hx hg hbs hxl
  have hu := Try.underlying88
  cases l : beforeE D[b.toNat]! D[a.toNat]! with
  | true =>
    have y1 : Les D b a true := ⟨l⟩
    clear l
    go_enter Try.func91, Try.ntmps91
    go_wp2_with (first | (go_at_call 49; refine (less_is _ _).mono ?_; rintro e w2 ⟨rfl, hb⟩; have jb := Bel.mk hb; clear hb))
    go_ret2
    exact ⟨b, a, s + 1, rfl, .inr ⟨rfl, rfl⟩, by omega, by omega, So.out, Blk.out, Fx.out⟩
  | false =>
    have y1 : Les D b a false := ⟨l⟩
    clear l
    go_enter Try.func91, Try.ntmps91
    go_wp2_with (first | (go_at_call 49; refine (less_is _ _).mono ?_; rintro e w2 ⟨rfl, hb⟩; have jb := Bel.mk hb; clear hb))
    go_ret2
    exact ⟨a, b, s, rfl, .inl ⟨rfl, rfl⟩, by omega, by omega, So.out, Blk.out, Fx.out⟩
theorem ix_of {r1 r2 a b : Int} {n : Nat} (h : (r1 = a ∧ r2 = b) ∨ (r1 = b ∧ r2 = a)) (ha : Ix a n) (hb : Ix b n) : Ix r1 n ∧ Ix r2 n := by
  rcases h with ⟨rfl, rfl⟩ | ⟨rfl, rfl⟩
  · exact ⟨ha, hb⟩
  · exact ⟨hb, ha⟩
set_option maxHeartbeats 8000000 in
set_option maxRecDepth 100000 in
set_option synthInstance.maxHeartbeats 400000 in
set_option synthInstance.maxSize 100000 in
theorem median_calls (C : SoC) [SoG C] (w : World) (D : Array E) (h : SoAt C w D) (a b c : Int) (ha : Ix a C.n) (hb : Ix b C.n) (hc : Ix c C.n) (x : Nat) (s : Int) (hs : 0 ≤ s) (hs2 : s ≤ 90) (hx : w.heap[x]? = some (.cells #[.int .i64 s] 3 (0, 0))) (hg : x ≠ C.g) (hbs : x ≠ C.bs) :
    Calls Try.prog 90 #[datV C, .int .i64 a, .int .i64 b, .int .i64 c, .pointer (some ⟨x, 0, none⟩)] w fun e w' => ∃ r s' : Int, e = .returned (.int .i64 r) ∧ (r = a ∨ r = b ∨ r = c) ∧ SoAt C w' D ∧ w'.heap[x]? = some (.cells #[.int .i64 s'] 3 (0, 0)) ∧ w.grownBy w' (some x) := by
  have j0 := So.mk h
  have hxl : x < w.heap.size := blk_lt hx
  have jn2 : NeB w.heap.size x := ⟨by omega⟩
  have jx := Blk.mk hx
  have jf : Fx x w w := ⟨grownBy_below (RowKit.Below.refl _ _)⟩
  have jy := Blk.mk (blk_new w (.cells (datC C) 88))
  have jx2 : Blk (w.alloc (.cells (datC C) 88)) x #[.int .i64 s] 3 := ⟨blk_alloc hx _⟩
  clear h hx hxl
  have hu := Try.underlying88
  go_enter Try.func90, Try.ntmps90
  go_wp2_with (first | (go_at_call 91; refine (order2_calls C _ _ So.out _ _ inferInstance inferInstance x _ (by omega) (by omega) Blk.out hg hbs).mono ?_; rintro e w2 ⟨r1, r2, s2, rfl, hr, h1, h2, h3, h4, h5⟩; obtain ⟨i1, i2⟩ := ix_of (n := C.n) hr inferInstance inferInstance; have k1 := So.mk h3; have k2 := Blk.mk h4; have k3 := Gx.mk h5; clear h3 h4 h5))
  go_ret
  refine ⟨_, _, rfl, ?_, So.out, Blk.out, Fx.out⟩
  omega
set_option maxHeartbeats 8000000 in
set_option maxRecDepth 100000 in
set_option synthInstance.maxHeartbeats 400000 in
set_option synthInstance.maxSize 100000 in
theorem choosePivot_calls (C : SoC) [SoG C] (w : World) (D : Array E) (h : SoAt C w D) (a b : Nat) (hab : a < b) (hb : b ≤ C.n) :
    Calls Try.prog 81 #[datV C, .int .i64 a, .int .i64 b] w fun e w' => ∃ p k : Int, e = .returned (.tuple #[.int .i64 p, .int .i64 k]) ∧ a ≤ p ∧ p < b ∧ (k = 0 ∨ k = 1 ∨ k = 2) ∧ RowKit.Below w.heap.size w w' := by
  have j0 := So.mk h
  have hgl := h.lt
  have hbl := h.bs_lt
  have hsm := SoG.small (C := C)
  obtain ⟨q, hq⟩ : ∃ q : Int, Int.tdiv ((b : Int) - (a : Int)) 4 = q := ⟨_, rfl⟩
  have hq1 : 0 ≤ q ∧ 4 * q ≤ (b : Int) - a := by
    rw [← hq, show (b : Int) - (a : Int) = ((b - a : Nat) : Int) by omega]
    have : Int.tdiv (((b - a : Nat)) : Int) 4 = (((b - a) / 4 : Nat) : Int) := rfl
    rw [this]
    omega
  have jy := Blk.mk (blk_new w (.cells (datC C) 88))
  have jx : Blk ((w.alloc (.cells (datC C) 88)).alloc (.cells #[.int .i64 0] 3)) (w.heap.size + 1) #[.int .i64 0] 3 := ⟨by have := blk_new (w.alloc (.cells (datC C) 88)) (.cells #[.int .i64 0] 3); simpa using this⟩
  have jn : Nw w (w.heap.size + 1) := ⟨by omega⟩
  have hu := Try.underlying88
  have d2 : decide (50 ≤ (b : Int) - (a : Int)) = false := decide_eq_false (by omega)
  by_cases h8 : 8 ≤ (b : Int) - (a : Int)
  · have d1 : decide (8 ≤ (b : Int) - (a : Int)) = true := decide_eq_true h8
    have x1 : Ix ((a : Int) + q) C.n := ⟨by omega, by omega⟩
    have x2 : Ix ((a : Int) + q * 2) C.n := ⟨by omega, by omega⟩
    have x3 : Ix ((a : Int) + q * 3) C.n := ⟨by omega, by omega⟩
    go_enter Try.func81, Try.ntmps81
    go_wp2_with (first | (go_at_call 90; refine (median_calls C _ _ So.out _ _ _ inferInstance inferInstance inferInstance (w.heap.size + 1) _ (by omega) (by omega) Blk.out (by omega) (by omega)).mono ?_; rintro e w2 ⟨r, s2, rfl, hr, h3, h4, h5⟩; have k1 := So.mk h3; have k2 := Blk.mk h4; have k3 := Gx.mk h5; clear h3 h4 h5))
    all_goals go_ret2
    all_goals exact ⟨_, _, rfl, by omega, by omega, by omega, From.out⟩
  · have d1 : decide (8 ≤ (b : Int) - (a : Int)) = false := decide_eq_false h8
    go_enter Try.func81, Try.ntmps81
    go_wp2
    all_goals go_ret2
    all_goals exact ⟨_, _, rfl, by omega, by omega, by omega, From.out⟩
end Go.Proofs.Ytnknnbpodpfljaa.S


namespace Go.Proofs.Ytnknnbpodpfljaa.S
open Go.RowKit Go.Sort Go.Proofs.Ytnknnbpodpfljaa.P Go.Proofs.Ytnknnbpodpfljaa.Q Go.Proofs.Ytnknnbpodpfljaa.V Go.Proofs.YtnknnbpodpfljaaW.PrintWords
set_option linter.unusedVariables false
set_option linter.unusedSimpArgs false
attribute [local go_sem] cell_b frozen_b swap_run
theorem partial_eq {lt : E → E → Bool} {a b : Nat} {D : Array E} (h : b - a < 50) : partialInsertionSort lt D a b = (D, decide (scanSorted lt D b (a + 1) = b)) := by
  unfold partialInsertionSort
  rw [partialIns]
  by_cases hb : scanSorted lt D b (a + 1) = b
  · simp [hb]
  · simp [hb, h]
set_option maxHeartbeats 8000000 in
set_option maxRecDepth 100000 in
set_option synthInstance.maxHeartbeats 400000 in
set_option synthInstance.maxSize 100000 in
theorem partial_calls (C : SoC) [SoG C] (w : World) (D : Array E) (h : SoAt C w D) (a b : Nat) (hab : a < b) (hb : b ≤ C.n) :
    Calls Try.prog 83 #[datV C, .int .i64 a, .int .i64 b] w fun e w' => ∃ r : Bool, e = .returned (.bool r) ∧ partialInsertionSort beforeE D a b = (D, r) ∧ RowKit.Below w.heap.size w w' := by
  have j0 := So.mk h
  have hsm := SoG.small (C := C)
  have HP := Aside0.mk (partial_eq (lt := beforeE) (D := D) (show b - a < 50 by omega))
  have hbx := blk_new w (.cells (datC C) 88)
  have d50 : decide ((b : Int) - (a : Int) < 50) = true := decide_eq_true (by omega)
  clear h
  have hu := Try.underlying88
  go_enter Try.func83, Try.ntmps83
  go_wp2
  go_loopw [7, 8] (fun v7 v8 wr => v7 = .int .i64 ((a : Int) + 1) ∧ v8 = .int .i64 0 ∧ So C wr D ∧ From w wr ∧ Blk wr w.heap.size (datC C) 88) (fun _ _ _ => 0)
  case atStart => exact ⟨rfl, rfl, inferInstance, inferInstance, ⟨hbx⟩⟩
  case round =>
    clear j0 hbx
    obtain ⟨rfl, rfl, j1, j2, j3⟩ := hrel
    go_wp2
    go_loopw [7] (fun v7 wr => ∃ i : Nat, v7 = .int .i64 i ∧ Aside0 (a < i) ∧ Aside0 (i ≤ b) ∧ So C wr D ∧ From w wr ∧ Blk wr w.heap.size (datC C) 88 ∧ Aside0 (scanSorted beforeE D b i = scanSorted beforeE D b (a + 1))) (fun v _ => b - (intOf v).toNat)
    case atStart => exact ⟨a + 1, by go_num, ⟨by omega⟩, ⟨by omega⟩, j1, j2, j3, ⟨rfl⟩⟩
    case round =>
      clear j1 j2 j3
      obtain ⟨i, rfl, HA, HB, j1, j2, j3, HO⟩ := hrel
      have hia := HA.out
      have hib := HB.out
      by_cases c1 : i < b
      · have d1 : decide ((i : Int) < (b : Int)) = true := decide_eq_true (by omega)
        have d3 : ((i : Int) == (b : Int)) = false := beq_eq_false_iff_ne.mpr (by omega)
        have x1 : Ix (i : Int) C.n := ⟨by omega, by omega⟩
        have x2 : Ix ((i : Int) - 1) C.n := ⟨by omega, by omega⟩
        cases l : beforeE D[i]! D[i - 1]! with
        | true =>
          have y1 : Les D (i : Int) ((i : Int) - 1) true := Les.of l rfl (by omega)
          have hs := Aside0.mk (scanSorted_stop (lt := beforeE) D b i (.inr l))
          clear l
          go_wp2_with (first | (go_at_call 49; refine (less_is _ _).mono ?_; rintro e w2 ⟨rfl, hb⟩; have jb := Bel.mk hb; clear hb))
          go_ret
          refine ⟨false, rfl, ?_, From.out⟩
          rw [HP.out, ← HO.out, hs.out, decide_eq_false (by omega)]
        | false =>
          have y1 : Les D (i : Int) ((i : Int) - 1) false := Les.of l rfl (by omega)
          have hs := Aside0.mk (scanSorted_go (lt := beforeE) D b i c1 l)
          clear l
          go_wp2_with (first | (go_at_call 49; refine (less_is _ _).mono ?_; rintro e w2 ⟨rfl, hb⟩; have jb := Bel.mk hb; clear hb))
          exact ⟨⟨i + 1, by go_num, ⟨by omega⟩, ⟨by omega⟩, inferInstance, inferInstance, inferInstance, ⟨by rw [← HO.out, hs.out]⟩⟩, by simp [intOf]; omega⟩
      · have d1 : decide ((i : Int) < (b : Int)) = false := decide_eq_false (by omega)
        obtain rfl : i = b := by omega
        have hs := Aside0.mk (scanSorted_stop (lt := beforeE) D i i (.inl (by omega)))
        go_wp2
        go_ret
        refine ⟨true, rfl, ?_, From.out⟩
        rw [HP.out, ← HO.out, hs.out, decide_eq_true rfl]
end Go.Proofs.Ytnknnbpodpfljaa.S


namespace Go.Proofs.Ytnknnbpodpfljaa.S
open Go.RowKit Go.Sort Go.Proofs.Ytnknnbpodpfljaa.P Go.Proofs.Ytnknnbpodpfljaa.Q Go.Proofs.Ytnknnbpodpfljaa.V Go.Proofs.YtnknnbpodpfljaaW.PrintWords
set_option linter.unusedVariables false
set_option linter.unusedSimpArgs false
attribute [local go_sem] cell_b frozen_b swap_run
theorem partition_yes (D : Array E) (a b p i j : Nat) (hi : scanUp (fun x => beforeE x (swp D a p)[a]!) (swp D a p) (b - 1) (a + 1) = i) (hj : scanDown (fun x => !beforeE x (swp D a p)[a]!) (swp D a p) i (b - 1) = j) (h : i > j) :
    partition beforeE D a b p = (j, true, swp (swp D a p) j a) := by
  unfold partition
  simp only [hi, hj, if_pos h]
theorem partition_no (D : Array E) (a b p i j : Nat) (hi : scanUp (fun x => beforeE x (swp D a p)[a]!) (swp D a p) (b - 1) (a + 1) = i) (hj : scanDown (fun x => !beforeE x (swp D a p)[a]!) (swp D a p) i (b - 1) = j) (h : ¬ i > j) :
    partition beforeE D a b p = ((partLoop beforeE a (i + 1) (j - 1) (swp (swp D a p) i j)).1, false, swp (partLoop beforeE a (i + 1) (j - 1) (swp (swp D a p) i j)).2 (partLoop beforeE a (i + 1) (j - 1) (swp (swp D a p) i j)).1 a) := by
  unfold partition
  simp only [hi, hj, if_neg h]
set_option maxHeartbeats 16000000 in
set_option maxRecDepth 100000 in
set_option synthInstance.maxHeartbeats 400000 in
set_option synthInstance.maxSize 100000 in
theorem partition_calls (C : SoC) [SoG C] (w : World) (D : Array E) (h : SoAt C w D) (a b p : Nat) (hap : a ≤ p) (hpb : p < b) (hb : b ≤ C.n) :
    Calls Try.prog 85 #[datV C, .int .i64 a, .int .i64 b, .int .i64 p] w fun e w' => e = .returned (.tuple #[.int .i64 (partition beforeE D a b p).1, .bool (partition beforeE D a b p).2.1]) ∧ SoAt C w' (partition beforeE D a b p).2.2 ∧ w.grownBy w' (some C.g) := by
  have j0 := So.mk h
  have hsm := SoG.small (C := C)
  have jx : NeB w.heap.size C.g := ⟨Nat.ne_of_gt h.lt⟩
  have jy0 := Blk.mk (blk_new w (.cells (datC C) 88))
  have x5 : Ix (a : Int) C.n := ⟨by omega, by omega⟩
  have x6 : Ix (p : Int) C.n := ⟨by omega, by omega⟩
  obtain ⟨R, hRR⟩ : ∃ R, partition beforeE D a b p = R := ⟨_, rfl⟩
  rw [hRR]
  have hRR := Aside0.mk hRR.symm
  clear h
  have hu := Try.underlying88
  go_enter Try.func85, Try.ntmps85
  go_wp2
  have jq : So C (swapW C D (w.alloc (.cells (datC C) 88)) (a : Int) (p : Int)) (swp D a p) := ⟨so_cast (D' := swp D a p) inferInstance rfl⟩
  have jf : Fr C w (swapW C D (w.alloc (.cells (datC C) 88)) (a : Int) (p : Int)) := inferInstance
  have jy : Blk (swapW C D (w.alloc (.cells (datC C) 88)) (a : Int) (p : Int)) w.heap.size (datC C) 88 := inferInstance
  clear j0 jy0
  go_loopw [10] (fun v wr => ∃ i1 : Nat, v = .int .i64 i1 ∧ Aside0 (a < i1) ∧ Aside0 (i1 ≤ b - 1 + 1) ∧ So C wr (swp D a p) ∧ Fr C w wr ∧ Blk wr w.heap.size (datC C) 88 ∧ Aside0 (scanUp (fun x => beforeE x (swp D a p)[a]!) (swp D a p) (b - 1) i1 = scanUp (fun x => beforeE x (swp D a p)[a]!) (swp D a p) (b - 1) (a + 1))) (fun v _ => b - 1 + 1 - (intOf v).toNat)
  case atStart => exact ⟨a + 1, by first | rfl | go_num, ⟨by omega⟩, ⟨by omega⟩, inferInstance, inferInstance, inferInstance, ⟨rfl⟩⟩
  case round =>
    clear jq jy jf
    obtain ⟨i1, rfl, HA1, HB1, m1, m2, m3, HU1⟩ := hrel
    have ha1 := HA1.out
    have hb1 := HB1.out
    have x2 : Ix (a : Int) C.n := ⟨by omega, by omega⟩
    by_cases c1 : i1 ≤ b - 1 ∧ beforeE (swp D a p)[i1]! (swp D a p)[a]! = true
    · obtain ⟨c1, l⟩ := c1
      have d1 : decide ((i1 : Int) ≤ (b : Int) - 1) = true := decide_eq_true (by omega)
      have x1 : Ix (i1 : Int) C.n := ⟨by omega, by omega⟩
      have y1 : Les (swp D a p) (i1 : Int) (a : Int) true := Les.of l rfl rfl
      have hs := Aside0.mk (scanUp_go (fun x => beforeE x (swp D a p)[a]!) (swp D a p) (b - 1) i1 c1 l)
      clear l
      go_wp2_with (first | (go_at_call 49; refine (less_is _ _).mono ?_; rintro e w2 ⟨rfl, hb⟩; have jb := Bel.mk hb; clear hb))
      first
        | exact ⟨⟨i1 + 1, by first | rfl | go_num, ⟨by omega⟩, ⟨by omega⟩, inferInstance, inferInstance, inferInstance, ⟨by rw [← HU1.out, hs.out]⟩⟩, by simp [intOf]; omega⟩
        | (go_roundw; (case rel => ((repeat apply Exists.intro); exact ⟨⟨i1 + 1, by first | rfl | go_num, ⟨by omega⟩, ⟨by omega⟩, inferInstance, inferInstance, inferInstance, ⟨by rw [← HU1.out, hs.out]⟩⟩, (by first | rfl | (simp only [Int.natCast_add, Int.natCast_one]; rfl) | (simp only [Int.natCast_add, Int.natCast_one, ez]; rfl))⟩)); (case measure => first | (simp [intOf]; omega) | (simp [intOf]; done)))
    · have Hi1 : Aside0 (scanUp (fun x => beforeE x (swp D a p)[a]!) (swp D a p) (b - 1) (a + 1) = i1) := ⟨by
        rw [← HU1.out]
        refine scanUp_end (fun x => beforeE x (swp D a p)[a]!) (swp D a p) (b - 1) i1 ?_
        by_cases c : i1 ≤ b - 1
        · refine .inr ?_
          have : beforeE (swp D a p)[i1]! (swp D a p)[a]! = false := by
            cases h : beforeE (swp D a p)[i1]! (swp D a p)[a]! with
            | true => exact absurd ⟨c, h⟩ c1
            | false => rfl
          simp [this]
        · exact .inl c⟩
      have step : (i1 ≤ b - 1 ∧ beforeE (swp D a p)[i1]! (swp D a p)[a]! = false) ∨ ¬ i1 ≤ b - 1 := by
        by_cases c : i1 ≤ b - 1
        · refine .inl ⟨c, ?_⟩
          cases h : beforeE (swp D a p)[i1]! (swp D a p)[a]! with
          | true => exact absurd ⟨c, h⟩ c1
          | false => rfl
        · exact .inr c
      clear c1 HU1
      rcases step with ⟨c1, l⟩ | c1
      · have d1 : decide ((i1 : Int) ≤ (b : Int) - 1) = true := decide_eq_true (by omega)
        have x1 : Ix (i1 : Int) C.n := ⟨by omega, by omega⟩
        have y1 : Les (swp D a p) (i1 : Int) (a : Int) false := Les.of l rfl rfl
        have EA := Aside0.mk l
        clear l
        go_wp2_with (first | (go_at_call 49; refine (less_is _ _).mono ?_; rintro e w2 ⟨rfl, hb⟩; have jb := Bel.mk hb; clear hb))
        clear d1
        go_loopw [11] (fun v wr => ∃ j1 : Nat, v = .int .i64 j1 ∧ Aside0 (i1 ≤ j1 + 1) ∧ Aside0 (j1 ≤ b - 1) ∧ So C wr (swp D a p) ∧ Fr C w wr ∧ Blk wr w.heap.size (datC C) 88 ∧ Aside0 (scanDown (fun x => !beforeE x (swp D a p)[a]!) (swp D a p) i1 j1 = scanDown (fun x => !beforeE x (swp D a p)[a]!) (swp D a p) i1 (b - 1))) (fun v _ => (intOf v).toNat)
        case atStart => exact ⟨b - 1, by first | rfl | (congr 1; omega), ⟨by omega⟩, ⟨by omega⟩, inferInstance, inferInstance, inferInstance, ⟨rfl⟩⟩
        case round =>
          clear m1 m2 m3
          obtain ⟨j1, rfl, HC1, HD1, n1, n2, n3, HU1⟩ := hrel
          have hc1 := HC1.out
          have hd1 := HD1.out
          by_cases c2 : i1 ≤ j1 ∧ beforeE (swp D a p)[j1]! (swp D a p)[a]! = false
          · obtain ⟨c2, l⟩ := c2
            have d2 : decide ((i1 : Int) ≤ (j1 : Int)) = true := decide_eq_true (by omega)
            have d2n : decide (i1 ≤ j1) = true := decide_eq_true (by omega)
            have x3 : Ix (j1 : Int) C.n := ⟨by omega, by omega⟩
            have y2 : Les (swp D a p) (j1 : Int) (a : Int) false := Les.of l rfl rfl
            have hs := Aside0.mk (scanDown_go (fun x => !beforeE x (swp D a p)[a]!) (swp D a p) i1 j1 c2 (by omega) (by simp [l]))
            clear l
            go_wp2_with (first | (go_at_call 49; refine (less_is _ _).mono ?_; rintro e w2 ⟨rfl, hb⟩; have jb := Bel.mk hb; clear hb))
            have ez : ((j1 - 1 : Nat) : Int) = (j1 : Int) - 1 := by omega
            first
              | exact ⟨⟨j1 - 1, by first | rfl | (congr 1; omega), ⟨by omega⟩, ⟨by omega⟩, inferInstance, inferInstance, inferInstance, ⟨by rw [← HU1.out, hs.out]⟩⟩, by simp [intOf]; omega⟩
              | (go_roundw; (case rel => ((repeat apply Exists.intro); exact ⟨⟨j1 - 1, by first | rfl | (congr 1; omega), ⟨by omega⟩, ⟨by omega⟩, inferInstance, inferInstance, inferInstance, ⟨by rw [← HU1.out, hs.out]⟩⟩, (by first | rfl | (simp only [Int.natCast_add, Int.natCast_one]; rfl) | (simp only [Int.natCast_add, Int.natCast_one, ez]; rfl))⟩)); (case measure => first | (simp [intOf]; omega) | (simp [intOf]; done)))
          · have Hj1 : Aside0 (scanDown (fun x => !beforeE x (swp D a p)[a]!) (swp D a p) i1 (b - 1) = j1) := ⟨by
              rw [← HU1.out]
              refine scanDown_end (fun x => !beforeE x (swp D a p)[a]!) (swp D a p) i1 j1 ?_
              by_cases c : i1 ≤ j1
              · refine .inr ?_
                have : beforeE (swp D a p)[j1]! (swp D a p)[a]! = true := by
                  cases h : beforeE (swp D a p)[j1]! (swp D a p)[a]! with
                  | false => exact absurd ⟨c, h⟩ c2
                  | true => rfl
                simp [this]
              · exact .inl c⟩
            have step : (i1 ≤ j1 ∧ beforeE (swp D a p)[j1]! (swp D a p)[a]! = true) ∨ ¬ i1 ≤ j1 := by
              by_cases c : i1 ≤ j1
              · refine .inl ⟨c, ?_⟩
                cases h : beforeE (swp D a p)[j1]! (swp D a p)[a]! with
                | false => exact absurd ⟨c, h⟩ c2
                | true => rfl
              · exact .inr c
            clear c2 HU1
            rcases step with ⟨c2, l⟩ | c2
            · have d2 : decide ((i1 : Int) ≤ (j1 : Int)) = true := decide_eq_true (by omega)
              have d2n : decide (i1 ≤ j1) = true := decide_eq_true (by omega)
              have d3 : decide ((j1 : Int) < (i1 : Int)) = false := decide_eq_false (by omega)
              have d3n : decide (j1 < i1) = false := decide_eq_false (by omega)
              have x3 : Ix (j1 : Int) C.n := ⟨by omega, by omega⟩
              have x1 : Ix (i1 : Int) C.n := ⟨by omega, by omega⟩
              have y2 : Les (swp D a p) (j1 : Int) (a : Int) true := Les.of l rfl rfl
              have hge : a + 1 ≤ i1 := by
                have := scanUp_ge (fun x => beforeE x (swp D a p)[a]!) (swp D a p) (b - 1) (a + 1)
                rw [Hi1.out] at this
                exact this
              have hne : i1 ≠ j1 := by
                rintro rfl
                have := EA.out
                rw [l] at this
                cases this
              clear l
              go_wp2_with (first | (go_at_call 49; refine (less_is _ _).mono ?_; rintro e w2 ⟨rfl, hb⟩; have jb := Bel.mk hb; clear hb))
              have HRR := Aside0.mk (partition_no D a b p i1 j1 Hi1.out Hj1.out (by omega))
              go_loopw [10, 11] (fun v u wr => ∃ (i j : Nat) (dk : Array E), v = .int .i64 i ∧ u = .int .i64 j ∧ Aside0 (a < i) ∧ Aside0 (i ≤ j + 1) ∧ Aside0 (j < b) ∧ So C wr dk ∧ Fr C w wr ∧ Blk wr w.heap.size (datC C) 88 ∧ Aside0 (partLoop beforeE a i j dk = partLoop beforeE a (i1 + 1) (j1 - 1) (swp (swp D a p) i1 j1))) (fun v u _ => (intOf u).toNat + 1 - (intOf v).toNat)
              case atStart => exact ⟨i1 + 1, j1 - 1, swp (swp D a p) i1 j1, by go_num, by congr 1; omega, ⟨by omega⟩, ⟨by omega⟩, ⟨by omega⟩, ⟨so_cast (D' := swp (swp D a p) i1 j1) inferInstance rfl⟩, inferInstance, inferInstance, ⟨rfl⟩⟩
              case round =>
                clear n1 n2 n3 d2 d3 d2n d3n y2 x1 x3
                obtain ⟨i, j, dk, rfl, rfl, HP, HQ, HR, j1_, j2_, j3_, HO⟩ := hrel
                have hp := HP.out
                have hq := HQ.out
                have hr := HR.out
                go_wp2
                go_loopw [10] (fun v wr => ∃ i2 : Nat, v = .int .i64 i2 ∧ Aside0 (a < i2) ∧ Aside0 (i2 ≤ j + 1) ∧ So C wr dk ∧ Fr C w wr ∧ Blk wr w.heap.size (datC C) 88 ∧ Aside0 (scanUp (fun x => beforeE x dk[a]!) dk (j) i2 = scanUp (fun x => beforeE x dk[a]!) dk (j) (i))) (fun v _ => j + 1 - (intOf v).toNat)
                case atStart => exact ⟨i, by first | rfl | go_num, ⟨by omega⟩, ⟨by omega⟩, inferInstance, inferInstance, inferInstance, ⟨rfl⟩⟩
                case round =>
                  clear j1_ j2_ j3_
                  obtain ⟨i2, rfl, HA2, HB2, m1, m2, m3, HU2⟩ := hrel
                  have ha2 := HA2.out
                  have hb2 := HB2.out
                  have x2 : Ix (a : Int) C.n := ⟨by omega, by omega⟩
                  by_cases c1 : i2 ≤ j ∧ beforeE dk[i2]! dk[a]! = true
                  · obtain ⟨c1, l⟩ := c1
                    have d1 : decide ((i2 : Int) ≤ (j : Int)) = true := decide_eq_true (by omega)
                    have x1 : Ix (i2 : Int) C.n := ⟨by omega, by omega⟩
                    have y1 : Les dk (i2 : Int) (a : Int) true := Les.of l rfl rfl
                    have hs := Aside0.mk (scanUp_go (fun x => beforeE x dk[a]!) dk (j) i2 c1 l)
                    clear l
                    go_wp2_with (first | (go_at_call 49; refine (less_is _ _).mono ?_; rintro e w2 ⟨rfl, hb⟩; have jb := Bel.mk hb; clear hb))
                    first
                      | exact ⟨⟨i2 + 1, by first | rfl | go_num, ⟨by omega⟩, ⟨by omega⟩, inferInstance, inferInstance, inferInstance, ⟨by rw [← HU2.out, hs.out]⟩⟩, by simp [intOf]; omega⟩
                      | (go_roundw; (case rel => ((repeat apply Exists.intro); exact ⟨⟨i2 + 1, by first | rfl | go_num, ⟨by omega⟩, ⟨by omega⟩, inferInstance, inferInstance, inferInstance, ⟨by rw [← HU2.out, hs.out]⟩⟩, (by first | rfl | (simp only [Int.natCast_add, Int.natCast_one]; rfl) | (simp only [Int.natCast_add, Int.natCast_one, ez]; rfl))⟩)); (case measure => first | (simp [intOf]; omega) | (simp [intOf]; done)))
                  · have Hi2 : Aside0 (scanUp (fun x => beforeE x dk[a]!) dk (j) (i) = i2) := ⟨by
                      rw [← HU2.out]
                      refine scanUp_end (fun x => beforeE x dk[a]!) dk (j) i2 ?_
                      by_cases c : i2 ≤ j
                      · refine .inr ?_
                        have : beforeE dk[i2]! dk[a]! = false := by
                          cases h : beforeE dk[i2]! dk[a]! with
                          | true => exact absurd ⟨c, h⟩ c1
                          | false => rfl
                        simp [this]
                      · exact .inl c⟩
                    have step : (i2 ≤ j ∧ beforeE dk[i2]! dk[a]! = false) ∨ ¬ i2 ≤ j := by
                      by_cases c : i2 ≤ j
                      · refine .inl ⟨c, ?_⟩
                        cases h : beforeE dk[i2]! dk[a]! with
                        | true => exact absurd ⟨c, h⟩ c1
                        | false => rfl
                      · exact .inr c
                    clear c1 HU2
                    rcases step with ⟨c1, l⟩ | c1
                    · have d1 : decide ((i2 : Int) ≤ (j : Int)) = true := decide_eq_true (by omega)
                      have x1 : Ix (i2 : Int) C.n := ⟨by omega, by omega⟩
                      have y1 : Les dk (i2 : Int) (a : Int) false := Les.of l rfl rfl
                      have EA := Aside0.mk l
                      clear l
                      go_wp2_with (first | (go_at_call 49; refine (less_is _ _).mono ?_; rintro e w2 ⟨rfl, hb⟩; have jb := Bel.mk hb; clear hb))
                      clear d1
                      go_loopw [11] (fun v wr => ∃ j2 : Nat, v = .int .i64 j2 ∧ Aside0 (i2 ≤ j2 + 1) ∧ Aside0 (j2 ≤ j) ∧ So C wr dk ∧ Fr C w wr ∧ Blk wr w.heap.size (datC C) 88 ∧ Aside0 (scanDown (fun x => !beforeE x dk[a]!) dk i2 j2 = scanDown (fun x => !beforeE x dk[a]!) dk i2 (j))) (fun v _ => (intOf v).toNat)
                      case atStart => exact ⟨j, by first | rfl | (congr 1; omega), ⟨by omega⟩, ⟨by omega⟩, inferInstance, inferInstance, inferInstance, ⟨rfl⟩⟩
                      case round =>
                        clear m1 m2 m3
                        obtain ⟨j2, rfl, HC2, HD2, n1, n2, n3, HU2⟩ := hrel
                        have hc2 := HC2.out
                        have hd2 := HD2.out
                        by_cases c2 : i2 ≤ j2 ∧ beforeE dk[j2]! dk[a]! = false
                        · obtain ⟨c2, l⟩ := c2
                          have d2 : decide ((i2 : Int) ≤ (j2 : Int)) = true := decide_eq_true (by omega)
                          have d2n : decide (i2 ≤ j2) = true := decide_eq_true (by omega)
                          have x3 : Ix (j2 : Int) C.n := ⟨by omega, by omega⟩
                          have y2 : Les dk (j2 : Int) (a : Int) false := Les.of l rfl rfl
                          have hs := Aside0.mk (scanDown_go (fun x => !beforeE x dk[a]!) dk i2 j2 c2 (by omega) (by simp [l]))
                          clear l
                          go_wp2_with (first | (go_at_call 49; refine (less_is _ _).mono ?_; rintro e w2 ⟨rfl, hb⟩; have jb := Bel.mk hb; clear hb))
                          have ez : ((j2 - 1 : Nat) : Int) = (j2 : Int) - 1 := by omega
                          first
                            | exact ⟨⟨j2 - 1, by first | rfl | (congr 1; omega), ⟨by omega⟩, ⟨by omega⟩, inferInstance, inferInstance, inferInstance, ⟨by rw [← HU2.out, hs.out]⟩⟩, by simp [intOf]; omega⟩
                            | (go_roundw; (case rel => ((repeat apply Exists.intro); exact ⟨⟨j2 - 1, by first | rfl | (congr 1; omega), ⟨by omega⟩, ⟨by omega⟩, inferInstance, inferInstance, inferInstance, ⟨by rw [← HU2.out, hs.out]⟩⟩, (by first | rfl | (simp only [Int.natCast_add, Int.natCast_one]; rfl) | (simp only [Int.natCast_add, Int.natCast_one, ez]; rfl))⟩)); (case measure => first | (simp [intOf]; omega) | (simp [intOf]; done)))
                        · have Hj2 : Aside0 (scanDown (fun x => !beforeE x dk[a]!) dk i2 (j) = j2) := ⟨by
                            rw [← HU2.out]
                            refine scanDown_end (fun x => !beforeE x dk[a]!) dk i2 j2 ?_
                            by_cases c : i2 ≤ j2
                            · refine .inr ?_
                              have : beforeE dk[j2]! dk[a]! = true := by
                                cases h : beforeE dk[j2]! dk[a]! with
                                | false => exact absurd ⟨c, h⟩ c2
                                | true => rfl
                              simp [this]
                            · exact .inl c⟩
                          have step : (i2 ≤ j2 ∧ beforeE dk[j2]! dk[a]! = true) ∨ ¬ i2 ≤ j2 := by
                            by_cases c : i2 ≤ j2
                            · refine .inl ⟨c, ?_⟩
                              cases h : beforeE dk[j2]! dk[a]! with
                              | false => exact absurd ⟨c, h⟩ c2
                              | true => rfl
                            · exact .inr c
                          clear c2 HU2
                          rcases step with ⟨c2, l⟩ | c2
                          · have d2 : decide ((i2 : Int) ≤ (j2 : Int)) = true := decide_eq_true (by omega)
                            have d2n : decide (i2 ≤ j2) = true := decide_eq_true (by omega)
                            have d3 : decide ((j2 : Int) < (i2 : Int)) = false := decide_eq_false (by omega)
                            have d3n : decide (j2 < i2) = false := decide_eq_false (by omega)
                            have x3 : Ix (j2 : Int) C.n := ⟨by omega, by omega⟩
                            have x1 : Ix (i2 : Int) C.n := ⟨by omega, by omega⟩
                            have y2 : Les dk (j2 : Int) (a : Int) true := Les.of l rfl rfl
                            have hge : i ≤ i2 := by
                              have := scanUp_ge (fun x => beforeE x dk[a]!) dk (j) (i)
                              rw [Hi2.out] at this
                              exact this
                            have hne : i2 ≠ j2 := by
                              rintro rfl
                              have := EA.out
                              rw [l] at this
                              cases this
                            clear l
                            go_wp2_with (first | (go_at_call 49; refine (less_is _ _).mono ?_; rintro e w2 ⟨rfl, hb⟩; have jb := Bel.mk hb; clear hb))
                            have ez : ((j2 - 1 : Nat) : Int) = (j2 : Int) - 1 := by omega
                            first
                              | exact ⟨⟨i2 + 1, j2 - 1, swp dk i2 j2, by first | rfl | go_num, by first | rfl | (congr 1; omega), ⟨by omega⟩, ⟨by omega⟩, ⟨by omega⟩, ⟨so_cast (D' := swp dk i2 j2) inferInstance rfl⟩, inferInstance, inferInstance, ⟨by
                              rw [← HO.out, partLoop_eq beforeE a i j dk, Hi2.out, Hj2.out, if_neg (by omega)]⟩⟩, by simp [intOf]; omega⟩
                              | (go_roundw; (case rel => ((repeat apply Exists.intro); exact ⟨⟨i2 + 1, j2 - 1, swp dk i2 j2, by first | rfl | go_num, by first | rfl | (congr 1; omega), ⟨by omega⟩, ⟨by omega⟩, ⟨by omega⟩, ⟨so_cast (D' := swp dk i2 j2) inferInstance rfl⟩, inferInstance, inferInstance, ⟨by
                              rw [← HO.out, partLoop_eq beforeE a i j dk, Hi2.out, Hj2.out, if_neg (by omega)]⟩⟩, (by first | rfl | (simp only [Int.natCast_add, Int.natCast_one]; rfl) | (simp only [Int.natCast_add, Int.natCast_one, ez]; rfl))⟩)); (case measure => first | (simp [intOf]; omega) | (simp [intOf]; done)))
                          · have d2 : decide ((i2 : Int) ≤ (j2 : Int)) = false := decide_eq_false (by omega)
                            have d2n : decide (i2 ≤ j2) = false := decide_eq_false (by omega)
                            have d3 : decide ((j2 : Int) < (i2 : Int)) = true := decide_eq_true (by omega)
                            have d3n : decide (j2 < i2) = true := decide_eq_true (by omega)
                            have x3 : Ix (j2 : Int) C.n := ⟨by omega, by omega⟩
                            go_wp2
                            go_ret2
                            have hz := HO.out
                            rw [partLoop_eq beforeE a i j dk, Hi2.out, Hj2.out, if_pos (by omega)] at hz
                            refine ⟨by rw [hRR.out, HRR.out, ← hz]; rfl, so_cast (D' := R.2.2) (D := swp dk j2 a) ⟨so_cast (D' := swp dk j2 a) inferInstance rfl⟩ (by rw [hRR.out, HRR.out, ← hz]), Fr.out⟩
                    · have d1 : decide ((i2 : Int) ≤ (j : Int)) = false := decide_eq_false (by omega)
                      go_wp2
                      go_loopw [11] (fun v wr => ∃ j2 : Nat, v = .int .i64 j2 ∧ Aside0 (i2 ≤ j2 + 1) ∧ Aside0 (j2 ≤ j) ∧ So C wr dk ∧ Fr C w wr ∧ Blk wr w.heap.size (datC C) 88 ∧ Aside0 (scanDown (fun x => !beforeE x dk[a]!) dk i2 j2 = scanDown (fun x => !beforeE x dk[a]!) dk i2 (j))) (fun v _ => (intOf v).toNat)
                      case atStart => exact ⟨j, by first | rfl | (congr 1; omega), ⟨by omega⟩, ⟨by omega⟩, inferInstance, inferInstance, inferInstance, ⟨rfl⟩⟩
                      case round =>
                        clear m1 m2 m3
                        obtain ⟨j2, rfl, HC2, HD2, n1, n2, n3, HU2⟩ := hrel
                        have hc2 := HC2.out
                        have hd2 := HD2.out
                        have c2 : ¬ i2 ≤ j2 := by omega
                        have Hj2 : Aside0 (scanDown (fun x => !beforeE x dk[a]!) dk i2 (j) = j2) := ⟨by
                          rw [← HU2.out]
                          exact scanDown_end (fun x => !beforeE x dk[a]!) dk i2 j2 (.inl c2)⟩
                        clear HU2
                        have d2 : decide ((i2 : Int) ≤ (j2 : Int)) = false := decide_eq_false (by omega)
                        have d2n : decide (i2 ≤ j2) = false := decide_eq_false (by omega)
                        have d3 : decide ((j2 : Int) < (i2 : Int)) = true := decide_eq_true (by omega)
                        have d3n : decide (j2 < i2) = true := decide_eq_true (by omega)
                        have x3 : Ix (j2 : Int) C.n := ⟨by omega, by omega⟩
                        go_wp2
                        go_ret2
                        have hz := HO.out
                        rw [partLoop_eq beforeE a i j dk, Hi2.out, Hj2.out, if_pos (by omega)] at hz
                        refine ⟨by rw [hRR.out, HRR.out, ← hz]; rfl, so_cast (D' := R.2.2) (D := swp dk j2 a) ⟨so_cast (D' := swp dk j2 a) inferInstance rfl⟩ (by rw [hRR.out, HRR.out, ← hz]), Fr.out⟩
            · have d2 : decide ((i1 : Int) ≤ (j1 : Int)) = false := decide_eq_false (by omega)
              have d2n : decide (i1 ≤ j1) = false := decide_eq_false (by omega)
              have d3 : decide ((j1 : Int) < (i1 : Int)) = true := decide_eq_true (by omega)
              have d3n : decide (j1 < i1) = true := decide_eq_true (by omega)
              have x3 : Ix (j1 : Int) C.n := ⟨by omega, by omega⟩
              go_wp2
              go_ret2
              have hz := partition_yes D a b p i1 j1 Hi1.out Hj1.out (by omega)
              refine ⟨by rw [hRR.out, hz]; rfl, so_cast (D' := R.2.2) (D := swp (swp D a p) j1 a) ⟨so_cast (D' := swp (swp D a p) j1 a) inferInstance rfl⟩ (by rw [hRR.out, hz]), Fr.out⟩
      · have d1 : decide ((i1 : Int) ≤ (b : Int) - 1) = false := decide_eq_false (by omega)
        go_wp2
        go_loopw [11] (fun v wr => ∃ j1 : Nat, v = .int .i64 j1 ∧ Aside0 (i1 ≤ j1 + 1) ∧ Aside0 (j1 ≤ b - 1) ∧ So C wr (swp D a p) ∧ Fr C w wr ∧ Blk wr w.heap.size (datC C) 88 ∧ Aside0 (scanDown (fun x => !beforeE x (swp D a p)[a]!) (swp D a p) i1 j1 = scanDown (fun x => !beforeE x (swp D a p)[a]!) (swp D a p) i1 (b - 1))) (fun v _ => (intOf v).toNat)
        case atStart => exact ⟨b - 1, by first | rfl | (congr 1; omega), ⟨by omega⟩, ⟨by omega⟩, inferInstance, inferInstance, inferInstance, ⟨rfl⟩⟩
        case round =>
          clear m1 m2 m3
          obtain ⟨j1, rfl, HC1, HD1, n1, n2, n3, HU1⟩ := hrel
          have hc1 := HC1.out
          have hd1 := HD1.out
          have c2 : ¬ i1 ≤ j1 := by omega
          have Hj1 : Aside0 (scanDown (fun x => !beforeE x (swp D a p)[a]!) (swp D a p) i1 (b - 1) = j1) := ⟨by
            rw [← HU1.out]
            exact scanDown_end (fun x => !beforeE x (swp D a p)[a]!) (swp D a p) i1 j1 (.inl c2)⟩
          clear HU1
          have d2 : decide ((i1 : Int) ≤ (j1 : Int)) = false := decide_eq_false (by omega)
          have d2n : decide (i1 ≤ j1) = false := decide_eq_false (by omega)
          have d3 : decide ((j1 : Int) < (i1 : Int)) = true := decide_eq_true (by omega)
          have d3n : decide (j1 < i1) = true := decide_eq_true (by omega)
          have x3 : Ix (j1 : Int) C.n := ⟨by omega, by omega⟩
          go_wp2
          go_ret2
          have hz := partition_yes D a b p i1 j1 Hi1.out Hj1.out (by omega)
          refine ⟨by rw [hRR.out, hz]; rfl, so_cast (D' := R.2.2) (D := swp (swp D a p) j1 a) ⟨so_cast (D' := swp (swp D a p) j1 a) inferInstance rfl⟩ (by rw [hRR.out, hz]), Fr.out⟩
end Go.Proofs.Ytnknnbpodpfljaa.S

