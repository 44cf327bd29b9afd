/- What functions of the program come to (f), that their calls come to just this (calls), and the plain laws over lists and numbers. No condition but those of the given row. -/
import Derived.Test.YtbkkpllejgedcaaC2
namespace Go.Proofs.Ytbkkpllejgedcaa.P
open Go.RowKit Go.Proofs.YtbkkpllejgedcaaW.PrintWords Go.Proofs.YtbkkpllejgedcaaW.PrintLast Go.Proofs.YtbkkpllejgedcaaW.PrintMore
attribute [local go_sem] max2_int min2_int max_two min_two max_three min_three max_four min_four
set_option linter.unusedVariables false
set_option linter.unusedSimpArgs false
def spec_l34Copy.f (l0 : List (S74)) : Option ((List (S74))) := (some (([] : List (S74)) : List (S74))).bind fun y712 => (if y712.length + l0.length < 4398046511104 then (some (y712 ++ l0)) else (none))
set_option maxHeartbeats 8000000 in
set_option maxRecDepth 100000 in
theorem spec_l34Copy.calls (A0 : Option Addr) (c0 : Nat) (l0 : List (S74)) (r : List (S74)) (w : World) (hr0 : Kd.C k74 w A0 l0.length l0) (hc0 : l0.length ≤ c0) (h : spec_l34Copy.f l0 = some r) :
    Calls Try.prog 93 #[.slice A0 l0.length c0] w fun e w' => ∃ v0_ : Value, e = .returned (v0_) ∧ Kd.R k74 74 w' w.heap.size (fun _ => True) v0_ r ∧ Below w.heap.size w w' := by
  have HR0 := Aside0.mk hr0
  have HC0 := Aside0.mk hc0
  clear hr0 hc0
  have HB := Aside0.mk (Below.refl w.heap.size w)
  have H : ((some (([] : List (S74)) : List (S74))).bind fun y712 => (if y712.length + l0.length < 4398046511104 then (some (y712 ++ l0)) else (none))) = some r := h
  clear h
  obtain ⟨y712, hy712⟩ : ∃ y_ : List (S74), y_ = (([] : List (S74))) := ⟨_, rfl⟩
  replace H : (if y712.length + l0.length < 4398046511104 then (some (y712 ++ l0)) else (none)) = some r := by first | (rw [hy712]; with_reducible exact H) | (have H2_ := (Option.bind_some _ _).symm.trans H; rw [hy712]; with_reducible exact H2_) | (have H2_ := (Option.bind_some _ _).symm.trans H; with_reducible exact H2_) | with_reducible exact H | (rw [hy712]; exact H) | exact H
  have Ny712 := Aside0.mk hy712
  clear hy712
  by_cases c2 : y712.length + l0.length < 4398046511104
  · rw [if_pos c2] at H
    have LMc2 := Aside0.mk c2
    clear c2
    obtain ⟨y715, hy715⟩ : ∃ y_ : List (S74), y_ = (y712 ++ l0) := ⟨_, rfl⟩
    replace H : (some y715) = some r := by first | (rw [hy715]; with_reducible exact H) | (have H2_ := (Option.bind_some _ _).symm.trans H; rw [hy715]; with_reducible exact H2_) | (have H2_ := (Option.bind_some _ _).symm.trans H; with_reducible exact H2_) | with_reducible exact H | (rw [hy715]; exact H) | exact H
    have Ny715 := Aside0.mk hy715
    clear hy715
    obtain rfl := Option.some.inj H
    go_enter Try.func93, Try.ntmps93
    go_wp2_with (first | ((with_reducible refine gate_dst (N := 3) rfl ?_); refine Kd.R_lit k74 _ 74 ?hg (N := 3) ?hd (xs := ([] : List (S74))) (inner := []) (ok := fun _ => True) (okp := fun _ => True) ?hr ?hp (fun _ hk => hk) trivial (Below.refl _ _) (Nat.le_refl _) (by simp) ?_; (case hd => rfl); (case hg => rfl); (case hr => first | (go_simp; done) | (go_simp; rfl)); (case hp => exact (Reps.none _ _)); intro v713 w3 ho4 hb hg_ hnew_; clear hg_ hnew_; (first | rw [← Ny712.out] at ho4 | (simp only [Int.reduceToNat] at ho4; rw [← Ny712.out] at ho4)); have n0_ := Aside0.mk (Kd.R_lower ho4 (below_size (oB HB))); have n1_ := Aside0.mk (below_step (oB HB) hb); clear HB; have HO714 := n0_; have HB := n1_; clear n0_ n1_; clear hb ho4) | ((with_reducible refine gate_builtin (b := .append) (xs := #[.tmp 3, .tmp 4]) rfl ?_); at_builtin; refine Kd.R_append_rows k74 (w0 := w) w.heap.size rfl (.tmp 3) (.tmp 4) 34 74 (.agg #[(.int .i64 0), (.int .i64 0), (.int .i64 0), (.int .i64 0)]) 32 rfl Try.underlying34 info74 rfl (by decide) (by omega) v713 y712 l0 _ _ _ (fun _ => True) (fun _ => False) rfl rfl ?aO ?aR (fun _ _ h => h) (fun _ h => h.elim) ?aF ?aB ?aS ?aL ?_; (case aR => exact oc_ HR0.out); (case aB => exact (oB HB)); (case aF => exact (fun _ _ => trivial)); (case aO => exact (oR HO714)); (case aS => exact (below_size (oB HB))); (case aL => have := LMc2.out; omega); intro v716 w5 ho hb hg hat; rw [← Ny715.out] at ho; have n0_ := Aside0.mk (hb); have n1_ := Aside0.mk (ho); clear HB; clear HO714; have HB := n0_; have HO717 := n1_; clear n0_ n1_; clear ho hb hg hat))
    go_ret
    exact ⟨_, by first | rfl | (simp [errW_none, errW_some] <;> rfl) | (simp [*, errW_none, errW_some] <;> rfl), oR HO717, oB HB⟩
  · rw [if_neg c2] at H
    exact absurd H (by simp)
end Go.Proofs.Ytbkkpllejgedcaa.P


namespace Go.Proofs.Ytbkkpllejgedcaa.P
open Go.RowKit Go.Proofs.YtbkkpllejgedcaaW.PrintWords Go.Proofs.YtbkkpllejgedcaaW.PrintLast Go.Proofs.YtbkkpllejgedcaaW.PrintMore
attribute [local go_sem] max2_int min2_int max_two min_two max_three min_three max_four min_four
set_option linter.unusedVariables false
set_option linter.unusedSimpArgs false
def spec_l19Copy.f (l0 : List (S96)) : Option ((List (S96))) := (some (([] : List (S96)) : List (S96))).bind fun y331 => (if y331.length + l0.length < 4398046511104 then (some (y331 ++ l0)) else (none))
set_option maxHeartbeats 8000000 in
set_option maxRecDepth 100000 in
theorem spec_l19Copy.calls (A0 : Option Addr) (c0 : Nat) (l0 : List (S96)) (r : List (S96)) (w : World) (hr0 : Kd.C k96 w A0 l0.length l0) (hc0 : l0.length ≤ c0) (h : spec_l19Copy.f l0 = some r) :
    Calls Try.prog 110 #[.slice A0 l0.length c0] w fun e w' => ∃ v0_ : Value, e = .returned (v0_) ∧ Kd.R k96 96 w' w.heap.size (fun _ => True) v0_ r ∧ Below w.heap.size w w' := by
  have HR0 := Aside0.mk hr0
  have HC0 := Aside0.mk hc0
  clear hr0 hc0
  have HB := Aside0.mk (Below.refl w.heap.size w)
  have H : ((some (([] : List (S96)) : List (S96))).bind fun y331 => (if y331.length + l0.length < 4398046511104 then (some (y331 ++ l0)) else (none))) = some r := h
  clear h
  obtain ⟨y331, hy331⟩ : ∃ y_ : List (S96), y_ = (([] : List (S96))) := ⟨_, rfl⟩
  replace H : (if y331.length + l0.length < 4398046511104 then (some (y331 ++ l0)) else (none)) = some r := by first | (rw [hy331]; with_reducible exact H) | (have H2_ := (Option.bind_some _ _).symm.trans H; rw [hy331]; with_reducible exact H2_) | (have H2_ := (Option.bind_some _ _).symm.trans H; with_reducible exact H2_) | with_reducible exact H | (rw [hy331]; exact H) | exact H
  have Ny331 := Aside0.mk hy331
  clear hy331
  by_cases c2 : y331.length + l0.length < 4398046511104
  · rw [if_pos c2] at H
    have LMc2 := Aside0.mk c2
    clear c2
    obtain ⟨y334, hy334⟩ : ∃ y_ : List (S96), y_ = (y331 ++ l0) := ⟨_, rfl⟩
    replace H : (some y334) = some r := by first | (rw [hy334]; with_reducible exact H) | (have H2_ := (Option.bind_some _ _).symm.trans H; rw [hy334]; with_reducible exact H2_) | (have H2_ := (Option.bind_some _ _).symm.trans H; with_reducible exact H2_) | with_reducible exact H | (rw [hy334]; exact H) | exact H
    have Ny334 := Aside0.mk hy334
    clear hy334
    obtain rfl := Option.some.inj H
    go_enter Try.func110, Try.ntmps110
    go_wp2_with (first | ((with_reducible refine gate_dst (N := 3) rfl ?_); refine Kd.R_lit k96 _ 96 ?hg (N := 3) ?hd (xs := ([] : List (S96))) (inner := []) (ok := fun _ => True) (okp := fun _ => True) ?hr ?hp (fun _ hk => hk) trivial (Below.refl _ _) (Nat.le_refl _) (by simp) ?_; (case hd => rfl); (case hg => rfl); (case hr => first | (go_simp; done) | (go_simp; rfl)); (case hp => exact (Reps.none _ _)); intro v332 w3 ho4 hb hg_ hnew_; clear hg_ hnew_; (first | rw [← Ny331.out] at ho4 | (simp only [Int.reduceToNat] at ho4; rw [← Ny331.out] at ho4)); have n0_ := Aside0.mk (Kd.R_lower ho4 (below_size (oB HB))); have n1_ := Aside0.mk (below_step (oB HB) hb); clear HB; have HO333 := n0_; have HB := n1_; clear n0_ n1_; clear hb ho4) | ((with_reducible refine gate_builtin (b := .append) (xs := #[.tmp 3, .tmp 4]) rfl ?_); at_builtin; refine Kd.R_append_rows k96 (w0 := w) w.heap.size rfl (.tmp 3) (.tmp 4) 31 96 (.agg #[(.int .i64 0), (.int .i64 0), (.int .i64 0), (.int .i64 0)]) 32 rfl Try.underlying31 info96 rfl (by decide) (by omega) v332 y331 l0 _ _ _ (fun _ => True) (fun _ => False) rfl rfl ?aO ?aR (fun _ _ h => h) (fun _ h => h.elim) ?aF ?aB ?aS ?aL ?_; (case aR => exact oc_ HR0.out); (case aB => exact (oB HB)); (case aF => exact (fun _ _ => trivial)); (case aO => exact (oR HO333)); (case aS => exact (below_size (oB HB))); (case aL => have := LMc2.out; omega); intro v335 w5 ho hb hg hat; rw [← Ny334.out] at ho; have n0_ := Aside0.mk (hb); have n1_ := Aside0.mk (ho); clear HB; clear HO333; have HB := n0_; have HO336 := n1_; clear n0_ n1_; clear ho hb hg hat))
    go_ret
    exact ⟨_, by first | rfl | (simp [errW_none, errW_some] <;> rfl) | (simp [*, errW_none, errW_some] <;> rfl), oR HO336, oB HB⟩
  · rw [if_neg c2] at H
    exact absurd H (by simp)
end Go.Proofs.Ytbkkpllejgedcaa.P


namespace Go.Proofs.Ytbkkpllejgedcaa.P
open Go.RowKit Go.Proofs.YtbkkpllejgedcaaW.PrintWords Go.Proofs.YtbkkpllejgedcaaW.PrintLast Go.Proofs.YtbkkpllejgedcaaW.PrintMore
attribute [local go_sem] max2_int min2_int max_two min_two max_three min_three max_four min_four
set_option linter.unusedVariables false
set_option linter.unusedSimpArgs false
def spec_l02Copy.f (l0 : List Int) : Option (List Int) := (some (([] : List Int) : List Int)).bind fun y718 => (if y718.length + l0.length < 17592186044416 then (some (y718 ++ l0)) else (none))
set_option maxHeartbeats 8000000 in
set_option maxRecDepth 100000 in
theorem spec_l02Copy.calls (A0 : Option Addr) (c0 : Nat) (l0 : List Int) (r : List Int) (w : World) (hr0 : Kd.C (Kd.int .i64) w A0 l0.length l0) (hc0 : l0.length ≤ c0) (h : spec_l02Copy.f l0 = some r) :
    Calls Try.prog 126 #[.slice A0 l0.length c0] w fun e w' => ∃ v0_ : Value, e = .returned (v0_) ∧ Kd.R (Kd.int .i64) 3 w' w.heap.size (fun _ => True) v0_ r ∧ Below w.heap.size w w' := by
  have HR0 := Aside0.mk hr0
  have HC0 := Aside0.mk hc0
  clear hr0 hc0
  have HB := Aside0.mk (Below.refl w.heap.size w)
  have H : ((some (([] : List Int) : List Int)).bind fun y718 => (if y718.length + l0.length < 17592186044416 then (some (y718 ++ l0)) else (none))) = some r := h
  clear h
  obtain ⟨y718, hy718⟩ : ∃ y_ : List Int, y_ = (([] : List Int)) := ⟨_, rfl⟩
  replace H : (if y718.length + l0.length < 17592186044416 then (some (y718 ++ l0)) else (none)) = some r := by first | (rw [hy718]; with_reducible exact H) | (have H2_ := (Option.bind_some _ _).symm.trans H; rw [hy718]; with_reducible exact H2_) | (have H2_ := (Option.bind_some _ _).symm.trans H; with_reducible exact H2_) | with_reducible exact H | (rw [hy718]; exact H) | exact H
  have Ny718 := Aside0.mk hy718
  clear hy718
  by_cases c2 : y718.length + l0.length < 17592186044416
  · rw [if_pos c2] at H
    have LMc2 := Aside0.mk c2
    clear c2
    obtain ⟨y721, hy721⟩ : ∃ y_ : List Int, y_ = (y718 ++ l0) := ⟨_, rfl⟩
    replace H : (some y721) = some r := by first | (rw [hy721]; with_reducible exact H) | (have H2_ := (Option.bind_some _ _).symm.trans H; rw [hy721]; with_reducible exact H2_) | (have H2_ := (Option.bind_some _ _).symm.trans H; with_reducible exact H2_) | with_reducible exact H | (rw [hy721]; exact H) | exact H
    have Ny721 := Aside0.mk hy721
    clear hy721
    obtain rfl := Option.some.inj H
    go_enter Try.func126, Try.ntmps126
    go_wp2_with (first | ((with_reducible refine gate_dst (N := 3) rfl ?_); refine Kd.R_lit (Kd.int .i64) _ 3 ?hg (N := 3) ?hd (xs := ([] : List Int)) (inner := []) (ok := fun _ => True) (okp := fun _ => True) ?hr ?hp (fun _ hk => hk) trivial (Below.refl _ _) (Nat.le_refl _) (by simp) ?_; (case hd => rfl); (case hg => rfl); (case hr => first | (go_simp; done) | (go_simp; rfl)); (case hp => exact (Reps.none _ _)); intro v719 w3 ho4 hb hg_ hnew_; clear hg_ hnew_; (first | rw [← Ny718.out] at ho4 | (simp only [Int.reduceToNat] at ho4; rw [← Ny718.out] at ho4)); have n0_ := Aside0.mk (Kd.R_lower ho4 (below_size (oB HB))); have n1_ := Aside0.mk (below_step (oB HB) hb); clear HB; have HO720 := n0_; have HB := n1_; clear n0_ n1_; clear hb ho4) | ((with_reducible refine gate_builtin (b := .append) (xs := #[.tmp 3, .tmp 4]) rfl ?_); at_builtin; refine Kd.R_append_rows (Kd.int .i64) (w0 := w) w.heap.size rfl (.tmp 3) (.tmp 4) 23 3 (.int .i64 0) 8 rfl Try.underlying23 info3 rfl (by decide) (by omega) v719 y718 l0 _ _ _ (fun _ => True) (fun _ => False) rfl rfl ?aO ?aR (fun _ _ h => h) (fun _ h => h.elim) ?aF ?aB ?aS ?aL ?_; (case aR => exact oc_ HR0.out); (case aB => exact (oB HB)); (case aF => exact (fun _ _ => trivial)); (case aO => exact (oR HO720)); (case aS => exact (below_size (oB HB))); (case aL => have := LMc2.out; omega); intro v722 w5 ho hb hg hat; rw [← Ny721.out] at ho; have n0_ := Aside0.mk (hb); have n1_ := Aside0.mk (ho); clear HB; clear HO720; have HB := n0_; have HO723 := n1_; clear n0_ n1_; clear ho hb hg hat))
    go_ret
    exact ⟨_, by first | rfl | (simp [errW_none, errW_some] <;> rfl) | (simp [*, errW_none, errW_some] <;> rfl), oR HO723, oB HB⟩
  · rw [if_neg c2] at H
    exact absurd H (by simp)
end Go.Proofs.Ytbkkpllejgedcaa.P


namespace Go.Proofs.Ytbkkpllejgedcaa.P
open Go.RowKit Go.Proofs.YtbkkpllejgedcaaW.PrintWords Go.Proofs.YtbkkpllejgedcaaW.PrintLast Go.Proofs.YtbkkpllejgedcaaW.PrintMore Go.Proofs.Ytbkkpllejgedcaa.V
attribute [local go_sem] cell_b frozen_b
attribute [local go_sem] max2_int min2_int max_two min_two max_three min_three max_four min_four
set_option linter.unusedVariables false
set_option linter.unusedSimpArgs false
def spec_l36Copy.f (l0_0 : List (S96)) (a0_1 : Int) (l0_2 : List Int) : Option ((List (S96)) × Int × List Int) := (spec_l19Copy.f l0_0).bind fun t726 => ((spec_l02Copy.f l0_2).bind fun t729 => (some (t726, a0_1, t729)))
set_option maxHeartbeats 8000000 in
set_option maxRecDepth 100000 in
set_option synthInstance.maxHeartbeats 400000 in
set_option synthInstance.maxSize 100000 in
theorem spec_l36Copy.calls (A0_0 : Option Addr) (c0_0 : Nat) (l0_0 : List (S96)) (a0_1 : Int) (A0_2 : Option Addr) (c0_2 : Nat) (l0_2 : List Int) (r1 : List (S96)) (r2 : Int) (r3 : List Int) (w : World) (hr0_0 : Kd.C k96 w A0_0 l0_0.length l0_0) (hc0_0 : l0_0.length ≤ c0_0) (hr0_2 : Kd.C (Kd.int .i64) w A0_2 l0_2.length l0_2) (hc0_2 : l0_2.length ≤ c0_2) (h : spec_l36Copy.f l0_0 a0_1 l0_2 = some (r1, r2, r3)) :
    Calls Try.prog 118 #[.agg #[.slice A0_0 l0_0.length c0_0, .int .i64 a0_1, .slice A0_2 l0_2.length c0_2]] w fun e w' => ∃ v0_ v2_ : Value, e = .returned (.agg #[v0_, .int .i64 r2, v2_]) ∧ Kd.R k96 96 w' w.heap.size (fun _ => True) v0_ r1 ∧ Kd.R (Kd.int .i64) 3 w' w.heap.size (fun _ => True) v2_ r3 ∧ Below w.heap.size w w' := by
  have ihr0_0 := RdE.mk hr0_0
  have ihc0_0 := LeI.mk hc0_0
  have ihr0_2 := RdE.mk hr0_2
  have ihc0_2 := LeI.mk hc0_2
  clear hr0_0 hc0_0 hr0_2 hc0_2
  unfold spec_l36Copy.f at h
  have hu33 := Try.underlying33
  (repeat' first | ((with_reducible replace h := ite_some h); rcases h with ⟨hc, h⟩ | ⟨hc, h⟩ <;> first | exact (none_some h).elim | exact absurd hc (by decide) | subst hc | (replace hc := Bool.eq_false_iff.mpr hc; subst hc) | (have hd := beq_iff_eq.mpr hc; have he := bne_eq_false_iff_eq.mpr hc; clear hc) | (have hd := beq_eq_false_iff_ne.mpr hc; have he := bne_iff_ne.mpr hc) | (have hd := decide_eq_false hc) | (have hd := decide_eq_true hc) | skip))
  all_goals go_enter Try.func118, Try.ntmps118
  all_goals go_wp2_with (first
    | ((with_reducible refine gate_dst (N := 1) rfl ?_); refine box_event rfl (N := 1) rfl (cs := #[.slice A0_0 l0_0.length c0_0, .int .i64 a0_1, .slice A0_2 l0_2.length c0_2]) (t := 33) (by first | (go_simp; done) | (go_simp; rfl)) ?_; intro g hg w1 hk hb; have j1 := Born.mk hg; have j2 := Bel.mk hb; have j3 := Blk.mk hk; clear hg hb hk)
    | ((with_reducible refine gate_dst (N := 2) rfl ?_); refine box_event rfl (N := 2) rfl (cs := #[.slice none 0 0, .int .i64 0, .slice none 0 0]) (t := 33) (by first | (go_simp; done) | (go_simp; rfl)) ?_; intro g hg w1 hk hb; have j1 := Born.mk hg; have j2 := Bel.mk hb; have j3 := Blk.mk hk; clear hg hb hk)
    | (go_at_call 110; replace h := Option.bind_eq_some_iff.mp h; obtain ⟨t, A, h⟩ := h; (try dsimp only at h); refine (spec_l19Copy.calls _ _ _ _ _ Rd.out LeI.out A).mono ?_; rintro e w2 ⟨v0, rfl, ho0, hb⟩; obtain ⟨B0, b0, rfl⟩ := Kd.R_slice ho0; have j0 := RowE.mk ho0; have q0 := LeI.mk (rowLe j0); have jb := Bel.mk hb; clear A ho0 hb; (repeat' first | ((with_reducible replace h := ite_some h); rcases h with ⟨hc, h⟩ | ⟨hc, h⟩ <;> first | exact (none_some h).elim | exact absurd hc (by decide) | subst hc | (replace hc := Bool.eq_false_iff.mpr hc; subst hc) | (have hd := beq_iff_eq.mpr hc; have he := bne_eq_false_iff_eq.mpr hc; clear hc) | (have hd := beq_eq_false_iff_ne.mpr hc; have he := bne_iff_ne.mpr hc) | (have hd := decide_eq_false hc) | (have hd := decide_eq_true hc) | skip)); (try have hn : decide (0 < t.length) = true := decide_eq_true (by omega)); (try have hn : decide (0 < t.length) = false := decide_eq_false (by omega)))
    | (go_at_call 126; replace h := Option.bind_eq_some_iff.mp h; obtain ⟨t, A, h⟩ := h; (try dsimp only at h); refine (spec_l02Copy.calls _ _ _ _ _ Rd.out LeI.out A).mono ?_; rintro e w2 ⟨v0, rfl, ho0, hb⟩; obtain ⟨B0, b0, rfl⟩ := Kd.R_slice ho0; have j0 := RowE.mk ho0; have q0 := LeI.mk (rowLe j0); have jb := Bel.mk hb; clear A ho0 hb; (repeat' first | ((with_reducible replace h := ite_some h); rcases h with ⟨hc, h⟩ | ⟨hc, h⟩ <;> first | exact (none_some h).elim | exact absurd hc (by decide) | subst hc | (replace hc := Bool.eq_false_iff.mpr hc; subst hc) | (have hd := beq_iff_eq.mpr hc; have he := bne_eq_false_iff_eq.mpr hc; clear hc) | (have hd := beq_eq_false_iff_ne.mpr hc; have he := bne_iff_ne.mpr hc) | (have hd := decide_eq_false hc) | (have hd := decide_eq_true hc) | skip)); (try have hn : decide (0 < t.length) = true := decide_eq_true (by omega)); (try have hn : decide (0 < t.length) = false := decide_eq_false (by omega)))
    | ((with_reducible refine region_at ?_); intro w3 jw; refine region_st 2 (by rfl) ?_; intro g hg w4 jv; subst hg; go_region_held3 (fun w' => SinB g w4 w') (first | exact ⟨FromB.out⟩ | skip) (first | (go_at_call 110; replace h := Option.bind_eq_some_iff.mp h; obtain ⟨t, A, h⟩ := h; (try dsimp only at h); refine (spec_l19Copy.calls _ _ _ _ _ Rd.out LeI.out A).mono ?_; rintro e w2 ⟨v0, rfl, ho0, hb⟩; obtain ⟨B0, b0, rfl⟩ := Kd.R_slice ho0; have j0 := RowE.mk ho0; have q0 := LeI.mk (rowLe j0); have jb := Bel.mk hb; clear A ho0 hb; (repeat' first | ((with_reducible replace h := ite_some h); rcases h with ⟨hc, h⟩ | ⟨hc, h⟩ <;> first | exact (none_some h).elim | exact absurd hc (by decide) | subst hc | (replace hc := Bool.eq_false_iff.mpr hc; subst hc) | (have hd := beq_iff_eq.mpr hc; have he := bne_eq_false_iff_eq.mpr hc; clear hc) | (have hd := beq_eq_false_iff_ne.mpr hc; have he := bne_iff_ne.mpr hc) | (have hd := decide_eq_false hc) | (have hd := decide_eq_true hc) | skip)); (try have hn : decide (0 < t.length) = true := decide_eq_true (by omega)); (try have hn : decide (0 < t.length) = false := decide_eq_false (by omega))) | (go_at_call 126; replace h := Option.bind_eq_some_iff.mp h; obtain ⟨t, A, h⟩ := h; (try dsimp only at h); refine (spec_l02Copy.calls _ _ _ _ _ Rd.out LeI.out A).mono ?_; rintro e w2 ⟨v0, rfl, ho0, hb⟩; obtain ⟨B0, b0, rfl⟩ := Kd.R_slice ho0; have j0 := RowE.mk ho0; have q0 := LeI.mk (rowLe j0); have jb := Bel.mk hb; clear A ho0 hb; (repeat' first | ((with_reducible replace h := ite_some h); rcases h with ⟨hc, h⟩ | ⟨hc, h⟩ <;> first | exact (none_some h).elim | exact absurd hc (by decide) | subst hc | (replace hc := Bool.eq_false_iff.mpr hc; subst hc) | (have hd := beq_iff_eq.mpr hc; have he := bne_eq_false_iff_eq.mpr hc; clear hc) | (have hd := beq_eq_false_iff_ne.mpr hc; have he := bne_iff_ne.mpr hc) | (have hd := decide_eq_false hc) | (have hd := decide_eq_true hc) | skip)); (try have hn : decide (0 < t.length) = true := decide_eq_true (by omega)); (try have hn : decide (0 < t.length) = false := decide_eq_false (by omega)))))
    | ((with_reducible refine region_at ?_); intro w3 jw; go_region_held3 (fun w' => Sin w3 w') (first | exact ⟨From.out⟩ | skip) (first | (go_at_call 110; replace h := Option.bind_eq_some_iff.mp h; obtain ⟨t, A, h⟩ := h; (try dsimp only at h); refine (spec_l19Copy.calls _ _ _ _ _ Rd.out LeI.out A).mono ?_; rintro e w2 ⟨v0, rfl, ho0, hb⟩; obtain ⟨B0, b0, rfl⟩ := Kd.R_slice ho0; have j0 := RowE.mk ho0; have q0 := LeI.mk (rowLe j0); have jb := Bel.mk hb; clear A ho0 hb; (repeat' first | ((with_reducible replace h := ite_some h); rcases h with ⟨hc, h⟩ | ⟨hc, h⟩ <;> first | exact (none_some h).elim | exact absurd hc (by decide) | subst hc | (replace hc := Bool.eq_false_iff.mpr hc; subst hc) | (have hd := beq_iff_eq.mpr hc; have he := bne_eq_false_iff_eq.mpr hc; clear hc) | (have hd := beq_eq_false_iff_ne.mpr hc; have he := bne_iff_ne.mpr hc) | (have hd := decide_eq_false hc) | (have hd := decide_eq_true hc) | skip)); (try have hn : decide (0 < t.length) = true := decide_eq_true (by omega)); (try have hn : decide (0 < t.length) = false := decide_eq_false (by omega))) | (go_at_call 126; replace h := Option.bind_eq_some_iff.mp h; obtain ⟨t, A, h⟩ := h; (try dsimp only at h); refine (spec_l02Copy.calls _ _ _ _ _ Rd.out LeI.out A).mono ?_; rintro e w2 ⟨v0, rfl, ho0, hb⟩; obtain ⟨B0, b0, rfl⟩ := Kd.R_slice ho0; have j0 := RowE.mk ho0; have q0 := LeI.mk (rowLe j0); have jb := Bel.mk hb; clear A ho0 hb; (repeat' first | ((with_reducible replace h := ite_some h); rcases h with ⟨hc, h⟩ | ⟨hc, h⟩ <;> first | exact (none_some h).elim | exact absurd hc (by decide) | subst hc | (replace hc := Bool.eq_false_iff.mpr hc; subst hc) | (have hd := beq_iff_eq.mpr hc; have he := bne_eq_false_iff_eq.mpr hc; clear hc) | (have hd := beq_eq_false_iff_ne.mpr hc; have he := bne_iff_ne.mpr hc) | (have hd := decide_eq_false hc) | (have hd := decide_eq_true hc) | skip)); (try have hn : decide (0 < t.length) = true := decide_eq_true (by omega)); (try have hn : decide (0 < t.length) = false := decide_eq_false (by omega))))))
  all_goals (repeat' first | ((with_reducible replace h := ite_some h); rcases h with ⟨hc, h⟩ | ⟨hc, h⟩ <;> first | exact (none_some h).elim | exact absurd hc (by decide) | subst hc | (replace hc := Bool.eq_false_iff.mpr hc; subst hc) | (have hd := beq_iff_eq.mpr hc; have he := bne_eq_false_iff_eq.mpr hc; clear hc) | (have hd := beq_eq_false_iff_ne.mpr hc; have he := bne_iff_ne.mpr hc) | (have hd := decide_eq_false hc) | (have hd := decide_eq_true hc) | skip))
  all_goals simp only [Option.some.injEq, Prod.mk.injEq] at h
  all_goals obtain ⟨rfl, rfl, rfl⟩ := h
  all_goals refine bodyPost_ret (results_cell_row rfl _ _ _ _ _ (0, 0) _ rfl Blk.out Try.underlying33 rfl (by kernel_rfl)) rfl ?_
  all_goals exact ⟨_, _, rfl, (by first | exact rowFin | exact Kd.R_nil _ _ _ _ _), (by first | exact rowFin | exact Kd.R_nil _ _ _ _ _), From.out⟩
end Go.Proofs.Ytbkkpllejgedcaa.P


namespace Go.Proofs.Ytbkkpllejgedcaa.P
open Go.RowKit Go.Proofs.YtbkkpllejgedcaaW.PrintWords Go.Proofs.YtbkkpllejgedcaaW.PrintLast Go.Proofs.YtbkkpllejgedcaaW.PrintMore Go.Proofs.Ytbkkpllejgedcaa.V
attribute [local go_sem] cell_b frozen_b
attribute [local go_sem] max2_int min2_int max_two min_two max_three min_three max_four min_four
set_option linter.unusedVariables false
set_option linter.unusedSimpArgs false
def spec_l38Copy.f (l0_0 : List (S96)) (a0_1 : Int) (l0_2 : List Int) (a0_3 : Int) (a0_4 : Int) (l0_5 : List (S74)) : Option ((List (S96)) × Int × List Int × Int × Int × (List (S74))) := (spec_l36Copy.f l0_0 a0_1 l0_2).bind fun bt734 => ((spec_l34Copy.f l0_5).bind fun t741 => (some (bt734.1, bt734.2.1, bt734.2.2, a0_3, a0_4, t741)))
set_option maxHeartbeats 8000000 in
set_option maxRecDepth 100000 in
set_option synthInstance.maxHeartbeats 400000 in
set_option synthInstance.maxSize 100000 in
theorem spec_l38Copy.calls (A0_0 : Option Addr) (c0_0 : Nat) (l0_0 : List (S96)) (a0_1 : Int) (A0_2 : Option Addr) (c0_2 : Nat) (l0_2 : List Int) (a0_3 : Int) (a0_4 : Int) (A0_5 : Option Addr) (c0_5 : Nat) (l0_5 : List (S74)) (r1 : List (S96)) (r2 : Int) (r3 : List Int) (r4 : Int) (r5 : Int) (r6 : List (S74)) (w : World) (hr0_0 : Kd.C k96 w A0_0 l0_0.length l0_0) (hc0_0 : l0_0.length ≤ c0_0) (hr0_2 : Kd.C (Kd.int .i64) w A0_2 l0_2.length l0_2) (hc0_2 : l0_2.length ≤ c0_2) (hr0_5 : Kd.C k74 w A0_5 l0_5.length l0_5) (hc0_5 : l0_5.length ≤ c0_5) (h : spec_l38Copy.f l0_0 a0_1 l0_2 a0_3 a0_4 l0_5 = some (r1, r2, r3, r4, r5, r6)) :
    Calls Try.prog 83 #[.agg #[.slice A0_0 l0_0.length c0_0, .int .i64 a0_1, .slice A0_2 l0_2.length c0_2, .int .i64 a0_3, .int .i64 a0_4, .slice A0_5 l0_5.length c0_5]] w fun e w' => ∃ v0_ v2_ v5_ : Value, e = .returned (.agg #[v0_, .int .i64 r2, v2_, .int .i64 r4, .int .i64 r5, v5_]) ∧ Kd.R k96 96 w' w.heap.size (fun _ => True) v0_ r1 ∧ Kd.R (Kd.int .i64) 3 w' w.heap.size (fun _ => True) v2_ r3 ∧ Kd.R k74 74 w' w.heap.size (fun _ => True) v5_ r6 ∧ Below w.heap.size w w' := by
  have ihr0_0 := RdE.mk hr0_0
  have ihc0_0 := LeI.mk hc0_0
  have ihr0_2 := RdE.mk hr0_2
  have ihc0_2 := LeI.mk hc0_2
  have ihr0_5 := RdE.mk hr0_5
  have ihc0_5 := LeI.mk hc0_5
  clear hr0_0 hc0_0 hr0_2 hc0_2 hr0_5 hc0_5
  unfold spec_l38Copy.f at h
  have hu36 := Try.underlying36
  (repeat' first | ((with_reducible replace h := ite_some h); rcases h with ⟨hc, h⟩ | ⟨hc, h⟩ <;> first | exact (none_some h).elim | exact absurd hc (by decide) | subst hc | (replace hc := Bool.eq_false_iff.mpr hc; subst hc) | (have hd := beq_iff_eq.mpr hc; have he := bne_eq_false_iff_eq.mpr hc; clear hc) | (have hd := beq_eq_false_iff_ne.mpr hc; have he := bne_iff_ne.mpr hc) | (have hd := decide_eq_false hc) | (have hd := decide_eq_true hc) | skip))
  all_goals go_enter Try.func83, Try.ntmps83
  all_goals go_wp2_with (first
    | ((with_reducible refine gate_dst (N := 1) rfl ?_); refine box_event rfl (N := 1) rfl (cs := #[.slice A0_0 l0_0.length c0_0, .int .i64 a0_1, .slice A0_2 l0_2.length c0_2, .int .i64 a0_3, .int .i64 a0_4, .slice A0_5 l0_5.length c0_5]) (t := 36) (by first | (go_simp; done) | (go_simp; rfl)) ?_; intro g hg w1 hk hb; have j1 := Born.mk hg; have j2 := Bel.mk hb; have j3 := Blk.mk hk; clear hg hb hk)
    | ((with_reducible refine gate_dst (N := 2) rfl ?_); refine box_event rfl (N := 2) rfl (cs := #[.slice none 0 0, .int .i64 0, .slice none 0 0, .int .i64 0, .int .i64 0, .slice none 0 0]) (t := 36) (by first | (go_simp; done) | (go_simp; rfl)) ?_; intro g hg w1 hk hb; have j1 := Born.mk hg; have j2 := Bel.mk hb; have j3 := Blk.mk hk; clear hg hb hk)
    | (go_at_call 118; replace h := Option.bind_eq_some_iff.mp h; obtain ⟨⟨t1, t2, t3⟩, A, h⟩ := h; (try dsimp only at h); refine (spec_l36Copy.calls _ _ _ _ _ _ _ _ _ _ _ Rd.out LeI.out Rd.out LeI.out A).mono ?_; rintro e w2 ⟨v0, v1, rfl, ho0, ho1, hb⟩; obtain ⟨B0, b0, rfl⟩ := Kd.R_slice ho0; have j0 := RowE.mk ho0; have q0 := LeI.mk (rowLe j0); obtain ⟨B1, b1, rfl⟩ := Kd.R_slice ho1; have j1 := RowE.mk ho1; have q1 := LeI.mk (rowLe j1); have jb := Bel.mk hb; clear A ho0 ho1 hb; (repeat' first | ((with_reducible replace h := ite_some h); rcases h with ⟨hc, h⟩ | ⟨hc, h⟩ <;> first | exact (none_some h).elim | exact absurd hc (by decide) | subst hc | (replace hc := Bool.eq_false_iff.mpr hc; subst hc) | (have hd := beq_iff_eq.mpr hc; have he := bne_eq_false_iff_eq.mpr hc; clear hc) | (have hd := beq_eq_false_iff_ne.mpr hc; have he := bne_iff_ne.mpr hc) | (have hd := decide_eq_false hc) | (have hd := decide_eq_true hc) | skip)))
    | (go_at_call 93; replace h := Option.bind_eq_some_iff.mp h; obtain ⟨t, A, h⟩ := h; (try dsimp only at h); refine (spec_l34Copy.calls _ _ _ _ _ Rd.out LeI.out A).mono ?_; rintro e w2 ⟨v0, rfl, ho0, hb⟩; obtain ⟨B0, b0, rfl⟩ := Kd.R_slice ho0; have j0 := RowE.mk ho0; have q0 := LeI.mk (rowLe j0); have jb := Bel.mk hb; clear A ho0 hb; (repeat' first | ((with_reducible replace h := ite_some h); rcases h with ⟨hc, h⟩ | ⟨hc, h⟩ <;> first | exact (none_some h).elim | exact absurd hc (by decide) | subst hc | (replace hc := Bool.eq_false_iff.mpr hc; subst hc) | (have hd := beq_iff_eq.mpr hc; have he := bne_eq_false_iff_eq.mpr hc; clear hc) | (have hd := beq_eq_false_iff_ne.mpr hc; have he := bne_iff_ne.mpr hc) | (have hd := decide_eq_false hc) | (have hd := decide_eq_true hc) | skip)); (try have hn : decide (0 < t.length) = true := decide_eq_true (by omega)); (try have hn : decide (0 < t.length) = false := decide_eq_false (by omega)))
    | ((with_reducible refine region_at ?_); intro w3 jw; refine region_st 2 (by rfl) ?_; intro g hg w4 jv; subst hg; go_region_held3 (fun w' => SinB g w4 w') (first | exact ⟨FromB.out⟩ | skip) (first | (go_at_call 118; replace h := Option.bind_eq_some_iff.mp h; obtain ⟨⟨t1, t2, t3⟩, A, h⟩ := h; (try dsimp only at h); refine (spec_l36Copy.calls _ _ _ _ _ _ _ _ _ _ _ Rd.out LeI.out Rd.out LeI.out A).mono ?_; rintro e w2 ⟨v0, v1, rfl, ho0, ho1, hb⟩; obtain ⟨B0, b0, rfl⟩ := Kd.R_slice ho0; have j0 := RowE.mk ho0; have q0 := LeI.mk (rowLe j0); obtain ⟨B1, b1, rfl⟩ := Kd.R_slice ho1; have j1 := RowE.mk ho1; have q1 := LeI.mk (rowLe j1); have jb := Bel.mk hb; clear A ho0 ho1 hb; (repeat' first | ((with_reducible replace h := ite_some h); rcases h with ⟨hc, h⟩ | ⟨hc, h⟩ <;> first | exact (none_some h).elim | exact absurd hc (by decide) | subst hc | (replace hc := Bool.eq_false_iff.mpr hc; subst hc) | (have hd := beq_iff_eq.mpr hc; have he := bne_eq_false_iff_eq.mpr hc; clear hc) | (have hd := beq_eq_false_iff_ne.mpr hc; have he := bne_iff_ne.mpr hc) | (have hd := decide_eq_false hc) | (have hd := decide_eq_true hc) | skip))) | (go_at_call 93; replace h := Option.bind_eq_some_iff.mp h; obtain ⟨t, A, h⟩ := h; (try dsimp only at h); refine (spec_l34Copy.calls _ _ _ _ _ Rd.out LeI.out A).mono ?_; rintro e w2 ⟨v0, rfl, ho0, hb⟩; obtain ⟨B0, b0, rfl⟩ := Kd.R_slice ho0; have j0 := RowE.mk ho0; have q0 := LeI.mk (rowLe j0); have jb := Bel.mk hb; clear A ho0 hb; (repeat' first | ((with_reducible replace h := ite_some h); rcases h with ⟨hc, h⟩ | ⟨hc, h⟩ <;> first | exact (none_some h).elim | exact absurd hc (by decide) | subst hc | (replace hc := Bool.eq_false_iff.mpr hc; subst hc) | (have hd := beq_iff_eq.mpr hc; have he := bne_eq_false_iff_eq.mpr hc; clear hc) | (have hd := beq_eq_false_iff_ne.mpr hc; have he := bne_iff_ne.mpr hc) | (have hd := decide_eq_false hc) | (have hd := decide_eq_true hc) | skip)); (try have hn : decide (0 < t.length) = true := decide_eq_true (by omega)); (try have hn : decide (0 < t.length) = false := decide_eq_false (by omega)))))
    | ((with_reducible refine region_at ?_); intro w3 jw; go_region_held3 (fun w' => Sin w3 w') (first | exact ⟨From.out⟩ | skip) (first | (go_at_call 118; replace h := Option.bind_eq_some_iff.mp h; obtain ⟨⟨t1, t2, t3⟩, A, h⟩ := h; (try dsimp only at h); refine (spec_l36Copy.calls _ _ _ _ _ _ _ _ _ _ _ Rd.out LeI.out Rd.out LeI.out A).mono ?_; rintro e w2 ⟨v0, v1, rfl, ho0, ho1, hb⟩; obtain ⟨B0, b0, rfl⟩ := Kd.R_slice ho0; have j0 := RowE.mk ho0; have q0 := LeI.mk (rowLe j0); obtain ⟨B1, b1, rfl⟩ := Kd.R_slice ho1; have j1 := RowE.mk ho1; have q1 := LeI.mk (rowLe j1); have jb := Bel.mk hb; clear A ho0 ho1 hb; (repeat' first | ((with_reducible replace h := ite_some h); rcases h with ⟨hc, h⟩ | ⟨hc, h⟩ <;> first | exact (none_some h).elim | exact absurd hc (by decide) | subst hc | (replace hc := Bool.eq_false_iff.mpr hc; subst hc) | (have hd := beq_iff_eq.mpr hc; have he := bne_eq_false_iff_eq.mpr hc; clear hc) | (have hd := beq_eq_false_iff_ne.mpr hc; have he := bne_iff_ne.mpr hc) | (have hd := decide_eq_false hc) | (have hd := decide_eq_true hc) | skip))) | (go_at_call 93; replace h := Option.bind_eq_some_iff.mp h; obtain ⟨t, A, h⟩ := h; (try dsimp only at h); refine (spec_l34Copy.calls _ _ _ _ _ Rd.out LeI.out A).mono ?_; rintro e w2 ⟨v0, rfl, ho0, hb⟩; obtain ⟨B0, b0, rfl⟩ := Kd.R_slice ho0; have j0 := RowE.mk ho0; have q0 := LeI.mk (rowLe j0); have jb := Bel.mk hb; clear A ho0 hb; (repeat' first | ((with_reducible replace h := ite_some h); rcases h with ⟨hc, h⟩ | ⟨hc, h⟩ <;> first | exact (none_some h).elim | exact absurd hc (by decide) | subst hc | (replace hc := Bool.eq_false_iff.mpr hc; subst hc) | (have hd := beq_iff_eq.mpr hc; have he := bne_eq_false_iff_eq.mpr hc; clear hc) | (have hd := beq_eq_false_iff_ne.mpr hc; have he := bne_iff_ne.mpr hc) | (have hd := decide_eq_false hc) | (have hd := decide_eq_true hc) | skip)); (try have hn : decide (0 < t.length) = true := decide_eq_true (by omega)); (try have hn : decide (0 < t.length) = false := decide_eq_false (by omega))))))
  all_goals (repeat' first | ((with_reducible replace h := ite_some h); rcases h with ⟨hc, h⟩ | ⟨hc, h⟩ <;> first | exact (none_some h).elim | exact absurd hc (by decide) | subst hc | (replace hc := Bool.eq_false_iff.mpr hc; subst hc) | (have hd := beq_iff_eq.mpr hc; have he := bne_eq_false_iff_eq.mpr hc; clear hc) | (have hd := beq_eq_false_iff_ne.mpr hc; have he := bne_iff_ne.mpr hc) | (have hd := decide_eq_false hc) | (have hd := decide_eq_true hc) | skip))
  all_goals simp only [Option.some.injEq, Prod.mk.injEq] at h
  all_goals obtain ⟨rfl, rfl, rfl, rfl, rfl, rfl⟩ := h
  all_goals refine bodyPost_ret (results_cell_row rfl _ _ _ _ _ (0, 0) _ rfl Blk.out Try.underlying36 rfl (by kernel_rfl)) rfl ?_
  all_goals exact ⟨_, _, _, rfl, (by first | exact rowFin | exact Kd.R_nil _ _ _ _ _), (by first | exact rowFin | exact Kd.R_nil _ _ _ _ _), (by first | exact rowFin | exact Kd.R_nil _ _ _ _ _), From.out⟩
end Go.Proofs.Ytbkkpllejgedcaa.P


namespace Go.Proofs.Ytbkkpllejgedcaa.P
open Go.RowKit Go.Proofs.YtbkkpllejgedcaaW.PrintWords Go.Proofs.YtbkkpllejgedcaaW.PrintLast Go.Proofs.YtbkkpllejgedcaaW.PrintMore
attribute [local go_sem] max2_int min2_int max_two min_two max_three min_three max_four min_four
set_option linter.unusedVariables false
set_option linter.unusedSimpArgs false
def spec_MendStep.f (k : Nat) (l0_0 : List (S96)) (a0_1 : Int) (l0_2 : List Int) : Option ((List (S96)) × Int × List Int × Bool) := (spec_l36Copy.f l0_0 a0_1 l0_2).bind fun bt1373 => ((spec_WrongSteps.f k l0_0 a0_1 l0_2).bind fun t1381 => (if (t1381.length : Int) = 0 then (some (bt1373.1, bt1373.2.1, bt1373.2.2, false)) else (if 0 < (t1381.length : Int) then (if 0 ≤ (rd t1381 0) then (if (rd t1381 0) < (l0_0.length : Int) then (if 0 ≤ ((rd_T96 l0_0 (rd t1381 0)).f0) then (if ((rd_T96 l0_0 (rd t1381 0)).f0) < (l0_2.length : Int) then ((spec_TunedPitch.f k (rd l0_2 ((rd_T96 l0_0 (rd t1381 0)).f0)) ((rd_T96 l0_0 (rd t1381 0)).f2) ((rd_T96 l0_0 (rd t1381 0)).f3)).bind fun t1388 => (if t1388 = 0 then (some (bt1373.1, bt1373.2.1, bt1373.2.2, false)) else (if 0 ≤ ((rd_T96 l0_0 (rd t1381 0)).f1) then (if ((rd_T96 l0_0 (rd t1381 0)).f1) < (bt1373.2.2.length : Int) then (some (bt1373.1, bt1373.2.1, (bt1373.2.2.set (((rd_T96 l0_0 (rd t1381 0)).f1) : Int).toNat t1388), true)) else (none)) else (none)))) else (none)) else (none)) else (none)) else (none)) else (none))))
def spec_MendStep.T5 : Bool × List (List Nat × List Nat) := (true, [([], []), ([0], [0]), ([], []), ([2], [2]), ([3], [3]), ([1, 4], [1, 4]), ([5], [5]), ([], []), ([7, 6, 0, 1, 2, 3, 4, 5, 6, 7], [6, 7])])
def spec_MendStep.B5 : List Nat := [0, 1, 0, 4, 12, 31, 63, 0, 255]
theorem spec_MendStep.tab5 : rtab .any (opsOf Try.f87 5) = spec_MendStep.T5 := by kernel_rfl
theorem spec_MendStep.bits5 : waitsOk spec_MendStep.T5.2 spec_MendStep.B5 = true := by kernel_rfl
def spec_MendStep.T6 : Bool × List (List Nat × List Nat) := (true, [([], []), ([0], [0]), ([], []), ([2], [2]), ([1, 3], [1, 3]), ([4], [4]), ([], []), ([6], [6]), ([], []), ([8], [8]), ([5, 7, 9], [5, 7, 9]), ([10, 10, 0, 1, 2, 3, 4, 5, 6, 7, 8, 9, 10], [10])])
def spec_MendStep.B6 : List Nat := [0, 1, 0, 4, 15, 31, 0, 64, 0, 256, 1023, 2047]
theorem spec_MendStep.tab6 : rtab .any (opsOf Try.f87 6) = spec_MendStep.T6 := by kernel_rfl
theorem spec_MendStep.bits6 : waitsOk spec_MendStep.T6.2 spec_MendStep.B6 = true := by kernel_rfl
set_option maxHeartbeats 8000000 in
set_option maxRecDepth 100000 in
theorem spec_MendStep.calls (k : Nat) (A0_0 : Option Addr) (c0_0 : Nat) (l0_0 : List (S96)) (a0_1 : Int) (A0_2 : Option Addr) (c0_2 : Nat) (l0_2 : List Int) (r1 : List (S96)) (r2 : Int) (r3 : List Int) (r4 : Bool) (w : World) (hr0_0 : Kd.C k96 w A0_0 l0_0.length l0_0) (hc0_0 : l0_0.length ≤ c0_0) (hr0_2 : Kd.C (Kd.int .i64) w A0_2 l0_2.length l0_2) (hc0_2 : l0_2.length ≤ c0_2) (h : spec_MendStep.f k l0_0 a0_1 l0_2 = some (r1, r2, r3, r4)) :
    Calls Try.prog 87 #[.agg #[.slice A0_0 l0_0.length c0_0, .int .i64 a0_1, .slice A0_2 l0_2.length c0_2]] w fun e w' => ∃ v0_ v2_ : Value, e = .returned (.tuple #[.agg #[v0_, .int .i64 r2, v2_], .bool r4]) ∧ Kd.R k96 96 w' w.heap.size (fun _ => True) v0_ r1 ∧ Kd.R (Kd.int .i64) 3 w' w.heap.size (fun _ => True) v2_ r3 ∧ Below w.heap.size w w' := by
  have hu33 := Try.underlying33
  have hu96 := Try.underlying96
  have HR0_0 := Aside0.mk hr0_0
  have HC0_0 := Aside0.mk hc0_0
  clear hr0_0 hc0_0
  have HR0_2 := Aside0.mk hr0_2
  have HC0_2 := Aside0.mk hc0_2
  clear hr0_2 hc0_2
  have HB := Aside0.mk (Below.refl w.heap.size w)
  have H : ((spec_l36Copy.f l0_0 a0_1 l0_2).bind fun bt1373 => ((spec_WrongSteps.f k l0_0 a0_1 l0_2).bind fun t1381 => (if (t1381.length : Int) = 0 then (some (bt1373.1, bt1373.2.1, bt1373.2.2, false)) else (if 0 < (t1381.length : Int) then (if 0 ≤ (rd t1381 0) then (if (rd t1381 0) < (l0_0.length : Int) then (if 0 ≤ ((rd_T96 l0_0 (rd t1381 0)).f0) then (if ((rd_T96 l0_0 (rd t1381 0)).f0) < (l0_2.length : Int) then ((spec_TunedPitch.f k (rd l0_2 ((rd_T96 l0_0 (rd t1381 0)).f0)) ((rd_T96 l0_0 (rd t1381 0)).f2) ((rd_T96 l0_0 (rd t1381 0)).f3)).bind fun t1388 => (if t1388 = 0 then (some (bt1373.1, bt1373.2.1, bt1373.2.2, false)) else (if 0 ≤ ((rd_T96 l0_0 (rd t1381 0)).f1) then (if ((rd_T96 l0_0 (rd t1381 0)).f1) < (bt1373.2.2.length : Int) then (some (bt1373.1, bt1373.2.1, (bt1373.2.2.set (((rd_T96 l0_0 (rd t1381 0)).f1) : Int).toNat t1388), true)) else (none)) else (none)))) else (none)) else (none)) else (none)) else (none)) else (none))))) = some (r1, r2, r3, r4) := h
  clear h
  replace H := Option.bind_eq_some_iff.mp H
  obtain ⟨⟨t1373, t1376, t1377⟩, A20, H⟩ := H
  (try dsimp only at H)
  have A2 := Aside0.mk A20
  clear A20
  replace H := Option.bind_eq_some_iff.mp H
  obtain ⟨t1381, A30, H⟩ := H
  (try dsimp only at H)
  have A3 := Aside0.mk A30
  clear A30
  by_cases c4 : (t1381.length : Int) = 0
  · rw [if_pos c4] at H
    have c4b0 : ((t1381.length : Int) == 0) = true := beq_iff_eq.mpr c4
    have c4b1 : ((t1381.length : Int) != 0) = false := bne_eq_false_iff_eq.mpr c4
    clear c4
    simp only [Option.some.injEq, Prod.mk.injEq] at H
    obtain ⟨rfl, rfl, rfl, rfl⟩ := H
    go_enter Try.func87, Try.ntmps87
    go_wp2_with (first | ((with_reducible refine gate_dst (N := 1) rfl ?_); refine box_event ?hg (N := 1) ?hd (cs := #[.slice A0_0 l0_0.length c0_0, .int .i64 a0_1, .slice A0_2 l0_2.length c0_2]) (t := 33) ?hr ?_; (case hd => rfl); (case hg => rfl); (case hr => first | (go_simp; done) | (go_simp; rfl)); intro gb1371 hg w5 hbox hb; have n0_ := Aside0.mk (below_step (oB HB) hb); have n1_ := Aside0.mk (hbox); have n2_ := Aside0.mk ((by rw [hg]; exact (below_size (oB HB)) : w.heap.size ≤ gb1371)); have n3_ := Aside0.mk ((by rw [hg]; exact (below_size (oB HB)) : w.heap.size ≤ gb1371)); clear HB; have HB := n0_; have BK1371 := n1_; have GW1371 := n2_; have GE1371 := n3_; clear n0_ n1_ n2_ n3_; clear hb hbox hg) | ((with_reducible refine gate_dst (N := 2) rfl ?_); refine box_event ?hg (N := 2) ?hd (cs := #[.slice none 0 0, .int .i64 0, .slice none 0 0]) (t := 33) ?hr ?_; (case hd => rfl); (case hg => rfl); (case hr => first | (go_simp; done) | (go_simp; rfl)); intro gb1372 hg w6 hbox hb; have n0_ := Aside0.mk (blk_below (g := gb1371) (o := .cells #[.slice A0_0 l0_0.length c0_0, .int .i64 a0_1, .slice A0_2 l0_2.length c0_2] 33 (0, 0)) (oK BK1371) hb); have n1_ := Aside0.mk (below_step (oB HB) hb); have n2_ := Aside0.mk (hbox); have n3_ := Aside0.mk ((by rw [hg]; exact (below_size (oB HB)) : w.heap.size ≤ gb1372)); have n4_ := Aside0.mk ((by rw [hg]; exact (below_size (oB HB)) : w.heap.size ≤ gb1372)); have n5_ := Aside0.mk ((by rw [hg]; exact Nat.ne_of_lt (blk_lt (g := gb1371) (o := .cells #[.slice A0_0 l0_0.length c0_0, .int .i64 a0_1, .slice A0_2 l0_2.length c0_2] 33 (0, 0)) (oK BK1371)) : gb1371 ≠ gb1372)); have n6_ := Aside0.mk ((by rw [hg]; exact Nat.ne_of_gt (blk_lt (g := gb1371) (o := .cells #[.slice A0_0 l0_0.length c0_0, .int .i64 a0_1, .slice A0_2 l0_2.length c0_2] 33 (0, 0)) (oK BK1371)) : gb1372 ≠ gb1371)); clear BK1371; clear HB; have BK1371 := n0_; have HB := n1_; have BK1372 := n2_; have GW1372 := n3_; have GE1372 := n4_; have NB1371_1372 := n5_; have NB1372_1371 := n6_; clear n0_ n1_ n2_ n3_ n4_ n5_ n6_; clear hb hbox hg; have hnb7 := NB1371_1372.out; have hnc7 := NB1372_1371.out; have hcz8_0 : w6.cell? ⟨gb1371, 0, none⟩ = some (.slice A0_0 l0_0.length c0_0) := (blk_cell BK1371.out 0).trans rfl; have hcz8_1 : w6.cell? ⟨gb1371, 1, none⟩ = some (.int .i64 a0_1) := (blk_cell BK1371.out 1).trans rfl; have hcz8_2 : w6.cell? ⟨gb1371, 2, none⟩ = some (.slice A0_2 l0_2.length c0_2) := (blk_cell BK1371.out 2).trans rfl; have hfz8_0 := blk_frozen BK1371.out 0; have hfz8_1 := blk_frozen BK1371.out 1; have hfz8_2 := blk_frozen BK1371.out 2) | ((with_reducible refine gate_callee (f := 118) rfl ?_); refine goesL_ (some 9) rfl rfl Try.func118 (by kernel_rfl) rfl #[.agg #[.slice A0_0 l0_0.length c0_0, .int .i64 a0_1, .slice A0_2 l0_2.length c0_2]] rfl (by (try simp only [List.map_toArray, List.map_cons, List.map_nil]); first | done | rfl | (simp only [List.length_drop, List.length_take]; rfl)) ?_; (with_reducible refine (spec_l36Copy.calls _ _ l0_0 a0_1 _ _ l0_2 t1373 t1376 t1377 _ ?side1 ?side2 ?side3 ?side4 A2.out).mono ?_); (case side1 => exact oc_ HR0_0.out); (case side2 => exact HC0_0.out); (case side3 => exact oc_ HR0_2.out); (case side4 => exact HC0_2.out); rintro e w9 ⟨v1374, v1378, rfl, ho0, ho1, hb⟩; refine ⟨_, rfl, ?_⟩; have n0_ := Aside0.mk (Kd.R_lower ho0 (below_size (oB HB))); have n1_ := Aside0.mk (Kd.R_lower ho1 (below_size (oB HB))); have n2_ := Aside0.mk (blk_below (g := gb1371) (o := .cells #[.slice A0_0 l0_0.length c0_0, .int .i64 a0_1, .slice A0_2 l0_2.length c0_2] 33 (0, 0)) (oK BK1371) hb); have n3_ := Aside0.mk (blk_below (g := gb1372) (o := .cells #[.slice none 0 0, .int .i64 0, .slice none 0 0] 33 (0, 0)) (oK BK1372) hb); have n4_ := Aside0.mk (below_step (oB HB) hb); clear BK1371; clear BK1372; clear HB; have HO1375 := n0_; have HO1379 := n1_; have BK1371 := n2_; have BK1372 := n3_; have HB := n4_; clear n0_ n1_ n2_ n3_ n4_; (try clear hb); (try clear hb2); (try clear hk); (try clear hi); (try clear ho0); (try clear ho1)) | ((with_reducible refine gate_dst (N := 4) rfl ?_); refine box_event ?hg (N := 4) ?hd (cs := #[.slice none 0 0, .int .i64 0, .slice none 0 0]) (t := 33) ?hr ?_; (case hd => rfl); (case hg => rfl); (case hr => first | (go_simp; done) | (go_simp; rfl)); intro gb1380 hg w10 hbox hb; have n0_ := Aside0.mk (Kd.R_below (oR HO1375) hb); have n1_ := Aside0.mk (Kd.R_below (oR HO1379) hb); have n2_ := Aside0.mk (blk_below (g := gb1371) (o := .cells #[.slice A0_0 l0_0.length c0_0, .int .i64 a0_1, .slice A0_2 l0_2.length c0_2] 33 (0, 0)) (oK BK1371) hb); have n3_ := Aside0.mk (blk_below (g := gb1372) (o := .cells #[.slice none 0 0, .int .i64 0, .slice none 0 0] 33 (0, 0)) (oK BK1372) hb); have n4_ := Aside0.mk (below_step (oB HB) hb); have n5_ := Aside0.mk (hbox); have n6_ := Aside0.mk ((by rw [hg]; exact (below_size (oB HB)) : w.heap.size ≤ gb1380)); have n7_ := Aside0.mk ((by rw [hg]; exact (below_size (oB HB)) : w.heap.size ≤ gb1380)); have n8_ := Aside0.mk ((by rw [hg]; exact Nat.ne_of_lt (blk_lt (g := gb1371) (o := .cells #[.slice A0_0 l0_0.length c0_0, .int .i64 a0_1, .slice A0_2 l0_2.length c0_2] 33 (0, 0)) (oK BK1371)) : gb1371 ≠ gb1380)); have n9_ := Aside0.mk ((by rw [hg]; exact Nat.ne_of_gt (blk_lt (g := gb1371) (o := .cells #[.slice A0_0 l0_0.length c0_0, .int .i64 a0_1, .slice A0_2 l0_2.length c0_2] 33 (0, 0)) (oK BK1371)) : gb1380 ≠ gb1371)); have n10_ := Aside0.mk ((by rw [hg]; exact Nat.ne_of_lt (blk_lt (g := gb1372) (o := .cells #[.slice none 0 0, .int .i64 0, .slice none 0 0] 33 (0, 0)) (oK BK1372)) : gb1372 ≠ gb1380)); have n11_ := Aside0.mk ((by rw [hg]; exact Nat.ne_of_gt (blk_lt (g := gb1372) (o := .cells #[.slice none 0 0, .int .i64 0, .slice none 0 0] 33 (0, 0)) (oK BK1372)) : gb1380 ≠ gb1372)); clear HO1375; clear HO1379; clear BK1371; clear BK1372; clear HB; have HO1375 := n0_; have HO1379 := n1_; have BK1371 := n2_; have BK1372 := n3_; have HB := n4_; have BK1380 := n5_; have GW1380 := n6_; have GE1380 := n7_; have NB1371_1380 := n8_; have NB1380_1371 := n9_; have NB1372_1380 := n10_; have NB1380_1372 := n11_; clear n0_ n1_ n2_ n3_ n4_ n5_ n6_ n7_ n8_ n9_ n10_ n11_; clear hb hbox hg; obtain ⟨Ao11, co11, eo11⟩ := Kd.R_slice HO1375.out; subst eo11; have hnb12 := NB1380_1371.out; have hnc12 := NB1371_1380.out; have hnb13 := NB1380_1372.out; have hnc13 := NB1372_1380.out; have hcz14_0 : w10.cell? ⟨gb1380, 0, none⟩ = some (.slice none 0 0) := (blk_cell BK1380.out 0).trans rfl; have hcz14_1 : w10.cell? ⟨gb1380, 1, none⟩ = some (.int .i64 0) := (blk_cell BK1380.out 1).trans rfl; have hcz14_2 : w10.cell? ⟨gb1380, 2, none⟩ = some (.slice none 0 0) := (blk_cell BK1380.out 2).trans rfl; have hfz14_0 := blk_frozen BK1380.out 0; have hfz14_1 := blk_frozen BK1380.out 1; have hfz14_2 := blk_frozen BK1380.out 2; obtain ⟨Ao15, co15, eo15⟩ := Kd.R_slice HO1379.out; subst eo15; have hcz16_0 : w10.cell? ⟨gb1371, 0, none⟩ = some (.slice A0_0 l0_0.length c0_0) := (blk_cell BK1371.out 0).trans rfl; have hcz16_1 : w10.cell? ⟨gb1371, 1, none⟩ = some (.int .i64 a0_1) := (blk_cell BK1371.out 1).trans rfl; have hcz16_2 : w10.cell? ⟨gb1371, 2, none⟩ = some (.slice A0_2 l0_2.length c0_2) := (blk_cell BK1371.out 2).trans rfl; have hfz16_0 := blk_frozen BK1371.out 0; have hfz16_1 := blk_frozen BK1371.out 1; have hfz16_2 := blk_frozen BK1371.out 2) | ((with_reducible refine gate_callee (f := 79) rfl ?_); refine goesL_ (some 11) rfl rfl Try.func79 (by kernel_rfl) rfl #[.agg #[.slice A0_0 l0_0.length c0_0, .int .i64 a0_1, .slice A0_2 l0_2.length c0_2]] rfl (by (try simp only [List.map_toArray, List.map_cons, List.map_nil]); first | done | rfl | (simp only [List.length_drop, List.length_take]; rfl)) ?_; (with_reducible refine (spec_WrongSteps.calls k _ _ l0_0 a0_1 _ _ l0_2 t1381 _ ?side1 ?side2 ?side3 ?side4 A3.out).mono ?_); (case side1 => exact Kd.C_below HR0_0.out (oB HB)); (case side2 => exact HC0_0.out); (case side3 => exact Kd.C_below HR0_2.out (oB HB)); (case side4 => exact HC0_2.out); rintro e w17 ⟨v1382, rfl, ho0, hb⟩; refine ⟨_, rfl, ?_⟩; have n0_ := Aside0.mk (Kd.R_below (by (with_reducible repeat (first | apply Kd.R_alloc | apply Kd.R_drewN | apply Kd.R_drew)); exact (Kd.R_mono (Kd.R_far (p := ⟨gb1380, 2, none⟩) (Kd.R_far (p := ⟨gb1380, 1, none⟩) (Kd.R_far (p := ⟨gb1380, 0, none⟩) (Kd.R_types HO1375.out BK1380.out (by decide)) (fun _ hk => hk.2) (.slice Ao11 t1373.length co11)) (fun _ hk => hk.2) (.int .i64 t1376)) (fun _ hk => hk.2) (.slice Ao15 t1377.length co15)) (fun _ h_ => h_.1))) hb); have n1_ := Aside0.mk (Kd.R_elder' (by (with_reducible repeat (first | apply Kd.R_alloc | apply Kd.R_drewN | apply Kd.R_drew)); exact (Kd.R_mono (Kd.R_far (p := ⟨gb1380, 2, none⟩) (Kd.R_far (p := ⟨gb1380, 1, none⟩) (Kd.R_far (p := ⟨gb1380, 0, none⟩) (Kd.R_types HO1379.out BK1380.out (by decide)) (fun _ hk => hk.2) (.slice Ao11 t1373.length co11)) (fun _ hk => hk.2) (.int .i64 t1376)) (fun _ hk => hk.2) (.slice Ao15 t1377.length co15)) (fun _ h_ => h_.1))) (Kd.R_base ho0) hb); have n2_ := Aside0.mk (Kd.R_lower (Kd.R_new' ho0 (Kd.R_lt (by (with_reducible repeat (first | apply Kd.R_alloc | apply Kd.R_drewN | apply Kd.R_drew)); exact (Kd.R_mono (Kd.R_far (p := ⟨gb1380, 2, none⟩) (Kd.R_far (p := ⟨gb1380, 1, none⟩) (Kd.R_far (p := ⟨gb1380, 0, none⟩) (Kd.R_types HO1379.out BK1380.out (by decide)) (fun _ hk => hk.2) (.slice Ao11 t1373.length co11)) (fun _ hk => hk.2) (.int .i64 t1376)) (fun _ hk => hk.2) (.slice Ao15 t1377.length co15)) (fun _ h_ => h_.1))))) (below_size (oB HB))); have n3_ := Aside0.mk (blk_below (g := gb1371) (o := .cells #[.slice A0_0 l0_0.length c0_0, .int .i64 a0_1, .slice A0_2 l0_2.length c0_2] 33 (0, 0)) (by (with_reducible repeat (first | refine blk_drewN ?_ _ | refine blk_drew ?_ | refine blk_alloc ?_ _)); refine blk_far ?_ NB1371_1380.out _; (with_reducible repeat (first | refine blk_drewN ?_ _ | refine blk_drew ?_ | refine blk_alloc ?_ _)); refine blk_far ?_ NB1371_1380.out _; (with_reducible repeat (first | refine blk_drewN ?_ _ | refine blk_drew ?_ | refine blk_alloc ?_ _)); refine blk_far ?_ NB1371_1380.out _; (with_reducible repeat (first | refine blk_drewN ?_ _ | refine blk_drew ?_ | refine blk_alloc ?_ _)); exact BK1371.out) hb); have n4_ := Aside0.mk (blk_below (g := gb1372) (o := .cells #[.slice none 0 0, .int .i64 0, .slice none 0 0] 33 (0, 0)) (by (with_reducible repeat (first | refine blk_drewN ?_ _ | refine blk_drew ?_ | refine blk_alloc ?_ _)); refine blk_far ?_ NB1372_1380.out _; (with_reducible repeat (first | refine blk_drewN ?_ _ | refine blk_drew ?_ | refine blk_alloc ?_ _)); refine blk_far ?_ NB1372_1380.out _; (with_reducible repeat (first | refine blk_drewN ?_ _ | refine blk_drew ?_ | refine blk_alloc ?_ _)); refine blk_far ?_ NB1372_1380.out _; (with_reducible repeat (first | refine blk_drewN ?_ _ | refine blk_drew ?_ | refine blk_alloc ?_ _)); exact BK1372.out) hb); have n5_ := Aside0.mk (blk_below (g := gb1380) (o := .cells #[.slice Ao11 t1373.length co11, .int .i64 t1376, .slice Ao15 t1377.length co15] 33 (0, 0)) (by (with_reducible repeat (first | refine blk_drewN ?_ _ | refine blk_drew ?_ | refine blk_alloc ?_ _)); refine blk_put (cs := #[.slice Ao11 t1373.length co11, .int .i64 t1376, .slice none 0 0]) ?_ 2 _ rfl; (with_reducible repeat (first | refine blk_drewN ?_ _ | refine blk_drew ?_ | refine blk_alloc ?_ _)); refine blk_put (cs := #[.slice Ao11 t1373.length co11, .int .i64 0, .slice none 0 0]) ?_ 1 _ rfl; (with_reducible repeat (first | refine blk_drewN ?_ _ | refine blk_drew ?_ | refine blk_alloc ?_ _)); refine blk_put (cs := #[.slice none 0 0, .int .i64 0, .slice none 0 0]) ?_ 0 _ rfl; (with_reducible repeat (first | refine blk_drewN ?_ _ | refine blk_drew ?_ | refine blk_alloc ?_ _)); exact BK1380.out) hb); have n6_ := Aside0.mk (below_step (oB HB) hb); clear HO1375; clear HO1379; clear BK1371; clear BK1372; clear BK1380; clear HB; have HO1375 := n0_; have HO1379 := n1_; have HO1383 := n2_; have BK1371 := n3_; have BK1372 := n4_; have BK1380 := n5_; have HB := n6_; clear n0_ n1_ n2_ n3_ n4_ n5_ n6_; (try clear hb); (try clear hb2); (try clear hk); (try clear hi); (try clear ho0); obtain ⟨Ao18, co18, eo18⟩ := Kd.R_slice HO1383.out; subst eo18; have hcz19_0 : w17.cell? ⟨gb1380, 0, none⟩ = some (.slice Ao11 t1373.length co11) := (blk_cell BK1380.out 0).trans rfl; have hcz19_1 : w17.cell? ⟨gb1380, 1, none⟩ = some (.int .i64 t1376) := (blk_cell BK1380.out 1).trans rfl; have hcz19_2 : w17.cell? ⟨gb1380, 2, none⟩ = some (.slice Ao15 t1377.length co15) := (blk_cell BK1380.out 2).trans rfl; have hfz19_0 := blk_frozen BK1380.out 0; have hfz19_1 := blk_frozen BK1380.out 1; have hfz19_2 := blk_frozen BK1380.out 2; have hcz20_0 : w17.cell? ⟨gb1372, 0, none⟩ = some (.slice none 0 0) := (blk_cell BK1372.out 0).trans rfl; have hcz20_1 : w17.cell? ⟨gb1372, 1, none⟩ = some (.int .i64 0) := (blk_cell BK1372.out 1).trans rfl; have hcz20_2 : w17.cell? ⟨gb1372, 2, none⟩ = some (.slice none 0 0) := (blk_cell BK1372.out 2).trans rfl; have hfz20_0 := blk_frozen BK1372.out 0; have hfz20_1 := blk_frozen BK1372.out 1; have hfz20_2 := blk_frozen BK1372.out 2))
    refine bodyPost_ret (results_ct rfl _ _ gb1372 33 #[.slice Ao11 t1373.length co11, .int .i64 t1376, .slice Ao15 t1377.length co15] (0, 0) _ rfl (by (with_reducible repeat (first | refine blk_drewN ?_ _ | refine blk_drew ?_ | refine blk_alloc ?_ _)); refine blk_put (cs := #[.slice Ao11 t1373.length co11, .int .i64 t1376, .slice none 0 0]) ?_ 2 _ rfl; (with_reducible repeat (first | refine blk_drewN ?_ _ | refine blk_drew ?_ | refine blk_alloc ?_ _)); refine blk_put (cs := #[.slice Ao11 t1373.length co11, .int .i64 0, .slice none 0 0]) ?_ 1 _ rfl; (with_reducible repeat (first | refine blk_drewN ?_ _ | refine blk_drew ?_ | refine blk_alloc ?_ _)); refine blk_put (cs := #[.slice none 0 0, .int .i64 0, .slice none 0 0]) ?_ 0 _ rfl; (with_reducible repeat (first | refine blk_drewN ?_ _ | refine blk_drew ?_ | refine blk_alloc ?_ _)); exact BK1372.out) Try.underlying33 rfl (by kernel_rfl)) rfl ?_
    exact ⟨_, _, by first | rfl | (simp [errW_none, errW_some] <;> rfl) | (simp [*, errW_none, errW_some] <;> rfl), by (with_reducible repeat (first | apply Kd.R_alloc | apply Kd.R_drewN | apply Kd.R_drew)); exact Kd.R_mono (Kd.R_far (p := ⟨gb1372, 2, none⟩) (Kd.R_far (p := ⟨gb1372, 1, none⟩) (Kd.R_far (p := ⟨gb1372, 0, none⟩) (Kd.R_types HO1375.out BK1372.out (by decide)) (fun _ hk => hk.2) (.slice Ao11 t1373.length co11)) (fun _ hk => hk.2) (.int .i64 t1376)) (fun _ hk => hk.2) (.slice Ao15 t1377.length co15)) (fun _ hk => trivial), by (with_reducible repeat (first | apply Kd.R_alloc | apply Kd.R_drewN | apply Kd.R_drew)); exact Kd.R_mono (Kd.R_far (p := ⟨gb1372, 2, none⟩) (Kd.R_far (p := ⟨gb1372, 1, none⟩) (Kd.R_far (p := ⟨gb1372, 0, none⟩) (Kd.R_types HO1379.out BK1372.out (by decide)) (fun _ hk => hk.2) (.slice Ao11 t1373.length co11)) (fun _ hk => hk.2) (.int .i64 t1376)) (fun _ hk => hk.2) (.slice Ao15 t1377.length co15)) (fun _ hk => trivial), oB HB⟩
  · rw [if_neg c4] at H
    have c4b0 : ((t1381.length : Int) == 0) = false := beq_eq_false_iff_ne.mpr c4
    have c4b1 : ((t1381.length : Int) != 0) = true := bne_iff_ne.mpr c4
    have c4b2 : ¬ (t1381 = []) := fun h_ => c4 (by rw [h_]; rfl)
    by_cases c21 : 0 < (t1381.length : Int)
    · rw [if_pos c21] at H
      have c21b0 : decide (0 < (t1381.length : Int)) = true := decide_eq_true c21
      have c21b1 : decide (0 < t1381.length) = true := decide_eq_true (by omega)
      clear c21
      by_cases c22 : 0 ≤ (rd t1381 0)
      · rw [if_pos c22] at H
        have c22b0 : decide (0 ≤ (rd t1381 0)) = true := decide_eq_true c22
        clear c22
        by_cases c23 : (rd t1381 0) < (l0_0.length : Int)
        · rw [if_pos c23] at H
          have c23b0 : decide ((rd t1381 0) < (l0_0.length : Int)) = true := decide_eq_true c23
          clear c23
          by_cases c24 : 0 ≤ ((rd_T96 l0_0 (rd t1381 0)).f0)
          · rw [if_pos c24] at H
            have c24b0 : decide (0 ≤ ((rd_T96 l0_0 (rd t1381 0)).f0)) = true := decide_eq_true c24
            clear c24
            by_cases c25 : ((rd_T96 l0_0 (rd t1381 0)).f0) < (l0_2.length : Int)
            · rw [if_pos c25] at H
              have c25b0 : decide (((rd_T96 l0_0 (rd t1381 0)).f0) < (l0_2.length : Int)) = true := decide_eq_true c25
              clear c25
              replace H := Option.bind_eq_some_iff.mp H
              obtain ⟨t1388, A260, H⟩ := H
              (try dsimp only at H)
              have A26 := Aside0.mk A260
              clear A260
              by_cases c27 : t1388 = 0
              · rw [if_pos c27] at H
                have c27b0 : (t1388 == 0) = true := beq_iff_eq.mpr c27
                have c27b1 : (t1388 != 0) = false := bne_eq_false_iff_eq.mpr c27
                clear c27
                simp only [Option.some.injEq, Prod.mk.injEq] at H
                obtain ⟨rfl, rfl, rfl, rfl⟩ := H
                go_enter Try.func87, Try.ntmps87
                try go_wp2_with (first | ((with_reducible refine gate_dst (N := 1) rfl ?_); refine box_event ?hg (N := 1) ?hd (cs := #[.slice A0_0 l0_0.length c0_0, .int .i64 a0_1, .slice A0_2 l0_2.length c0_2]) (t := 33) ?hr ?_; (case hd => rfl); (case hg => rfl); (case hr => first | (go_simp; done) | (go_simp; rfl)); intro gb1371 hg w28 hbox hb; have n0_ := Aside0.mk (below_step (oB HB) hb); have n1_ := Aside0.mk (hbox); have n2_ := Aside0.mk ((by rw [hg]; exact (below_size (oB HB)) : w.heap.size ≤ gb1371)); have n3_ := Aside0.mk ((by rw [hg]; exact (below_size (oB HB)) : w.heap.size ≤ gb1371)); clear HB; have HB := n0_; have BK1371 := n1_; have GW1371 := n2_; have GE1371 := n3_; clear n0_ n1_ n2_ n3_; clear hb hbox hg) | ((with_reducible refine gate_dst (N := 2) rfl ?_); refine box_event ?hg (N := 2) ?hd (cs := #[.slice none 0 0, .int .i64 0, .slice none 0 0]) (t := 33) ?hr ?_; (case hd => rfl); (case hg => rfl); (case hr => first | (go_simp; done) | (go_simp; rfl)); intro gb1372 hg w29 hbox hb; have n0_ := Aside0.mk (blk_below (g := gb1371) (o := .cells #[.slice A0_0 l0_0.length c0_0, .int .i64 a0_1, .slice A0_2 l0_2.length c0_2] 33 (0, 0)) (oK BK1371) hb); have n1_ := Aside0.mk (below_step (oB HB) hb); have n2_ := Aside0.mk (hbox); have n3_ := Aside0.mk ((by rw [hg]; exact (below_size (oB HB)) : w.heap.size ≤ gb1372)); have n4_ := Aside0.mk ((by rw [hg]; exact (below_size (oB HB)) : w.heap.size ≤ gb1372)); have n5_ := Aside0.mk ((by rw [hg]; exact Nat.ne_of_lt (blk_lt (g := gb1371) (o := .cells #[.slice A0_0 l0_0.length c0_0, .int .i64 a0_1, .slice A0_2 l0_2.length c0_2] 33 (0, 0)) (oK BK1371)) : gb1371 ≠ gb1372)); have n6_ := Aside0.mk ((by rw [hg]; exact Nat.ne_of_gt (blk_lt (g := gb1371) (o := .cells #[.slice A0_0 l0_0.length c0_0, .int .i64 a0_1, .slice A0_2 l0_2.length c0_2] 33 (0, 0)) (oK BK1371)) : gb1372 ≠ gb1371)); clear BK1371; clear HB; have BK1371 := n0_; have HB := n1_; have BK1372 := n2_; have GW1372 := n3_; have GE1372 := n4_; have NB1371_1372 := n5_; have NB1372_1371 := n6_; clear n0_ n1_ n2_ n3_ n4_ n5_ n6_; clear hb hbox hg; have hnb30 := NB1371_1372.out; have hnc30 := NB1372_1371.out; have hcz31_0 : w29.cell? ⟨gb1371, 0, none⟩ = some (.slice A0_0 l0_0.length c0_0) := (blk_cell BK1371.out 0).trans rfl; have hcz31_1 : w29.cell? ⟨gb1371, 1, none⟩ = some (.int .i64 a0_1) := (blk_cell BK1371.out 1).trans rfl; have hcz31_2 : w29.cell? ⟨gb1371, 2, none⟩ = some (.slice A0_2 l0_2.length c0_2) := (blk_cell BK1371.out 2).trans rfl; have hfz31_0 := blk_frozen BK1371.out 0; have hfz31_1 := blk_frozen BK1371.out 1; have hfz31_2 := blk_frozen BK1371.out 2) | ((with_reducible refine gate_callee (f := 118) rfl ?_); refine goesL_ (some 9) rfl rfl Try.func118 (by kernel_rfl) rfl #[.agg #[.slice A0_0 l0_0.length c0_0, .int .i64 a0_1, .slice A0_2 l0_2.length c0_2]] rfl (by (try simp only [List.map_toArray, List.map_cons, List.map_nil]); first | done | rfl | (simp only [List.length_drop, List.length_take]; rfl)) ?_; (with_reducible refine (spec_l36Copy.calls _ _ l0_0 a0_1 _ _ l0_2 t1373 t1376 t1377 _ ?side1 ?side2 ?side3 ?side4 A2.out).mono ?_); (case side1 => exact oc_ HR0_0.out); (case side2 => exact HC0_0.out); (case side3 => exact oc_ HR0_2.out); (case side4 => exact HC0_2.out); rintro e w32 ⟨v1374, v1378, rfl, ho0, ho1, hb⟩; refine ⟨_, rfl, ?_⟩; have n0_ := Aside0.mk (Kd.R_lower ho0 (below_size (oB HB))); have n1_ := Aside0.mk (Kd.R_lower ho1 (below_size (oB HB))); have n2_ := Aside0.mk (blk_below (g := gb1371) (o := .cells #[.slice A0_0 l0_0.length c0_0, .int .i64 a0_1, .slice A0_2 l0_2.length c0_2] 33 (0, 0)) (oK BK1371) hb); have n3_ := Aside0.mk (blk_below (g := gb1372) (o := .cells #[.slice none 0 0, .int .i64 0, .slice none 0 0] 33 (0, 0)) (oK BK1372) hb); have n4_ := Aside0.mk (below_step (oB HB) hb); clear BK1371; clear BK1372; clear HB; have HO1375 := n0_; have HO1379 := n1_; have BK1371 := n2_; have BK1372 := n3_; have HB := n4_; clear n0_ n1_ n2_ n3_ n4_; (try clear hb); (try clear hb2); (try clear hk); (try clear hi); (try clear ho0); (try clear ho1)) | ((with_reducible refine gate_dst (N := 4) rfl ?_); refine box_event ?hg (N := 4) ?hd (cs := #[.slice none 0 0, .int .i64 0, .slice none 0 0]) (t := 33) ?hr ?_; (case hd => rfl); (case hg => rfl); (case hr => first | (go_simp; done) | (go_simp; rfl)); intro gb1380 hg w33 hbox hb; have n0_ := Aside0.mk (Kd.R_below (oR HO1375) hb); have n1_ := Aside0.mk (Kd.R_below (oR HO1379) hb); have n2_ := Aside0.mk (blk_below (g := gb1371) (o := .cells #[.slice A0_0 l0_0.length c0_0, .int .i64 a0_1, .slice A0_2 l0_2.length c0_2] 33 (0, 0)) (oK BK1371) hb); have n3_ := Aside0.mk (blk_below (g := gb1372) (o := .cells #[.slice none 0 0, .int .i64 0, .slice none 0 0] 33 (0, 0)) (oK BK1372) hb); have n4_ := Aside0.mk (below_step (oB HB) hb); have n5_ := Aside0.mk (hbox); have n6_ := Aside0.mk ((by rw [hg]; exact (below_size (oB HB)) : w.heap.size ≤ gb1380)); have n7_ := Aside0.mk ((by rw [hg]; exact (below_size (oB HB)) : w.heap.size ≤ gb1380)); have n8_ := Aside0.mk ((by rw [hg]; exact Nat.ne_of_lt (blk_lt (g := gb1371) (o := .cells #[.slice A0_0 l0_0.length c0_0, .int .i64 a0_1, .slice A0_2 l0_2.length c0_2] 33 (0, 0)) (oK BK1371)) : gb1371 ≠ gb1380)); have n9_ := Aside0.mk ((by rw [hg]; exact Nat.ne_of_gt (blk_lt (g := gb1371) (o := .cells #[.slice A0_0 l0_0.length c0_0, .int .i64 a0_1, .slice A0_2 l0_2.length c0_2] 33 (0, 0)) (oK BK1371)) : gb1380 ≠ gb1371)); have n10_ := Aside0.mk ((by rw [hg]; exact Nat.ne_of_lt (blk_lt (g := gb1372) (o := .cells #[.slice none 0 0, .int .i64 0, .slice none 0 0] 33 (0, 0)) (oK BK1372)) : gb1372 ≠ gb1380)); have n11_ := Aside0.mk ((by rw [hg]; exact Nat.ne_of_gt (blk_lt (g := gb1372) (o := .cells #[.slice none 0 0, .int .i64 0, .slice none 0 0] 33 (0, 0)) (oK BK1372)) : gb1380 ≠ gb1372)); clear HO1375; clear HO1379; clear BK1371; clear BK1372; clear HB; have HO1375 := n0_; have HO1379 := n1_; have BK1371 := n2_; have BK1372 := n3_; have HB := n4_; have BK1380 := n5_; have GW1380 := n6_; have GE1380 := n7_; have NB1371_1380 := n8_; have NB1380_1371 := n9_; have NB1372_1380 := n10_; have NB1380_1372 := n11_; clear n0_ n1_ n2_ n3_ n4_ n5_ n6_ n7_ n8_ n9_ n10_ n11_; clear hb hbox hg; obtain ⟨Ao34, co34, eo34⟩ := Kd.R_slice HO1375.out; subst eo34; have hnb35 := NB1380_1371.out; have hnc35 := NB1371_1380.out; have hnb36 := NB1380_1372.out; have hnc36 := NB1372_1380.out; have hcz37_0 : w33.cell? ⟨gb1380, 0, none⟩ = some (.slice none 0 0) := (blk_cell BK1380.out 0).trans rfl; have hcz37_1 : w33.cell? ⟨gb1380, 1, none⟩ = some (.int .i64 0) := (blk_cell BK1380.out 1).trans rfl; have hcz37_2 : w33.cell? ⟨gb1380, 2, none⟩ = some (.slice none 0 0) := (blk_cell BK1380.out 2).trans rfl; have hfz37_0 := blk_frozen BK1380.out 0; have hfz37_1 := blk_frozen BK1380.out 1; have hfz37_2 := blk_frozen BK1380.out 2; obtain ⟨Ao38, co38, eo38⟩ := Kd.R_slice HO1379.out; subst eo38; have hcz39_0 : w33.cell? ⟨gb1371, 0, none⟩ = some (.slice A0_0 l0_0.length c0_0) := (blk_cell BK1371.out 0).trans rfl; have hcz39_1 : w33.cell? ⟨gb1371, 1, none⟩ = some (.int .i64 a0_1) := (blk_cell BK1371.out 1).trans rfl; have hcz39_2 : w33.cell? ⟨gb1371, 2, none⟩ = some (.slice A0_2 l0_2.length c0_2) := (blk_cell BK1371.out 2).trans rfl; have hfz39_0 := blk_frozen BK1371.out 0; have hfz39_1 := blk_frozen BK1371.out 1; have hfz39_2 := blk_frozen BK1371.out 2) | ((with_reducible refine gate_callee (f := 79) rfl ?_); refine goesL_ (some 11) rfl rfl Try.func79 (by kernel_rfl) rfl #[.agg #[.slice A0_0 l0_0.length c0_0, .int .i64 a0_1, .slice A0_2 l0_2.length c0_2]] rfl (by (try simp only [List.map_toArray, List.map_cons, List.map_nil]); first | done | rfl | (simp only [List.length_drop, List.length_take]; rfl)) ?_; (with_reducible refine (spec_WrongSteps.calls k _ _ l0_0 a0_1 _ _ l0_2 t1381 _ ?side1 ?side2 ?side3 ?side4 A3.out).mono ?_); (case side1 => exact Kd.C_below HR0_0.out (oB HB)); (case side2 => exact HC0_0.out); (case side3 => exact Kd.C_below HR0_2.out (oB HB)); (case side4 => exact HC0_2.out); rintro e w40 ⟨v1382, rfl, ho0, hb⟩; refine ⟨_, rfl, ?_⟩; have n0_ := Aside0.mk (Kd.R_below (by (with_reducible repeat (first | apply Kd.R_alloc | apply Kd.R_drewN | apply Kd.R_drew)); exact (Kd.R_mono (Kd.R_far (p := ⟨gb1380, 2, none⟩) (Kd.R_far (p := ⟨gb1380, 1, none⟩) (Kd.R_far (p := ⟨gb1380, 0, none⟩) (Kd.R_types HO1375.out BK1380.out (by decide)) (fun _ hk => hk.2) (.slice Ao34 t1373.length co34)) (fun _ hk => hk.2) (.int .i64 t1376)) (fun _ hk => hk.2) (.slice Ao38 t1377.length co38)) (fun _ h_ => h_.1))) hb); have n1_ := Aside0.mk (Kd.R_elder' (by (with_reducible repeat (first | apply Kd.R_alloc | apply Kd.R_drewN | apply Kd.R_drew)); exact (Kd.R_mono (Kd.R_far (p := ⟨gb1380, 2, none⟩) (Kd.R_far (p := ⟨gb1380, 1, none⟩) (Kd.R_far (p := ⟨gb1380, 0, none⟩) (Kd.R_types HO1379.out BK1380.out (by decide)) (fun _ hk => hk.2) (.slice Ao34 t1373.length co34)) (fun _ hk => hk.2) (.int .i64 t1376)) (fun _ hk => hk.2) (.slice Ao38 t1377.length co38)) (fun _ h_ => h_.1))) (Kd.R_base ho0) hb); have n2_ := Aside0.mk (Kd.R_lower (Kd.R_new' ho0 (Kd.R_lt (by (with_reducible repeat (first | apply Kd.R_alloc | apply Kd.R_drewN | apply Kd.R_drew)); exact (Kd.R_mono (Kd.R_far (p := ⟨gb1380, 2, none⟩) (Kd.R_far (p := ⟨gb1380, 1, none⟩) (Kd.R_far (p := ⟨gb1380, 0, none⟩) (Kd.R_types HO1379.out BK1380.out (by decide)) (fun _ hk => hk.2) (.slice Ao34 t1373.length co34)) (fun _ hk => hk.2) (.int .i64 t1376)) (fun _ hk => hk.2) (.slice Ao38 t1377.length co38)) (fun _ h_ => h_.1))))) (below_size (oB HB))); have n3_ := Aside0.mk (blk_below (g := gb1371) (o := .cells #[.slice A0_0 l0_0.length c0_0, .int .i64 a0_1, .slice A0_2 l0_2.length c0_2] 33 (0, 0)) (by (with_reducible repeat (first | refine blk_drewN ?_ _ | refine blk_drew ?_ | refine blk_alloc ?_ _)); refine blk_far ?_ NB1371_1380.out _; (with_reducible repeat (first | refine blk_drewN ?_ _ | refine blk_drew ?_ | refine blk_alloc ?_ _)); refine blk_far ?_ NB1371_1380.out _; (with_reducible repeat (first | refine blk_drewN ?_ _ | refine blk_drew ?_ | refine blk_alloc ?_ _)); refine blk_far ?_ NB1371_1380.out _; (with_reducible repeat (first | refine blk_drewN ?_ _ | refine blk_drew ?_ | refine blk_alloc ?_ _)); exact BK1371.out) hb); have n4_ := Aside0.mk (blk_below (g := gb1372) (o := .cells #[.slice none 0 0, .int .i64 0, .slice none 0 0] 33 (0, 0)) (by (with_reducible repeat (first | refine blk_drewN ?_ _ | refine blk_drew ?_ | refine blk_alloc ?_ _)); refine blk_far ?_ NB1372_1380.out _; (with_reducible repeat (first | refine blk_drewN ?_ _ | refine blk_drew ?_ | refine blk_alloc ?_ _)); refine blk_far ?_ NB1372_1380.out _; (with_reducible repeat (first | refine blk_drewN ?_ _ | refine blk_drew ?_ | refine blk_alloc ?_ _)); refine blk_far ?_ NB1372_1380.out _; (with_reducible repeat (first | refine blk_drewN ?_ _ | refine blk_drew ?_ | refine blk_alloc ?_ _)); exact BK1372.out) hb); have n5_ := Aside0.mk (blk_below (g := gb1380) (o := .cells #[.slice Ao34 t1373.length co34, .int .i64 t1376, .slice Ao38 t1377.length co38] 33 (0, 0)) (by (with_reducible repeat (first | refine blk_drewN ?_ _ | refine blk_drew ?_ | refine blk_alloc ?_ _)); refine blk_put (cs := #[.slice Ao34 t1373.length co34, .int .i64 t1376, .slice none 0 0]) ?_ 2 _ rfl; (with_reducible repeat (first | refine blk_drewN ?_ _ | refine blk_drew ?_ | refine blk_alloc ?_ _)); refine blk_put (cs := #[.slice Ao34 t1373.length co34, .int .i64 0, .slice none 0 0]) ?_ 1 _ rfl; (with_reducible repeat (first | refine blk_drewN ?_ _ | refine blk_drew ?_ | refine blk_alloc ?_ _)); refine blk_put (cs := #[.slice none 0 0, .int .i64 0, .slice none 0 0]) ?_ 0 _ rfl; (with_reducible repeat (first | refine blk_drewN ?_ _ | refine blk_drew ?_ | refine blk_alloc ?_ _)); exact BK1380.out) hb); have n6_ := Aside0.mk (below_step (oB HB) hb); clear HO1375; clear HO1379; clear BK1371; clear BK1372; clear BK1380; clear HB; have HO1375 := n0_; have HO1379 := n1_; have HO1383 := n2_; have BK1371 := n3_; have BK1372 := n4_; have BK1380 := n5_; have HB := n6_; clear n0_ n1_ n2_ n3_ n4_ n5_ n6_; (try clear hb); (try clear hb2); (try clear hk); (try clear hi); (try clear ho0); obtain ⟨Ao41, co41, eo41⟩ := Kd.R_slice HO1383.out; subst eo41))
                have n0_ := Aside0.mk (Kd.R_drew HO1375.out)
                have n1_ := Aside0.mk (Kd.R_drew HO1379.out)
                have n2_ := Aside0.mk (Kd.R_drew HO1383.out)
                have n3_ := Aside0.mk (blk_drew BK1371.out)
                have n4_ := Aside0.mk (blk_drew BK1372.out)
                have n5_ := Aside0.mk (blk_drew BK1380.out)
                have n6_ := Aside0.mk (below_drew1 HB.out)
                clear HO1375
                clear HO1379
                clear HO1383
                clear BK1371
                clear BK1372
                clear BK1380
                clear HB
                have HO1375 := n0_
                have HO1379 := n1_
                have HO1383 := n2_
                have BK1371 := n3_
                have BK1372 := n4_
                have BK1380 := n5_
                have HB := n6_
                clear n0_ n1_ n2_ n3_ n4_ n5_ n6_
                have p1384 : 0 ≤ (0 : Int) := (by omega)
                have q1384 : 0 < (t1381.length : Int) := of_decide_eq_true (by first | (with_reducible assumption) | assumption)
                obtain ⟨ad1384, e1384, hx1384_0⟩ := Kd.at_int (Kd.R_reads' HO1383.out).2.2 0 p1384 q1384
                cases e1384
                have qi1384 : (0 < t1381.length) = True := eq_true (by omega)
                (try rw [show ((0 : Int)).toNat = 0 from rfl] at hx1384_0)
                (try rw [Addr.add_zero'] at hx1384_0)
                replace p1384 := eq_true p1384
                replace q1384 := eq_true q1384
                have p1385 : 0 ≤ ((rd t1381 0) : Int) := of_decide_eq_true (by first | (with_reducible assumption) | assumption)
                have q1385 : (rd t1381 0) < (l0_0.length : Int) := of_decide_eq_true (by first | (with_reducible assumption) | assumption)
                obtain ⟨ad1385, e1385, hx1385_0, hx1385_1, hx1385_2, hx1385_3⟩ := at_T96 HR0_0.out (rd t1381 0) p1385 q1385
                have hw1385_3 := hx1385_3
                have hw1385_2 := hx1385_2
                have hw1385_1 := hx1385_1
                have hw1385_0 := hx1385_0
                cases e1385
                replace hx1385_0 := (HB.out.cell (World.block_lt_of_cell? w _ hx1385_0)).trans hx1385_0
                replace hx1385_1 := (HB.out.cell (World.block_lt_of_cell? w _ hx1385_1)).trans hx1385_1
                replace hx1385_2 := (HB.out.cell (World.block_lt_of_cell? w _ hx1385_2)).trans hx1385_2
                replace hx1385_3 := (HB.out.cell (World.block_lt_of_cell? w _ hx1385_3)).trans hx1385_3
                replace p1385 := eq_true p1385
                replace q1385 := eq_true q1385
                refine start_ (n := 9) (S := fun w' => w'.cell? ⟨gb1371, 0, none⟩ = some (.slice (some ad1385) l0_0.length c0_0) ∧ w'.cell? ⟨gb1371, 1, none⟩ = some (.int .i64 a0_1) ∧ w'.cell? ⟨gb1371, 2, none⟩ = some (.slice A0_2 l0_2.length c0_2) ∧ w'.cell? ad1384 = some (.int .i64 (rd t1381 0)) ∧ w'.cell? (ad1385.add (((rd t1381 0)).toNat * 4)) = some (.int .i64 ((rd_T96 l0_0 (rd t1381 0)).f0)) ∧ w'.cell? ⟨(ad1385.add (((rd t1381 0)).toNat * 4)).block, (ad1385.add (((rd t1381 0)).toNat * 4)).off + 1, none⟩ = some (.int .i64 ((rd_T96 l0_0 (rd t1381 0)).f1)) ∧ w'.cell? ⟨(ad1385.add (((rd t1381 0)).toNat * 4)).block, (ad1385.add (((rd t1381 0)).toNat * 4)).off + 2, none⟩ = some (.int .i64 ((rd_T96 l0_0 (rd t1381 0)).f2)) ∧ w'.cell? ⟨(ad1385.add (((rd t1381 0)).toNat * 4)).block, (ad1385.add (((rd t1381 0)).toNat * 4)).off + 3, none⟩ = some (.int .i64 ((rd_T96 l0_0 (rd t1381 0)).f3))) (ds := []) #[false, false, false, false, false, false, false, false, false] (by kernel_rfl) rfl rfl ⟨(blk_cell BK1371.out 0).trans rfl, (blk_cell BK1371.out 1).trans rfl, (blk_cell BK1371.out 2).trans rfl, hx1384_0, ((HB.out.cell (World.block_lt_of_cell? w _ hw1385_0)).trans hw1385_0), ((HB.out.cell (World.block_lt_of_cell? w _ hw1385_1)).trans hw1385_1), ((HB.out.cell (World.block_lt_of_cell? w _ hw1385_2)).trans hw1385_2), ((HB.out.cell (World.block_lt_of_cell? w _ hw1385_3)).trans hw1385_3)⟩ (fun hHeld => ?_); refine with_tabW spec_MendStep.tab5 spec_MendStep.bits5 (fun HT_ HW_ => ?_)
                generalize w40.drew = w42 at HO1375 HO1379 HO1383 BK1371 BK1372 BK1380 HB hx1384_0 hx1385_0 hx1385_1 hx1385_2 hx1385_3 hHeld ⊢
                refine pure_ (i := 0) (N := some 16) (v := ?_) (a' := ?_) #[true, false, false, false, false, false, false, false, false] rfl rfl (any_of HT_.out (by kernel_rfl)) (fun _ _ _ h => h) (Or.inl ⟨by rfl, ?_⟩) ?_ ?_
                rotate_left
                · intro w'
                  go_simp
                  with_reducible rfl
                rotate_left
                · simp only [Act.put, List.setIfInBounds_toArray, List.set_cons_zero, List.set_cons_succ, i64_w, i32_w]
                  rfl
                refine pure_ (i := 2) (N := some 18) (v := ?_) (a' := ?_) #[true, false, true, false, false, false, false, false, false] rfl rfl (any_of HT_.out (by kernel_rfl)) (fun _ _ _ h => h) (Or.inl ⟨by rfl, ?_⟩) ?_ ?_
                rotate_left
                · intro w'
                  go_simp
                  with_reducible rfl
                rotate_left
                · simp only [Act.put, List.setIfInBounds_toArray, List.set_cons_zero, List.set_cons_succ, i64_w, i32_w]
                  rfl
                refine pure_ (i := 3) (N := some 19) (v := ?_) (a' := ?_) #[true, false, true, true, false, false, false, false, false] rfl rfl (any_of HT_.out (by kernel_rfl)) (fun _ _ _ h => h) (Or.inl ⟨by rfl, ?_⟩) ?_ ?_
                rotate_left
                · intro w'
                  go_simp
                  with_reducible rfl
                rotate_left
                · simp only [Act.put, List.setIfInBounds_toArray, List.set_cons_zero, List.set_cons_succ, i64_w, i32_w]
                  rfl
                refine take_ (i := 1) (N := some 17) (v := ?_) (a' := ?_) #[true, true, true, true, false, false, false, false, false] rfl rfl (take_ofW HT_.out HW_.out (by kernel_rfl)) (fun _ _ _ h => h) (Or.inl ⟨by rfl, ?_⟩) hHeld ?_ ?_
                rotate_left
                · rintro w' ⟨s0, s1, s2, s3, s4, s5, s6, s7⟩
                  go_simp
                  with_reducible rfl
                rotate_left
                · simp only [Act.put, List.setIfInBounds_toArray, List.set_cons_zero, List.set_cons_succ, i64_w, i32_w]
                  rfl
                refine take_ (i := 4) (N := some 20) (v := ?_) (a' := ?_) #[true, true, true, true, true, false, false, false, false] rfl rfl (take_ofW HT_.out HW_.out (by kernel_rfl)) (fun _ _ _ h => h) (Or.inl ⟨by rfl, ?_⟩) hHeld ?_ ?_
                rotate_left
                · rintro w' ⟨s0, s1, s2, s3, s4, s5, s6, s7⟩
                  go_simp
                  with_reducible rfl
                rotate_left
                · simp only [Act.put, List.setIfInBounds_toArray, List.set_cons_zero, List.set_cons_succ, i64_w, i32_w]
                  rfl
                refine pure_ (i := 5) (N := some 21) (v := ?_) (a' := ?_) #[true, true, true, true, true, true, false, false, false] rfl rfl (any_of HT_.out (by kernel_rfl)) (fun _ _ _ h => h) (Or.inl ⟨by rfl, ?_⟩) ?_ ?_
                rotate_left
                · intro w'
                  go_simp
                  with_reducible rfl
                rotate_left
                · simp only [Act.put, List.setIfInBounds_toArray, List.set_cons_zero, List.set_cons_succ, i64_w, i32_w]
                  rfl
                refine take_ (i := 6) (N := some 22) (v := ?_) (a' := ?_) #[true, true, true, true, true, true, true, false, false] rfl rfl (take_ofW HT_.out HW_.out (by kernel_rfl)) (fun _ _ _ h => h) (Or.inl ⟨by rfl, ?_⟩) hHeld ?_ ?_
                rotate_left
                · rintro w' ⟨s0, s1, s2, s3, s4, s5, s6, s7⟩
                  go_simp
                  with_reducible rfl
                rotate_left
                · simp only [Act.put, List.setIfInBounds_toArray, List.set_cons_zero, List.set_cons_succ, i64_w, i32_w]
                  rfl
                refine one_ (i := 7) (N := some 6) #[true, true, true, true, true, true, true, true, false] rfl rfl (one_of HT_.out (by kernel_rfl)) (by decide) (fun K hK => ?_)
                refine box_step ?hg (N := 6) ?hd (cs := #[.int .i64 0, .int .i64 0, .int .i64 0, .int .i64 0]) (t := 96) ?hr ?_; (case hd => rfl); (case hg => rfl); (case hr => first | (go_simp; done) | (go_simp; rfl))
                intro gb1386 hg w43 hbox hb
                have HS3_ := (hb.cell (World.block_lt_of_cell? _ _ (hHeld.2.2.2.1))).trans (hHeld.2.2.2.1)
                have n0_ := Aside0.mk (Kd.R_below (Kd.R_elderB (oR HO1375) gb1386 (Nat.le_of_eq hg.symm)) hb)
                have n1_ := Aside0.mk (Kd.R_below (oR HO1379) hb)
                have n2_ := Aside0.mk (Kd.R_below (oR HO1383) hb)
                have n3_ := Aside0.mk (blk_below (g := gb1371) (o := .cells #[.slice (some ad1385) l0_0.length c0_0, .int .i64 a0_1, .slice A0_2 l0_2.length c0_2] 33 (0, 0)) (oK BK1371) hb)
                have n4_ := Aside0.mk (blk_below (g := gb1372) (o := .cells #[.slice none 0 0, .int .i64 0, .slice none 0 0] 33 (0, 0)) (oK BK1372) hb)
                have n5_ := Aside0.mk (blk_below (g := gb1380) (o := .cells #[.slice Ao34 t1373.length co34, .int .i64 t1376, .slice Ao38 t1377.length co38] 33 (0, 0)) (oK BK1380) hb)
                have n6_ := Aside0.mk (below_step (oB HB) hb)
                have n7_ := Aside0.mk (hbox)
                have n8_ := Aside0.mk ((by rw [hg]; exact (below_size (oB HB)) : w.heap.size ≤ gb1386))
                have n9_ := Aside0.mk ((by rw [hg]; exact (below_size (oB HB)) : w.heap.size ≤ gb1386))
                have n10_ := Aside0.mk ((by rw [hg]; exact Nat.ne_of_lt (blk_lt (g := gb1371) (o := .cells #[.slice (some ad1385) l0_0.length c0_0, .int .i64 a0_1, .slice A0_2 l0_2.length c0_2] 33 (0, 0)) (oK BK1371)) : gb1371 ≠ gb1386))
                have n11_ := Aside0.mk ((by rw [hg]; exact Nat.ne_of_gt (blk_lt (g := gb1371) (o := .cells #[.slice (some ad1385) l0_0.length c0_0, .int .i64 a0_1, .slice A0_2 l0_2.length c0_2] 33 (0, 0)) (oK BK1371)) : gb1386 ≠ gb1371))
                have n12_ := Aside0.mk ((by rw [hg]; exact Nat.ne_of_lt (blk_lt (g := gb1372) (o := .cells #[.slice none 0 0, .int .i64 0, .slice none 0 0] 33 (0, 0)) (oK BK1372)) : gb1372 ≠ gb1386))
                have n13_ := Aside0.mk ((by rw [hg]; exact Nat.ne_of_gt (blk_lt (g := gb1372) (o := .cells #[.slice none 0 0, .int .i64 0, .slice none 0 0] 33 (0, 0)) (oK BK1372)) : gb1386 ≠ gb1372))
                have n14_ := Aside0.mk ((by rw [hg]; exact Nat.ne_of_lt (blk_lt (g := gb1380) (o := .cells #[.slice Ao34 t1373.length co34, .int .i64 t1376, .slice Ao38 t1377.length co38] 33 (0, 0)) (oK BK1380)) : gb1380 ≠ gb1386))
                have n15_ := Aside0.mk ((by rw [hg]; exact Nat.ne_of_gt (blk_lt (g := gb1380) (o := .cells #[.slice Ao34 t1373.length co34, .int .i64 t1376, .slice Ao38 t1377.length co38] 33 (0, 0)) (oK BK1380)) : gb1386 ≠ gb1380))
                clear HO1375
                clear HO1379
                clear HO1383
                clear BK1371
                clear BK1372
                clear BK1380
                clear HB
                have HO1375 := n0_
                have HO1379 := n1_
                have HO1383 := n2_
                have BK1371 := n3_
                have BK1372 := n4_
                have BK1380 := n5_
                have HB := n6_
                have BK1386 := n7_
                have GW1386 := n8_
                have GE1386 := n9_
                have NB1371_1386 := n10_
                have NB1386_1371 := n11_
                have NB1372_1386 := n12_
                have NB1386_1372 := n13_
                have NB1380_1386 := n14_
                have NB1386_1380 := n15_
                clear n0_ n1_ n2_ n3_ n4_ n5_ n6_ n7_ n8_ n9_ n10_ n11_ n12_ n13_ n14_ n15_
                clear hb hbox hg
                refine hK.out _ _ ⟨(blk_cell BK1371.out 0).trans rfl, (blk_cell BK1371.out 1).trans rfl, (blk_cell BK1371.out 2).trans rfl, HS3_, ((HB.out.cell (World.block_lt_of_cell? w _ hw1385_0)).trans hw1385_0), ((HB.out.cell (World.block_lt_of_cell? w _ hw1385_1)).trans hw1385_1), ((HB.out.cell (World.block_lt_of_cell? w _ hw1385_2)).trans hw1385_2), ((HB.out.cell (World.block_lt_of_cell? w _ hw1385_3)).trans hw1385_3)⟩ (fun hHeld => ?_)
                clear hK K
                refine norm_ (a' := ?_) ?_ ?_
                rotate_left
                · show Act.put _ (some 6) _ = _
                  simp only [Act.put, List.setIfInBounds_toArray, List.set_cons_zero, List.set_cons_succ, i64_w, i32_w]
                  rfl
                refine one_ (i := 8) (N := none) #[true, true, true, true, true, true, true, true, true] rfl rfl (one_of HT_.out (by kernel_rfl)) (by decide) (fun K hK => ?_)
                have hs44 : w43.cell? ⟨gb1386, 0, none⟩ = some (.int .i64 0) := (blk_cell BK1386.out 0).trans rfl
                have hfs44 := blk_frozen BK1386.out 0
                have hns44_0 := NB1371_1386.out
                have hns44_1 := NB1372_1386.out
                have hns44_2 := NB1380_1386.out
                have hms44_0 := NB1386_1371.out
                have hms44_1 := NB1386_1372.out
                have hms44_2 := NB1386_1380.out
                have hs45 : w43.cell? ⟨gb1386, 1, none⟩ = some (.int .i64 0) := (blk_cell BK1386.out 1).trans rfl
                have hfs45 := blk_frozen BK1386.out 1
                have hns45_0 := NB1371_1386.out
                have hns45_1 := NB1372_1386.out
                have hns45_2 := NB1380_1386.out
                have hms45_0 := NB1386_1371.out
                have hms45_1 := NB1386_1372.out
                have hms45_2 := NB1386_1380.out
                have hs46 : w43.cell? ⟨gb1386, 2, none⟩ = some (.int .i64 0) := (blk_cell BK1386.out 2).trans rfl
                have hfs46 := blk_frozen BK1386.out 2
                have hns46_0 := NB1371_1386.out
                have hns46_1 := NB1372_1386.out
                have hns46_2 := NB1380_1386.out
                have hms46_0 := NB1386_1371.out
                have hms46_1 := NB1386_1372.out
                have hms46_2 := NB1386_1380.out
                have hs47 : w43.cell? ⟨gb1386, 3, none⟩ = some (.int .i64 0) := (blk_cell BK1386.out 3).trans rfl
                have hfs47 := blk_frozen BK1386.out 3
                have hns47_0 := NB1371_1386.out
                have hns47_1 := NB1372_1386.out
                have hns47_2 := NB1380_1386.out
                have hms47_0 := NB1386_1371.out
                have hms47_1 := NB1386_1372.out
                have hms47_2 := NB1386_1380.out
                refine skip_ (w1 := ?_) (by rfl) rfl ?_ ?_
                rotate_left
                · go_simp
                  rfl
                refine hK.out _ _ ⟨((cell_far (p := ⟨gb1386, _, none⟩) NB1371_1386.out _).trans (((cell_far (p := ⟨gb1386, _, none⟩) NB1371_1386.out _).trans (((cell_far (p := ⟨gb1386, _, none⟩) NB1371_1386.out _).trans (((cell_far (p := ⟨gb1386, _, none⟩) NB1371_1386.out _).trans (hHeld.1)))))))), ((cell_far (p := ⟨gb1386, _, none⟩) NB1371_1386.out _).trans (((cell_far (p := ⟨gb1386, _, none⟩) NB1371_1386.out _).trans (((cell_far (p := ⟨gb1386, _, none⟩) NB1371_1386.out _).trans (((cell_far (p := ⟨gb1386, _, none⟩) NB1371_1386.out _).trans (hHeld.2.1)))))))), ((cell_far (p := ⟨gb1386, _, none⟩) NB1371_1386.out _).trans (((cell_far (p := ⟨gb1386, _, none⟩) NB1371_1386.out _).trans (((cell_far (p := ⟨gb1386, _, none⟩) NB1371_1386.out _).trans (((cell_far (p := ⟨gb1386, _, none⟩) NB1371_1386.out _).trans (hHeld.2.2.1)))))))), ((cell_far (p := ⟨gb1386, _, none⟩) (by first | exact Kd.own_blk (Kd.R_ne HO1383.out BK1386.out (by decide)) | (rw [add_block]; exact Kd.own_blk (Kd.R_ne HO1383.out BK1386.out (by decide))) | (show (Addr.add _ _).block ≠ _; rw [add_block]; exact Kd.own_blk (Kd.R_ne HO1383.out BK1386.out (by decide))) | (dsimp only; exact Kd.own_blk (Kd.R_ne HO1383.out BK1386.out (by decide)))) _).trans (((cell_far (p := ⟨gb1386, _, none⟩) (by first | exact Kd.own_blk (Kd.R_ne HO1383.out BK1386.out (by decide)) | (rw [add_block]; exact Kd.own_blk (Kd.R_ne HO1383.out BK1386.out (by decide))) | (show (Addr.add _ _).block ≠ _; rw [add_block]; exact Kd.own_blk (Kd.R_ne HO1383.out BK1386.out (by decide))) | (dsimp only; exact Kd.own_blk (Kd.R_ne HO1383.out BK1386.out (by decide)))) _).trans (((cell_far (p := ⟨gb1386, _, none⟩) (by first | exact Kd.own_blk (Kd.R_ne HO1383.out BK1386.out (by decide)) | (rw [add_block]; exact Kd.own_blk (Kd.R_ne HO1383.out BK1386.out (by decide))) | (show (Addr.add _ _).block ≠ _; rw [add_block]; exact Kd.own_blk (Kd.R_ne HO1383.out BK1386.out (by decide))) | (dsimp only; exact Kd.own_blk (Kd.R_ne HO1383.out BK1386.out (by decide)))) _).trans (((cell_far (p := ⟨gb1386, _, none⟩) (by first | exact Kd.own_blk (Kd.R_ne HO1383.out BK1386.out (by decide)) | (rw [add_block]; exact Kd.own_blk (Kd.R_ne HO1383.out BK1386.out (by decide))) | (show (Addr.add _ _).block ≠ _; rw [add_block]; exact Kd.own_blk (Kd.R_ne HO1383.out BK1386.out (by decide))) | (dsimp only; exact Kd.own_blk (Kd.R_ne HO1383.out BK1386.out (by decide)))) _).trans (hHeld.2.2.2.1)))))))), ((cell_far (p := ⟨gb1386, _, none⟩) (by first | exact Nat.ne_of_lt (Nat.lt_of_lt_of_le (by have := World.block_lt_of_cell? _ _ hw1385_0; first | rwa [add_block] at this | exact this) GW1386.out) | (rw [add_block]; exact Nat.ne_of_lt (Nat.lt_of_lt_of_le (by have := World.block_lt_of_cell? _ _ hw1385_0; first | rwa [add_block] at this | exact this) GW1386.out)) | (show (Addr.add _ _).block ≠ _; rw [add_block]; exact Nat.ne_of_lt (Nat.lt_of_lt_of_le (by have := World.block_lt_of_cell? _ _ hw1385_0; first | rwa [add_block] at this | exact this) GW1386.out)) | (dsimp only; exact Nat.ne_of_lt (Nat.lt_of_lt_of_le (by have := World.block_lt_of_cell? _ _ hw1385_0; first | rwa [add_block] at this | exact this) GW1386.out))) _).trans (((cell_far (p := ⟨gb1386, _, none⟩) (by first | exact Nat.ne_of_lt (Nat.lt_of_lt_of_le (by have := World.block_lt_of_cell? _ _ hw1385_0; first | rwa [add_block] at this | exact this) GW1386.out) | (rw [add_block]; exact Nat.ne_of_lt (Nat.lt_of_lt_of_le (by have := World.block_lt_of_cell? _ _ hw1385_0; first | rwa [add_block] at this | exact this) GW1386.out)) | (show (Addr.add _ _).block ≠ _; rw [add_block]; exact Nat.ne_of_lt (Nat.lt_of_lt_of_le (by have := World.block_lt_of_cell? _ _ hw1385_0; first | rwa [add_block] at this | exact this) GW1386.out)) | (dsimp only; exact Nat.ne_of_lt (Nat.lt_of_lt_of_le (by have := World.block_lt_of_cell? _ _ hw1385_0; first | rwa [add_block] at this | exact this) GW1386.out))) _).trans (((cell_far (p := ⟨gb1386, _, none⟩) (by first | exact Nat.ne_of_lt (Nat.lt_of_lt_of_le (by have := World.block_lt_of_cell? _ _ hw1385_0; first | rwa [add_block] at this | exact this) GW1386.out) | (rw [add_block]; exact Nat.ne_of_lt (Nat.lt_of_lt_of_le (by have := World.block_lt_of_cell? _ _ hw1385_0; first | rwa [add_block] at this | exact this) GW1386.out)) | (show (Addr.add _ _).block ≠ _; rw [add_block]; exact Nat.ne_of_lt (Nat.lt_of_lt_of_le (by have := World.block_lt_of_cell? _ _ hw1385_0; first | rwa [add_block] at this | exact this) GW1386.out)) | (dsimp only; exact Nat.ne_of_lt (Nat.lt_of_lt_of_le (by have := World.block_lt_of_cell? _ _ hw1385_0; first | rwa [add_block] at this | exact this) GW1386.out))) _).trans (((cell_far (p := ⟨gb1386, _, none⟩) (by first | exact Nat.ne_of_lt (Nat.lt_of_lt_of_le (by have := World.block_lt_of_cell? _ _ hw1385_0; first | rwa [add_block] at this | exact this) GW1386.out) | (rw [add_block]; exact Nat.ne_of_lt (Nat.lt_of_lt_of_le (by have := World.block_lt_of_cell? _ _ hw1385_0; first | rwa [add_block] at this | exact this) GW1386.out)) | (show (Addr.add _ _).block ≠ _; rw [add_block]; exact Nat.ne_of_lt (Nat.lt_of_lt_of_le (by have := World.block_lt_of_cell? _ _ hw1385_0; first | rwa [add_block] at this | exact this) GW1386.out)) | (dsimp only; exact Nat.ne_of_lt (Nat.lt_of_lt_of_le (by have := World.block_lt_of_cell? _ _ hw1385_0; first | rwa [add_block] at this | exact this) GW1386.out))) _).trans (hHeld.2.2.2.2.1)))))))), ((cell_far (p := ⟨gb1386, _, none⟩) (by first | exact Nat.ne_of_lt (Nat.lt_of_lt_of_le (by have := World.block_lt_of_cell? _ _ hw1385_1; first | rwa [add_block] at this | exact this) GW1386.out) | (rw [add_block]; exact Nat.ne_of_lt (Nat.lt_of_lt_of_le (by have := World.block_lt_of_cell? _ _ hw1385_1; first | rwa [add_block] at this | exact this) GW1386.out)) | (show (Addr.add _ _).block ≠ _; rw [add_block]; exact Nat.ne_of_lt (Nat.lt_of_lt_of_le (by have := World.block_lt_of_cell? _ _ hw1385_1; first | rwa [add_block] at this | exact this) GW1386.out)) | (dsimp only; exact Nat.ne_of_lt (Nat.lt_of_lt_of_le (by have := World.block_lt_of_cell? _ _ hw1385_1; first | rwa [add_block] at this | exact this) GW1386.out))) _).trans (((cell_far (p := ⟨gb1386, _, none⟩) (by first | exact Nat.ne_of_lt (Nat.lt_of_lt_of_le (by have := World.block_lt_of_cell? _ _ hw1385_1; first | rwa [add_block] at this | exact this) GW1386.out) | (rw [add_block]; exact Nat.ne_of_lt (Nat.lt_of_lt_of_le (by have := World.block_lt_of_cell? _ _ hw1385_1; first | rwa [add_block] at this | exact this) GW1386.out)) | (show (Addr.add _ _).block ≠ _; rw [add_block]; exact Nat.ne_of_lt (Nat.lt_of_lt_of_le (by have := World.block_lt_of_cell? _ _ hw1385_1; first | rwa [add_block] at this | exact this) GW1386.out)) | (dsimp only; exact Nat.ne_of_lt (Nat.lt_of_lt_of_le (by have := World.block_lt_of_cell? _ _ hw1385_1; first | rwa [add_block] at this | exact this) GW1386.out))) _).trans (((cell_far (p := ⟨gb1386, _, none⟩) (by first | exact Nat.ne_of_lt (Nat.lt_of_lt_of_le (by have := World.block_lt_of_cell? _ _ hw1385_1; first | rwa [add_block] at this | exact this) GW1386.out) | (rw [add_block]; exact Nat.ne_of_lt (Nat.lt_of_lt_of_le (by have := World.block_lt_of_cell? _ _ hw1385_1; first | rwa [add_block] at this | exact this) GW1386.out)) | (show (Addr.add _ _).block ≠ _; rw [add_block]; exact Nat.ne_of_lt (Nat.lt_of_lt_of_le (by have := World.block_lt_of_cell? _ _ hw1385_1; first | rwa [add_block] at this | exact this) GW1386.out)) | (dsimp only; exact Nat.ne_of_lt (Nat.lt_of_lt_of_le (by have := World.block_lt_of_cell? _ _ hw1385_1; first | rwa [add_block] at this | exact this) GW1386.out))) _).trans (((cell_far (p := ⟨gb1386, _, none⟩) (by first | exact Nat.ne_of_lt (Nat.lt_of_lt_of_le (by have := World.block_lt_of_cell? _ _ hw1385_1; first | rwa [add_block] at this | exact this) GW1386.out) | (rw [add_block]; exact Nat.ne_of_lt (Nat.lt_of_lt_of_le (by have := World.block_lt_of_cell? _ _ hw1385_1; first | rwa [add_block] at this | exact this) GW1386.out)) | (show (Addr.add _ _).block ≠ _; rw [add_block]; exact Nat.ne_of_lt (Nat.lt_of_lt_of_le (by have := World.block_lt_of_cell? _ _ hw1385_1; first | rwa [add_block] at this | exact this) GW1386.out)) | (dsimp only; exact Nat.ne_of_lt (Nat.lt_of_lt_of_le (by have := World.block_lt_of_cell? _ _ hw1385_1; first | rwa [add_block] at this | exact this) GW1386.out))) _).trans (hHeld.2.2.2.2.2.1)))))))), ((cell_far (p := ⟨gb1386, _, none⟩) (by first | exact Nat.ne_of_lt (Nat.lt_of_lt_of_le (by have := World.block_lt_of_cell? _ _ hw1385_2; first | rwa [add_block] at this | exact this) GW1386.out) | (rw [add_block]; exact Nat.ne_of_lt (Nat.lt_of_lt_of_le (by have := World.block_lt_of_cell? _ _ hw1385_2; first | rwa [add_block] at this | exact this) GW1386.out)) | (show (Addr.add _ _).block ≠ _; rw [add_block]; exact Nat.ne_of_lt (Nat.lt_of_lt_of_le (by have := World.block_lt_of_cell? _ _ hw1385_2; first | rwa [add_block] at this | exact this) GW1386.out)) | (dsimp only; exact Nat.ne_of_lt (Nat.lt_of_lt_of_le (by have := World.block_lt_of_cell? _ _ hw1385_2; first | rwa [add_block] at this | exact this) GW1386.out))) _).trans (((cell_far (p := ⟨gb1386, _, none⟩) (by first | exact Nat.ne_of_lt (Nat.lt_of_lt_of_le (by have := World.block_lt_of_cell? _ _ hw1385_2; first | rwa [add_block] at this | exact this) GW1386.out) | (rw [add_block]; exact Nat.ne_of_lt (Nat.lt_of_lt_of_le (by have := World.block_lt_of_cell? _ _ hw1385_2; first | rwa [add_block] at this | exact this) GW1386.out)) | (show (Addr.add _ _).block ≠ _; rw [add_block]; exact Nat.ne_of_lt (Nat.lt_of_lt_of_le (by have := World.block_lt_of_cell? _ _ hw1385_2; first | rwa [add_block] at this | exact this) GW1386.out)) | (dsimp only; exact Nat.ne_of_lt (Nat.lt_of_lt_of_le (by have := World.block_lt_of_cell? _ _ hw1385_2; first | rwa [add_block] at this | exact this) GW1386.out))) _).trans (((cell_far (p := ⟨gb1386, _, none⟩) (by first | exact Nat.ne_of_lt (Nat.lt_of_lt_of_le (by have := World.block_lt_of_cell? _ _ hw1385_2; first | rwa [add_block] at this | exact this) GW1386.out) | (rw [add_block]; exact Nat.ne_of_lt (Nat.lt_of_lt_of_le (by have := World.block_lt_of_cell? _ _ hw1385_2; first | rwa [add_block] at this | exact this) GW1386.out)) | (show (Addr.add _ _).block ≠ _; rw [add_block]; exact Nat.ne_of_lt (Nat.lt_of_lt_of_le (by have := World.block_lt_of_cell? _ _ hw1385_2; first | rwa [add_block] at this | exact this) GW1386.out)) | (dsimp only; exact Nat.ne_of_lt (Nat.lt_of_lt_of_le (by have := World.block_lt_of_cell? _ _ hw1385_2; first | rwa [add_block] at this | exact this) GW1386.out))) _).trans (((cell_far (p := ⟨gb1386, _, none⟩) (by first | exact Nat.ne_of_lt (Nat.lt_of_lt_of_le (by have := World.block_lt_of_cell? _ _ hw1385_2; first | rwa [add_block] at this | exact this) GW1386.out) | (rw [add_block]; exact Nat.ne_of_lt (Nat.lt_of_lt_of_le (by have := World.block_lt_of_cell? _ _ hw1385_2; first | rwa [add_block] at this | exact this) GW1386.out)) | (show (Addr.add _ _).block ≠ _; rw [add_block]; exact Nat.ne_of_lt (Nat.lt_of_lt_of_le (by have := World.block_lt_of_cell? _ _ hw1385_2; first | rwa [add_block] at this | exact this) GW1386.out)) | (dsimp only; exact Nat.ne_of_lt (Nat.lt_of_lt_of_le (by have := World.block_lt_of_cell? _ _ hw1385_2; first | rwa [add_block] at this | exact this) GW1386.out))) _).trans (hHeld.2.2.2.2.2.2.1)))))))), ((cell_far (p := ⟨gb1386, _, none⟩) (by first | exact Nat.ne_of_lt (Nat.lt_of_lt_of_le (by have := World.block_lt_of_cell? _ _ hw1385_3; first | rwa [add_block] at this | exact this) GW1386.out) | (rw [add_block]; exact Nat.ne_of_lt (Nat.lt_of_lt_of_le (by have := World.block_lt_of_cell? _ _ hw1385_3; first | rwa [add_block] at this | exact this) GW1386.out)) | (show (Addr.add _ _).block ≠ _; rw [add_block]; exact Nat.ne_of_lt (Nat.lt_of_lt_of_le (by have := World.block_lt_of_cell? _ _ hw1385_3; first | rwa [add_block] at this | exact this) GW1386.out)) | (dsimp only; exact Nat.ne_of_lt (Nat.lt_of_lt_of_le (by have := World.block_lt_of_cell? _ _ hw1385_3; first | rwa [add_block] at this | exact this) GW1386.out))) _).trans (((cell_far (p := ⟨gb1386, _, none⟩) (by first | exact Nat.ne_of_lt (Nat.lt_of_lt_of_le (by have := World.block_lt_of_cell? _ _ hw1385_3; first | rwa [add_block] at this | exact this) GW1386.out) | (rw [add_block]; exact Nat.ne_of_lt (Nat.lt_of_lt_of_le (by have := World.block_lt_of_cell? _ _ hw1385_3; first | rwa [add_block] at this | exact this) GW1386.out)) | (show (Addr.add _ _).block ≠ _; rw [add_block]; exact Nat.ne_of_lt (Nat.lt_of_lt_of_le (by have := World.block_lt_of_cell? _ _ hw1385_3; first | rwa [add_block] at this | exact this) GW1386.out)) | (dsimp only; exact Nat.ne_of_lt (Nat.lt_of_lt_of_le (by have := World.block_lt_of_cell? _ _ hw1385_3; first | rwa [add_block] at this | exact this) GW1386.out))) _).trans (((cell_far (p := ⟨gb1386, _, none⟩) (by first | exact Nat.ne_of_lt (Nat.lt_of_lt_of_le (by have := World.block_lt_of_cell? _ _ hw1385_3; first | rwa [add_block] at this | exact this) GW1386.out) | (rw [add_block]; exact Nat.ne_of_lt (Nat.lt_of_lt_of_le (by have := World.block_lt_of_cell? _ _ hw1385_3; first | rwa [add_block] at this | exact this) GW1386.out)) | (show (Addr.add _ _).block ≠ _; rw [add_block]; exact Nat.ne_of_lt (Nat.lt_of_lt_of_le (by have := World.block_lt_of_cell? _ _ hw1385_3; first | rwa [add_block] at this | exact this) GW1386.out)) | (dsimp only; exact Nat.ne_of_lt (Nat.lt_of_lt_of_le (by have := World.block_lt_of_cell? _ _ hw1385_3; first | rwa [add_block] at this | exact this) GW1386.out))) _).trans (((cell_far (p := ⟨gb1386, _, none⟩) (by first | exact Nat.ne_of_lt (Nat.lt_of_lt_of_le (by have := World.block_lt_of_cell? _ _ hw1385_3; first | rwa [add_block] at this | exact this) GW1386.out) | (rw [add_block]; exact Nat.ne_of_lt (Nat.lt_of_lt_of_le (by have := World.block_lt_of_cell? _ _ hw1385_3; first | rwa [add_block] at this | exact this) GW1386.out)) | (show (Addr.add _ _).block ≠ _; rw [add_block]; exact Nat.ne_of_lt (Nat.lt_of_lt_of_le (by have := World.block_lt_of_cell? _ _ hw1385_3; first | rwa [add_block] at this | exact this) GW1386.out)) | (dsimp only; exact Nat.ne_of_lt (Nat.lt_of_lt_of_le (by have := World.block_lt_of_cell? _ _ hw1385_3; first | rwa [add_block] at this | exact this) GW1386.out))) _).trans (hHeld.2.2.2.2.2.2.2))))))))⟩ (fun hHeld => ?_)
                clear hK K
                refine done_ (done_of HT_.out (by kernel_rfl)) ?_
                try go_wp2
                have n0_ : Aside0 (Kd.R k96 96 ((((w43.setCell ⟨gb1386, 0, none⟩ (.int .i64 ((rd_T96 l0_0 (rd t1381 0)).f0))).setCell ⟨gb1386, 1, none⟩ (.int .i64 ((rd_T96 l0_0 (rd t1381 0)).f1))).setCell ⟨gb1386, 2, none⟩ (.int .i64 ((rd_T96 l0_0 (rd t1381 0)).f2))).setCell ⟨gb1386, 3, none⟩ (.int .i64 ((rd_T96 l0_0 (rd t1381 0)).f3))) w.heap.size (fun k_ => k_ ≠ gb1386) (.slice Ao34 t1373.length co34) t1373) := ⟨by (with_reducible repeat (first | apply Kd.R_alloc | apply Kd.R_drewN | apply Kd.R_drew)); exact Kd.R_mono (Kd.R_far (p := ⟨gb1386, 3, none⟩) (Kd.R_far (p := ⟨gb1386, 2, none⟩) (Kd.R_far (p := ⟨gb1386, 1, none⟩) (Kd.R_far (p := ⟨gb1386, 0, none⟩) (Kd.R_mono HO1375.out (fun k_ hk => (⟨hk, hk.2⟩ : _ ∧ k_ ≠ gb1386))) (fun _ hk => hk.2) (.int .i64 ((rd_T96 l0_0 (rd t1381 0)).f0))) (fun _ hk => hk.2) (.int .i64 ((rd_T96 l0_0 (rd t1381 0)).f1))) (fun _ hk => hk.2) (.int .i64 ((rd_T96 l0_0 (rd t1381 0)).f2))) (fun _ hk => hk.2) (.int .i64 ((rd_T96 l0_0 (rd t1381 0)).f3))) (fun _ hk => hk.1.2)⟩
                have n1_ : Aside0 (Kd.R (Kd.int .i64) 3 ((((w43.setCell ⟨gb1386, 0, none⟩ (.int .i64 ((rd_T96 l0_0 (rd t1381 0)).f0))).setCell ⟨gb1386, 1, none⟩ (.int .i64 ((rd_T96 l0_0 (rd t1381 0)).f1))).setCell ⟨gb1386, 2, none⟩ (.int .i64 ((rd_T96 l0_0 (rd t1381 0)).f2))).setCell ⟨gb1386, 3, none⟩ (.int .i64 ((rd_T96 l0_0 (rd t1381 0)).f3))) w.heap.size (fun k_ => some k_ ≠ (.slice (some ad1384) t1381.length co41 : Value).ownBlock) (.slice Ao38 t1377.length co38) t1377) := ⟨by (with_reducible repeat (first | apply Kd.R_alloc | apply Kd.R_drewN | apply Kd.R_drew)); exact Kd.R_mono (Kd.R_far (p := ⟨gb1386, 3, none⟩) (Kd.R_far (p := ⟨gb1386, 2, none⟩) (Kd.R_far (p := ⟨gb1386, 1, none⟩) (Kd.R_far (p := ⟨gb1386, 0, none⟩) (Kd.R_types HO1379.out BK1386.out (by decide)) (fun _ hk => hk.2) (.int .i64 ((rd_T96 l0_0 (rd t1381 0)).f0))) (fun _ hk => hk.2) (.int .i64 ((rd_T96 l0_0 (rd t1381 0)).f1))) (fun _ hk => hk.2) (.int .i64 ((rd_T96 l0_0 (rd t1381 0)).f2))) (fun _ hk => hk.2) (.int .i64 ((rd_T96 l0_0 (rd t1381 0)).f3))) (fun _ hk => hk.1.2)⟩
                have n2_ : Aside0 (Kd.R (Kd.int .i64) 3 ((((w43.setCell ⟨gb1386, 0, none⟩ (.int .i64 ((rd_T96 l0_0 (rd t1381 0)).f0))).setCell ⟨gb1386, 1, none⟩ (.int .i64 ((rd_T96 l0_0 (rd t1381 0)).f1))).setCell ⟨gb1386, 2, none⟩ (.int .i64 ((rd_T96 l0_0 (rd t1381 0)).f2))).setCell ⟨gb1386, 3, none⟩ (.int .i64 ((rd_T96 l0_0 (rd t1381 0)).f3))) w.heap.size (fun k_ => some k_ ≠ (.slice Ao38 t1377.length co38 : Value).ownBlock) (.slice (some ad1384) t1381.length co41) t1381) := ⟨by (with_reducible repeat (first | apply Kd.R_alloc | apply Kd.R_drewN | apply Kd.R_drew)); exact Kd.R_mono (Kd.R_far (p := ⟨gb1386, 3, none⟩) (Kd.R_far (p := ⟨gb1386, 2, none⟩) (Kd.R_far (p := ⟨gb1386, 1, none⟩) (Kd.R_far (p := ⟨gb1386, 0, none⟩) (Kd.R_types HO1383.out BK1386.out (by decide)) (fun _ hk => hk.2) (.int .i64 ((rd_T96 l0_0 (rd t1381 0)).f0))) (fun _ hk => hk.2) (.int .i64 ((rd_T96 l0_0 (rd t1381 0)).f1))) (fun _ hk => hk.2) (.int .i64 ((rd_T96 l0_0 (rd t1381 0)).f2))) (fun _ hk => hk.2) (.int .i64 ((rd_T96 l0_0 (rd t1381 0)).f3))) (fun _ hk => hk.1.2)⟩
                have n3_ : Aside0 (((((w43.setCell ⟨gb1386, 0, none⟩ (.int .i64 ((rd_T96 l0_0 (rd t1381 0)).f0))).setCell ⟨gb1386, 1, none⟩ (.int .i64 ((rd_T96 l0_0 (rd t1381 0)).f1))).setCell ⟨gb1386, 2, none⟩ (.int .i64 ((rd_T96 l0_0 (rd t1381 0)).f2))).setCell ⟨gb1386, 3, none⟩ (.int .i64 ((rd_T96 l0_0 (rd t1381 0)).f3))).heap[gb1371]? = some (.cells #[.slice (some ad1385) l0_0.length c0_0, .int .i64 a0_1, .slice A0_2 l0_2.length c0_2] 33 (0, 0))) := ⟨by (with_reducible repeat (first | refine blk_drewN ?_ _ | refine blk_drew ?_ | refine blk_alloc ?_ _)); refine blk_far ?_ NB1371_1386.out _; (with_reducible repeat (first | refine blk_drewN ?_ _ | refine blk_drew ?_ | refine blk_alloc ?_ _)); refine blk_far ?_ NB1371_1386.out _; (with_reducible repeat (first | refine blk_drewN ?_ _ | refine blk_drew ?_ | refine blk_alloc ?_ _)); refine blk_far ?_ NB1371_1386.out _; (with_reducible repeat (first | refine blk_drewN ?_ _ | refine blk_drew ?_ | refine blk_alloc ?_ _)); refine blk_far ?_ NB1371_1386.out _; (with_reducible repeat (first | refine blk_drewN ?_ _ | refine blk_drew ?_ | refine blk_alloc ?_ _)); exact BK1371.out⟩
                have n4_ : Aside0 (((((w43.setCell ⟨gb1386, 0, none⟩ (.int .i64 ((rd_T96 l0_0 (rd t1381 0)).f0))).setCell ⟨gb1386, 1, none⟩ (.int .i64 ((rd_T96 l0_0 (rd t1381 0)).f1))).setCell ⟨gb1386, 2, none⟩ (.int .i64 ((rd_T96 l0_0 (rd t1381 0)).f2))).setCell ⟨gb1386, 3, none⟩ (.int .i64 ((rd_T96 l0_0 (rd t1381 0)).f3))).heap[gb1372]? = some (.cells #[.slice none 0 0, .int .i64 0, .slice none 0 0] 33 (0, 0))) := ⟨by (with_reducible repeat (first | refine blk_drewN ?_ _ | refine blk_drew ?_ | refine blk_alloc ?_ _)); refine blk_far ?_ NB1372_1386.out _; (with_reducible repeat (first | refine blk_drewN ?_ _ | refine blk_drew ?_ | refine blk_alloc ?_ _)); refine blk_far ?_ NB1372_1386.out _; (with_reducible repeat (first | refine blk_drewN ?_ _ | refine blk_drew ?_ | refine blk_alloc ?_ _)); refine blk_far ?_ NB1372_1386.out _; (with_reducible repeat (first | refine blk_drewN ?_ _ | refine blk_drew ?_ | refine blk_alloc ?_ _)); refine blk_far ?_ NB1372_1386.out _; (with_reducible repeat (first | refine blk_drewN ?_ _ | refine blk_drew ?_ | refine blk_alloc ?_ _)); exact BK1372.out⟩
                have n5_ : Aside0 (((((w43.setCell ⟨gb1386, 0, none⟩ (.int .i64 ((rd_T96 l0_0 (rd t1381 0)).f0))).setCell ⟨gb1386, 1, none⟩ (.int .i64 ((rd_T96 l0_0 (rd t1381 0)).f1))).setCell ⟨gb1386, 2, none⟩ (.int .i64 ((rd_T96 l0_0 (rd t1381 0)).f2))).setCell ⟨gb1386, 3, none⟩ (.int .i64 ((rd_T96 l0_0 (rd t1381 0)).f3))).heap[gb1380]? = some (.cells #[.slice Ao34 t1373.length co34, .int .i64 t1376, .slice Ao38 t1377.length co38] 33 (0, 0))) := ⟨by (with_reducible repeat (first | refine blk_drewN ?_ _ | refine blk_drew ?_ | refine blk_alloc ?_ _)); refine blk_far ?_ NB1380_1386.out _; (with_reducible repeat (first | refine blk_drewN ?_ _ | refine blk_drew ?_ | refine blk_alloc ?_ _)); refine blk_far ?_ NB1380_1386.out _; (with_reducible repeat (first | refine blk_drewN ?_ _ | refine blk_drew ?_ | refine blk_alloc ?_ _)); refine blk_far ?_ NB1380_1386.out _; (with_reducible repeat (first | refine blk_drewN ?_ _ | refine blk_drew ?_ | refine blk_alloc ?_ _)); refine blk_far ?_ NB1380_1386.out _; (with_reducible repeat (first | refine blk_drewN ?_ _ | refine blk_drew ?_ | refine blk_alloc ?_ _)); exact BK1380.out⟩
                have n6_ : Aside0 (((((w43.setCell ⟨gb1386, 0, none⟩ (.int .i64 ((rd_T96 l0_0 (rd t1381 0)).f0))).setCell ⟨gb1386, 1, none⟩ (.int .i64 ((rd_T96 l0_0 (rd t1381 0)).f1))).setCell ⟨gb1386, 2, none⟩ (.int .i64 ((rd_T96 l0_0 (rd t1381 0)).f2))).setCell ⟨gb1386, 3, none⟩ (.int .i64 ((rd_T96 l0_0 (rd t1381 0)).f3))).heap[gb1386]? = some (.cells #[.int .i64 ((rd_T96 l0_0 (rd t1381 0)).f0), .int .i64 ((rd_T96 l0_0 (rd t1381 0)).f1), .int .i64 ((rd_T96 l0_0 (rd t1381 0)).f2), .int .i64 ((rd_T96 l0_0 (rd t1381 0)).f3)] 96 (0, 0))) := ⟨by (with_reducible repeat (first | refine blk_drewN ?_ _ | refine blk_drew ?_ | refine blk_alloc ?_ _)); refine blk_put (cs := #[.int .i64 ((rd_T96 l0_0 (rd t1381 0)).f0), .int .i64 ((rd_T96 l0_0 (rd t1381 0)).f1), .int .i64 ((rd_T96 l0_0 (rd t1381 0)).f2), .int .i64 0]) ?_ 3 _ rfl; (with_reducible repeat (first | refine blk_drewN ?_ _ | refine blk_drew ?_ | refine blk_alloc ?_ _)); refine blk_put (cs := #[.int .i64 ((rd_T96 l0_0 (rd t1381 0)).f0), .int .i64 ((rd_T96 l0_0 (rd t1381 0)).f1), .int .i64 0, .int .i64 0]) ?_ 2 _ rfl; (with_reducible repeat (first | refine blk_drewN ?_ _ | refine blk_drew ?_ | refine blk_alloc ?_ _)); refine blk_put (cs := #[.int .i64 ((rd_T96 l0_0 (rd t1381 0)).f0), .int .i64 0, .int .i64 0, .int .i64 0]) ?_ 1 _ rfl; (with_reducible repeat (first | refine blk_drewN ?_ _ | refine blk_drew ?_ | refine blk_alloc ?_ _)); refine blk_put (cs := #[.int .i64 0, .int .i64 0, .int .i64 0, .int .i64 0]) ?_ 0 _ rfl; (with_reducible repeat (first | refine blk_drewN ?_ _ | refine blk_drew ?_ | refine blk_alloc ?_ _)); exact BK1386.out⟩
                have n7_ : Aside0 (Below w.heap.size w ((((w43.setCell ⟨gb1386, 0, none⟩ (.int .i64 ((rd_T96 l0_0 (rd t1381 0)).f0))).setCell ⟨gb1386, 1, none⟩ (.int .i64 ((rd_T96 l0_0 (rd t1381 0)).f1))).setCell ⟨gb1386, 2, none⟩ (.int .i64 ((rd_T96 l0_0 (rd t1381 0)).f2))).setCell ⟨gb1386, 3, none⟩ (.int .i64 ((rd_T96 l0_0 (rd t1381 0)).f3)))) := ⟨oB HB⟩
                (try clear HO1375)
                (try clear HO1379)
                (try clear HO1383)
                (try clear BK1371)
                (try clear BK1372)
                (try clear BK1380)
                (try clear BK1386)
                (try clear HB)
                generalize ((((w43.setCell ⟨gb1386, 0, none⟩ (.int .i64 ((rd_T96 l0_0 (rd t1381 0)).f0))).setCell ⟨gb1386, 1, none⟩ (.int .i64 ((rd_T96 l0_0 (rd t1381 0)).f1))).setCell ⟨gb1386, 2, none⟩ (.int .i64 ((rd_T96 l0_0 (rd t1381 0)).f2))).setCell ⟨gb1386, 3, none⟩ (.int .i64 ((rd_T96 l0_0 (rd t1381 0)).f3))) = w48 at n0_ n1_ n2_ n3_ n4_ n5_ n6_ n7_ ⊢
                have HO1375 := n0_
                have HO1379 := n1_
                have HO1383 := n2_
                have BK1371 := n3_
                have BK1372 := n4_
                have BK1380 := n5_
                have BK1386 := n6_
                have HB := n7_
                clear n0_ n1_ n2_ n3_ n4_ n5_ n6_ n7_
                have n0_ := Aside0.mk (Kd.R_drew HO1375.out)
                have n1_ := Aside0.mk (Kd.R_drew HO1379.out)
                have n2_ := Aside0.mk (Kd.R_drew HO1383.out)
                have n3_ := Aside0.mk (blk_drew BK1371.out)
                have n4_ := Aside0.mk (blk_drew BK1372.out)
                have n5_ := Aside0.mk (blk_drew BK1380.out)
                have n6_ := Aside0.mk (blk_drew BK1386.out)
                have n7_ := Aside0.mk (below_drew1 HB.out)
                clear HO1375
                clear HO1379
                clear HO1383
                clear BK1371
                clear BK1372
                clear BK1380
                clear BK1386
                clear HB
                have HO1375 := n0_
                have HO1379 := n1_
                have HO1383 := n2_
                have BK1371 := n3_
                have BK1372 := n4_
                have BK1380 := n5_
                have BK1386 := n6_
                have HB := n7_
                clear n0_ n1_ n2_ n3_ n4_ n5_ n6_ n7_
                have p1387 : 0 ≤ (((rd_T96 l0_0 (rd t1381 0)).f0) : Int) := of_decide_eq_true (by first | (with_reducible assumption) | assumption)
                have q1387 : ((rd_T96 l0_0 (rd t1381 0)).f0) < (l0_2.length : Int) := of_decide_eq_true (by first | (with_reducible assumption) | assumption)
                obtain ⟨ad1387, e1387, hx1387_0⟩ := Kd.at_int HR0_2.out ((rd_T96 l0_0 (rd t1381 0)).f0) p1387 q1387
                have hw1387_0 := hx1387_0
                cases e1387
                replace hx1387_0 := (HB.out.cell (World.block_lt_of_cell? w _ hx1387_0)).trans hx1387_0
                replace p1387 := eq_true p1387
                replace q1387 := eq_true q1387
                refine start_ (n := 12) (S := fun w' => w'.cell? ⟨gb1371, 0, none⟩ = some (.slice (some ad1385) l0_0.length c0_0) ∧ w'.cell? ⟨gb1371, 1, none⟩ = some (.int .i64 a0_1) ∧ w'.cell? ⟨gb1371, 2, none⟩ = some (.slice (some ad1387) l0_2.length c0_2) ∧ w'.cell? ⟨gb1386, 0, none⟩ = some (.int .i64 ((rd_T96 l0_0 (rd t1381 0)).f0)) ∧ w'.cell? ⟨gb1386, 1, none⟩ = some (.int .i64 ((rd_T96 l0_0 (rd t1381 0)).f1)) ∧ w'.cell? ⟨gb1386, 2, none⟩ = some (.int .i64 ((rd_T96 l0_0 (rd t1381 0)).f2)) ∧ w'.cell? ⟨gb1386, 3, none⟩ = some (.int .i64 ((rd_T96 l0_0 (rd t1381 0)).f3)) ∧ w'.cell? (ad1387.add (((rd_T96 l0_0 (rd t1381 0)).f0)).toNat) = some (.int .i64 (rd l0_2 ((rd_T96 l0_0 (rd t1381 0)).f0)))) (ds := []) #[false, false, false, false, false, false, false, false, false, false, false, false] (by kernel_rfl) rfl rfl ⟨(blk_cell BK1371.out 0).trans rfl, (blk_cell BK1371.out 1).trans rfl, (blk_cell BK1371.out 2).trans rfl, (blk_cell BK1386.out 0).trans rfl, (blk_cell BK1386.out 1).trans rfl, (blk_cell BK1386.out 2).trans rfl, (blk_cell BK1386.out 3).trans rfl, ((HB.out.cell (World.block_lt_of_cell? w _ hw1387_0)).trans hw1387_0)⟩ (fun hHeld => ?_); refine with_tabW spec_MendStep.tab6 spec_MendStep.bits6 (fun HT_ HW_ => ?_)
                generalize w48.drew = w49 at HO1375 HO1379 HO1383 BK1371 BK1372 BK1380 BK1386 HB hx1387_0 hHeld ⊢
                refine pure_ (i := 0) (N := some 23) (v := ?_) (a' := ?_) #[true, false, false, false, false, false, false, false, false, false, false, false] rfl rfl (any_of HT_.out (by kernel_rfl)) (fun _ _ _ h => h) (Or.inl ⟨by rfl, ?_⟩) ?_ ?_
                rotate_left
                · intro w'
                  go_simp
                  with_reducible rfl
                rotate_left
                · simp only [Act.put, List.setIfInBounds_toArray, List.set_cons_zero, List.set_cons_succ, i64_w, i32_w]
                  rfl
                refine pure_ (i := 2) (N := some 25) (v := ?_) (a' := ?_) #[true, false, true, false, false, false, false, false, false, false, false, false] rfl rfl (any_of HT_.out (by kernel_rfl)) (fun _ _ _ h => h) (Or.inl ⟨by rfl, ?_⟩) ?_ ?_
                rotate_left
                · intro w'
                  go_simp
                  with_reducible rfl
                rotate_left
                · simp only [Act.put, List.setIfInBounds_toArray, List.set_cons_zero, List.set_cons_succ, i64_w, i32_w]
                  rfl
                refine pure_ (i := 6) (N := some 29) (v := ?_) (a' := ?_) #[true, false, true, false, false, false, true, false, false, false, false, false] rfl rfl (any_of HT_.out (by kernel_rfl)) (fun _ _ _ h => h) (Or.inl ⟨by rfl, ?_⟩) ?_ ?_
                rotate_left
                · intro w'
                  go_simp
                  with_reducible rfl
                rotate_left
                · simp only [Act.put, List.setIfInBounds_toArray, List.set_cons_zero, List.set_cons_succ, i64_w, i32_w]
                  rfl
                refine pure_ (i := 8) (N := some 31) (v := ?_) (a' := ?_) #[true, false, true, false, false, false, true, false, true, false, false, false] rfl rfl (any_of HT_.out (by kernel_rfl)) (fun _ _ _ h => h) (Or.inl ⟨by rfl, ?_⟩) ?_ ?_
                rotate_left
                · intro w'
                  go_simp
                  with_reducible rfl
                rotate_left
                · simp only [Act.put, List.setIfInBounds_toArray, List.set_cons_zero, List.set_cons_succ, i64_w, i32_w]
                  rfl
                refine take_ (i := 1) (N := some 24) (v := ?_) (a' := ?_) #[true, true, true, false, false, false, true, false, true, false, false, false] rfl rfl (take_ofW HT_.out HW_.out (by kernel_rfl)) (fun _ _ _ h => h) (Or.inl ⟨by rfl, ?_⟩) hHeld ?_ ?_
                rotate_left
                · rintro w' ⟨s0, s1, s2, s3, s4, s5, s6, s7⟩
                  go_simp
                  with_reducible rfl
                rotate_left
                · simp only [Act.put, List.setIfInBounds_toArray, List.set_cons_zero, List.set_cons_succ, i64_w, i32_w]
                  rfl
                refine take_ (i := 3) (N := some 26) (v := ?_) (a' := ?_) #[true, true, true, true, false, false, true, false, true, false, false, false] rfl rfl (take_ofW HT_.out HW_.out (by kernel_rfl)) (fun _ _ _ h => h) (Or.inl ⟨by rfl, ?_⟩) hHeld ?_ ?_
                rotate_left
                · rintro w' ⟨s0, s1, s2, s3, s4, s5, s6, s7⟩
                  go_simp
                  with_reducible rfl
                rotate_left
                · simp only [Act.put, List.setIfInBounds_toArray, List.set_cons_zero, List.set_cons_succ, i64_w, i32_w]
                  rfl
                refine pure_ (i := 4) (N := some 27) (v := ?_) (a' := ?_) #[true, true, true, true, true, false, true, false, true, false, false, false] rfl rfl (any_of HT_.out (by kernel_rfl)) (fun _ _ _ h => h) (Or.inl ⟨by rfl, ?_⟩) ?_ ?_
                rotate_left
                · intro w'
                  go_simp
                  with_reducible rfl
                rotate_left
                · simp only [Act.put, List.setIfInBounds_toArray, List.set_cons_zero, List.set_cons_succ, i64_w, i32_w]
                  rfl
                refine take_ (i := 5) (N := some 28) (v := ?_) (a' := ?_) #[true, true, true, true, true, true, true, false, true, false, false, false] rfl rfl (take_ofW HT_.out HW_.out (by kernel_rfl)) (fun _ _ _ h => h) (Or.inl ⟨by rfl, ?_⟩) hHeld ?_ ?_
                rotate_left
                · rintro w' ⟨s0, s1, s2, s3, s4, s5, s6, s7⟩
                  go_simp
                  with_reducible rfl
                rotate_left
                · simp only [Act.put, List.setIfInBounds_toArray, List.set_cons_zero, List.set_cons_succ, i64_w, i32_w]
                  rfl
                refine take_ (i := 7) (N := some 30) (v := ?_) (a' := ?_) #[true, true, true, true, true, true, true, true, true, false, false, false] rfl rfl (take_ofW HT_.out HW_.out (by kernel_rfl)) (fun _ _ _ h => h) (Or.inl ⟨by rfl, ?_⟩) hHeld ?_ ?_
                rotate_left
                · rintro w' ⟨s0, s1, s2, s3, s4, s5, s6, s7⟩
                  go_simp
                  with_reducible rfl
                rotate_left
                · simp only [Act.put, List.setIfInBounds_toArray, List.set_cons_zero, List.set_cons_succ, i64_w, i32_w]
                  rfl
                refine take_ (i := 9) (N := some 32) (v := ?_) (a' := ?_) #[true, true, true, true, true, true, true, true, true, true, false, false] rfl rfl (take_ofW HT_.out HW_.out (by kernel_rfl)) (fun _ _ _ h => h) (Or.inl ⟨by rfl, ?_⟩) hHeld ?_ ?_
                rotate_left
                · rintro w' ⟨s0, s1, s2, s3, s4, s5, s6, s7⟩
                  go_simp
                  with_reducible rfl
                rotate_left
                · simp only [Act.put, List.setIfInBounds_toArray, List.set_cons_zero, List.set_cons_succ, i64_w, i32_w]
                  rfl
                refine one_ (i := 10) (N := some 33) #[true, true, true, true, true, true, true, true, true, true, true, false] rfl rfl (one_of HT_.out (by kernel_rfl)) (by decide) (fun K hK => ?_)
                refine goes_ Try.func116 (by kernel_rfl) rfl #[.int .i64 (rd l0_2 ((rd_T96 l0_0 (rd t1381 0)).f0)), .int .i64 ((rd_T96 l0_0 (rd t1381 0)).f2), .int .i64 ((rd_T96 l0_0 (rd t1381 0)).f3)] (by rfl) rfl rfl (by (try simp only [List.map_toArray, List.map_cons, List.map_nil]); first | done | rfl | (simp only [List.length_drop, List.length_take]; rfl)) ?_
                with_reducible refine (spec_TunedPitch.calls k (rd l0_2 ((rd_T96 l0_0 (rd t1381 0)).f0)) ((rd_T96 l0_0 (rd t1381 0)).f2) ((rd_T96 l0_0 (rd t1381 0)).f3) t1388 _ A26.out).mono ?_
                rintro e w50 ⟨rfl, hb⟩
                refine ⟨_, rfl, ?_⟩
                have n0_ := Aside0.mk (Kd.R_below (oR HO1375) hb)
                have n1_ := Aside0.mk (Kd.R_below (oR HO1379) hb)
                have n2_ := Aside0.mk (Kd.R_below (oR HO1383) hb)
                have n3_ := Aside0.mk (blk_below (g := gb1371) (o := .cells #[.slice (some ad1385) l0_0.length c0_0, .int .i64 a0_1, .slice (some ad1387) l0_2.length c0_2] 33 (0, 0)) (oK BK1371) hb)
                have n4_ := Aside0.mk (blk_below (g := gb1372) (o := .cells #[.slice none 0 0, .int .i64 0, .slice none 0 0] 33 (0, 0)) (oK BK1372) hb)
                have n5_ := Aside0.mk (blk_below (g := gb1380) (o := .cells #[.slice Ao34 t1373.length co34, .int .i64 t1376, .slice Ao38 t1377.length co38] 33 (0, 0)) (oK BK1380) hb)
                have n6_ := Aside0.mk (blk_below (g := gb1386) (o := .cells #[.int .i64 ((rd_T96 l0_0 (rd t1381 0)).f0), .int .i64 ((rd_T96 l0_0 (rd t1381 0)).f1), .int .i64 ((rd_T96 l0_0 (rd t1381 0)).f2), .int .i64 ((rd_T96 l0_0 (rd t1381 0)).f3)] 96 (0, 0)) (oK BK1386) hb)
                have n7_ := Aside0.mk (below_step (oB HB) hb)
                clear HO1375
                clear HO1379
                clear HO1383
                clear BK1371
                clear BK1372
                clear BK1380
                clear BK1386
                clear HB
                have HO1375 := n0_
                have HO1379 := n1_
                have HO1383 := n2_
                have BK1371 := n3_
                have BK1372 := n4_
                have BK1380 := n5_
                have BK1386 := n6_
                have HB := n7_
                clear n0_ n1_ n2_ n3_ n4_ n5_ n6_ n7_
                (try clear hb)
                (try clear hb2)
                (try clear hk)
                (try clear hi)
                refine hK.out _ _ ⟨(blk_cell BK1371.out 0).trans rfl, (blk_cell BK1371.out 1).trans rfl, (blk_cell BK1371.out 2).trans rfl, (blk_cell BK1386.out 0).trans rfl, (blk_cell BK1386.out 1).trans rfl, (blk_cell BK1386.out 2).trans rfl, (blk_cell BK1386.out 3).trans rfl, ((HB.out.cell (World.block_lt_of_cell? w _ hw1387_0)).trans hw1387_0)⟩ (fun hHeld => ?_)
                clear hK K
                refine norm_ (a' := ?_) ?_ ?_
                rotate_left
                · show Act.put _ (some 33) _ = _
                  simp only [Act.put, List.setIfInBounds_toArray, List.set_cons_zero, List.set_cons_succ, i64_w, i32_w]
                  rfl
                refine pure_ (i := 11) (N := some 7) (v := ?_) (a' := ?_) #[true, true, true, true, true, true, true, true, true, true, true, true] rfl rfl (any_of HT_.out (by kernel_rfl)) (fun _ _ _ h => h) (Or.inl ⟨by rfl, ?_⟩) ?_ ?_
                rotate_left
                · intro w'
                  go_simp
                  with_reducible rfl
                rotate_left
                · simp only [Act.put, List.setIfInBounds_toArray, List.set_cons_zero, List.set_cons_succ, i64_w, i32_w]
                  rfl
                refine done_ (done_of HT_.out (by kernel_rfl)) ?_
                have hnb51 := NB1380_1386.out
                have hnc51 := NB1386_1380.out
                have hcz52_0 : w50.cell? ⟨gb1380, 0, none⟩ = some (.slice Ao34 t1373.length co34) := (blk_cell BK1380.out 0).trans rfl
                have hcz52_1 : w50.cell? ⟨gb1380, 1, none⟩ = some (.int .i64 t1376) := (blk_cell BK1380.out 1).trans rfl
                have hcz52_2 : w50.cell? ⟨gb1380, 2, none⟩ = some (.slice Ao38 t1377.length co38) := (blk_cell BK1380.out 2).trans rfl
                have hfz52_0 := blk_frozen BK1380.out 0
                have hfz52_1 := blk_frozen BK1380.out 1
                have hfz52_2 := blk_frozen BK1380.out 2
                have hnb53 := NB1372_1386.out
                have hnc53 := NB1386_1372.out
                have hcz54_0 : w50.cell? ⟨gb1372, 0, none⟩ = some (.slice none 0 0) := (blk_cell BK1372.out 0).trans rfl
                have hcz54_1 : w50.cell? ⟨gb1372, 1, none⟩ = some (.int .i64 0) := (blk_cell BK1372.out 1).trans rfl
                have hcz54_2 : w50.cell? ⟨gb1372, 2, none⟩ = some (.slice none 0 0) := (blk_cell BK1372.out 2).trans rfl
                have hfz54_0 := blk_frozen BK1372.out 0
                have hfz54_1 := blk_frozen BK1372.out 1
                have hfz54_2 := blk_frozen BK1372.out 2
                try go_wp2
                refine bodyPost_ret (results_ct rfl _ _ gb1372 33 #[.slice Ao34 t1373.length co34, .int .i64 t1376, .slice Ao38 t1377.length co38] (0, 0) _ rfl (by (with_reducible repeat (first | refine blk_drewN ?_ _ | refine blk_drew ?_ | refine blk_alloc ?_ _)); refine blk_put (cs := #[.slice Ao34 t1373.length co34, .int .i64 t1376, .slice none 0 0]) ?_ 2 _ rfl; (with_reducible repeat (first | refine blk_drewN ?_ _ | refine blk_drew ?_ | refine blk_alloc ?_ _)); refine blk_put (cs := #[.slice Ao34 t1373.length co34, .int .i64 0, .slice none 0 0]) ?_ 1 _ rfl; (with_reducible repeat (first | refine blk_drewN ?_ _ | refine blk_drew ?_ | refine blk_alloc ?_ _)); refine blk_put (cs := #[.slice none 0 0, .int .i64 0, .slice none 0 0]) ?_ 0 _ rfl; (with_reducible repeat (first | refine blk_drewN ?_ _ | refine blk_drew ?_ | refine blk_alloc ?_ _)); exact BK1372.out) Try.underlying33 rfl (by kernel_rfl)) rfl ?_
                exact ⟨_, _, by first | rfl | (simp [errW_none, errW_some] <;> rfl) | (simp [*, errW_none, errW_some] <;> rfl), by (with_reducible repeat (first | apply Kd.R_alloc | apply Kd.R_drewN | apply Kd.R_drew)); exact Kd.R_mono (Kd.R_far (p := ⟨gb1372, 2, none⟩) (Kd.R_far (p := ⟨gb1372, 1, none⟩) (Kd.R_far (p := ⟨gb1372, 0, none⟩) (Kd.R_types HO1375.out BK1372.out (by decide)) (fun _ hk => hk.2) (.slice Ao34 t1373.length co34)) (fun _ hk => hk.2) (.int .i64 t1376)) (fun _ hk => hk.2) (.slice Ao38 t1377.length co38)) (fun _ hk => trivial), by (with_reducible repeat (first | apply Kd.R_alloc | apply Kd.R_drewN | apply Kd.R_drew)); exact Kd.R_mono (Kd.R_far (p := ⟨gb1372, 2, none⟩) (Kd.R_far (p := ⟨gb1372, 1, none⟩) (Kd.R_far (p := ⟨gb1372, 0, none⟩) (Kd.R_types HO1379.out BK1372.out (by decide)) (fun _ hk => hk.2) (.slice Ao34 t1373.length co34)) (fun _ hk => hk.2) (.int .i64 t1376)) (fun _ hk => hk.2) (.slice Ao38 t1377.length co38)) (fun _ hk => trivial), oB HB⟩
              · rw [if_neg c27] at H
                have c27b0 : (t1388 == 0) = false := beq_eq_false_iff_ne.mpr c27
                have c27b1 : (t1388 != 0) = true := bne_iff_ne.mpr c27
                by_cases c55 : 0 ≤ ((rd_T96 l0_0 (rd t1381 0)).f1)
                · rw [if_pos c55] at H
                  have c55b0 : decide (0 ≤ ((rd_T96 l0_0 (rd t1381 0)).f1)) = true := decide_eq_true c55
                  clear c55
                  by_cases c56 : ((rd_T96 l0_0 (rd t1381 0)).f1) < (t1377.length : Int)
                  · rw [if_pos c56] at H
                    have c56b0 : decide (((rd_T96 l0_0 (rd t1381 0)).f1) < (t1377.length : Int)) = true := decide_eq_true c56
                    clear c56
                    obtain ⟨y1389, hy1389⟩ : ∃ y_ : List Int, y_ = (t1377.set (((rd_T96 l0_0 (rd t1381 0)).f1) : Int).toNat t1388) := ⟨_, rfl⟩
                    replace H : (some (t1373, t1376, y1389, true)) = some (r1, r2, r3, r4) := by first | (rw [hy1389]; with_reducible exact H) | (have H2_ := (Option.bind_some _ _).symm.trans H; rw [hy1389]; with_reducible exact H2_) | (have H2_ := (Option.bind_some _ _).symm.trans H; with_reducible exact H2_) | with_reducible exact H | (rw [hy1389]; exact H) | exact H
                    have Ny1389 := Aside0.mk hy1389
                    clear hy1389
                    simp only [Option.some.injEq, Prod.mk.injEq] at H
                    obtain ⟨rfl, rfl, rfl, rfl⟩ := H
                    go_enter Try.func87, Try.ntmps87
                    try go_wp2_with (first | ((with_reducible refine gate_dst (N := 1) rfl ?_); refine box_event ?hg (N := 1) ?hd (cs := #[.slice A0_0 l0_0.length c0_0, .int .i64 a0_1, .slice A0_2 l0_2.length c0_2]) (t := 33) ?hr ?_; (case hd => rfl); (case hg => rfl); (case hr => first | (go_simp; done) | (go_simp; rfl)); intro gb1371 hg w58 hbox hb; have n0_ := Aside0.mk (below_step (oB HB) hb); have n1_ := Aside0.mk (hbox); have n2_ := Aside0.mk ((by rw [hg]; exact (below_size (oB HB)) : w.heap.size ≤ gb1371)); have n3_ := Aside0.mk ((by rw [hg]; exact (below_size (oB HB)) : w.heap.size ≤ gb1371)); clear HB; have HB := n0_; have BK1371 := n1_; have GW1371 := n2_; have GE1371 := n3_; clear n0_ n1_ n2_ n3_; clear hb hbox hg) | ((with_reducible refine gate_dst (N := 2) rfl ?_); refine box_event ?hg (N := 2) ?hd (cs := #[.slice none 0 0, .int .i64 0, .slice none 0 0]) (t := 33) ?hr ?_; (case hd => rfl); (case hg => rfl); (case hr => first | (go_simp; done) | (go_simp; rfl)); intro gb1372 hg w59 hbox hb; have n0_ := Aside0.mk (blk_below (g := gb1371) (o := .cells #[.slice A0_0 l0_0.length c0_0, .int .i64 a0_1, .slice A0_2 l0_2.length c0_2] 33 (0, 0)) (oK BK1371) hb); have n1_ := Aside0.mk (below_step (oB HB) hb); have n2_ := Aside0.mk (hbox); have n3_ := Aside0.mk ((by rw [hg]; exact (below_size (oB HB)) : w.heap.size ≤ gb1372)); have n4_ := Aside0.mk ((by rw [hg]; exact (below_size (oB HB)) : w.heap.size ≤ gb1372)); have n5_ := Aside0.mk ((by rw [hg]; exact Nat.ne_of_lt (blk_lt (g := gb1371) (o := .cells #[.slice A0_0 l0_0.length c0_0, .int .i64 a0_1, .slice A0_2 l0_2.length c0_2] 33 (0, 0)) (oK BK1371)) : gb1371 ≠ gb1372)); have n6_ := Aside0.mk ((by rw [hg]; exact Nat.ne_of_gt (blk_lt (g := gb1371) (o := .cells #[.slice A0_0 l0_0.length c0_0, .int .i64 a0_1, .slice A0_2 l0_2.length c0_2] 33 (0, 0)) (oK BK1371)) : gb1372 ≠ gb1371)); clear BK1371; clear HB; have BK1371 := n0_; have HB := n1_; have BK1372 := n2_; have GW1372 := n3_; have GE1372 := n4_; have NB1371_1372 := n5_; have NB1372_1371 := n6_; clear n0_ n1_ n2_ n3_ n4_ n5_ n6_; clear hb hbox hg; have hnb60 := NB1371_1372.out; have hnc60 := NB1372_1371.out; have hcz61_0 : w59.cell? ⟨gb1371, 0, none⟩ = some (.slice A0_0 l0_0.length c0_0) := (blk_cell BK1371.out 0).trans rfl; have hcz61_1 : w59.cell? ⟨gb1371, 1, none⟩ = some (.int .i64 a0_1) := (blk_cell BK1371.out 1).trans rfl; have hcz61_2 : w59.cell? ⟨gb1371, 2, none⟩ = some (.slice A0_2 l0_2.length c0_2) := (blk_cell BK1371.out 2).trans rfl; have hfz61_0 := blk_frozen BK1371.out 0; have hfz61_1 := blk_frozen BK1371.out 1; have hfz61_2 := blk_frozen BK1371.out 2) | ((with_reducible refine gate_callee (f := 118) rfl ?_); refine goesL_ (some 9) rfl rfl Try.func118 (by kernel_rfl) rfl #[.agg #[.slice A0_0 l0_0.length c0_0, .int .i64 a0_1, .slice A0_2 l0_2.length c0_2]] rfl (by (try simp only [List.map_toArray, List.map_cons, List.map_nil]); first | done | rfl | (simp only [List.length_drop, List.length_take]; rfl)) ?_; (with_reducible refine (spec_l36Copy.calls _ _ l0_0 a0_1 _ _ l0_2 t1373 t1376 t1377 _ ?side1 ?side2 ?side3 ?side4 A2.out).mono ?_); (case side1 => exact oc_ HR0_0.out); (case side2 => exact HC0_0.out); (case side3 => exact oc_ HR0_2.out); (case side4 => exact HC0_2.out); rintro e w62 ⟨v1374, v1378, rfl, ho0, ho1, hb⟩; refine ⟨_, rfl, ?_⟩; have n0_ := Aside0.mk (Kd.R_lower ho0 (below_size (oB HB))); have n1_ := Aside0.mk (Kd.R_lower ho1 (below_size (oB HB))); have n2_ := Aside0.mk (blk_below (g := gb1371) (o := .cells #[.slice A0_0 l0_0.length c0_0, .int .i64 a0_1, .slice A0_2 l0_2.length c0_2] 33 (0, 0)) (oK BK1371) hb); have n3_ := Aside0.mk (blk_below (g := gb1372) (o := .cells #[.slice none 0 0, .int .i64 0, .slice none 0 0] 33 (0, 0)) (oK BK1372) hb); have n4_ := Aside0.mk (below_step (oB HB) hb); clear BK1371; clear BK1372; clear HB; have HO1375 := n0_; have HO1379 := n1_; have BK1371 := n2_; have BK1372 := n3_; have HB := n4_; clear n0_ n1_ n2_ n3_ n4_; (try clear hb); (try clear hb2); (try clear hk); (try clear hi); (try clear ho0); (try clear ho1)) | ((with_reducible refine gate_dst (N := 4) rfl ?_); refine box_event ?hg (N := 4) ?hd (cs := #[.slice none 0 0, .int .i64 0, .slice none 0 0]) (t := 33) ?hr ?_; (case hd => rfl); (case hg => rfl); (case hr => first | (go_simp; done) | (go_simp; rfl)); intro gb1380 hg w63 hbox hb; have n0_ := Aside0.mk (Kd.R_below (oR HO1375) hb); have n1_ := Aside0.mk (Kd.R_below (oR HO1379) hb); have n2_ := Aside0.mk (blk_below (g := gb1371) (o := .cells #[.slice A0_0 l0_0.length c0_0, .int .i64 a0_1, .slice A0_2 l0_2.length c0_2] 33 (0, 0)) (oK BK1371) hb); have n3_ := Aside0.mk (blk_below (g := gb1372) (o := .cells #[.slice none 0 0, .int .i64 0, .slice none 0 0] 33 (0, 0)) (oK BK1372) hb); have n4_ := Aside0.mk (below_step (oB HB) hb); have n5_ := Aside0.mk (hbox); have n6_ := Aside0.mk ((by rw [hg]; exact (below_size (oB HB)) : w.heap.size ≤ gb1380)); have n7_ := Aside0.mk ((by rw [hg]; exact (below_size (oB HB)) : w.heap.size ≤ gb1380)); have n8_ := Aside0.mk ((by rw [hg]; exact Nat.ne_of_lt (blk_lt (g := gb1371) (o := .cells #[.slice A0_0 l0_0.length c0_0, .int .i64 a0_1, .slice A0_2 l0_2.length c0_2] 33 (0, 0)) (oK BK1371)) : gb1371 ≠ gb1380)); have n9_ := Aside0.mk ((by rw [hg]; exact Nat.ne_of_gt (blk_lt (g := gb1371) (o := .cells #[.slice A0_0 l0_0.length c0_0, .int .i64 a0_1, .slice A0_2 l0_2.length c0_2] 33 (0, 0)) (oK BK1371)) : gb1380 ≠ gb1371)); have n10_ := Aside0.mk ((by rw [hg]; exact Nat.ne_of_lt (blk_lt (g := gb1372) (o := .cells #[.slice none 0 0, .int .i64 0, .slice none 0 0] 33 (0, 0)) (oK BK1372)) : gb1372 ≠ gb1380)); have n11_ := Aside0.mk ((by rw [hg]; exact Nat.ne_of_gt (blk_lt (g := gb1372) (o := .cells #[.slice none 0 0, .int .i64 0, .slice none 0 0] 33 (0, 0)) (oK BK1372)) : gb1380 ≠ gb1372)); clear HO1375; clear HO1379; clear BK1371; clear BK1372; clear HB; have HO1375 := n0_; have HO1379 := n1_; have BK1371 := n2_; have BK1372 := n3_; have HB := n4_; have BK1380 := n5_; have GW1380 := n6_; have GE1380 := n7_; have NB1371_1380 := n8_; have NB1380_1371 := n9_; have NB1372_1380 := n10_; have NB1380_1372 := n11_; clear n0_ n1_ n2_ n3_ n4_ n5_ n6_ n7_ n8_ n9_ n10_ n11_; clear hb hbox hg; obtain ⟨Ao64, co64, eo64⟩ := Kd.R_slice HO1375.out; subst eo64; have hnb65 := NB1380_1371.out; have hnc65 := NB1371_1380.out; have hnb66 := NB1380_1372.out; have hnc66 := NB1372_1380.out; have hcz67_0 : w63.cell? ⟨gb1380, 0, none⟩ = some (.slice none 0 0) := (blk_cell BK1380.out 0).trans rfl; have hcz67_1 : w63.cell? ⟨gb1380, 1, none⟩ = some (.int .i64 0) := (blk_cell BK1380.out 1).trans rfl; have hcz67_2 : w63.cell? ⟨gb1380, 2, none⟩ = some (.slice none 0 0) := (blk_cell BK1380.out 2).trans rfl; have hfz67_0 := blk_frozen BK1380.out 0; have hfz67_1 := blk_frozen BK1380.out 1; have hfz67_2 := blk_frozen BK1380.out 2; obtain ⟨Ao68, co68, eo68⟩ := Kd.R_slice HO1379.out; subst eo68; have hcz69_0 : w63.cell? ⟨gb1371, 0, none⟩ = some (.slice A0_0 l0_0.length c0_0) := (blk_cell BK1371.out 0).trans rfl; have hcz69_1 : w63.cell? ⟨gb1371, 1, none⟩ = some (.int .i64 a0_1) := (blk_cell BK1371.out 1).trans rfl; have hcz69_2 : w63.cell? ⟨gb1371, 2, none⟩ = some (.slice A0_2 l0_2.length c0_2) := (blk_cell BK1371.out 2).trans rfl; have hfz69_0 := blk_frozen BK1371.out 0; have hfz69_1 := blk_frozen BK1371.out 1; have hfz69_2 := blk_frozen BK1371.out 2) | ((with_reducible refine gate_callee (f := 79) rfl ?_); refine goesL_ (some 11) rfl rfl Try.func79 (by kernel_rfl) rfl #[.agg #[.slice A0_0 l0_0.length c0_0, .int .i64 a0_1, .slice A0_2 l0_2.length c0_2]] rfl (by (try simp only [List.map_toArray, List.map_cons, List.map_nil]); first | done | rfl | (simp only [List.length_drop, List.length_take]; rfl)) ?_; (with_reducible refine (spec_WrongSteps.calls k _ _ l0_0 a0_1 _ _ l0_2 t1381 _ ?side1 ?side2 ?side3 ?side4 A3.out).mono ?_); (case side1 => exact Kd.C_below HR0_0.out (oB HB)); (case side2 => exact HC0_0.out); (case side3 => exact Kd.C_below HR0_2.out (oB HB)); (case side4 => exact HC0_2.out); rintro e w70 ⟨v1382, rfl, ho0, hb⟩; refine ⟨_, rfl, ?_⟩; have n0_ := Aside0.mk (Kd.R_below (by (with_reducible repeat (first | apply Kd.R_alloc | apply Kd.R_drewN | apply Kd.R_drew)); exact (Kd.R_mono (Kd.R_far (p := ⟨gb1380, 2, none⟩) (Kd.R_far (p := ⟨gb1380, 1, none⟩) (Kd.R_far (p := ⟨gb1380, 0, none⟩) (Kd.R_types HO1375.out BK1380.out (by decide)) (fun _ hk => hk.2) (.slice Ao64 t1373.length co64)) (fun _ hk => hk.2) (.int .i64 t1376)) (fun _ hk => hk.2) (.slice Ao68 t1377.length co68)) (fun _ h_ => h_.1))) hb); have n1_ := Aside0.mk (Kd.R_elder' (by (with_reducible repeat (first | apply Kd.R_alloc | apply Kd.R_drewN | apply Kd.R_drew)); exact (Kd.R_mono (Kd.R_far (p := ⟨gb1380, 2, none⟩) (Kd.R_far (p := ⟨gb1380, 1, none⟩) (Kd.R_far (p := ⟨gb1380, 0, none⟩) (Kd.R_types HO1379.out BK1380.out (by decide)) (fun _ hk => hk.2) (.slice Ao64 t1373.length co64)) (fun _ hk => hk.2) (.int .i64 t1376)) (fun _ hk => hk.2) (.slice Ao68 t1377.length co68)) (fun _ h_ => h_.1))) (Kd.R_base ho0) hb); have n2_ := Aside0.mk (Kd.R_lower (Kd.R_new' ho0 (Kd.R_lt (by (with_reducible repeat (first | apply Kd.R_alloc | apply Kd.R_drewN | apply Kd.R_drew)); exact (Kd.R_mono (Kd.R_far (p := ⟨gb1380, 2, none⟩) (Kd.R_far (p := ⟨gb1380, 1, none⟩) (Kd.R_far (p := ⟨gb1380, 0, none⟩) (Kd.R_types HO1379.out BK1380.out (by decide)) (fun _ hk => hk.2) (.slice Ao64 t1373.length co64)) (fun _ hk => hk.2) (.int .i64 t1376)) (fun _ hk => hk.2) (.slice Ao68 t1377.length co68)) (fun _ h_ => h_.1))))) (below_size (oB HB))); have n3_ := Aside0.mk (blk_below (g := gb1371) (o := .cells #[.slice A0_0 l0_0.length c0_0, .int .i64 a0_1, .slice A0_2 l0_2.length c0_2] 33 (0, 0)) (by (with_reducible repeat (first | refine blk_drewN ?_ _ | refine blk_drew ?_ | refine blk_alloc ?_ _)); refine blk_far ?_ NB1371_1380.out _; (with_reducible repeat (first | refine blk_drewN ?_ _ | refine blk_drew ?_ | refine blk_alloc ?_ _)); refine blk_far ?_ NB1371_1380.out _; (with_reducible repeat (first | refine blk_drewN ?_ _ | refine blk_drew ?_ | refine blk_alloc ?_ _)); refine blk_far ?_ NB1371_1380.out _; (with_reducible repeat (first | refine blk_drewN ?_ _ | refine blk_drew ?_ | refine blk_alloc ?_ _)); exact BK1371.out) hb); have n4_ := Aside0.mk (blk_below (g := gb1372) (o := .cells #[.slice none 0 0, .int .i64 0, .slice none 0 0] 33 (0, 0)) (by (with_reducible repeat (first | refine blk_drewN ?_ _ | refine blk_drew ?_ | refine blk_alloc ?_ _)); refine blk_far ?_ NB1372_1380.out _; (with_reducible repeat (first | refine blk_drewN ?_ _ | refine blk_drew ?_ | refine blk_alloc ?_ _)); refine blk_far ?_ NB1372_1380.out _; (with_reducible repeat (first | refine blk_drewN ?_ _ | refine blk_drew ?_ | refine blk_alloc ?_ _)); refine blk_far ?_ NB1372_1380.out _; (with_reducible repeat (first | refine blk_drewN ?_ _ | refine blk_drew ?_ | refine blk_alloc ?_ _)); exact BK1372.out) hb); have n5_ := Aside0.mk (blk_below (g := gb1380) (o := .cells #[.slice Ao64 t1373.length co64, .int .i64 t1376, .slice Ao68 t1377.length co68] 33 (0, 0)) (by (with_reducible repeat (first | refine blk_drewN ?_ _ | refine blk_drew ?_ | refine blk_alloc ?_ _)); refine blk_put (cs := #[.slice Ao64 t1373.length co64, .int .i64 t1376, .slice none 0 0]) ?_ 2 _ rfl; (with_reducible repeat (first | refine blk_drewN ?_ _ | refine blk_drew ?_ | refine blk_alloc ?_ _)); refine blk_put (cs := #[.slice Ao64 t1373.length co64, .int .i64 0, .slice none 0 0]) ?_ 1 _ rfl; (with_reducible repeat (first | refine blk_drewN ?_ _ | refine blk_drew ?_ | refine blk_alloc ?_ _)); refine blk_put (cs := #[.slice none 0 0, .int .i64 0, .slice none 0 0]) ?_ 0 _ rfl; (with_reducible repeat (first | refine blk_drewN ?_ _ | refine blk_drew ?_ | refine blk_alloc ?_ _)); exact BK1380.out) hb); have n6_ := Aside0.mk (below_step (oB HB) hb); clear HO1375; clear HO1379; clear BK1371; clear BK1372; clear BK1380; clear HB; have HO1375 := n0_; have HO1379 := n1_; have HO1383 := n2_; have BK1371 := n3_; have BK1372 := n4_; have BK1380 := n5_; have HB := n6_; clear n0_ n1_ n2_ n3_ n4_ n5_ n6_; (try clear hb); (try clear hb2); (try clear hk); (try clear hi); (try clear ho0); obtain ⟨Ao71, co71, eo71⟩ := Kd.R_slice HO1383.out; subst eo71))
                    have n0_ := Aside0.mk (Kd.R_drew HO1375.out)
                    have n1_ := Aside0.mk (Kd.R_drew HO1379.out)
                    have n2_ := Aside0.mk (Kd.R_drew HO1383.out)
                    have n3_ := Aside0.mk (blk_drew BK1371.out)
                    have n4_ := Aside0.mk (blk_drew BK1372.out)
                    have n5_ := Aside0.mk (blk_drew BK1380.out)
                    have n6_ := Aside0.mk (below_drew1 HB.out)
                    clear HO1375
                    clear HO1379
                    clear HO1383
                    clear BK1371
                    clear BK1372
                    clear BK1380
                    clear HB
                    have HO1375 := n0_
                    have HO1379 := n1_
                    have HO1383 := n2_
                    have BK1371 := n3_
                    have BK1372 := n4_
                    have BK1380 := n5_
                    have HB := n6_
                    clear n0_ n1_ n2_ n3_ n4_ n5_ n6_
                    have p1384 : 0 ≤ (0 : Int) := (by omega)
                    have q1384 : 0 < (t1381.length : Int) := of_decide_eq_true (by first | (with_reducible assumption) | assumption)
                    obtain ⟨ad1384, e1384, hx1384_0⟩ := Kd.at_int (Kd.R_reads' HO1383.out).2.2 0 p1384 q1384
                    cases e1384
                    have qi1384 : (0 < t1381.length) = True := eq_true (by omega)
                    (try rw [show ((0 : Int)).toNat = 0 from rfl] at hx1384_0)
                    (try rw [Addr.add_zero'] at hx1384_0)
                    replace p1384 := eq_true p1384
                    replace q1384 := eq_true q1384
                    have p1385 : 0 ≤ ((rd t1381 0) : Int) := of_decide_eq_true (by first | (with_reducible assumption) | assumption)
                    have q1385 : (rd t1381 0) < (l0_0.length : Int) := of_decide_eq_true (by first | (with_reducible assumption) | assumption)
                    obtain ⟨ad1385, e1385, hx1385_0, hx1385_1, hx1385_2, hx1385_3⟩ := at_T96 HR0_0.out (rd t1381 0) p1385 q1385
                    have hw1385_3 := hx1385_3
                    have hw1385_2 := hx1385_2
                    have hw1385_1 := hx1385_1
                    have hw1385_0 := hx1385_0
                    cases e1385
                    replace hx1385_0 := (HB.out.cell (World.block_lt_of_cell? w _ hx1385_0)).trans hx1385_0
                    replace hx1385_1 := (HB.out.cell (World.block_lt_of_cell? w _ hx1385_1)).trans hx1385_1
                    replace hx1385_2 := (HB.out.cell (World.block_lt_of_cell? w _ hx1385_2)).trans hx1385_2
                    replace hx1385_3 := (HB.out.cell (World.block_lt_of_cell? w _ hx1385_3)).trans hx1385_3
                    replace p1385 := eq_true p1385
                    replace q1385 := eq_true q1385
                    refine start_ (n := 9) (S := fun w' => w'.cell? ⟨gb1371, 0, none⟩ = some (.slice (some ad1385) l0_0.length c0_0) ∧ w'.cell? ⟨gb1371, 1, none⟩ = some (.int .i64 a0_1) ∧ w'.cell? ⟨gb1371, 2, none⟩ = some (.slice A0_2 l0_2.length c0_2) ∧ w'.cell? ad1384 = some (.int .i64 (rd t1381 0)) ∧ w'.cell? (ad1385.add (((rd t1381 0)).toNat * 4)) = some (.int .i64 ((rd_T96 l0_0 (rd t1381 0)).f0)) ∧ w'.cell? ⟨(ad1385.add (((rd t1381 0)).toNat * 4)).block, (ad1385.add (((rd t1381 0)).toNat * 4)).off + 1, none⟩ = some (.int .i64 ((rd_T96 l0_0 (rd t1381 0)).f1)) ∧ w'.cell? ⟨(ad1385.add (((rd t1381 0)).toNat * 4)).block, (ad1385.add (((rd t1381 0)).toNat * 4)).off + 2, none⟩ = some (.int .i64 ((rd_T96 l0_0 (rd t1381 0)).f2)) ∧ w'.cell? ⟨(ad1385.add (((rd t1381 0)).toNat * 4)).block, (ad1385.add (((rd t1381 0)).toNat * 4)).off + 3, none⟩ = some (.int .i64 ((rd_T96 l0_0 (rd t1381 0)).f3))) (ds := []) #[false, false, false, false, false, false, false, false, false] (by kernel_rfl) rfl rfl ⟨(blk_cell BK1371.out 0).trans rfl, (blk_cell BK1371.out 1).trans rfl, (blk_cell BK1371.out 2).trans rfl, hx1384_0, ((HB.out.cell (World.block_lt_of_cell? w _ hw1385_0)).trans hw1385_0), ((HB.out.cell (World.block_lt_of_cell? w _ hw1385_1)).trans hw1385_1), ((HB.out.cell (World.block_lt_of_cell? w _ hw1385_2)).trans hw1385_2), ((HB.out.cell (World.block_lt_of_cell? w _ hw1385_3)).trans hw1385_3)⟩ (fun hHeld => ?_); refine with_tabW spec_MendStep.tab5 spec_MendStep.bits5 (fun HT_ HW_ => ?_)
                    generalize w70.drew = w72 at HO1375 HO1379 HO1383 BK1371 BK1372 BK1380 HB hx1384_0 hx1385_0 hx1385_1 hx1385_2 hx1385_3 hHeld ⊢
                    refine pure_ (i := 0) (N := some 16) (v := ?_) (a' := ?_) #[true, false, false, false, false, false, false, false, false] rfl rfl (any_of HT_.out (by kernel_rfl)) (fun _ _ _ h => h) (Or.inl ⟨by rfl, ?_⟩) ?_ ?_
                    rotate_left
                    · intro w'
                      go_simp
                      with_reducible rfl
                    rotate_left
                    · simp only [Act.put, List.setIfInBounds_toArray, List.set_cons_zero, List.set_cons_succ, i64_w, i32_w]
                      rfl
                    refine pure_ (i := 2) (N := some 18) (v := ?_) (a' := ?_) #[true, false, true, false, false, false, false, false, false] rfl rfl (any_of HT_.out (by kernel_rfl)) (fun _ _ _ h => h) (Or.inl ⟨by rfl, ?_⟩) ?_ ?_
                    rotate_left
                    · intro w'
                      go_simp
                      with_reducible rfl
                    rotate_left
                    · simp only [Act.put, List.setIfInBounds_toArray, List.set_cons_zero, List.set_cons_succ, i64_w, i32_w]
                      rfl
                    refine pure_ (i := 3) (N := some 19) (v := ?_) (a' := ?_) #[true, false, true, true, false, false, false, false, false] rfl rfl (any_of HT_.out (by kernel_rfl)) (fun _ _ _ h => h) (Or.inl ⟨by rfl, ?_⟩) ?_ ?_
                    rotate_left
                    · intro w'
                      go_simp
                      with_reducible rfl
                    rotate_left
                    · simp only [Act.put, List.setIfInBounds_toArray, List.set_cons_zero, List.set_cons_succ, i64_w, i32_w]
                      rfl
                    refine take_ (i := 1) (N := some 17) (v := ?_) (a' := ?_) #[true, true, true, true, false, false, false, false, false] rfl rfl (take_ofW HT_.out HW_.out (by kernel_rfl)) (fun _ _ _ h => h) (Or.inl ⟨by rfl, ?_⟩) hHeld ?_ ?_
                    rotate_left
                    · rintro w' ⟨s0, s1, s2, s3, s4, s5, s6, s7⟩
                      go_simp
                      with_reducible rfl
                    rotate_left
                    · simp only [Act.put, List.setIfInBounds_toArray, List.set_cons_zero, List.set_cons_succ, i64_w, i32_w]
                      rfl
                    refine take_ (i := 4) (N := some 20) (v := ?_) (a' := ?_) #[true, true, true, true, true, false, false, false, false] rfl rfl (take_ofW HT_.out HW_.out (by kernel_rfl)) (fun _ _ _ h => h) (Or.inl ⟨by rfl, ?_⟩) hHeld ?_ ?_
                    rotate_left
                    · rintro w' ⟨s0, s1, s2, s3, s4, s5, s6, s7⟩
                      go_simp
                      with_reducible rfl
                    rotate_left
                    · simp only [Act.put, List.setIfInBounds_toArray, List.set_cons_zero, List.set_cons_succ, i64_w, i32_w]
                      rfl
                    refine pure_ (i := 5) (N := some 21) (v := ?_) (a' := ?_) #[true, true, true, true, true, true, false, false, false] rfl rfl (any_of HT_.out (by kernel_rfl)) (fun _ _ _ h => h) (Or.inl ⟨by rfl, ?_⟩) ?_ ?_
                    rotate_left
                    · intro w'
                      go_simp
                      with_reducible rfl
                    rotate_left
                    · simp only [Act.put, List.setIfInBounds_toArray, List.set_cons_zero, List.set_cons_succ, i64_w, i32_w]
                      rfl
                    refine take_ (i := 6) (N := some 22) (v := ?_) (a' := ?_) #[true, true, true, true, true, true, true, false, false] rfl rfl (take_ofW HT_.out HW_.out (by kernel_rfl)) (fun _ _ _ h => h) (Or.inl ⟨by rfl, ?_⟩) hHeld ?_ ?_
                    rotate_left
                    · rintro w' ⟨s0, s1, s2, s3, s4, s5, s6, s7⟩
                      go_simp
                      with_reducible rfl
                    rotate_left
                    · simp only [Act.put, List.setIfInBounds_toArray, List.set_cons_zero, List.set_cons_succ, i64_w, i32_w]
                      rfl
                    refine one_ (i := 7) (N := some 6) #[true, true, true, true, true, true, true, true, false] rfl rfl (one_of HT_.out (by kernel_rfl)) (by decide) (fun K hK => ?_)
                    refine box_step ?hg (N := 6) ?hd (cs := #[.int .i64 0, .int .i64 0, .int .i64 0, .int .i64 0]) (t := 96) ?hr ?_; (case hd => rfl); (case hg => rfl); (case hr => first | (go_simp; done) | (go_simp; rfl))
                    intro gb1386 hg w73 hbox hb
                    have HS3_ := (hb.cell (World.block_lt_of_cell? _ _ (hHeld.2.2.2.1))).trans (hHeld.2.2.2.1)
                    have n0_ := Aside0.mk (Kd.R_below (Kd.R_elderB (oR HO1375) gb1386 (Nat.le_of_eq hg.symm)) hb)
                    have n1_ := Aside0.mk (Kd.R_below (oR HO1379) hb)
                    have n2_ := Aside0.mk (Kd.R_below (oR HO1383) hb)
                    have n3_ := Aside0.mk (blk_below (g := gb1371) (o := .cells #[.slice (some ad1385) l0_0.length c0_0, .int .i64 a0_1, .slice A0_2 l0_2.length c0_2] 33 (0, 0)) (oK BK1371) hb)
                    have n4_ := Aside0.mk (blk_below (g := gb1372) (o := .cells #[.slice none 0 0, .int .i64 0, .slice none 0 0] 33 (0, 0)) (oK BK1372) hb)
                    have n5_ := Aside0.mk (blk_below (g := gb1380) (o := .cells #[.slice Ao64 t1373.length co64, .int .i64 t1376, .slice Ao68 t1377.length co68] 33 (0, 0)) (oK BK1380) hb)
                    have n6_ := Aside0.mk (below_step (oB HB) hb)
                    have n7_ := Aside0.mk (hbox)
                    have n8_ := Aside0.mk ((by rw [hg]; exact (below_size (oB HB)) : w.heap.size ≤ gb1386))
                    have n9_ := Aside0.mk ((by rw [hg]; exact (below_size (oB HB)) : w.heap.size ≤ gb1386))
                    have n10_ := Aside0.mk ((by rw [hg]; exact Nat.ne_of_lt (blk_lt (g := gb1371) (o := .cells #[.slice (some ad1385) l0_0.length c0_0, .int .i64 a0_1, .slice A0_2 l0_2.length c0_2] 33 (0, 0)) (oK BK1371)) : gb1371 ≠ gb1386))
                    have n11_ := Aside0.mk ((by rw [hg]; exact Nat.ne_of_gt (blk_lt (g := gb1371) (o := .cells #[.slice (some ad1385) l0_0.length c0_0, .int .i64 a0_1, .slice A0_2 l0_2.length c0_2] 33 (0, 0)) (oK BK1371)) : gb1386 ≠ gb1371))
                    have n12_ := Aside0.mk ((by rw [hg]; exact Nat.ne_of_lt (blk_lt (g := gb1372) (o := .cells #[.slice none 0 0, .int .i64 0, .slice none 0 0] 33 (0, 0)) (oK BK1372)) : gb1372 ≠ gb1386))
                    have n13_ := Aside0.mk ((by rw [hg]; exact Nat.ne_of_gt (blk_lt (g := gb1372) (o := .cells #[.slice none 0 0, .int .i64 0, .slice none 0 0] 33 (0, 0)) (oK BK1372)) : gb1386 ≠ gb1372))
                    have n14_ := Aside0.mk ((by rw [hg]; exact Nat.ne_of_lt (blk_lt (g := gb1380) (o := .cells #[.slice Ao64 t1373.length co64, .int .i64 t1376, .slice Ao68 t1377.length co68] 33 (0, 0)) (oK BK1380)) : gb1380 ≠ gb1386))
                    have n15_ := Aside0.mk ((by rw [hg]; exact Nat.ne_of_gt (blk_lt (g := gb1380) (o := .cells #[.slice Ao64 t1373.length co64, .int .i64 t1376, .slice Ao68 t1377.length co68] 33 (0, 0)) (oK BK1380)) : gb1386 ≠ gb1380))
                    clear HO1375
                    clear HO1379
                    clear HO1383
                    clear BK1371
                    clear BK1372
                    clear BK1380
                    clear HB
                    have HO1375 := n0_
                    have HO1379 := n1_
                    have HO1383 := n2_
                    have BK1371 := n3_
                    have BK1372 := n4_
                    have BK1380 := n5_
                    have HB := n6_
                    have BK1386 := n7_
                    have GW1386 := n8_
                    have GE1386 := n9_
                    have NB1371_1386 := n10_
                    have NB1386_1371 := n11_
                    have NB1372_1386 := n12_
                    have NB1386_1372 := n13_
                    have NB1380_1386 := n14_
                    have NB1386_1380 := n15_
                    clear n0_ n1_ n2_ n3_ n4_ n5_ n6_ n7_ n8_ n9_ n10_ n11_ n12_ n13_ n14_ n15_
                    clear hb hbox hg
                    refine hK.out _ _ ⟨(blk_cell BK1371.out 0).trans rfl, (blk_cell BK1371.out 1).trans rfl, (blk_cell BK1371.out 2).trans rfl, HS3_, ((HB.out.cell (World.block_lt_of_cell? w _ hw1385_0)).trans hw1385_0), ((HB.out.cell (World.block_lt_of_cell? w _ hw1385_1)).trans hw1385_1), ((HB.out.cell (World.block_lt_of_cell? w _ hw1385_2)).trans hw1385_2), ((HB.out.cell (World.block_lt_of_cell? w _ hw1385_3)).trans hw1385_3)⟩ (fun hHeld => ?_)
                    clear hK K
                    refine norm_ (a' := ?_) ?_ ?_
                    rotate_left
                    · show Act.put _ (some 6) _ = _
                      simp only [Act.put, List.setIfInBounds_toArray, List.set_cons_zero, List.set_cons_succ, i64_w, i32_w]
                      rfl
                    refine one_ (i := 8) (N := none) #[true, true, true, true, true, true, true, true, true] rfl rfl (one_of HT_.out (by kernel_rfl)) (by decide) (fun K hK => ?_)
                    have hs74 : w73.cell? ⟨gb1386, 0, none⟩ = some (.int .i64 0) := (blk_cell BK1386.out 0).trans rfl
                    have hfs74 := blk_frozen BK1386.out 0
                    have hns74_0 := NB1371_1386.out
                    have hns74_1 := NB1372_1386.out
                    have hns74_2 := NB1380_1386.out
                    have hms74_0 := NB1386_1371.out
                    have hms74_1 := NB1386_1372.out
                    have hms74_2 := NB1386_1380.out
                    have hs75 : w73.cell? ⟨gb1386, 1, none⟩ = some (.int .i64 0) := (blk_cell BK1386.out 1).trans rfl
                    have hfs75 := blk_frozen BK1386.out 1
                    have hns75_0 := NB1371_1386.out
                    have hns75_1 := NB1372_1386.out
                    have hns75_2 := NB1380_1386.out
                    have hms75_0 := NB1386_1371.out
                    have hms75_1 := NB1386_1372.out
                    have hms75_2 := NB1386_1380.out
                    have hs76 : w73.cell? ⟨gb1386, 2, none⟩ = some (.int .i64 0) := (blk_cell BK1386.out 2).trans rfl
                    have hfs76 := blk_frozen BK1386.out 2
                    have hns76_0 := NB1371_1386.out
                    have hns76_1 := NB1372_1386.out
                    have hns76_2 := NB1380_1386.out
                    have hms76_0 := NB1386_1371.out
                    have hms76_1 := NB1386_1372.out
                    have hms76_2 := NB1386_1380.out
                    have hs77 : w73.cell? ⟨gb1386, 3, none⟩ = some (.int .i64 0) := (blk_cell BK1386.out 3).trans rfl
                    have hfs77 := blk_frozen BK1386.out 3
                    have hns77_0 := NB1371_1386.out
                    have hns77_1 := NB1372_1386.out
                    have hns77_2 := NB1380_1386.out
                    have hms77_0 := NB1386_1371.out
                    have hms77_1 := NB1386_1372.out
                    have hms77_2 := NB1386_1380.out
                    refine skip_ (w1 := ?_) (by rfl) rfl ?_ ?_
                    rotate_left
                    · go_simp
                      rfl
                    refine hK.out _ _ ⟨((cell_far (p := ⟨gb1386, _, none⟩) NB1371_1386.out _).trans (((cell_far (p := ⟨gb1386, _, none⟩) NB1371_1386.out _).trans (((cell_far (p := ⟨gb1386, _, none⟩) NB1371_1386.out _).trans (((cell_far (p := ⟨gb1386, _, none⟩) NB1371_1386.out _).trans (hHeld.1)))))))), ((cell_far (p := ⟨gb1386, _, none⟩) NB1371_1386.out _).trans (((cell_far (p := ⟨gb1386, _, none⟩) NB1371_1386.out _).trans (((cell_far (p := ⟨gb1386, _, none⟩) NB1371_1386.out _).trans (((cell_far (p := ⟨gb1386, _, none⟩) NB1371_1386.out _).trans (hHeld.2.1)))))))), ((cell_far (p := ⟨gb1386, _, none⟩) NB1371_1386.out _).trans (((cell_far (p := ⟨gb1386, _, none⟩) NB1371_1386.out _).trans (((cell_far (p := ⟨gb1386, _, none⟩) NB1371_1386.out _).trans (((cell_far (p := ⟨gb1386, _, none⟩) NB1371_1386.out _).trans (hHeld.2.2.1)))))))), ((cell_far (p := ⟨gb1386, _, none⟩) (by first | exact Kd.own_blk (Kd.R_ne HO1383.out BK1386.out (by decide)) | (rw [add_block]; exact Kd.own_blk (Kd.R_ne HO1383.out BK1386.out (by decide))) | (show (Addr.add _ _).block ≠ _; rw [add_block]; exact Kd.own_blk (Kd.R_ne HO1383.out BK1386.out (by decide))) | (dsimp only; exact Kd.own_blk (Kd.R_ne HO1383.out BK1386.out (by decide)))) _).trans (((cell_far (p := ⟨gb1386, _, none⟩) (by first | exact Kd.own_blk (Kd.R_ne HO1383.out BK1386.out (by decide)) | (rw [add_block]; exact Kd.own_blk (Kd.R_ne HO1383.out BK1386.out (by decide))) | (show (Addr.add _ _).block ≠ _; rw [add_block]; exact Kd.own_blk (Kd.R_ne HO1383.out BK1386.out (by decide))) | (dsimp only; exact Kd.own_blk (Kd.R_ne HO1383.out BK1386.out (by decide)))) _).trans (((cell_far (p := ⟨gb1386, _, none⟩) (by first | exact Kd.own_blk (Kd.R_ne HO1383.out BK1386.out (by decide)) | (rw [add_block]; exact Kd.own_blk (Kd.R_ne HO1383.out BK1386.out (by decide))) | (show (Addr.add _ _).block ≠ _; rw [add_block]; exact Kd.own_blk (Kd.R_ne HO1383.out BK1386.out (by decide))) | (dsimp only; exact Kd.own_blk (Kd.R_ne HO1383.out BK1386.out (by decide)))) _).trans (((cell_far (p := ⟨gb1386, _, none⟩) (by first | exact Kd.own_blk (Kd.R_ne HO1383.out BK1386.out (by decide)) | (rw [add_block]; exact Kd.own_blk (Kd.R_ne HO1383.out BK1386.out (by decide))) | (show (Addr.add _ _).block ≠ _; rw [add_block]; exact Kd.own_blk (Kd.R_ne HO1383.out BK1386.out (by decide))) | (dsimp only; exact Kd.own_blk (Kd.R_ne HO1383.out BK1386.out (by decide)))) _).trans (hHeld.2.2.2.1)))))))), ((cell_far (p := ⟨gb1386, _, none⟩) (by first | exact Nat.ne_of_lt (Nat.lt_of_lt_of_le (by have := World.block_lt_of_cell? _ _ hw1385_0; first | rwa [add_block] at this | exact this) GW1386.out) | (rw [add_block]; exact Nat.ne_of_lt (Nat.lt_of_lt_of_le (by have := World.block_lt_of_cell? _ _ hw1385_0; first | rwa [add_block] at this | exact this) GW1386.out)) | (show (Addr.add _ _).block ≠ _; rw [add_block]; exact Nat.ne_of_lt (Nat.lt_of_lt_of_le (by have := World.block_lt_of_cell? _ _ hw1385_0; first | rwa [add_block] at this | exact this) GW1386.out)) | (dsimp only; exact Nat.ne_of_lt (Nat.lt_of_lt_of_le (by have := World.block_lt_of_cell? _ _ hw1385_0; first | rwa [add_block] at this | exact this) GW1386.out))) _).trans (((cell_far (p := ⟨gb1386, _, none⟩) (by first | exact Nat.ne_of_lt (Nat.lt_of_lt_of_le (by have := World.block_lt_of_cell? _ _ hw1385_0; first | rwa [add_block] at this | exact this) GW1386.out) | (rw [add_block]; exact Nat.ne_of_lt (Nat.lt_of_lt_of_le (by have := World.block_lt_of_cell? _ _ hw1385_0; first | rwa [add_block] at this | exact this) GW1386.out)) | (show (Addr.add _ _).block ≠ _; rw [add_block]; exact Nat.ne_of_lt (Nat.lt_of_lt_of_le (by have := World.block_lt_of_cell? _ _ hw1385_0; first | rwa [add_block] at this | exact this) GW1386.out)) | (dsimp only; exact Nat.ne_of_lt (Nat.lt_of_lt_of_le (by have := World.block_lt_of_cell? _ _ hw1385_0; first | rwa [add_block] at this | exact this) GW1386.out))) _).trans (((cell_far (p := ⟨gb1386, _, none⟩) (by first | exact Nat.ne_of_lt (Nat.lt_of_lt_of_le (by have := World.block_lt_of_cell? _ _ hw1385_0; first | rwa [add_block] at this | exact this) GW1386.out) | (rw [add_block]; exact Nat.ne_of_lt (Nat.lt_of_lt_of_le (by have := World.block_lt_of_cell? _ _ hw1385_0; first | rwa [add_block] at this | exact this) GW1386.out)) | (show (Addr.add _ _).block ≠ _; rw [add_block]; exact Nat.ne_of_lt (Nat.lt_of_lt_of_le (by have := World.block_lt_of_cell? _ _ hw1385_0; first | rwa [add_block] at this | exact this) GW1386.out)) | (dsimp only; exact Nat.ne_of_lt (Nat.lt_of_lt_of_le (by have := World.block_lt_of_cell? _ _ hw1385_0; first | rwa [add_block] at this | exact this) GW1386.out))) _).trans (((cell_far (p := ⟨gb1386, _, none⟩) (by first | exact Nat.ne_of_lt (Nat.lt_of_lt_of_le (by have := World.block_lt_of_cell? _ _ hw1385_0; first | rwa [add_block] at this | exact this) GW1386.out) | (rw [add_block]; exact Nat.ne_of_lt (Nat.lt_of_lt_of_le (by have := World.block_lt_of_cell? _ _ hw1385_0; first | rwa [add_block] at this | exact this) GW1386.out)) | (show (Addr.add _ _).block ≠ _; rw [add_block]; exact Nat.ne_of_lt (Nat.lt_of_lt_of_le (by have := World.block_lt_of_cell? _ _ hw1385_0; first | rwa [add_block] at this | exact this) GW1386.out)) | (dsimp only; exact Nat.ne_of_lt (Nat.lt_of_lt_of_le (by have := World.block_lt_of_cell? _ _ hw1385_0; first | rwa [add_block] at this | exact this) GW1386.out))) _).trans (hHeld.2.2.2.2.1)))))))), ((cell_far (p := ⟨gb1386, _, none⟩) (by first | exact Nat.ne_of_lt (Nat.lt_of_lt_of_le (by have := World.block_lt_of_cell? _ _ hw1385_1; first | rwa [add_block] at this | exact this) GW1386.out) | (rw [add_block]; exact Nat.ne_of_lt (Nat.lt_of_lt_of_le (by have := World.block_lt_of_cell? _ _ hw1385_1; first | rwa [add_block] at this | exact this) GW1386.out)) | (show (Addr.add _ _).block ≠ _; rw [add_block]; exact Nat.ne_of_lt (Nat.lt_of_lt_of_le (by have := World.block_lt_of_cell? _ _ hw1385_1; first | rwa [add_block] at this | exact this) GW1386.out)) | (dsimp only; exact Nat.ne_of_lt (Nat.lt_of_lt_of_le (by have := World.block_lt_of_cell? _ _ hw1385_1; first | rwa [add_block] at this | exact this) GW1386.out))) _).trans (((cell_far (p := ⟨gb1386, _, none⟩) (by first | exact Nat.ne_of_lt (Nat.lt_of_lt_of_le (by have := World.block_lt_of_cell? _ _ hw1385_1; first | rwa [add_block] at this | exact this) GW1386.out) | (rw [add_block]; exact Nat.ne_of_lt (Nat.lt_of_lt_of_le (by have := World.block_lt_of_cell? _ _ hw1385_1; first | rwa [add_block] at this | exact this) GW1386.out)) | (show (Addr.add _ _).block ≠ _; rw [add_block]; exact Nat.ne_of_lt (Nat.lt_of_lt_of_le (by have := World.block_lt_of_cell? _ _ hw1385_1; first | rwa [add_block] at this | exact this) GW1386.out)) | (dsimp only; exact Nat.ne_of_lt (Nat.lt_of_lt_of_le (by have := World.block_lt_of_cell? _ _ hw1385_1; first | rwa [add_block] at this | exact this) GW1386.out))) _).trans (((cell_far (p := ⟨gb1386, _, none⟩) (by first | exact Nat.ne_of_lt (Nat.lt_of_lt_of_le (by have := World.block_lt_of_cell? _ _ hw1385_1; first | rwa [add_block] at this | exact this) GW1386.out) | (rw [add_block]; exact Nat.ne_of_lt (Nat.lt_of_lt_of_le (by have := World.block_lt_of_cell? _ _ hw1385_1; first | rwa [add_block] at this | exact this) GW1386.out)) | (show (Addr.add _ _).block ≠ _; rw [add_block]; exact Nat.ne_of_lt (Nat.lt_of_lt_of_le (by have := World.block_lt_of_cell? _ _ hw1385_1; first | rwa [add_block] at this | exact this) GW1386.out)) | (dsimp only; exact Nat.ne_of_lt (Nat.lt_of_lt_of_le (by have := World.block_lt_of_cell? _ _ hw1385_1; first | rwa [add_block] at this | exact this) GW1386.out))) _).trans (((cell_far (p := ⟨gb1386, _, none⟩) (by first | exact Nat.ne_of_lt (Nat.lt_of_lt_of_le (by have := World.block_lt_of_cell? _ _ hw1385_1; first | rwa [add_block] at this | exact this) GW1386.out) | (rw [add_block]; exact Nat.ne_of_lt (Nat.lt_of_lt_of_le (by have := World.block_lt_of_cell? _ _ hw1385_1; first | rwa [add_block] at this | exact this) GW1386.out)) | (show (Addr.add _ _).block ≠ _; rw [add_block]; exact Nat.ne_of_lt (Nat.lt_of_lt_of_le (by have := World.block_lt_of_cell? _ _ hw1385_1; first | rwa [add_block] at this | exact this) GW1386.out)) | (dsimp only; exact Nat.ne_of_lt (Nat.lt_of_lt_of_le (by have := World.block_lt_of_cell? _ _ hw1385_1; first | rwa [add_block] at this | exact this) GW1386.out))) _).trans (hHeld.2.2.2.2.2.1)))))))), ((cell_far (p := ⟨gb1386, _, none⟩) (by first | exact Nat.ne_of_lt (Nat.lt_of_lt_of_le (by have := World.block_lt_of_cell? _ _ hw1385_2; first | rwa [add_block] at this | exact this) GW1386.out) | (rw [add_block]; exact Nat.ne_of_lt (Nat.lt_of_lt_of_le (by have := World.block_lt_of_cell? _ _ hw1385_2; first | rwa [add_block] at this | exact this) GW1386.out)) | (show (Addr.add _ _).block ≠ _; rw [add_block]; exact Nat.ne_of_lt (Nat.lt_of_lt_of_le (by have := World.block_lt_of_cell? _ _ hw1385_2; first | rwa [add_block] at this | exact this) GW1386.out)) | (dsimp only; exact Nat.ne_of_lt (Nat.lt_of_lt_of_le (by have := World.block_lt_of_cell? _ _ hw1385_2; first | rwa [add_block] at this | exact this) GW1386.out))) _).trans (((cell_far (p := ⟨gb1386, _, none⟩) (by first | exact Nat.ne_of_lt (Nat.lt_of_lt_of_le (by have := World.block_lt_of_cell? _ _ hw1385_2; first | rwa [add_block] at this | exact this) GW1386.out) | (rw [add_block]; exact Nat.ne_of_lt (Nat.lt_of_lt_of_le (by have := World.block_lt_of_cell? _ _ hw1385_2; first | rwa [add_block] at this | exact this) GW1386.out)) | (show (Addr.add _ _).block ≠ _; rw [add_block]; exact Nat.ne_of_lt (Nat.lt_of_lt_of_le (by have := World.block_lt_of_cell? _ _ hw1385_2; first | rwa [add_block] at this | exact this) GW1386.out)) | (dsimp only; exact Nat.ne_of_lt (Nat.lt_of_lt_of_le (by have := World.block_lt_of_cell? _ _ hw1385_2; first | rwa [add_block] at this | exact this) GW1386.out))) _).trans (((cell_far (p := ⟨gb1386, _, none⟩) (by first | exact Nat.ne_of_lt (Nat.lt_of_lt_of_le (by have := World.block_lt_of_cell? _ _ hw1385_2; first | rwa [add_block] at this | exact this) GW1386.out) | (rw [add_block]; exact Nat.ne_of_lt (Nat.lt_of_lt_of_le (by have := World.block_lt_of_cell? _ _ hw1385_2; first | rwa [add_block] at this | exact this) GW1386.out)) | (show (Addr.add _ _).block ≠ _; rw [add_block]; exact Nat.ne_of_lt (Nat.lt_of_lt_of_le (by have := World.block_lt_of_cell? _ _ hw1385_2; first | rwa [add_block] at this | exact this) GW1386.out)) | (dsimp only; exact Nat.ne_of_lt (Nat.lt_of_lt_of_le (by have := World.block_lt_of_cell? _ _ hw1385_2; first | rwa [add_block] at this | exact this) GW1386.out))) _).trans (((cell_far (p := ⟨gb1386, _, none⟩) (by first | exact Nat.ne_of_lt (Nat.lt_of_lt_of_le (by have := World.block_lt_of_cell? _ _ hw1385_2; first | rwa [add_block] at this | exact this) GW1386.out) | (rw [add_block]; exact Nat.ne_of_lt (Nat.lt_of_lt_of_le (by have := World.block_lt_of_cell? _ _ hw1385_2; first | rwa [add_block] at this | exact this) GW1386.out)) | (show (Addr.add _ _).block ≠ _; rw [add_block]; exact Nat.ne_of_lt (Nat.lt_of_lt_of_le (by have := World.block_lt_of_cell? _ _ hw1385_2; first | rwa [add_block] at this | exact this) GW1386.out)) | (dsimp only; exact Nat.ne_of_lt (Nat.lt_of_lt_of_le (by have := World.block_lt_of_cell? _ _ hw1385_2; first | rwa [add_block] at this | exact this) GW1386.out))) _).trans (hHeld.2.2.2.2.2.2.1)))))))), ((cell_far (p := ⟨gb1386, _, none⟩) (by first | exact Nat.ne_of_lt (Nat.lt_of_lt_of_le (by have := World.block_lt_of_cell? _ _ hw1385_3; first | rwa [add_block] at this | exact this) GW1386.out) | (rw [add_block]; exact Nat.ne_of_lt (Nat.lt_of_lt_of_le (by have := World.block_lt_of_cell? _ _ hw1385_3; first | rwa [add_block] at this | exact this) GW1386.out)) | (show (Addr.add _ _).block ≠ _; rw [add_block]; exact Nat.ne_of_lt (Nat.lt_of_lt_of_le (by have := World.block_lt_of_cell? _ _ hw1385_3; first | rwa [add_block] at this | exact this) GW1386.out)) | (dsimp only; exact Nat.ne_of_lt (Nat.lt_of_lt_of_le (by have := World.block_lt_of_cell? _ _ hw1385_3; first | rwa [add_block] at this | exact this) GW1386.out))) _).trans (((cell_far (p := ⟨gb1386, _, none⟩) (by first | exact Nat.ne_of_lt (Nat.lt_of_lt_of_le (by have := World.block_lt_of_cell? _ _ hw1385_3; first | rwa [add_block] at this | exact this) GW1386.out) | (rw [add_block]; exact Nat.ne_of_lt (Nat.lt_of_lt_of_le (by have := World.block_lt_of_cell? _ _ hw1385_3; first | rwa [add_block] at this | exact this) GW1386.out)) | (show (Addr.add _ _).block ≠ _; rw [add_block]; exact Nat.ne_of_lt (Nat.lt_of_lt_of_le (by have := World.block_lt_of_cell? _ _ hw1385_3; first | rwa [add_block] at this | exact this) GW1386.out)) | (dsimp only; exact Nat.ne_of_lt (Nat.lt_of_lt_of_le (by have := World.block_lt_of_cell? _ _ hw1385_3; first | rwa [add_block] at this | exact this) GW1386.out))) _).trans (((cell_far (p := ⟨gb1386, _, none⟩) (by first | exact Nat.ne_of_lt (Nat.lt_of_lt_of_le (by have := World.block_lt_of_cell? _ _ hw1385_3; first | rwa [add_block] at this | exact this) GW1386.out) | (rw [add_block]; exact Nat.ne_of_lt (Nat.lt_of_lt_of_le (by have := World.block_lt_of_cell? _ _ hw1385_3; first | rwa [add_block] at this | exact this) GW1386.out)) | (show (Addr.add _ _).block ≠ _; rw [add_block]; exact Nat.ne_of_lt (Nat.lt_of_lt_of_le (by have := World.block_lt_of_cell? _ _ hw1385_3; first | rwa [add_block] at this | exact this) GW1386.out)) | (dsimp only; exact Nat.ne_of_lt (Nat.lt_of_lt_of_le (by have := World.block_lt_of_cell? _ _ hw1385_3; first | rwa [add_block] at this | exact this) GW1386.out))) _).trans (((cell_far (p := ⟨gb1386, _, none⟩) (by first | exact Nat.ne_of_lt (Nat.lt_of_lt_of_le (by have := World.block_lt_of_cell? _ _ hw1385_3; first | rwa [add_block] at this | exact this) GW1386.out) | (rw [add_block]; exact Nat.ne_of_lt (Nat.lt_of_lt_of_le (by have := World.block_lt_of_cell? _ _ hw1385_3; first | rwa [add_block] at this | exact this) GW1386.out)) | (show (Addr.add _ _).block ≠ _; rw [add_block]; exact Nat.ne_of_lt (Nat.lt_of_lt_of_le (by have := World.block_lt_of_cell? _ _ hw1385_3; first | rwa [add_block] at this | exact this) GW1386.out)) | (dsimp only; exact Nat.ne_of_lt (Nat.lt_of_lt_of_le (by have := World.block_lt_of_cell? _ _ hw1385_3; first | rwa [add_block] at this | exact this) GW1386.out))) _).trans (hHeld.2.2.2.2.2.2.2))))))))⟩ (fun hHeld => ?_)
                    clear hK K
                    refine done_ (done_of HT_.out (by kernel_rfl)) ?_
                    try go_wp2
                    have n0_ : Aside0 (Kd.R k96 96 ((((w73.setCell ⟨gb1386, 0, none⟩ (.int .i64 ((rd_T96 l0_0 (rd t1381 0)).f0))).setCell ⟨gb1386, 1, none⟩ (.int .i64 ((rd_T96 l0_0 (rd t1381 0)).f1))).setCell ⟨gb1386, 2, none⟩ (.int .i64 ((rd_T96 l0_0 (rd t1381 0)).f2))).setCell ⟨gb1386, 3, none⟩ (.int .i64 ((rd_T96 l0_0 (rd t1381 0)).f3))) w.heap.size (fun k_ => k_ ≠ gb1386) (.slice Ao64 t1373.length co64) t1373) := ⟨by (with_reducible repeat (first | apply Kd.R_alloc | apply Kd.R_drewN | apply Kd.R_drew)); exact Kd.R_mono (Kd.R_far (p := ⟨gb1386, 3, none⟩) (Kd.R_far (p := ⟨gb1386, 2, none⟩) (Kd.R_far (p := ⟨gb1386, 1, none⟩) (Kd.R_far (p := ⟨gb1386, 0, none⟩) (Kd.R_mono HO1375.out (fun k_ hk => (⟨hk, hk.2⟩ : _ ∧ k_ ≠ gb1386))) (fun _ hk => hk.2) (.int .i64 ((rd_T96 l0_0 (rd t1381 0)).f0))) (fun _ hk => hk.2) (.int .i64 ((rd_T96 l0_0 (rd t1381 0)).f1))) (fun _ hk => hk.2) (.int .i64 ((rd_T96 l0_0 (rd t1381 0)).f2))) (fun _ hk => hk.2) (.int .i64 ((rd_T96 l0_0 (rd t1381 0)).f3))) (fun _ hk => hk.1.2)⟩
                    have n1_ : Aside0 (Kd.R (Kd.int .i64) 3 ((((w73.setCell ⟨gb1386, 0, none⟩ (.int .i64 ((rd_T96 l0_0 (rd t1381 0)).f0))).setCell ⟨gb1386, 1, none⟩ (.int .i64 ((rd_T96 l0_0 (rd t1381 0)).f1))).setCell ⟨gb1386, 2, none⟩ (.int .i64 ((rd_T96 l0_0 (rd t1381 0)).f2))).setCell ⟨gb1386, 3, none⟩ (.int .i64 ((rd_T96 l0_0 (rd t1381 0)).f3))) w.heap.size (fun k_ => some k_ ≠ (.slice (some ad1384) t1381.length co71 : Value).ownBlock) (.slice Ao68 t1377.length co68) t1377) := ⟨by (with_reducible repeat (first | apply Kd.R_alloc | apply Kd.R_drewN | apply Kd.R_drew)); exact Kd.R_mono (Kd.R_far (p := ⟨gb1386, 3, none⟩) (Kd.R_far (p := ⟨gb1386, 2, none⟩) (Kd.R_far (p := ⟨gb1386, 1, none⟩) (Kd.R_far (p := ⟨gb1386, 0, none⟩) (Kd.R_types HO1379.out BK1386.out (by decide)) (fun _ hk => hk.2) (.int .i64 ((rd_T96 l0_0 (rd t1381 0)).f0))) (fun _ hk => hk.2) (.int .i64 ((rd_T96 l0_0 (rd t1381 0)).f1))) (fun _ hk => hk.2) (.int .i64 ((rd_T96 l0_0 (rd t1381 0)).f2))) (fun _ hk => hk.2) (.int .i64 ((rd_T96 l0_0 (rd t1381 0)).f3))) (fun _ hk => hk.1.2)⟩
                    have n2_ : Aside0 (Kd.R (Kd.int .i64) 3 ((((w73.setCell ⟨gb1386, 0, none⟩ (.int .i64 ((rd_T96 l0_0 (rd t1381 0)).f0))).setCell ⟨gb1386, 1, none⟩ (.int .i64 ((rd_T96 l0_0 (rd t1381 0)).f1))).setCell ⟨gb1386, 2, none⟩ (.int .i64 ((rd_T96 l0_0 (rd t1381 0)).f2))).setCell ⟨gb1386, 3, none⟩ (.int .i64 ((rd_T96 l0_0 (rd t1381 0)).f3))) w.heap.size (fun k_ => some k_ ≠ (.slice Ao68 t1377.length co68 : Value).ownBlock) (.slice (some ad1384) t1381.length co71) t1381) := ⟨by (with_reducible repeat (first | apply Kd.R_alloc | apply Kd.R_drewN | apply Kd.R_drew)); exact Kd.R_mono (Kd.R_far (p := ⟨gb1386, 3, none⟩) (Kd.R_far (p := ⟨gb1386, 2, none⟩) (Kd.R_far (p := ⟨gb1386, 1, none⟩) (Kd.R_far (p := ⟨gb1386, 0, none⟩) (Kd.R_types HO1383.out BK1386.out (by decide)) (fun _ hk => hk.2) (.int .i64 ((rd_T96 l0_0 (rd t1381 0)).f0))) (fun _ hk => hk.2) (.int .i64 ((rd_T96 l0_0 (rd t1381 0)).f1))) (fun _ hk => hk.2) (.int .i64 ((rd_T96 l0_0 (rd t1381 0)).f2))) (fun _ hk => hk.2) (.int .i64 ((rd_T96 l0_0 (rd t1381 0)).f3))) (fun _ hk => hk.1.2)⟩
                    have n3_ : Aside0 (((((w73.setCell ⟨gb1386, 0, none⟩ (.int .i64 ((rd_T96 l0_0 (rd t1381 0)).f0))).setCell ⟨gb1386, 1, none⟩ (.int .i64 ((rd_T96 l0_0 (rd t1381 0)).f1))).setCell ⟨gb1386, 2, none⟩ (.int .i64 ((rd_T96 l0_0 (rd t1381 0)).f2))).setCell ⟨gb1386, 3, none⟩ (.int .i64 ((rd_T96 l0_0 (rd t1381 0)).f3))).heap[gb1371]? = some (.cells #[.slice (some ad1385) l0_0.length c0_0, .int .i64 a0_1, .slice A0_2 l0_2.length c0_2] 33 (0, 0))) := ⟨by (with_reducible repeat (first | refine blk_drewN ?_ _ | refine blk_drew ?_ | refine blk_alloc ?_ _)); refine blk_far ?_ NB1371_1386.out _; (with_reducible repeat (first | refine blk_drewN ?_ _ | refine blk_drew ?_ | refine blk_alloc ?_ _)); refine blk_far ?_ NB1371_1386.out _; (with_reducible repeat (first | refine blk_drewN ?_ _ | refine blk_drew ?_ | refine blk_alloc ?_ _)); refine blk_far ?_ NB1371_1386.out _; (with_reducible repeat (first | refine blk_drewN ?_ _ | refine blk_drew ?_ | refine blk_alloc ?_ _)); refine blk_far ?_ NB1371_1386.out _; (with_reducible repeat (first | refine blk_drewN ?_ _ | refine blk_drew ?_ | refine blk_alloc ?_ _)); exact BK1371.out⟩
                    have n4_ : Aside0 (((((w73.setCell ⟨gb1386, 0, none⟩ (.int .i64 ((rd_T96 l0_0 (rd t1381 0)).f0))).setCell ⟨gb1386, 1, none⟩ (.int .i64 ((rd_T96 l0_0 (rd t1381 0)).f1))).setCell ⟨gb1386, 2, none⟩ (.int .i64 ((rd_T96 l0_0 (rd t1381 0)).f2))).setCell ⟨gb1386, 3, none⟩ (.int .i64 ((rd_T96 l0_0 (rd t1381 0)).f3))).heap[gb1372]? = some (.cells #[.slice none 0 0, .int .i64 0, .slice none 0 0] 33 (0, 0))) := ⟨by (with_reducible repeat (first | refine blk_drewN ?_ _ | refine blk_drew ?_ | refine blk_alloc ?_ _)); refine blk_far ?_ NB1372_1386.out _; (with_reducible repeat (first | refine blk_drewN ?_ _ | refine blk_drew ?_ | refine blk_alloc ?_ _)); refine blk_far ?_ NB1372_1386.out _; (with_reducible repeat (first | refine blk_drewN ?_ _ | refine blk_drew ?_ | refine blk_alloc ?_ _)); refine blk_far ?_ NB1372_1386.out _; (with_reducible repeat (first | refine blk_drewN ?_ _ | refine blk_drew ?_ | refine blk_alloc ?_ _)); refine blk_far ?_ NB1372_1386.out _; (with_reducible repeat (first | refine blk_drewN ?_ _ | refine blk_drew ?_ | refine blk_alloc ?_ _)); exact BK1372.out⟩
                    have n5_ : Aside0 (((((w73.setCell ⟨gb1386, 0, none⟩ (.int .i64 ((rd_T96 l0_0 (rd t1381 0)).f0))).setCell ⟨gb1386, 1, none⟩ (.int .i64 ((rd_T96 l0_0 (rd t1381 0)).f1))).setCell ⟨gb1386, 2, none⟩ (.int .i64 ((rd_T96 l0_0 (rd t1381 0)).f2))).setCell ⟨gb1386, 3, none⟩ (.int .i64 ((rd_T96 l0_0 (rd t1381 0)).f3))).heap[gb1380]? = some (.cells #[.slice Ao64 t1373.length co64, .int .i64 t1376, .slice Ao68 t1377.length co68] 33 (0, 0))) := ⟨by (with_reducible repeat (first | refine blk_drewN ?_ _ | refine blk_drew ?_ | refine blk_alloc ?_ _)); refine blk_far ?_ NB1380_1386.out _; (with_reducible repeat (first | refine blk_drewN ?_ _ | refine blk_drew ?_ | refine blk_alloc ?_ _)); refine blk_far ?_ NB1380_1386.out _; (with_reducible repeat (first | refine blk_drewN ?_ _ | refine blk_drew ?_ | refine blk_alloc ?_ _)); refine blk_far ?_ NB1380_1386.out _; (with_reducible repeat (first | refine blk_drewN ?_ _ | refine blk_drew ?_ | refine blk_alloc ?_ _)); refine blk_far ?_ NB1380_1386.out _; (with_reducible repeat (first | refine blk_drewN ?_ _ | refine blk_drew ?_ | refine blk_alloc ?_ _)); exact BK1380.out⟩
                    have n6_ : Aside0 (((((w73.setCell ⟨gb1386, 0, none⟩ (.int .i64 ((rd_T96 l0_0 (rd t1381 0)).f0))).setCell ⟨gb1386, 1, none⟩ (.int .i64 ((rd_T96 l0_0 (rd t1381 0)).f1))).setCell ⟨gb1386, 2, none⟩ (.int .i64 ((rd_T96 l0_0 (rd t1381 0)).f2))).setCell ⟨gb1386, 3, none⟩ (.int .i64 ((rd_T96 l0_0 (rd t1381 0)).f3))).heap[gb1386]? = some (.cells #[.int .i64 ((rd_T96 l0_0 (rd t1381 0)).f0), .int .i64 ((rd_T96 l0_0 (rd t1381 0)).f1), .int .i64 ((rd_T96 l0_0 (rd t1381 0)).f2), .int .i64 ((rd_T96 l0_0 (rd t1381 0)).f3)] 96 (0, 0))) := ⟨by (with_reducible repeat (first | refine blk_drewN ?_ _ | refine blk_drew ?_ | refine blk_alloc ?_ _)); refine blk_put (cs := #[.int .i64 ((rd_T96 l0_0 (rd t1381 0)).f0), .int .i64 ((rd_T96 l0_0 (rd t1381 0)).f1), .int .i64 ((rd_T96 l0_0 (rd t1381 0)).f2), .int .i64 0]) ?_ 3 _ rfl; (with_reducible repeat (first | refine blk_drewN ?_ _ | refine blk_drew ?_ | refine blk_alloc ?_ _)); refine blk_put (cs := #[.int .i64 ((rd_T96 l0_0 (rd t1381 0)).f0), .int .i64 ((rd_T96 l0_0 (rd t1381 0)).f1), .int .i64 0, .int .i64 0]) ?_ 2 _ rfl; (with_reducible repeat (first | refine blk_drewN ?_ _ | refine blk_drew ?_ | refine blk_alloc ?_ _)); refine blk_put (cs := #[.int .i64 ((rd_T96 l0_0 (rd t1381 0)).f0), .int .i64 0, .int .i64 0, .int .i64 0]) ?_ 1 _ rfl; (with_reducible repeat (first | refine blk_drewN ?_ _ | refine blk_drew ?_ | refine blk_alloc ?_ _)); refine blk_put (cs := #[.int .i64 0, .int .i64 0, .int .i64 0, .int .i64 0]) ?_ 0 _ rfl; (with_reducible repeat (first | refine blk_drewN ?_ _ | refine blk_drew ?_ | refine blk_alloc ?_ _)); exact BK1386.out⟩
                    have n7_ : Aside0 (Below w.heap.size w ((((w73.setCell ⟨gb1386, 0, none⟩ (.int .i64 ((rd_T96 l0_0 (rd t1381 0)).f0))).setCell ⟨gb1386, 1, none⟩ (.int .i64 ((rd_T96 l0_0 (rd t1381 0)).f1))).setCell ⟨gb1386, 2, none⟩ (.int .i64 ((rd_T96 l0_0 (rd t1381 0)).f2))).setCell ⟨gb1386, 3, none⟩ (.int .i64 ((rd_T96 l0_0 (rd t1381 0)).f3)))) := ⟨oB HB⟩
                    (try clear HO1375)
                    (try clear HO1379)
                    (try clear HO1383)
                    (try clear BK1371)
                    (try clear BK1372)
                    (try clear BK1380)
                    (try clear BK1386)
                    (try clear HB)
                    generalize ((((w73.setCell ⟨gb1386, 0, none⟩ (.int .i64 ((rd_T96 l0_0 (rd t1381 0)).f0))).setCell ⟨gb1386, 1, none⟩ (.int .i64 ((rd_T96 l0_0 (rd t1381 0)).f1))).setCell ⟨gb1386, 2, none⟩ (.int .i64 ((rd_T96 l0_0 (rd t1381 0)).f2))).setCell ⟨gb1386, 3, none⟩ (.int .i64 ((rd_T96 l0_0 (rd t1381 0)).f3))) = w78 at n0_ n1_ n2_ n3_ n4_ n5_ n6_ n7_ ⊢
                    have HO1375 := n0_
                    have HO1379 := n1_
                    have HO1383 := n2_
                    have BK1371 := n3_
                    have BK1372 := n4_
                    have BK1380 := n5_
                    have BK1386 := n6_
                    have HB := n7_
                    clear n0_ n1_ n2_ n3_ n4_ n5_ n6_ n7_
                    have n0_ := Aside0.mk (Kd.R_drew HO1375.out)
                    have n1_ := Aside0.mk (Kd.R_drew HO1379.out)
                    have n2_ := Aside0.mk (Kd.R_drew HO1383.out)
                    have n3_ := Aside0.mk (blk_drew BK1371.out)
                    have n4_ := Aside0.mk (blk_drew BK1372.out)
                    have n5_ := Aside0.mk (blk_drew BK1380.out)
                    have n6_ := Aside0.mk (blk_drew BK1386.out)
                    have n7_ := Aside0.mk (below_drew1 HB.out)
                    clear HO1375
                    clear HO1379
                    clear HO1383
                    clear BK1371
                    clear BK1372
                    clear BK1380
                    clear BK1386
                    clear HB
                    have HO1375 := n0_
                    have HO1379 := n1_
                    have HO1383 := n2_
                    have BK1371 := n3_
                    have BK1372 := n4_
                    have BK1380 := n5_
                    have BK1386 := n6_
                    have HB := n7_
                    clear n0_ n1_ n2_ n3_ n4_ n5_ n6_ n7_
                    have p1387 : 0 ≤ (((rd_T96 l0_0 (rd t1381 0)).f0) : Int) := of_decide_eq_true (by first | (with_reducible assumption) | assumption)
                    have q1387 : ((rd_T96 l0_0 (rd t1381 0)).f0) < (l0_2.length : Int) := of_decide_eq_true (by first | (with_reducible assumption) | assumption)
                    obtain ⟨ad1387, e1387, hx1387_0⟩ := Kd.at_int HR0_2.out ((rd_T96 l0_0 (rd t1381 0)).f0) p1387 q1387
                    have hw1387_0 := hx1387_0
                    cases e1387
                    replace hx1387_0 := (HB.out.cell (World.block_lt_of_cell? w _ hx1387_0)).trans hx1387_0
                    replace p1387 := eq_true p1387
                    replace q1387 := eq_true q1387
                    refine start_ (n := 12) (S := fun w' => w'.cell? ⟨gb1371, 0, none⟩ = some (.slice (some ad1385) l0_0.length c0_0) ∧ w'.cell? ⟨gb1371, 1, none⟩ = some (.int .i64 a0_1) ∧ w'.cell? ⟨gb1371, 2, none⟩ = some (.slice (some ad1387) l0_2.length c0_2) ∧ w'.cell? ⟨gb1386, 0, none⟩ = some (.int .i64 ((rd_T96 l0_0 (rd t1381 0)).f0)) ∧ w'.cell? ⟨gb1386, 1, none⟩ = some (.int .i64 ((rd_T96 l0_0 (rd t1381 0)).f1)) ∧ w'.cell? ⟨gb1386, 2, none⟩ = some (.int .i64 ((rd_T96 l0_0 (rd t1381 0)).f2)) ∧ w'.cell? ⟨gb1386, 3, none⟩ = some (.int .i64 ((rd_T96 l0_0 (rd t1381 0)).f3)) ∧ w'.cell? (ad1387.add (((rd_T96 l0_0 (rd t1381 0)).f0)).toNat) = some (.int .i64 (rd l0_2 ((rd_T96 l0_0 (rd t1381 0)).f0)))) (ds := []) #[false, false, false, false, false, false, false, false, false, false, false, false] (by kernel_rfl) rfl rfl ⟨(blk_cell BK1371.out 0).trans rfl, (blk_cell BK1371.out 1).trans rfl, (blk_cell BK1371.out 2).trans rfl, (blk_cell BK1386.out 0).trans rfl, (blk_cell BK1386.out 1).trans rfl, (blk_cell BK1386.out 2).trans rfl, (blk_cell BK1386.out 3).trans rfl, ((HB.out.cell (World.block_lt_of_cell? w _ hw1387_0)).trans hw1387_0)⟩ (fun hHeld => ?_); refine with_tabW spec_MendStep.tab6 spec_MendStep.bits6 (fun HT_ HW_ => ?_)
                    generalize w78.drew = w79 at HO1375 HO1379 HO1383 BK1371 BK1372 BK1380 BK1386 HB hx1387_0 hHeld ⊢
                    refine pure_ (i := 0) (N := some 23) (v := ?_) (a' := ?_) #[true, false, false, false, false, false, false, false, false, false, false, false] rfl rfl (any_of HT_.out (by kernel_rfl)) (fun _ _ _ h => h) (Or.inl ⟨by rfl, ?_⟩) ?_ ?_
                    rotate_left
                    · intro w'
                      go_simp
                      with_reducible rfl
                    rotate_left
                    · simp only [Act.put, List.setIfInBounds_toArray, List.set_cons_zero, List.set_cons_succ, i64_w, i32_w]
                      rfl
                    refine pure_ (i := 2) (N := some 25) (v := ?_) (a' := ?_) #[true, false, true, false, false, false, false, false, false, false, false, false] rfl rfl (any_of HT_.out (by kernel_rfl)) (fun _ _ _ h => h) (Or.inl ⟨by rfl, ?_⟩) ?_ ?_
                    rotate_left
                    · intro w'
                      go_simp
                      with_reducible rfl
                    rotate_left
                    · simp only [Act.put, List.setIfInBounds_toArray, List.set_cons_zero, List.set_cons_succ, i64_w, i32_w]
                      rfl
                    refine pure_ (i := 6) (N := some 29) (v := ?_) (a' := ?_) #[true, false, true, false, false, false, true, false, false, false, false, false] rfl rfl (any_of HT_.out (by kernel_rfl)) (fun _ _ _ h => h) (Or.inl ⟨by rfl, ?_⟩) ?_ ?_
                    rotate_left
                    · intro w'
                      go_simp
                      with_reducible rfl
                    rotate_left
                    · simp only [Act.put, List.setIfInBounds_toArray, List.set_cons_zero, List.set_cons_succ, i64_w, i32_w]
                      rfl
                    refine pure_ (i := 8) (N := some 31) (v := ?_) (a' := ?_) #[true, false, true, false, false, false, true, false, true, false, false, false] rfl rfl (any_of HT_.out (by kernel_rfl)) (fun _ _ _ h => h) (Or.inl ⟨by rfl, ?_⟩) ?_ ?_
                    rotate_left
                    · intro w'
                      go_simp
                      with_reducible rfl
                    rotate_left
                    · simp only [Act.put, List.setIfInBounds_toArray, List.set_cons_zero, List.set_cons_succ, i64_w, i32_w]
                      rfl
                    refine take_ (i := 1) (N := some 24) (v := ?_) (a' := ?_) #[true, true, true, false, false, false, true, false, true, false, false, false] rfl rfl (take_ofW HT_.out HW_.out (by kernel_rfl)) (fun _ _ _ h => h) (Or.inl ⟨by rfl, ?_⟩) hHeld ?_ ?_
                    rotate_left
                    · rintro w' ⟨s0, s1, s2, s3, s4, s5, s6, s7⟩
                      go_simp
                      with_reducible rfl
                    rotate_left
                    · simp only [Act.put, List.setIfInBounds_toArray, List.set_cons_zero, List.set_cons_succ, i64_w, i32_w]
                      rfl
                    refine take_ (i := 3) (N := some 26) (v := ?_) (a' := ?_) #[true, true, true, true, false, false, true, false, true, false, false, false] rfl rfl (take_ofW HT_.out HW_.out (by kernel_rfl)) (fun _ _ _ h => h) (Or.inl ⟨by rfl, ?_⟩) hHeld ?_ ?_
                    rotate_left
                    · rintro w' ⟨s0, s1, s2, s3, s4, s5, s6, s7⟩
                      go_simp
                      with_reducible rfl
                    rotate_left
                    · simp only [Act.put, List.setIfInBounds_toArray, List.set_cons_zero, List.set_cons_succ, i64_w, i32_w]
                      rfl
                    refine pure_ (i := 4) (N := some 27) (v := ?_) (a' := ?_) #[true, true, true, true, true, false, true, false, true, false, false, false] rfl rfl (any_of HT_.out (by kernel_rfl)) (fun _ _ _ h => h) (Or.inl ⟨by rfl, ?_⟩) ?_ ?_
                    rotate_left
                    · intro w'
                      go_simp
                      with_reducible rfl
                    rotate_left
                    · simp only [Act.put, List.setIfInBounds_toArray, List.set_cons_zero, List.set_cons_succ, i64_w, i32_w]
                      rfl
                    refine take_ (i := 5) (N := some 28) (v := ?_) (a' := ?_) #[true, true, true, true, true, true, true, false, true, false, false, false] rfl rfl (take_ofW HT_.out HW_.out (by kernel_rfl)) (fun _ _ _ h => h) (Or.inl ⟨by rfl, ?_⟩) hHeld ?_ ?_
                    rotate_left
                    · rintro w' ⟨s0, s1, s2, s3, s4, s5, s6, s7⟩
                      go_simp
                      with_reducible rfl
                    rotate_left
                    · simp only [Act.put, List.setIfInBounds_toArray, List.set_cons_zero, List.set_cons_succ, i64_w, i32_w]
                      rfl
                    refine take_ (i := 7) (N := some 30) (v := ?_) (a' := ?_) #[true, true, true, true, true, true, true, true, true, false, false, false] rfl rfl (take_ofW HT_.out HW_.out (by kernel_rfl)) (fun _ _ _ h => h) (Or.inl ⟨by rfl, ?_⟩) hHeld ?_ ?_
                    rotate_left
                    · rintro w' ⟨s0, s1, s2, s3, s4, s5, s6, s7⟩
                      go_simp
                      with_reducible rfl
                    rotate_left
                    · simp only [Act.put, List.setIfInBounds_toArray, List.set_cons_zero, List.set_cons_succ, i64_w, i32_w]
                      rfl
                    refine take_ (i := 9) (N := some 32) (v := ?_) (a' := ?_) #[true, true, true, true, true, true, true, true, true, true, false, false] rfl rfl (take_ofW HT_.out HW_.out (by kernel_rfl)) (fun _ _ _ h => h) (Or.inl ⟨by rfl, ?_⟩) hHeld ?_ ?_
                    rotate_left
                    · rintro w' ⟨s0, s1, s2, s3, s4, s5, s6, s7⟩
                      go_simp
                      with_reducible rfl
                    rotate_left
                    · simp only [Act.put, List.setIfInBounds_toArray, List.set_cons_zero, List.set_cons_succ, i64_w, i32_w]
                      rfl
                    refine one_ (i := 10) (N := some 33) #[true, true, true, true, true, true, true, true, true, true, true, false] rfl rfl (one_of HT_.out (by kernel_rfl)) (by decide) (fun K hK => ?_)
                    refine goes_ Try.func116 (by kernel_rfl) rfl #[.int .i64 (rd l0_2 ((rd_T96 l0_0 (rd t1381 0)).f0)), .int .i64 ((rd_T96 l0_0 (rd t1381 0)).f2), .int .i64 ((rd_T96 l0_0 (rd t1381 0)).f3)] (by rfl) rfl rfl (by (try simp only [List.map_toArray, List.map_cons, List.map_nil]); first | done | rfl | (simp only [List.length_drop, List.length_take]; rfl)) ?_
                    with_reducible refine (spec_TunedPitch.calls k (rd l0_2 ((rd_T96 l0_0 (rd t1381 0)).f0)) ((rd_T96 l0_0 (rd t1381 0)).f2) ((rd_T96 l0_0 (rd t1381 0)).f3) t1388 _ A26.out).mono ?_
                    rintro e w80 ⟨rfl, hb⟩
                    refine ⟨_, rfl, ?_⟩
                    have n0_ := Aside0.mk (Kd.R_below (oR HO1375) hb)
                    have n1_ := Aside0.mk (Kd.R_below (oR HO1379) hb)
                    have n2_ := Aside0.mk (Kd.R_below (oR HO1383) hb)
                    have n3_ := Aside0.mk (blk_below (g := gb1371) (o := .cells #[.slice (some ad1385) l0_0.length c0_0, .int .i64 a0_1, .slice (some ad1387) l0_2.length c0_2] 33 (0, 0)) (oK BK1371) hb)
                    have n4_ := Aside0.mk (blk_below (g := gb1372) (o := .cells #[.slice none 0 0, .int .i64 0, .slice none 0 0] 33 (0, 0)) (oK BK1372) hb)
                    have n5_ := Aside0.mk (blk_below (g := gb1380) (o := .cells #[.slice Ao64 t1373.length co64, .int .i64 t1376, .slice Ao68 t1377.length co68] 33 (0, 0)) (oK BK1380) hb)
                    have n6_ := Aside0.mk (blk_below (g := gb1386) (o := .cells #[.int .i64 ((rd_T96 l0_0 (rd t1381 0)).f0), .int .i64 ((rd_T96 l0_0 (rd t1381 0)).f1), .int .i64 ((rd_T96 l0_0 (rd t1381 0)).f2), .int .i64 ((rd_T96 l0_0 (rd t1381 0)).f3)] 96 (0, 0)) (oK BK1386) hb)
                    have n7_ := Aside0.mk (below_step (oB HB) hb)
                    clear HO1375
                    clear HO1379
                    clear HO1383
                    clear BK1371
                    clear BK1372
                    clear BK1380
                    clear BK1386
                    clear HB
                    have HO1375 := n0_
                    have HO1379 := n1_
                    have HO1383 := n2_
                    have BK1371 := n3_
                    have BK1372 := n4_
                    have BK1380 := n5_
                    have BK1386 := n6_
                    have HB := n7_
                    clear n0_ n1_ n2_ n3_ n4_ n5_ n6_ n7_
                    (try clear hb)
                    (try clear hb2)
                    (try clear hk)
                    (try clear hi)
                    refine hK.out _ _ ⟨(blk_cell BK1371.out 0).trans rfl, (blk_cell BK1371.out 1).trans rfl, (blk_cell BK1371.out 2).trans rfl, (blk_cell BK1386.out 0).trans rfl, (blk_cell BK1386.out 1).trans rfl, (blk_cell BK1386.out 2).trans rfl, (blk_cell BK1386.out 3).trans rfl, ((HB.out.cell (World.block_lt_of_cell? w _ hw1387_0)).trans hw1387_0)⟩ (fun hHeld => ?_)
                    clear hK K
                    refine norm_ (a' := ?_) ?_ ?_
                    rotate_left
                    · show Act.put _ (some 33) _ = _
                      simp only [Act.put, List.setIfInBounds_toArray, List.set_cons_zero, List.set_cons_succ, i64_w, i32_w]
                      rfl
                    refine pure_ (i := 11) (N := some 7) (v := ?_) (a' := ?_) #[true, true, true, true, true, true, true, true, true, true, true, true] rfl rfl (any_of HT_.out (by kernel_rfl)) (fun _ _ _ h => h) (Or.inl ⟨by rfl, ?_⟩) ?_ ?_
                    rotate_left
                    · intro w'
                      go_simp
                      with_reducible rfl
                    rotate_left
                    · simp only [Act.put, List.setIfInBounds_toArray, List.set_cons_zero, List.set_cons_succ, i64_w, i32_w]
                      rfl
                    refine done_ (done_of HT_.out (by kernel_rfl)) ?_
                    have hnb81 := NB1380_1386.out
                    have hnc81 := NB1386_1380.out
                    have hcz82_0 : w80.cell? ⟨gb1380, 0, none⟩ = some (.slice Ao64 t1373.length co64) := (blk_cell BK1380.out 0).trans rfl
                    have hcz82_1 : w80.cell? ⟨gb1380, 1, none⟩ = some (.int .i64 t1376) := (blk_cell BK1380.out 1).trans rfl
                    have hcz82_2 : w80.cell? ⟨gb1380, 2, none⟩ = some (.slice Ao68 t1377.length co68) := (blk_cell BK1380.out 2).trans rfl
                    have hfz82_0 := blk_frozen BK1380.out 0
                    have hfz82_1 := blk_frozen BK1380.out 1
                    have hfz82_2 := blk_frozen BK1380.out 2
                    have hnb83 := NB1386_1371.out
                    have hnc83 := NB1371_1386.out
                    have hnb84 := NB1386_1372.out
                    have hnc84 := NB1372_1386.out
                    have hcz85_0 : w80.cell? ⟨gb1386, 0, none⟩ = some (.int .i64 ((rd_T96 l0_0 (rd t1381 0)).f0)) := (blk_cell BK1386.out 0).trans rfl
                    have hcz85_1 : w80.cell? ⟨gb1386, 1, none⟩ = some (.int .i64 ((rd_T96 l0_0 (rd t1381 0)).f1)) := (blk_cell BK1386.out 1).trans rfl
                    have hcz85_2 : w80.cell? ⟨gb1386, 2, none⟩ = some (.int .i64 ((rd_T96 l0_0 (rd t1381 0)).f2)) := (blk_cell BK1386.out 2).trans rfl
                    have hcz85_3 : w80.cell? ⟨gb1386, 3, none⟩ = some (.int .i64 ((rd_T96 l0_0 (rd t1381 0)).f3)) := (blk_cell BK1386.out 3).trans rfl
                    have hfz85_0 := blk_frozen BK1386.out 0
                    have hfz85_1 := blk_frozen BK1386.out 1
                    have hfz85_2 := blk_frozen BK1386.out 2
                    have hfz85_3 := blk_frozen BK1386.out 3
                    have p57 : 0 ≤ (((rd_T96 l0_0 (rd t1381 0)).f1) : Int) := of_decide_eq_true (by first | (with_reducible assumption) | assumption)
                    have q57 : (((rd_T96 l0_0 (rd t1381 0)).f1) : Int) < ((t1377.length : Int) : Int) := of_decide_eq_true (by first | (with_reducible assumption) | assumption)
                    obtain ⟨go57, co57, eo57, gb57, gl57, cl57, HG57⟩ := Kd.R_form HO1379.out (by omega)
                    (first | cases eo57 | (injection eo57 with ea_ en_ ec_; (first | subst ea_ | (injection ea_ with ea_; subst ea_)); subst ec_; clear en_))
                    have GB57 := Aside0.mk gb57
                    have GG57 := Aside0.mk HG57
                    clear gb57 gl57 HG57
                    obtain ⟨hx57_0, hf57_0⟩ := Kd.R_celln 0 HO1379.out (((rd_T96 l0_0 (rd t1381 0)).f1) : Int) p57 q57
                    replace p57 := eq_true p57
                    replace q57 := eq_true q57
                    obtain ⟨hy86_, hz86_⟩ := Kd.R_celln 0 HO1379.out (((rd_T96 l0_0 (rd t1381 0)).f1) : Int) (of_decide_eq_true (by first | (with_reducible assumption) | assumption)) (of_decide_eq_true (by first | (with_reducible assumption) | assumption))
                    have HP86 := Kd.R_putg HO1379.out (((rd_T96 l0_0 (rd t1381 0)).f1) : Int) t1388
                    try go_wp2_with (first | ((with_reducible refine gate_store (t := 3) (p := 42) rfl ?_); refine store_event (t := 3) (p := 42) (v := ?vo_w87) (w1 := (w80.setCell ⟨go57, (((rd_T96 l0_0 (rd t1381 0)).f1) : Int).toNat, none⟩ (.int .i64 t1388))) ?hg ?ho ?hn ?hr ?_; (case ho => rfl); (case hg => rfl); (case hn => rfl); (case hr => first | (go_simp; done) | (go_simp; rfl)); intro w87 hw; have hg : w80.grownBy w87 (some go57) := (by rw [hw]; exact HP86.2); have hp_ : Kd.R (Kd.int .i64) 3 w87 w.heap.size (fun k_ => some k_ ≠ (.slice (some ad1384) t1381.length co71 : Value).ownBlock) (.slice (some ⟨go57, 0, none⟩) t1377.length co68) y1389 := (by rw [hw, Ny1389.out]; exact HP86.1); clear HP86; have n0_ := Aside0.mk (blk_grown (g := gb1371) (o := .cells #[.slice (some ad1385) l0_0.length c0_0, .int .i64 a0_1, .slice (some ad1387) l0_2.length c0_2] 33 (0, 0)) (oK BK1371) hg (Kd.R_ne HO1379.out BK1371.out (by decide))); have n1_ := Aside0.mk (blk_grown (g := gb1372) (o := .cells #[.slice none 0 0, .int .i64 0, .slice none 0 0] 33 (0, 0)) (oK BK1372) hg (Kd.R_ne HO1379.out BK1372.out (by decide))); have n2_ := Aside0.mk (Kd.R_over' (v := (.slice (some ⟨go57, 0, none⟩) t1377.length co68)) (oR HO1375) (Kd.R_typed HO1379.out) (by decide) hg); have n3_ := Aside0.mk (hp_); have n4_ := Aside0.mk (blk_grown (g := gb1380) (o := .cells #[.slice Ao64 t1373.length co64, .int .i64 t1376, .slice (some ⟨go57, 0, none⟩) t1377.length co68] 33 (0, 0)) (oK BK1380) hg (Kd.R_ne HO1379.out BK1380.out (by decide))); have n5_ := Aside0.mk (Kd.R_after (v := (.slice (some ⟨go57, 0, none⟩) t1377.length co68)) (v1 := (.slice (some ⟨go57, 0, none⟩) t1377.length co68)) (ok := (fun _ => True)) (by (with_reducible repeat (first | apply Kd.R_alloc | apply Kd.R_drewN | apply Kd.R_drew)); exact Kd.R_mono HO1383.out (fun _ hk => ⟨trivial, hk⟩)) hg (.inl rfl)); have n6_ := Aside0.mk (blk_grown (g := gb1386) (o := .cells #[.int .i64 ((rd_T96 l0_0 (rd t1381 0)).f0), .int .i64 ((rd_T96 l0_0 (rd t1381 0)).f1), .int .i64 ((rd_T96 l0_0 (rd t1381 0)).f2), .int .i64 ((rd_T96 l0_0 (rd t1381 0)).f3)] 96 (0, 0)) (oK BK1386) hg (Kd.R_ne HO1379.out BK1386.out (by decide))); have n7_ := Aside0.mk ((by rw [hw]; exact below_set (HB.out) GB57.out : Below w.heap.size w w87)); clear BK1371; clear BK1372; clear HO1375; clear HO1379; clear BK1380; clear HO1383; clear BK1386; clear HB; have BK1371 := n0_; have BK1372 := n1_; have HO1375 := n2_; have HO1379 := n3_; have BK1380 := n4_; have HO1383 := n5_; have BK1386 := n6_; have HB := n7_; clear n0_ n1_ n2_ n3_ n4_ n5_ n6_ n7_; clear hg hw hp_; have hcz88_0 : w87.cell? ⟨gb1380, 0, none⟩ = some (.slice Ao64 t1373.length co64) := (blk_cell BK1380.out 0).trans rfl; have hcz88_1 : w87.cell? ⟨gb1380, 1, none⟩ = some (.int .i64 t1376) := (blk_cell BK1380.out 1).trans rfl; have hcz88_2 : w87.cell? ⟨gb1380, 2, none⟩ = some (.slice (some ⟨go57, 0, none⟩) t1377.length co68) := (blk_cell BK1380.out 2).trans rfl; have hfz88_0 := blk_frozen BK1380.out 0; have hfz88_1 := blk_frozen BK1380.out 1; have hfz88_2 := blk_frozen BK1380.out 2; have hcz89_0 : w87.cell? ⟨gb1372, 0, none⟩ = some (.slice none 0 0) := (blk_cell BK1372.out 0).trans rfl; have hcz89_1 : w87.cell? ⟨gb1372, 1, none⟩ = some (.int .i64 0) := (blk_cell BK1372.out 1).trans rfl; have hcz89_2 : w87.cell? ⟨gb1372, 2, none⟩ = some (.slice none 0 0) := (blk_cell BK1372.out 2).trans rfl; have hfz89_0 := blk_frozen BK1372.out 0; have hfz89_1 := blk_frozen BK1372.out 1; have hfz89_2 := blk_frozen BK1372.out 2))
                    refine bodyPost_ret (results_ct rfl _ _ gb1372 33 #[.slice Ao64 t1373.length co64, .int .i64 t1376, .slice (some ⟨go57, 0, none⟩) t1377.length co68] (0, 0) _ rfl (by (with_reducible repeat (first | refine blk_drewN ?_ _ | refine blk_drew ?_ | refine blk_alloc ?_ _)); refine blk_put (cs := #[.slice Ao64 t1373.length co64, .int .i64 t1376, .slice none 0 0]) ?_ 2 _ rfl; (with_reducible repeat (first | refine blk_drewN ?_ _ | refine blk_drew ?_ | refine blk_alloc ?_ _)); refine blk_put (cs := #[.slice Ao64 t1373.length co64, .int .i64 0, .slice none 0 0]) ?_ 1 _ rfl; (with_reducible repeat (first | refine blk_drewN ?_ _ | refine blk_drew ?_ | refine blk_alloc ?_ _)); refine blk_put (cs := #[.slice none 0 0, .int .i64 0, .slice none 0 0]) ?_ 0 _ rfl; (with_reducible repeat (first | refine blk_drewN ?_ _ | refine blk_drew ?_ | refine blk_alloc ?_ _)); exact BK1372.out) Try.underlying33 rfl (by kernel_rfl)) rfl ?_
                    exact ⟨_, _, by first | rfl | (simp [errW_none, errW_some] <;> rfl) | (simp [*, errW_none, errW_some] <;> rfl), by (with_reducible repeat (first | apply Kd.R_alloc | apply Kd.R_drewN | apply Kd.R_drew)); exact Kd.R_mono (Kd.R_far (p := ⟨gb1372, 2, none⟩) (Kd.R_far (p := ⟨gb1372, 1, none⟩) (Kd.R_far (p := ⟨gb1372, 0, none⟩) (Kd.R_types HO1375.out BK1372.out (by decide)) (fun _ hk => hk.2) (.slice Ao64 t1373.length co64)) (fun _ hk => hk.2) (.int .i64 t1376)) (fun _ hk => hk.2) (.slice (some ⟨go57, 0, none⟩) t1377.length co68)) (fun _ hk => trivial), by (with_reducible repeat (first | apply Kd.R_alloc | apply Kd.R_drewN | apply Kd.R_drew)); exact Kd.R_mono (Kd.R_far (p := ⟨gb1372, 2, none⟩) (Kd.R_far (p := ⟨gb1372, 1, none⟩) (Kd.R_far (p := ⟨gb1372, 0, none⟩) (Kd.R_types HO1379.out BK1372.out (by decide)) (fun _ hk => hk.2) (.slice Ao64 t1373.length co64)) (fun _ hk => hk.2) (.int .i64 t1376)) (fun _ hk => hk.2) (.slice (some ⟨go57, 0, none⟩) t1377.length co68)) (fun _ hk => trivial), oB HB⟩
                  · rw [if_neg c56] at H
                    exact absurd H (by simp)
                · rw [if_neg c55] at H
                  exact absurd H (by simp)
            · rw [if_neg c25] at H
              exact absurd H (by simp)
          · rw [if_neg c24] at H
            exact absurd H (by simp)
        · rw [if_neg c23] at H
          exact absurd H (by simp)
      · rw [if_neg c22] at H
        exact absurd H (by simp)
    · rw [if_neg c21] at H
      exact absurd H (by simp)
end Go.Proofs.Ytbkkpllejgedcaa.P

