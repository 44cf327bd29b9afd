/- What functions of the program come to (f), that their calls come to just this (calls), and the plain laws over lists and numbers. No condition but those of the given row. -/
import Derived.Test.YtbkkpllejgedcaaC2
namespace Go.Proofs.Ytbkkpllejgedcaa.P
open Go.RowKit Go.Proofs.YtbkkpllejgedcaaW.PrintWords Go.Proofs.YtbkkpllejgedcaaW.PrintLast Go.Proofs.YtbkkpllejgedcaaW.PrintMore Go.Proofs.Ytbkkpllejgedcaa.V
attribute [local go_sem] cell_b frozen_b
attribute [local go_sem] max2_int min2_int max_two min_two max_three min_three max_four min_four
set_option linter.unusedVariables false
set_option linter.unusedSimpArgs false
def spec_ShopWarm.f (k : Nat) (l0_0 : List (S96)) (a0_1 : Int) (l0_2 : List Int) (a0_3 : Int) (a0_4 : Int) (l0_5 : List (S74)) (a1 : Int) : Option ((List (S96)) × Int × List Int × Int × Int × (List (S74)) × Bool) := (spec_l38Copy.f l0_0 a0_1 l0_2 a0_3 a0_4 l0_5).bind fun bt746 => ((spec_ShopOk.f k l0_0 a0_1 l0_2 a0_3 a0_4 l0_5).bind fun t759 => (if t759 = true then (if a0_4 = 100000 then ((spec_l38Copy.f l0_0 a0_1 l0_2 a0_3 a0_4 l0_5).bind fun bt760 => (some (bt760.1, bt760.2.1, bt760.2.2.1, bt760.2.2.2.1, bt760.2.2.2.2.1, bt760.2.2.2.2.2, false))) else ((spec_ShopOk.f k bt746.1 bt746.2.1 bt746.2.2.1 a1 bt746.2.2.2.2.1 bt746.2.2.2.2.2).bind fun t772 => (if t772 = true then (some (bt746.1, bt746.2.1, bt746.2.2.1, a1, wrap64 (a0_4 + 1), bt746.2.2.2.2.2, true)) else ((spec_l38Copy.f l0_0 a0_1 l0_2 a0_3 a0_4 l0_5).bind fun bt773 => (some (bt773.1, bt773.2.1, bt773.2.2.1, bt773.2.2.2.1, bt773.2.2.2.2.1, bt773.2.2.2.2.2, false)))))) else ((spec_l38Copy.f l0_0 a0_1 l0_2 a0_3 a0_4 l0_5).bind fun bt785 => (some (bt785.1, bt785.2.1, bt785.2.2.1, bt785.2.2.2.1, bt785.2.2.2.2.1, bt785.2.2.2.2.2, false)))))
set_option maxHeartbeats 8000000 in
set_option maxRecDepth 100000 in
set_option synthInstance.maxHeartbeats 400000 in
set_option synthInstance.maxSize 100000 in
theorem spec_ShopWarm.calls (k : Nat) (A0_0 : Option Addr) (c0_0 : Nat) (l0_0 : List (S96)) (a0_1 : Int) (A0_2 : Option Addr) (c0_2 : Nat) (l0_2 : List Int) (a0_3 : Int) (a0_4 : Int) (A0_5 : Option Addr) (c0_5 : Nat) (l0_5 : List (S74)) (a1 : Int) (r1 : List (S96)) (r2 : Int) (r3 : List Int) (r4 : Int) (r5 : Int) (r6 : List (S74)) (r7 : Bool) (w : World) (hr0_0 : Kd.C k96 w A0_0 l0_0.length l0_0) (hc0_0 : l0_0.length ≤ c0_0) (hr0_2 : Kd.C (Kd.int .i64) w A0_2 l0_2.length l0_2) (hc0_2 : l0_2.length ≤ c0_2) (hr0_5 : Kd.C k74 w A0_5 l0_5.length l0_5) (hc0_5 : l0_5.length ≤ c0_5) (h : spec_ShopWarm.f k l0_0 a0_1 l0_2 a0_3 a0_4 l0_5 a1 = some (r1, r2, r3, r4, r5, r6, r7)) :
  Calls Try.prog 34 #[.agg #[.slice A0_0 l0_0.length c0_0, .int .i64 a0_1, .slice A0_2 l0_2.length c0_2, .int .i64 a0_3, .int .i64 a0_4, .slice A0_5 l0_5.length c0_5], .int .i64 a1] w fun e w' => ∃ v0_ v2_ v5_ : Value, e = .returned (.tuple #[.agg #[v0_, .int .i64 r2, v2_, .int .i64 r4, .int .i64 r5, v5_], .bool r7]) ∧ Kd.R k96 96 w' w.heap.size (fun _ => True) v0_ r1 ∧ Kd.R (Kd.int .i64) 3 w' w.heap.size (fun _ => True) v2_ r3 ∧ Kd.R k74 74 w' w.heap.size (fun _ => True) v5_ r6 ∧ Below w.heap.size w w' := by
 have ihr0_0 := RdE.mk hr0_0
 have ihc0_0 := LeI.mk hc0_0
 have ihr0_2 := RdE.mk hr0_2
 have ihc0_2 := LeI.mk hc0_2
 have ihr0_5 := RdE.mk hr0_5
 have ihc0_5 := LeI.mk hc0_5
 clear hr0_0 hc0_0 hr0_2 hc0_2 hr0_5 hc0_5
 unfold spec_ShopWarm.f at h
 have hu36 := Try.underlying36
 (repeat' first | ((with_reducible replace h := ite_some h); rcases h with ⟨hc, h⟩ | ⟨hc, h⟩ <;> first | exact (none_some h).elim | exact absurd hc (by decide) | subst hc | (replace hc := Bool.eq_false_iff.mpr hc; subst hc) | (have hd := beq_iff_eq.mpr hc; have he := bne_eq_false_iff_eq.mpr hc; clear hc) | (have hd := beq_eq_false_iff_ne.mpr hc; have he := bne_iff_ne.mpr hc) | (have hd := decide_eq_false hc) | (have hd := decide_eq_true hc) | skip))
 all_goals go_enter Try.func34, Try.ntmps34
 all_goals go_wp2_with (first
  | ((with_reducible refine gate_dst (N := 2) rfl ?_); refine box_event rfl (N := 2) rfl (cs := #[.slice A0_0 l0_0.length c0_0, .int .i64 a0_1, .slice A0_2 l0_2.length c0_2, .int .i64 a0_3, .int .i64 a0_4, .slice A0_5 l0_5.length c0_5]) (t := 36) (by first | (go_simp; done) | (go_simp; rfl)) ?_; intro g hg w1 hk hb; have j1 := Born.mk hg; have j2 := Bel.mk hb; have j3 := Blk.mk hk; clear hg hb hk)
  | ((with_reducible refine gate_dst (N := 4) rfl ?_); refine box_event rfl (N := 4) rfl (cs := #[.slice none 0 0, .int .i64 0, .slice none 0 0, .int .i64 0, .int .i64 0, .slice none 0 0]) (t := 36) (by first | (go_simp; done) | (go_simp; rfl)) ?_; intro g hg w1 hk hb; have j1 := Born.mk hg; have j2 := Bel.mk hb; have j3 := Blk.mk hk; clear hg hb hk)
  | ((with_reducible refine gate_dst (N := 6) rfl ?_); refine box_event rfl (N := 6) rfl (cs := #[.slice none 0 0, .int .i64 0, .slice none 0 0, .int .i64 0, .int .i64 0, .slice none 0 0]) (t := 36) (by first | (go_simp; done) | (go_simp; rfl)) ?_; intro g hg w1 hk hb; have j1 := Born.mk hg; have j2 := Bel.mk hb; have j3 := Blk.mk hk; clear hg hb hk)
  | (go_at_call 83; replace h := Option.bind_eq_some_iff.mp h; obtain ⟨⟨t1, t2, t3, t4, t5, t6⟩, A, h⟩ := h; (try dsimp only at h); refine (spec_l38Copy.calls _ _ _ _ _ _ _ _ _ _ _ _ _ _ _ _ _ _ _ Rd.out LeI.out Rd.out LeI.out Rd.out LeI.out A).mono ?_; rintro e w2 ⟨v0, v1, v2, rfl, ho0, ho1, ho2, hb⟩; obtain ⟨B0, b0, rfl⟩ := Kd.R_slice ho0; have j0 := RowE.mk ho0; have q0 := LeI.mk (rowLe j0); obtain ⟨B1, b1, rfl⟩ := Kd.R_slice ho1; have j1 := RowE.mk ho1; have q1 := LeI.mk (rowLe j1); obtain ⟨B2, b2, rfl⟩ := Kd.R_slice ho2; have j2 := RowE.mk ho2; have q2 := LeI.mk (rowLe j2); have jb := Bel.mk hb; clear A ho0 ho1 ho2 hb; (repeat' first | ((with_reducible replace h := ite_some h); rcases h with ⟨hc, h⟩ | ⟨hc, h⟩ <;> first | exact (none_some h).elim | exact absurd hc (by decide) | subst hc | (replace hc := Bool.eq_false_iff.mpr hc; subst hc) | (have hd := beq_iff_eq.mpr hc; have he := bne_eq_false_iff_eq.mpr hc; clear hc) | (have hd := beq_eq_false_iff_ne.mpr hc; have he := bne_iff_ne.mpr hc) | (have hd := decide_eq_false hc) | (have hd := decide_eq_true hc) | skip)))
  | (go_at_call 16; replace h := Option.bind_eq_some_iff.mp h; obtain ⟨t, A, h⟩ := h; (try dsimp only at h); refine (spec_ShopOk.calls _ _ _ _ _ _ _ _ _ _ _ _ _ _ _ Rd.out LeI.out Rd.out LeI.out Rd.out LeI.out A).mono ?_; rintro e w2 ⟨rfl, hb⟩; have jb := Bel.mk hb; clear A hb; (repeat' first | ((with_reducible replace h := ite_some h); rcases h with ⟨hc, h⟩ | ⟨hc, h⟩ <;> first | exact (none_some h).elim | exact absurd hc (by decide) | subst hc | (replace hc := Bool.eq_false_iff.mpr hc; subst hc) | (have hd := beq_iff_eq.mpr hc; have he := bne_eq_false_iff_eq.mpr hc; clear hc) | (have hd := beq_eq_false_iff_ne.mpr hc; have he := bne_iff_ne.mpr hc) | (have hd := decide_eq_false hc) | (have hd := decide_eq_true hc) | skip))))
 all_goals (repeat' first | ((with_reducible replace h := ite_some h); rcases h with ⟨hc, h⟩ | ⟨hc, h⟩ <;> first | exact (none_some h).elim | exact absurd hc (by decide) | subst hc | (replace hc := Bool.eq_false_iff.mpr hc; subst hc) | (have hd := beq_iff_eq.mpr hc; have he := bne_eq_false_iff_eq.mpr hc; clear hc) | (have hd := beq_eq_false_iff_ne.mpr hc; have he := bne_iff_ne.mpr hc) | (have hd := decide_eq_false hc) | (have hd := decide_eq_true hc) | skip))
 all_goals simp only [Option.some.injEq, Prod.mk.injEq] at h
 all_goals obtain ⟨rfl, rfl, rfl, rfl, rfl, rfl, rfl⟩ := h
 all_goals refine bodyPost_ret (results_ct rfl _ _ _ _ _ (0, 0) _ rfl Blk.out Try.underlying36 rfl (by kernel_rfl)) rfl ?_
 all_goals exact ⟨_, _, _, rfl, (by first | exact rowFin | exact Kd.R_nil _ _ _ _ _), (by first | exact rowFin | exact Kd.R_nil _ _ _ _ _), (by first | exact rowFin | exact Kd.R_nil _ _ _ _ _), From.out⟩
end Go.Proofs.Ytbkkpllejgedcaa.P


namespace Go.Proofs.Ytbkkpllejgedcaa.P
open Go.RowKit Go.Proofs.YtbkkpllejgedcaaW.PrintWords Go.Proofs.YtbkkpllejgedcaaW.PrintLast Go.Proofs.YtbkkpllejgedcaaW.PrintMore Go.Proofs.Ytbkkpllejgedcaa.V
attribute [local go_sem] cell_b frozen_b cellR_c cell_r frozen_r cell_r0 frozen_r0
attribute [local go_sem] max2_int min2_int max_two min_two max_three min_three max_four min_four
set_option linter.unusedVariables false
set_option linter.unusedSimpArgs false
def spec_AddEntry.f (k : Nat) (l0 : List (S74)) (a1_0 : Int) (a1_1 : Int) (a1_2 : Int) (a1_3 : Int) : Option ((List (S74)) × Bool) := (spec_l34Copy.f l0).bind fun t975 => ((some (([(⟨(⟨a1_0, a1_1⟩ : S56), a1_2, a1_3⟩ : S74)] : List (S74)) : List (S74))).bind fun y978 => (if t975.length + y978.length < 4398046511104 then ((some (t975 ++ y978 : List (S74))).bind fun y981 => ((spec_LogOk.f k l0).bind fun t984 => (if t984 = true then ((spec_LogOk.f k y981).bind fun t985 => (if t985 = true then (some (y981, true)) else ((spec_l34Copy.f l0).bind fun t986 => (some (t986, false))))) else ((spec_l34Copy.f l0).bind fun t989 => (some (t989, false)))))) else (none)))
noncomputable def spec_AddEntry.T1 : Bool × List (List Nat × List Nat) := rtab .any (opsOf Try.f48 1)
def spec_AddEntry.B1 : List Nat := [0, 1, 0, 4, 15, 31]
theorem spec_AddEntry.tab1 : rtab .any (opsOf Try.f48 1) = spec_AddEntry.T1 := rfl
theorem spec_AddEntry.bits1 : waitsOk spec_AddEntry.T1.2 spec_AddEntry.B1 = true := by kernel_rfl
set_option maxHeartbeats 8000000 in
set_option maxRecDepth 100000 in
set_option synthInstance.maxHeartbeats 400000 in
set_option synthInstance.maxSize 100000 in
theorem spec_AddEntry.calls (k : Nat) (A0 : Option Addr) (c0 : Nat) (l0 : List (S74)) (a1_0 : Int) (a1_1 : Int) (a1_2 : Int) (a1_3 : Int) (r1 : List (S74)) (r2 : Bool) (w : World) (hr0 : Kd.C k74 w A0 l0.length l0) (hc0 : l0.length ≤ c0) (h : spec_AddEntry.f k l0 a1_0 a1_1 a1_2 a1_3 = some (r1, r2)) :
  Calls Try.prog 48 #[.slice A0 l0.length c0, .agg #[.int .i64 a1_0, .int .i64 a1_1, .int .i64 a1_2, .int .i64 a1_3]] w fun e w' => ∃ v0_ : Value, e = .returned (.tuple #[v0_, .bool r2]) ∧ Kd.R k74 74 w' w.heap.size (fun _ => True) v0_ r1 ∧ Below w.heap.size w w' := by
 have ihr0 := RdE.mk hr0
 have ihc0 := LeI.mk hc0
 clear hr0 hc0
 unfold spec_AddEntry.f at h
 have hu74 := Try.underlying74
 (repeat' first | ((with_reducible replace h := ite_some h); rcases h with ⟨hc, h⟩ | ⟨hc, h⟩ <;> first | exact (none_some h).elim | exact absurd hc (by decide) | subst hc | (replace hc := Bool.eq_false_iff.mpr hc; subst hc) | (replace hc := (Bool.not_eq_true' _).mp hc; subst hc) | (replace hc := (Bool.not_eq_false' _).mp (Bool.eq_false_iff.mpr hc); subst hc) | (have hd : (_ == _) = true := hc) | (have hd : (_ == _) = false := Bool.eq_false_iff.mpr hc) | (have hd := beq_iff_eq.mpr hc; have he := bne_eq_false_iff_eq.mpr hc; clear hc) | (have hd := beq_eq_false_iff_ne.mpr hc; have he := bne_iff_ne.mpr hc) | (have hd := decide_eq_false hc) | (have hd := decide_eq_true hc; (try (have hn := Int.natCast_pos.mp hc; have hm := decide_eq_true hn; replace hn := eq_true hn)); first | (obtain ⟨g_, e_, i_⟩ := form_ (by assumption) (by first | assumption | decide) hc; cases e_) | (obtain ⟨a_, e_, c_⟩ := atI_ (by assumption) (by first | assumption | decide) hc; cases e_)) | (have hd := decide_eq_true hc) | skip) | ((with_reducible replace h := bind_set_ h); obtain ⟨hl_, h⟩ := h; replace hl_ := A_ hl_; (try dsimp only at h)))
 all_goals go_enter Try.func48, Try.ntmps48
 all_goals go_wp2_with (first
  | ((with_reducible refine gate_dst (N := 3) rfl ?_); refine box_event rfl (N := 3) rfl (cs := #[.int .i64 a1_0, .int .i64 a1_1, .int .i64 a1_2, .int .i64 a1_3]) (t := 74) (by first | (go_simp; done) | (go_simp; rfl)) ?_; intro g hg w1 hk hb; have j1 := Born.mk hg; have j2 := Bel.mk hb; have j3 := Blk.mk hk; clear hg hb hk)
  | (go_at_call 93; (try rw [hl_.out]); replace h := Option.bind_eq_some_iff.mp h; obtain ⟨t, A, h⟩ := h; (try dsimp only at h); refine (spec_l34Copy.calls _ _ _ _ _ Rd.out LeI.out A).mono ?_; rintro e w2 ⟨v0, rfl, ho0, hb⟩; obtain ⟨B0, b0, rfl⟩ := Kd.R_slice ho0; have j0 := RowE.mk ho0; have q0 := LeI.mk (rowLe j0); have jb := Bel.mk hb; clear A ho0 hb; (repeat' first | ((with_reducible replace h := ite_some h); rcases h with ⟨hc, h⟩ | ⟨hc, h⟩ <;> first | exact (none_some h).elim | exact absurd hc (by decide) | subst hc | (replace hc := Bool.eq_false_iff.mpr hc; subst hc) | (replace hc := (Bool.not_eq_true' _).mp hc; subst hc) | (replace hc := (Bool.not_eq_false' _).mp (Bool.eq_false_iff.mpr hc); subst hc) | (have hd : (_ == _) = true := hc) | (have hd : (_ == _) = false := Bool.eq_false_iff.mpr hc) | (have hd := beq_iff_eq.mpr hc; have he := bne_eq_false_iff_eq.mpr hc; clear hc) | (have hd := beq_eq_false_iff_ne.mpr hc; have he := bne_iff_ne.mpr hc) | (have hd := decide_eq_false hc) | (have hd := decide_eq_true hc; (try (have hn := Int.natCast_pos.mp hc; have hm := decide_eq_true hn; replace hn := eq_true hn)); first | (obtain ⟨g_, e_, i_⟩ := form_ (by assumption) (by first | assumption | decide) hc; cases e_) | (obtain ⟨a_, e_, c_⟩ := atI_ (by assumption) (by first | assumption | decide) hc; cases e_)) | (have hd := decide_eq_true hc) | skip) | ((with_reducible replace h := bind_set_ h); obtain ⟨hl_, h⟩ := h; replace hl_ := A_ hl_; (try dsimp only at h))); (try have hn : decide (0 < t.length) = true := decide_eq_true (by omega)); (try have hn : decide (0 < t.length) = false := decide_eq_false (by omega)))
  | (go_at_call 61; (try rw [hl_.out]); replace h := Option.bind_eq_some_iff.mp h; obtain ⟨t, A, h⟩ := h; (try dsimp only at h); refine (spec_LogOk.calls _ _ _ _ _ _ Rd.out LeI.out A).mono ?_; rintro e w2 ⟨rfl, hb⟩; have jb := Bel.mk hb; clear A hb; (repeat' first | ((with_reducible replace h := ite_some h); rcases h with ⟨hc, h⟩ | ⟨hc, h⟩ <;> first | exact (none_some h).elim | exact absurd hc (by decide) | subst hc | (replace hc := Bool.eq_false_iff.mpr hc; subst hc) | (replace hc := (Bool.not_eq_true' _).mp hc; subst hc) | (replace hc := (Bool.not_eq_false' _).mp (Bool.eq_false_iff.mpr hc); subst hc) | (have hd : (_ == _) = true := hc) | (have hd : (_ == _) = false := Bool.eq_false_iff.mpr hc) | (have hd := beq_iff_eq.mpr hc; have he := bne_eq_false_iff_eq.mpr hc; clear hc) | (have hd := beq_eq_false_iff_ne.mpr hc; have he := bne_iff_ne.mpr hc) | (have hd := decide_eq_false hc) | (have hd := decide_eq_true hc; (try (have hn := Int.natCast_pos.mp hc; have hm := decide_eq_true hn; replace hn := eq_true hn)); first | (obtain ⟨g_, e_, i_⟩ := form_ (by assumption) (by first | assumption | decide) hc; cases e_) | (obtain ⟨a_, e_, c_⟩ := atI_ (by assumption) (by first | assumption | decide) hc; cases e_)) | (have hd := decide_eq_true hc) | skip) | ((with_reducible replace h := bind_set_ h); obtain ⟨hl_, h⟩ := h; replace hl_ := A_ hl_; (try dsimp only at h))))
  | (refine qR (id := 1) (ds := []) (l := #[false, false, false, false, false, false]) spec_AddEntry.tab1 spec_AddEntry.bits1 ?_; intro HT_ HW_ w3 jw u0 iu hHeld; refine qA 0 (some 7) HT_ ?_; refine qT 2 (some 9) HT_ HW_ hHeld ?_; replace h := Option.bind_eq_some_iff.mp h; obtain ⟨t, A, h⟩ := h; (try dsimp only at h); simp only [Option.bind_some] at h; (repeat' first | ((with_reducible replace h := ite_some h); rcases h with ⟨hc, h⟩ | ⟨hc, h⟩ <;> first | exact (none_some h).elim | exact absurd hc (by decide) | subst hc | (replace hc := Bool.eq_false_iff.mpr hc; subst hc) | (replace hc := (Bool.not_eq_true' _).mp hc; subst hc) | (replace hc := (Bool.not_eq_false' _).mp (Bool.eq_false_iff.mpr hc); subst hc) | (have hd : (_ == _) = true := hc) | (have hd : (_ == _) = false := Bool.eq_false_iff.mpr hc) | (have hd := beq_iff_eq.mpr hc; have he := bne_eq_false_iff_eq.mpr hc; clear hc) | (have hd := beq_eq_false_iff_ne.mpr hc; have he := bne_iff_ne.mpr hc) | (have hd := decide_eq_false hc) | (have hd := decide_eq_true hc; (try (have hn := Int.natCast_pos.mp hc; have hm := decide_eq_true hn; replace hn := eq_true hn)); first | (obtain ⟨g_, e_, i_⟩ := form_ (by assumption) (by first | assumption | decide) hc; cases e_) | (obtain ⟨a_, e_, c_⟩ := atI_ (by assumption) (by first | assumption | decide) hc; cases e_)) | (have hd := decide_eq_true hc) | skip) | ((with_reducible replace h := bind_set_ h); obtain ⟨hl_, h⟩ := h; replace hl_ := A_ hl_; (try dsimp only at h))); refine qO2 1 3 (some 8) (some 10) HT_ (fun K hK => ?_) (fun K hK => ?_); (focus (refine goes_ Try.func93 (by kernel_rfl) rfl _ (by rfl) rfl rfl (by (try simp only [List.map_toArray, List.map_cons, List.map_nil]); rfl) ?_; refine (spec_l34Copy.calls _ _ _ _ _ Rd.out LeI.out A).mono ?_; rintro e u1 ⟨v0, rfl, ho0, hb⟩; obtain ⟨B0, b0, rfl⟩ := Kd.R_slice ho0; have j0 := RowE.mk ho0; have q0 := LeI.mk (rowLe j0); have jb := Bel.mk hb; (try clear ho0 hb); refine ⟨_, rfl, hK.out _ _ From.out fun hHeld => ?_⟩; clear hK K; refine qN ?_; refine qI k74 3 74 10 ([(⟨(⟨a1_0, a1_1⟩ : S56), a1_2, a1_3⟩ : S74)] : List (S74)) [.int .i64 a1_0, .int .i64 a1_1, .int .i64 a1_2, .int .i64 a1_3] HT_ hHeld (Reps.c4 (show Kd.M k74 _ _ _ (⟨(⟨a1_0, a1_1⟩ : S56), a1_2, a1_3⟩ : S74) [.int .i64 a1_0, .int .i64 a1_1, .int .i64 a1_2, .int .i64 a1_3] from (k74_mkM _ _ _ (⟨(⟨a1_0, a1_1⟩ : S56), a1_2, a1_3⟩ : S74) )) (Reps.none _ _)) ?_; intro B9 b9 u9 j9 jb9 hHeld)); rotate_left; (focus (refine qI0 k74 74 10 ([(⟨(⟨a1_0, a1_1⟩ : S56), a1_2, a1_3⟩ : S74)] : List (S74)) [.int .i64 a1_0, .int .i64 a1_1, .int .i64 a1_2, .int .i64 a1_3] (Reps.c4 (show Kd.M k74 _ _ _ (⟨(⟨a1_0, a1_1⟩ : S56), a1_2, a1_3⟩ : S74) [.int .i64 a1_0, .int .i64 a1_1, .int .i64 a1_2, .int .i64 a1_3] from (k74_mkM _ _ _ (⟨(⟨a1_0, a1_1⟩ : S56), a1_2, a1_3⟩ : S74) )) (Reps.none _ _)) ?_; intro B9 b9 u9 j9 jb9; refine hK.out _ _ From.out fun hHeld => ?_; clear hK K; refine qN ?_; refine qC 1 8 Try.func93 HT_ fun K hK => ?_; refine (spec_l34Copy.calls _ _ _ _ _ Rd.out LeI.out A).mono ?_; rintro e u1 ⟨v0, rfl, ho0, hb⟩; obtain ⟨B0, b0, rfl⟩ := Kd.R_slice ho0; have j0 := RowE.mk ho0; have q0 := LeI.mk (rowLe j0); have jb := Bel.mk hb; (try clear ho0 hb); refine ⟨_, rfl, hK _ _ From.out fun hHeld => ?_⟩; clear hK K; refine qN ?_)); all_goals (refine qP k74 t ([(⟨(⟨a1_0, a1_1⟩ : S56), a1_2, a1_3⟩ : S74)] : List (S74)) 4 11 (.tmp 8) (.tmp 10) 34 (.agg #[(.int .i64 0), (.int .i64 0), (.int .i64 0), (.int .i64 0)]) 32 HT_ hHeld Try.underlying34 info74 rfl (by decide) (by omega) (fun _ _ h => h) (by simp at hc ⊢; omega) ?_; intro B8 b8 u8 j8 jb8 hHeld; have q8 := LeI.mk (rowLe j8); generalize t ++ ([(⟨(⟨a1_0, a1_1⟩ : S56), a1_2, a1_3⟩ : S74)] : List (S74)) = y8 at h j8 q8 ⊢; refine qA 5 (some 6) HT_ ?_; refine qD HT_ ?_)))
 all_goals (repeat' first | ((with_reducible replace h := ite_some h); rcases h with ⟨hc, h⟩ | ⟨hc, h⟩ <;> first | exact (none_some h).elim | exact absurd hc (by decide) | subst hc | (replace hc := Bool.eq_false_iff.mpr hc; subst hc) | (replace hc := (Bool.not_eq_true' _).mp hc; subst hc) | (replace hc := (Bool.not_eq_false' _).mp (Bool.eq_false_iff.mpr hc); subst hc) | (have hd : (_ == _) = true := hc) | (have hd : (_ == _) = false := Bool.eq_false_iff.mpr hc) | (have hd := beq_iff_eq.mpr hc; have he := bne_eq_false_iff_eq.mpr hc; clear hc) | (have hd := beq_eq_false_iff_ne.mpr hc; have he := bne_iff_ne.mpr hc) | (have hd := decide_eq_false hc) | (have hd := decide_eq_true hc; (try (have hn := Int.natCast_pos.mp hc; have hm := decide_eq_true hn; replace hn := eq_true hn)); first | (obtain ⟨g_, e_, i_⟩ := form_ (by assumption) (by first | assumption | decide) hc; cases e_) | (obtain ⟨a_, e_, c_⟩ := atI_ (by assumption) (by first | assumption | decide) hc; cases e_)) | (have hd := decide_eq_true hc) | skip) | ((with_reducible replace h := bind_set_ h); obtain ⟨hl_, h⟩ := h; replace hl_ := A_ hl_; (try dsimp only at h)))
 all_goals simp only [Option.some.injEq, Prod.mk.injEq] at h
 all_goals obtain ⟨rfl, rfl⟩ := h
 all_goals go_ret2
 all_goals exact ⟨_, rfl, (by first | exact rowFin | exact Kd.R_nil _ _ _ _ _ | exact atFin | exact irowFin' (by simp)), From.out⟩
end Go.Proofs.Ytbkkpllejgedcaa.P


namespace Go.Proofs.Ytbkkpllejgedcaa.P
open Go.RowKit Go.Proofs.YtbkkpllejgedcaaW.PrintWords Go.Proofs.YtbkkpllejgedcaaW.PrintLast Go.Proofs.YtbkkpllejgedcaaW.PrintMore Go.Proofs.Ytbkkpllejgedcaa.V
attribute [local go_sem] cell_b frozen_b
attribute [local go_sem] max2_int min2_int max_two min_two max_three min_three max_four min_four
set_option linter.unusedVariables false
set_option linter.unusedSimpArgs false
def spec_ShopFault.f (k : Nat) (l0_0 : List (S96)) (a0_1 : Int) (l0_2 : List Int) (a0_3 : Int) (a0_4 : Int) (l0_5 : List (S74)) (a1_0 : Int) (a1_1 : Int) (a2 : Int) : Option ((List (S96)) × Int × List Int × Int × Int × (List (S74)) × Bool) := (spec_l38Copy.f l0_0 a0_1 l0_2 a0_3 a0_4 l0_5).bind fun bt995 => ((spec_AddEntry.f k l0_5 a1_0 a1_1 a2 a0_4).bind fun bt1008 => ((spec_ShopOk.f k l0_0 a0_1 l0_2 a0_3 a0_4 l0_5).bind fun t1012 => (if t1012 = true then (if bt1008.2 = true then (some (bt995.1, bt995.2.1, bt995.2.2.1, bt995.2.2.2.1, bt995.2.2.2.2.1, bt1008.1, true)) else (some (bt995.1, bt995.2.1, bt995.2.2.1, bt995.2.2.2.1, bt995.2.2.2.2.1, bt995.2.2.2.2.2, false))) else (some (bt995.1, bt995.2.1, bt995.2.2.1, bt995.2.2.2.1, bt995.2.2.2.2.1, bt995.2.2.2.2.2, false)))))
set_option maxHeartbeats 8000000 in
set_option maxRecDepth 100000 in
set_option synthInstance.maxHeartbeats 400000 in
set_option synthInstance.maxSize 100000 in
theorem spec_ShopFault.calls (k : Nat) (A0_0 : Option Addr) (c0_0 : Nat) (l0_0 : List (S96)) (a0_1 : Int) (A0_2 : Option Addr) (c0_2 : Nat) (l0_2 : List Int) (a0_3 : Int) (a0_4 : Int) (A0_5 : Option Addr) (c0_5 : Nat) (l0_5 : List (S74)) (a1_0 : Int) (a1_1 : Int) (a2 : Int) (r1 : List (S96)) (r2 : Int) (r3 : List Int) (r4 : Int) (r5 : Int) (r6 : List (S74)) (r7 : Bool) (w : World) (hr0_0 : Kd.C k96 w A0_0 l0_0.length l0_0) (hc0_0 : l0_0.length ≤ c0_0) (hr0_2 : Kd.C (Kd.int .i64) w A0_2 l0_2.length l0_2) (hc0_2 : l0_2.length ≤ c0_2) (hr0_5 : Kd.C k74 w A0_5 l0_5.length l0_5) (hc0_5 : l0_5.length ≤ c0_5) (h : spec_ShopFault.f k l0_0 a0_1 l0_2 a0_3 a0_4 l0_5 a1_0 a1_1 a2 = some (r1, r2, r3, r4, r5, r6, r7)) :
  Calls Try.prog 36 #[.agg #[.slice A0_0 l0_0.length c0_0, .int .i64 a0_1, .slice A0_2 l0_2.length c0_2, .int .i64 a0_3, .int .i64 a0_4, .slice A0_5 l0_5.length c0_5], .agg #[.int .i64 a1_0, .int .i64 a1_1], .int .i64 a2] w fun e w' => ∃ v0_ v2_ v5_ : Value, e = .returned (.tuple #[.agg #[v0_, .int .i64 r2, v2_, .int .i64 r4, .int .i64 r5, v5_], .bool r7]) ∧ Kd.R k96 96 w' w.heap.size (fun _ => True) v0_ r1 ∧ Kd.R (Kd.int .i64) 3 w' w.heap.size (fun _ => True) v2_ r3 ∧ Kd.R k74 74 w' w.heap.size (fun _ => True) v5_ r6 ∧ Below w.heap.size w w' := by
 have ihr0_0 := RdE.mk hr0_0
 have ihc0_0 := LeI.mk hc0_0
 have ihr0_2 := RdE.mk hr0_2
 have ihc0_2 := LeI.mk hc0_2
 have ihr0_5 := RdE.mk hr0_5
 have ihc0_5 := LeI.mk hc0_5
 clear hr0_0 hc0_0 hr0_2 hc0_2 hr0_5 hc0_5
 unfold spec_ShopFault.f at h
 have hu36 := Try.underlying36
 have hu56 := Try.underlying56
 (repeat' first | ((with_reducible replace h := ite_some h); rcases h with ⟨hc, h⟩ | ⟨hc, h⟩ <;> first | exact (none_some h).elim | exact absurd hc (by decide) | subst hc | (replace hc := Bool.eq_false_iff.mpr hc; subst hc) | (have hd := beq_iff_eq.mpr hc; have he := bne_eq_false_iff_eq.mpr hc; clear hc) | (have hd := beq_eq_false_iff_ne.mpr hc; have he := bne_iff_ne.mpr hc) | (have hd := decide_eq_false hc) | (have hd := decide_eq_true hc) | skip))
 all_goals go_enter Try.func36, Try.ntmps36
 all_goals go_wp2_with (first
  | ((with_reducible refine gate_dst (N := 3) rfl ?_); refine box_event rfl (N := 3) rfl (cs := #[.slice A0_0 l0_0.length c0_0, .int .i64 a0_1, .slice A0_2 l0_2.length c0_2, .int .i64 a0_3, .int .i64 a0_4, .slice A0_5 l0_5.length c0_5]) (t := 36) (by first | (go_simp; done) | (go_simp; rfl)) ?_; intro g hg w1 hk hb; have j1 := Born.mk hg; have j2 := Bel.mk hb; have j3 := Blk.mk hk; clear hg hb hk)
  | ((with_reducible refine gate_dst (N := 4) rfl ?_); refine box_event rfl (N := 4) rfl (cs := #[.int .i64 a1_0, .int .i64 a1_1]) (t := 56) (by first | (go_simp; done) | (go_simp; rfl)) ?_; intro g hg w1 hk hb; have j1 := Born.mk hg; have j2 := Bel.mk hb; have j3 := Blk.mk hk; clear hg hb hk)
  | ((with_reducible refine gate_dst (N := 6) rfl ?_); refine box_event rfl (N := 6) rfl (cs := #[.slice none 0 0, .int .i64 0, .slice none 0 0, .int .i64 0, .int .i64 0, .slice none 0 0]) (t := 36) (by first | (go_simp; done) | (go_simp; rfl)) ?_; intro g hg w1 hk hb; have j1 := Born.mk hg; have j2 := Bel.mk hb; have j3 := Blk.mk hk; clear hg hb hk)
  | ((with_reducible refine gate_dst (N := 8) rfl ?_); refine box_event rfl (N := 8) rfl (cs := #[.slice none 0 0, .int .i64 0, .slice none 0 0, .int .i64 0, .int .i64 0, .slice none 0 0]) (t := 36) (by first | (go_simp; done) | (go_simp; rfl)) ?_; intro g hg w1 hk hb; have j1 := Born.mk hg; have j2 := Bel.mk hb; have j3 := Blk.mk hk; clear hg hb hk)
  | (go_at_call 83; replace h := Option.bind_eq_some_iff.mp h; obtain ⟨⟨t1, t2, t3, t4, t5, t6⟩, A, h⟩ := h; (try dsimp only at h); refine (spec_l38Copy.calls _ _ _ _ _ _ _ _ _ _ _ _ _ _ _ _ _ _ _ Rd.out LeI.out Rd.out LeI.out Rd.out LeI.out A).mono ?_; rintro e w2 ⟨v0, v1, v2, rfl, ho0, ho1, ho2, hb⟩; obtain ⟨B0, b0, rfl⟩ := Kd.R_slice ho0; have j0 := RowE.mk ho0; have q0 := LeI.mk (rowLe j0); obtain ⟨B1, b1, rfl⟩ := Kd.R_slice ho1; have j1 := RowE.mk ho1; have q1 := LeI.mk (rowLe j1); obtain ⟨B2, b2, rfl⟩ := Kd.R_slice ho2; have j2 := RowE.mk ho2; have q2 := LeI.mk (rowLe j2); have jb := Bel.mk hb; clear A ho0 ho1 ho2 hb; (repeat' first | ((with_reducible replace h := ite_some h); rcases h with ⟨hc, h⟩ | ⟨hc, h⟩ <;> first | exact (none_some h).elim | exact absurd hc (by decide) | subst hc | (replace hc := Bool.eq_false_iff.mpr hc; subst hc) | (have hd := beq_iff_eq.mpr hc; have he := bne_eq_false_iff_eq.mpr hc; clear hc) | (have hd := beq_eq_false_iff_ne.mpr hc; have he := bne_iff_ne.mpr hc) | (have hd := decide_eq_false hc) | (have hd := decide_eq_true hc) | skip)))
  | (go_at_call 48; replace h := Option.bind_eq_some_iff.mp h; obtain ⟨⟨t1, t2⟩, A, h⟩ := h; (try dsimp only at h); refine (spec_AddEntry.calls _ _ _ _ _ _ _ _ _ _ _ Rd.out LeI.out A).mono ?_; rintro e w2 ⟨v0, rfl, ho0, hb⟩; obtain ⟨B0, b0, rfl⟩ := Kd.R_slice ho0; have j0 := RowE.mk ho0; have q0 := LeI.mk (rowLe j0); have jb := Bel.mk hb; clear A ho0 hb; (repeat' first | ((with_reducible replace h := ite_some h); rcases h with ⟨hc, h⟩ | ⟨hc, h⟩ <;> first | exact (none_some h).elim | exact absurd hc (by decide) | subst hc | (replace hc := Bool.eq_false_iff.mpr hc; subst hc) | (have hd := beq_iff_eq.mpr hc; have he := bne_eq_false_iff_eq.mpr hc; clear hc) | (have hd := beq_eq_false_iff_ne.mpr hc; have he := bne_iff_ne.mpr hc) | (have hd := decide_eq_false hc) | (have hd := decide_eq_true hc) | skip)))
  | (go_at_call 16; replace h := Option.bind_eq_some_iff.mp h; obtain ⟨t, A, h⟩ := h; (try dsimp only at h); refine (spec_ShopOk.calls _ _ _ _ _ _ _ _ _ _ _ _ _ _ _ Rd.out LeI.out Rd.out LeI.out Rd.out LeI.out A).mono ?_; rintro e w2 ⟨rfl, hb⟩; have jb := Bel.mk hb; clear A hb; (repeat' first | ((with_reducible replace h := ite_some h); rcases h with ⟨hc, h⟩ | ⟨hc, h⟩ <;> first | exact (none_some h).elim | exact absurd hc (by decide) | subst hc | (replace hc := Bool.eq_false_iff.mpr hc; subst hc) | (have hd := beq_iff_eq.mpr hc; have he := bne_eq_false_iff_eq.mpr hc; clear hc) | (have hd := beq_eq_false_iff_ne.mpr hc; have he := bne_iff_ne.mpr hc) | (have hd := decide_eq_false hc) | (have hd := decide_eq_true hc) | skip))))
 all_goals (repeat' first | ((with_reducible replace h := ite_some h); rcases h with ⟨hc, h⟩ | ⟨hc, h⟩ <;> first | exact (none_some h).elim | exact absurd hc (by decide) | subst hc | (replace hc := Bool.eq_false_iff.mpr hc; subst hc) | (have hd := beq_iff_eq.mpr hc; have he := bne_eq_false_iff_eq.mpr hc; clear hc) | (have hd := beq_eq_false_iff_ne.mpr hc; have he := bne_iff_ne.mpr hc) | (have hd := decide_eq_false hc) | (have hd := decide_eq_true hc) | skip))
 all_goals simp only [Option.some.injEq, Prod.mk.injEq] at h
 all_goals obtain ⟨rfl, rfl, rfl, rfl, rfl, rfl, rfl⟩ := h
 all_goals refine bodyPost_ret (results_ct rfl _ _ _ _ _ (0, 0) _ rfl Blk.out Try.underlying36 rfl (by kernel_rfl)) rfl ?_
 all_goals exact ⟨_, _, _, rfl, (by first | exact rowFin | exact Kd.R_nil _ _ _ _ _), (by first | exact rowFin | exact Kd.R_nil _ _ _ _ _), (by first | exact rowFin | exact Kd.R_nil _ _ _ _ _), From.out⟩
end Go.Proofs.Ytbkkpllejgedcaa.P


namespace Go.Proofs.Ytbkkpllejgedcaa.P
open Go.RowKit Go.Proofs.YtbkkpllejgedcaaW.PrintWords Go.Proofs.YtbkkpllejgedcaaW.PrintLast Go.Proofs.YtbkkpllejgedcaaW.PrintMore Go.Proofs.Ytbkkpllejgedcaa.V
attribute [local go_sem] cell_b frozen_b cellR_c cell_r frozen_r cell_r0 frozen_r0
attribute [local go_sem] max2_int min2_int max_two min_two max_three min_three max_four min_four
set_option linter.unusedVariables false
set_option linter.unusedSimpArgs false
def spec_KnockKey.j0 : Nat → Int → Int → Bool → List (S96) → Int → List Int → List (S96) → Int → List Int → Option ((List (S96)) × Int × List Int × Bool)
 | 0, _, _, _, _, _, _, _, _, _ => none
 | k + 1, x1, x2, x31, x1167000, x1167001, x1167002, x1176000, x1176001, x1176002 => if x31 = true then (some (x1176000, x1176001, x1176002, false)) else (if 0 ≤ x1 then (if x1 < (x1176002.length : Int) then ((some (x1176002.set (x1 : Int).toNat (wrap64 ((rd x1176002 x1) + x2)) : List Int)).bind fun y1181 => ((spec_WorkOk.f k x1176000 x1176001 y1181).bind fun t1182 => (if t1182 = true then (some (x1176000, x1176001, y1181, true)) else ((spec_l36Copy.f x1167000 x1167001 x1167002).bind fun bt1183 => (some (bt1183.1, bt1183.2.1, bt1183.2.2, false)))))) else (none)) else (none))
def spec_KnockKey.f (k : Nat) (l0_0 : List (S96)) (a0_1 : Int) (l0_2 : List Int) (a1 : Int) (a2 : Int) : Option ((List (S96)) × Int × List Int × Bool) := (spec_l36Copy.f l0_0 a0_1 l0_2).bind fun bt1168 => ((spec_WorkOk.f k l0_0 a0_1 l0_2).bind fun t1176 => (if t1176 = true then ((spec_l01In.f a1 0 11).bind fun t1177 => (if t1177 = true then ((spec_l01In.f a2 (-100000) 100000).bind fun t1178 => (if t1178 = true then (if 0 ≤ a1 then (if a1 < (l0_2.length : Int) then (spec_KnockKey.j0 k a1 a2 ((rd l0_2 a1) == 0) l0_0 a0_1 l0_2 bt1168.1 bt1168.2.1 bt1168.2.2) else (none)) else (none)) else (spec_KnockKey.j0 k a1 a2 true l0_0 a0_1 l0_2 bt1168.1 bt1168.2.1 bt1168.2.2))) else (spec_KnockKey.j0 k a1 a2 true l0_0 a0_1 l0_2 bt1168.1 bt1168.2.1 bt1168.2.2))) else (spec_KnockKey.j0 k a1 a2 true l0_0 a0_1 l0_2 bt1168.1 bt1168.2.1 bt1168.2.2)))
def spec_KnockKey.T4 : Bool × List (List Nat × List Nat) := (true, [([], []), ([0], [0]), ([], []), ([], []), ([3], [3]), ([], []), ([4, 5], [4, 5]), ([6], [6]), ([], []), ([7, 8], [7, 8]), ([1, 2, 0, 1, 2, 3, 4, 5, 6, 7, 8, 9], [1, 2]), ([10, 9, 0, 1, 2, 3, 4, 5, 6, 7, 8, 9], [9, 10])])
def spec_KnockKey.B4 : List Nat := [0, 1, 0, 0, 8, 0, 56, 120, 0, 504, 1023, 2047]
theorem spec_KnockKey.tab4 : rtab .any (opsOf Try.f85 4) = spec_KnockKey.T4 := by kernel_rfl
theorem spec_KnockKey.bits4 : waitsOk spec_KnockKey.T4.2 spec_KnockKey.B4 = true := by kernel_rfl
set_option maxHeartbeats 8000000 in
set_option maxRecDepth 100000 in
set_option synthInstance.maxHeartbeats 400000 in
set_option synthInstance.maxSize 100000 in
theorem spec_KnockKey.calls (k : Nat) (A0_0 : Option Addr) (c0_0 : Nat) (l0_0 : List (S96)) (a0_1 : Int) (A0_2 : Option Addr) (c0_2 : Nat) (l0_2 : List Int) (a1 : Int) (a2 : Int) (r1 : List (S96)) (r2 : Int) (r3 : List Int) (r4 : Bool) (w : World) (hr0_0 : Kd.C k96 w A0_0 l0_0.length l0_0) (hc0_0 : l0_0.length ≤ c0_0) (hr0_2 : Kd.C (Kd.int .i64) w A0_2 l0_2.length l0_2) (hc0_2 : l0_2.length ≤ c0_2) (h : spec_KnockKey.f k l0_0 a0_1 l0_2 a1 a2 = some (r1, r2, r3, r4)) :
  Calls Try.prog 85 #[.agg #[.slice A0_0 l0_0.length c0_0, .int .i64 a0_1, .slice A0_2 l0_2.length c0_2], .int .i64 a1, .int .i64 a2] w fun e w' => ∃ v0_ v2_ : Value, e = .returned (.tuple #[.agg #[v0_, .int .i64 r2, v2_], .bool r4]) ∧ Kd.R k96 96 w' w.heap.size (fun _ => True) v0_ r1 ∧ Kd.R (Kd.int .i64) 3 w' w.heap.size (fun _ => True) v2_ r3 ∧ Below w.heap.size w w' := by
 have ihr0_0 := RdE.mk hr0_0
 have ihc0_0 := LeI.mk hc0_0
 have ihr0_2 := RdE.mk hr0_2
 have ihc0_2 := LeI.mk hc0_2
 clear hr0_0 hc0_0 hr0_2 hc0_2
 have nt96_3 := NeT.mk (d := k96) (e := 96) (t := 3) (by decide)
 have nt96_33 := NeT.mk (d := k96) (e := 96) (t := 33) (by decide)
 unfold spec_KnockKey.f at h
 have hu33 := Try.underlying33
 (repeat' first | ((with_reducible replace h := ite_some h); rcases h with ⟨hc, h⟩ | ⟨hc, h⟩ <;> first | exact (none_some h).elim | exact absurd hc (by decide) | subst hc | (replace hc := Bool.eq_false_iff.mpr hc; subst hc) | (replace hc := (Bool.not_eq_true' _).mp hc; subst hc) | (replace hc := (Bool.not_eq_false' _).mp (Bool.eq_false_iff.mpr hc); subst hc) | (have hd : (_ == _) = true := hc) | (have hd : (_ == _) = false := Bool.eq_false_iff.mpr hc) | (have hd := beq_iff_eq.mpr hc; have he := bne_eq_false_iff_eq.mpr hc; clear hc) | (have hd := beq_eq_false_iff_ne.mpr hc; have he := bne_iff_ne.mpr hc) | (have hd := decide_eq_false hc) | (have hd := decide_eq_true hc; (try (have hn := Int.natCast_pos.mp hc; have hm := decide_eq_true hn; replace hn := eq_true hn)); first | (obtain ⟨g_, e_, i_⟩ := form_ (by assumption) (by first | assumption | decide) hc; cases e_) | (obtain ⟨a_, e_, c_⟩ := atI_ (by assumption) (by first | assumption | decide) hc; cases e_)) | (have hd := decide_eq_true hc) | skip) | ((with_reducible have hj : spec_KnockKey.j0 k _ _ _ _ _ _ _ _ _ = _ := h); clear hj; rcases k with _ | k <;> rw [spec_KnockKey.j0] at h <;> first | exact (none_some h).elim | skip) | ((with_reducible replace h := bind_set_ h); obtain ⟨hl_, h⟩ := h; replace hl_ := A_ hl_; (try dsimp only at h)))
 all_goals go_enter Try.func85, Try.ntmps85
 all_goals go_wp2_with (first
  | ((with_reducible refine gate_dst (N := 3) rfl ?_); refine box_event rfl (N := 3) rfl (cs := #[.slice A0_0 l0_0.length c0_0, .int .i64 a0_1, .slice A0_2 l0_2.length c0_2]) (t := 33) (by first | (go_simp; done) | (go_simp; rfl)) ?_; intro g hg w1 hk hb; have j1 := Born.mk hg; have j2 := Bel.mk hb; have j3 := Blk.mk hk; clear hg hb hk)
  | ((with_reducible refine gate_dst (N := 6) rfl ?_); refine box_event rfl (N := 6) rfl (cs := #[.slice none 0 0, .int .i64 0, .slice none 0 0]) (t := 33) (by first | (go_simp; done) | (go_simp; rfl)) ?_; intro g hg w1 hk hb; have j1 := Born.mk hg; have j2 := Bel.mk hb; have j3 := Blk.mk hk; clear hg hb hk)
  | ((with_reducible refine gate_dst (N := 8) rfl ?_); refine box_event rfl (N := 8) rfl (cs := #[.slice none 0 0, .int .i64 0, .slice none 0 0]) (t := 33) (by first | (go_simp; done) | (go_simp; rfl)) ?_; intro g hg w1 hk hb; have j1 := Born.mk hg; have j2 := Bel.mk hb; have j3 := Blk.mk hk; clear hg hb hk)
  | (go_at_call 118; (try rw [hl_.out]); replace h := Option.bind_eq_some_iff.mp h; obtain ⟨⟨t1, t2, t3⟩, A, h⟩ := h; (try dsimp only at h); refine (spec_l36Copy.calls _ _ _ _ _ _ _ _ _ _ _ Rd.out LeI.out Rd.out LeI.out A).mono ?_; rintro e w2 ⟨v0, v1, rfl, ho0, ho1, hb⟩; obtain ⟨B0, b0, rfl⟩ := Kd.R_slice ho0; have j0 := RowE.mk ho0; have q0 := LeI.mk (rowLe j0); obtain ⟨B1, b1, rfl⟩ := Kd.R_slice ho1; have j1 := RowE.mk ho1; have q1 := LeI.mk (rowLe j1); have jb := Bel.mk hb; clear A ho0 ho1 hb; (repeat' first | ((with_reducible replace h := ite_some h); rcases h with ⟨hc, h⟩ | ⟨hc, h⟩ <;> first | exact (none_some h).elim | exact absurd hc (by decide) | subst hc | (replace hc := Bool.eq_false_iff.mpr hc; subst hc) | (replace hc := (Bool.not_eq_true' _).mp hc; subst hc) | (replace hc := (Bool.not_eq_false' _).mp (Bool.eq_false_iff.mpr hc); subst hc) | (have hd : (_ == _) = true := hc) | (have hd : (_ == _) = false := Bool.eq_false_iff.mpr hc) | (have hd := beq_iff_eq.mpr hc; have he := bne_eq_false_iff_eq.mpr hc; clear hc) | (have hd := beq_eq_false_iff_ne.mpr hc; have he := bne_iff_ne.mpr hc) | (have hd := decide_eq_false hc) | (have hd := decide_eq_true hc; (try (have hn := Int.natCast_pos.mp hc; have hm := decide_eq_true hn; replace hn := eq_true hn)); first | (obtain ⟨g_, e_, i_⟩ := form_ (by assumption) (by first | assumption | decide) hc; cases e_) | (obtain ⟨a_, e_, c_⟩ := atI_ (by assumption) (by first | assumption | decide) hc; cases e_)) | (have hd := decide_eq_true hc) | skip) | ((with_reducible have hj : spec_KnockKey.j0 k _ _ _ _ _ _ _ _ _ = _ := h); clear hj; rcases k with _ | k <;> rw [spec_KnockKey.j0] at h <;> first | exact (none_some h).elim | skip) | ((with_reducible replace h := bind_set_ h); obtain ⟨hl_, h⟩ := h; replace hl_ := A_ hl_; (try dsimp only at h))))
  | (go_at_call 60; (try rw [hl_.out]); replace h := Option.bind_eq_some_iff.mp h; obtain ⟨t, A, h⟩ := h; (try dsimp only at h); refine (spec_WorkOk.calls _ _ _ _ _ _ _ _ _ _ Rd.out LeI.out Rd.out LeI.out A).mono ?_; rintro e w2 ⟨rfl, hb⟩; have jb := Bel.mk hb; clear A hb; (repeat' first | ((with_reducible replace h := ite_some h); rcases h with ⟨hc, h⟩ | ⟨hc, h⟩ <;> first | exact (none_some h).elim | exact absurd hc (by decide) | subst hc | (replace hc := Bool.eq_false_iff.mpr hc; subst hc) | (replace hc := (Bool.not_eq_true' _).mp hc; subst hc) | (replace hc := (Bool.not_eq_false' _).mp (Bool.eq_false_iff.mpr hc); subst hc) | (have hd : (_ == _) = true := hc) | (have hd : (_ == _) = false := Bool.eq_false_iff.mpr hc) | (have hd := beq_iff_eq.mpr hc; have he := bne_eq_false_iff_eq.mpr hc; clear hc) | (have hd := beq_eq_false_iff_ne.mpr hc; have he := bne_iff_ne.mpr hc) | (have hd := decide_eq_false hc) | (have hd := decide_eq_true hc; (try (have hn := Int.natCast_pos.mp hc; have hm := decide_eq_true hn; replace hn := eq_true hn)); first | (obtain ⟨g_, e_, i_⟩ := form_ (by assumption) (by first | assumption | decide) hc; cases e_) | (obtain ⟨a_, e_, c_⟩ := atI_ (by assumption) (by first | assumption | decide) hc; cases e_)) | (have hd := decide_eq_true hc) | skip) | ((with_reducible have hj : spec_KnockKey.j0 k _ _ _ _ _ _ _ _ _ = _ := h); clear hj; rcases k with _ | k <;> rw [spec_KnockKey.j0] at h <;> first | exact (none_some h).elim | skip) | ((with_reducible replace h := bind_set_ h); obtain ⟨hl_, h⟩ := h; replace hl_ := A_ hl_; (try dsimp only at h))))
  | (go_at_call 62; (try rw [hl_.out]); replace h := Option.bind_eq_some_iff.mp h; obtain ⟨t, A, h⟩ := h; (try dsimp only at h); refine (spec_l01In.calls _ _ _ _ _ A).mono ?_; rintro e w2 ⟨rfl, n, rfl⟩; clear A; (repeat' first | ((with_reducible replace h := ite_some h); rcases h with ⟨hc, h⟩ | ⟨hc, h⟩ <;> first | exact (none_some h).elim | exact absurd hc (by decide) | subst hc | (replace hc := Bool.eq_false_iff.mpr hc; subst hc) | (replace hc := (Bool.not_eq_true' _).mp hc; subst hc) | (replace hc := (Bool.not_eq_false' _).mp (Bool.eq_false_iff.mpr hc); subst hc) | (have hd : (_ == _) = true := hc) | (have hd : (_ == _) = false := Bool.eq_false_iff.mpr hc) | (have hd := beq_iff_eq.mpr hc; have he := bne_eq_false_iff_eq.mpr hc; clear hc) | (have hd := beq_eq_false_iff_ne.mpr hc; have he := bne_iff_ne.mpr hc) | (have hd := decide_eq_false hc) | (have hd := decide_eq_true hc; (try (have hn := Int.natCast_pos.mp hc; have hm := decide_eq_true hn; replace hn := eq_true hn)); first | (obtain ⟨g_, e_, i_⟩ := form_ (by assumption) (by first | assumption | decide) hc; cases e_) | (obtain ⟨a_, e_, c_⟩ := atI_ (by assumption) (by first | assumption | decide) hc; cases e_)) | (have hd := decide_eq_true hc) | skip) | ((with_reducible have hj : spec_KnockKey.j0 k _ _ _ _ _ _ _ _ _ = _ := h); clear hj; rcases k with _ | k <;> rw [spec_KnockKey.j0] at h <;> first | exact (none_some h).elim | skip) | ((with_reducible replace h := bind_set_ h); obtain ⟨hl_, h⟩ := h; replace hl_ := A_ hl_; (try dsimp only at h))))
  | (refine qR (id := 4) (ds := [11]) (l := #[false, false, false, false, false, false, false, false, false, false, false, false]) spec_KnockKey.tab4 spec_KnockKey.bits4 ?_; intro HT_ HW_ w3 jw u0 iu hHeld; refine qA 0 (some 33) HT_ ?_; refine qA 2 (some 35) HT_ ?_; refine qA 3 (some 36) HT_ ?_; refine qA 5 (some 38) HT_ ?_; refine qA 8 (some 41) HT_ ?_; refine qT 1 (some 34) HT_ HW_ hHeld ?_; refine qT 4 (some 37) HT_ HW_ hHeld ?_; refine qA 6 (some 39) HT_ ?_; refine qT 7 (some 40) HT_ HW_ hHeld ?_; refine qA 9 (some 42) HT_ ?_; refine qA 10 (some 43) HT_ ?_; refine qL 11 HT_ ?_; refine qD HT_ ?_))
 all_goals (repeat' first | ((with_reducible replace h := ite_some h); rcases h with ⟨hc, h⟩ | ⟨hc, h⟩ <;> first | exact (none_some h).elim | exact absurd hc (by decide) | subst hc | (replace hc := Bool.eq_false_iff.mpr hc; subst hc) | (replace hc := (Bool.not_eq_true' _).mp hc; subst hc) | (replace hc := (Bool.not_eq_false' _).mp (Bool.eq_false_iff.mpr hc); subst hc) | (have hd : (_ == _) = true := hc) | (have hd : (_ == _) = false := Bool.eq_false_iff.mpr hc) | (have hd := beq_iff_eq.mpr hc; have he := bne_eq_false_iff_eq.mpr hc; clear hc) | (have hd := beq_eq_false_iff_ne.mpr hc; have he := bne_iff_ne.mpr hc) | (have hd := decide_eq_false hc) | (have hd := decide_eq_true hc; (try (have hn := Int.natCast_pos.mp hc; have hm := decide_eq_true hn; replace hn := eq_true hn)); first | (obtain ⟨g_, e_, i_⟩ := form_ (by assumption) (by first | assumption | decide) hc; cases e_) | (obtain ⟨a_, e_, c_⟩ := atI_ (by assumption) (by first | assumption | decide) hc; cases e_)) | (have hd := decide_eq_true hc) | skip) | ((with_reducible have hj : spec_KnockKey.j0 k _ _ _ _ _ _ _ _ _ = _ := h); clear hj; rcases k with _ | k <;> rw [spec_KnockKey.j0] at h <;> first | exact (none_some h).elim | skip) | ((with_reducible replace h := bind_set_ h); obtain ⟨hl_, h⟩ := h; replace hl_ := A_ hl_; (try dsimp only at h)))
 all_goals simp only [Option.some.injEq, Prod.mk.injEq] at h
 all_goals obtain ⟨rfl, rfl, rfl, rfl⟩ := h
 all_goals refine bodyPost_ret (results_ct rfl _ _ _ _ _ (0, 0) _ rfl Blk.out Try.underlying33 rfl (by kernel_rfl)) rfl ?_
 all_goals exact ⟨_, _, rfl, (by first | exact rowFin | exact Kd.R_nil _ _ _ _ _ | exact atFin | exact irowFin' (by simp)), (by first | exact rowFin | exact Kd.R_nil _ _ _ _ _ | exact atFin | exact irowFin' (by simp)), From.out⟩
end Go.Proofs.Ytbkkpllejgedcaa.P


namespace Go.Proofs.Ytbkkpllejgedcaa.P
open Go.RowKit Go.Proofs.YtbkkpllejgedcaaW.PrintWords Go.Proofs.YtbkkpllejgedcaaW.PrintLast Go.Proofs.YtbkkpllejgedcaaW.PrintMore Go.Proofs.Ytbkkpllejgedcaa.V
attribute [local go_sem] cell_b frozen_b
attribute [local go_sem] max2_int min2_int max_two min_two max_three min_three max_four min_four
set_option linter.unusedVariables false
set_option linter.unusedSimpArgs false
def spec_ShopKnock.f (k : Nat) (l0_0 : List (S96)) (a0_1 : Int) (l0_2 : List Int) (a0_3 : Int) (a0_4 : Int) (l0_5 : List (S74)) (a1 : Int) (a2 : Int) : Option ((List (S96)) × Int × List Int × Int × Int × (List (S74)) × Bool) := (spec_l38Copy.f l0_0 a0_1 l0_2 a0_3 a0_4 l0_5).bind fun bt1192 => ((spec_ShopOk.f k l0_0 a0_1 l0_2 a0_3 a0_4 l0_5).bind fun t1205 => (if t1205 = true then ((spec_KnockKey.f k l0_0 a0_1 l0_2 a1 a2).bind fun bt1206 => (some (bt1206.1, bt1206.2.1, bt1206.2.2.1, bt1192.2.2.2.1, bt1192.2.2.2.2.1, bt1192.2.2.2.2.2, bt1206.2.2.2))) else (some (bt1192.1, bt1192.2.1, bt1192.2.2.1, bt1192.2.2.2.1, bt1192.2.2.2.2.1, bt1192.2.2.2.2.2, false))))
set_option maxHeartbeats 8000000 in
set_option maxRecDepth 100000 in
set_option synthInstance.maxHeartbeats 400000 in
set_option synthInstance.maxSize 100000 in
theorem spec_ShopKnock.calls (k : Nat) (A0_0 : Option Addr) (c0_0 : Nat) (l0_0 : List (S96)) (a0_1 : Int) (A0_2 : Option Addr) (c0_2 : Nat) (l0_2 : List Int) (a0_3 : Int) (a0_4 : Int) (A0_5 : Option Addr) (c0_5 : Nat) (l0_5 : List (S74)) (a1 : Int) (a2 : Int) (r1 : List (S96)) (r2 : Int) (r3 : List Int) (r4 : Int) (r5 : Int) (r6 : List (S74)) (r7 : Bool) (w : World) (hr0_0 : Kd.C k96 w A0_0 l0_0.length l0_0) (hc0_0 : l0_0.length ≤ c0_0) (hr0_2 : Kd.C (Kd.int .i64) w A0_2 l0_2.length l0_2) (hc0_2 : l0_2.length ≤ c0_2) (hr0_5 : Kd.C k74 w A0_5 l0_5.length l0_5) (hc0_5 : l0_5.length ≤ c0_5) (h : spec_ShopKnock.f k l0_0 a0_1 l0_2 a0_3 a0_4 l0_5 a1 a2 = some (r1, r2, r3, r4, r5, r6, r7)) :
  Calls Try.prog 39 #[.agg #[.slice A0_0 l0_0.length c0_0, .int .i64 a0_1, .slice A0_2 l0_2.length c0_2, .int .i64 a0_3, .int .i64 a0_4, .slice A0_5 l0_5.length c0_5], .int .i64 a1, .int .i64 a2] w fun e w' => ∃ v0_ v2_ v5_ : Value, e = .returned (.tuple #[.agg #[v0_, .int .i64 r2, v2_, .int .i64 r4, .int .i64 r5, v5_], .bool r7]) ∧ Kd.R k96 96 w' w.heap.size (fun _ => True) v0_ r1 ∧ Kd.R (Kd.int .i64) 3 w' w.heap.size (fun _ => True) v2_ r3 ∧ Kd.R k74 74 w' w.heap.size (fun _ => True) v5_ r6 ∧ Below w.heap.size w w' := by
 have ihr0_0 := RdE.mk hr0_0
 have ihc0_0 := LeI.mk hc0_0
 have ihr0_2 := RdE.mk hr0_2
 have ihc0_2 := LeI.mk hc0_2
 have ihr0_5 := RdE.mk hr0_5
 have ihc0_5 := LeI.mk hc0_5
 clear hr0_0 hc0_0 hr0_2 hc0_2 hr0_5 hc0_5
 unfold spec_ShopKnock.f at h
 have hu33 := Try.underlying33
 have hu36 := Try.underlying36
 (repeat' first | ((with_reducible replace h := ite_some h); rcases h with ⟨hc, h⟩ | ⟨hc, h⟩ <;> first | exact (none_some h).elim | exact absurd hc (by decide) | subst hc | (replace hc := Bool.eq_false_iff.mpr hc; subst hc) | (have hd := beq_iff_eq.mpr hc; have he := bne_eq_false_iff_eq.mpr hc; clear hc) | (have hd := beq_eq_false_iff_ne.mpr hc; have he := bne_iff_ne.mpr hc) | (have hd := decide_eq_false hc) | (have hd := decide_eq_true hc) | skip))
 all_goals go_enter Try.func39, Try.ntmps39
 all_goals go_wp2_with (first
  | ((with_reducible refine gate_dst (N := 3) rfl ?_); refine box_event rfl (N := 3) rfl (cs := #[.slice A0_0 l0_0.length c0_0, .int .i64 a0_1, .slice A0_2 l0_2.length c0_2, .int .i64 a0_3, .int .i64 a0_4, .slice A0_5 l0_5.length c0_5]) (t := 36) (by first | (go_simp; done) | (go_simp; rfl)) ?_; intro g hg w1 hk hb; have j1 := Born.mk hg; have j2 := Bel.mk hb; have j3 := Blk.mk hk; clear hg hb hk)
  | ((with_reducible refine gate_dst (N := 6) rfl ?_); refine box_event rfl (N := 6) rfl (cs := #[.slice none 0 0, .int .i64 0, .slice none 0 0, .int .i64 0, .int .i64 0, .slice none 0 0]) (t := 36) (by first | (go_simp; done) | (go_simp; rfl)) ?_; intro g hg w1 hk hb; have j1 := Born.mk hg; have j2 := Bel.mk hb; have j3 := Blk.mk hk; clear hg hb hk)
  | ((with_reducible refine gate_dst (N := 8) rfl ?_); refine box_event rfl (N := 8) rfl (cs := #[.slice none 0 0, .int .i64 0, .slice none 0 0, .int .i64 0, .int .i64 0, .slice none 0 0]) (t := 36) (by first | (go_simp; done) | (go_simp; rfl)) ?_; intro g hg w1 hk hb; have j1 := Born.mk hg; have j2 := Bel.mk hb; have j3 := Blk.mk hk; clear hg hb hk)
  | ((with_reducible refine gate_dst (N := 9) rfl ?_); refine box_event rfl (N := 9) rfl (cs := #[.slice none 0 0, .int .i64 0, .slice none 0 0]) (t := 33) (by first | (go_simp; done) | (go_simp; rfl)) ?_; intro g hg w1 hk hb; have j1 := Born.mk hg; have j2 := Bel.mk hb; have j3 := Blk.mk hk; clear hg hb hk)
  | (go_at_call 83; replace h := Option.bind_eq_some_iff.mp h; obtain ⟨⟨t1, t2, t3, t4, t5, t6⟩, A, h⟩ := h; (try dsimp only at h); refine (spec_l38Copy.calls _ _ _ _ _ _ _ _ _ _ _ _ _ _ _ _ _ _ _ Rd.out LeI.out Rd.out LeI.out Rd.out LeI.out A).mono ?_; rintro e w2 ⟨v0, v1, v2, rfl, ho0, ho1, ho2, hb⟩; obtain ⟨B0, b0, rfl⟩ := Kd.R_slice ho0; have j0 := RowE.mk ho0; have q0 := LeI.mk (rowLe j0); obtain ⟨B1, b1, rfl⟩ := Kd.R_slice ho1; have j1 := RowE.mk ho1; have q1 := LeI.mk (rowLe j1); obtain ⟨B2, b2, rfl⟩ := Kd.R_slice ho2; have j2 := RowE.mk ho2; have q2 := LeI.mk (rowLe j2); have jb := Bel.mk hb; clear A ho0 ho1 ho2 hb; (repeat' first | ((with_reducible replace h := ite_some h); rcases h with ⟨hc, h⟩ | ⟨hc, h⟩ <;> first | exact (none_some h).elim | exact absurd hc (by decide) | subst hc | (replace hc := Bool.eq_false_iff.mpr hc; subst hc) | (have hd := beq_iff_eq.mpr hc; have he := bne_eq_false_iff_eq.mpr hc; clear hc) | (have hd := beq_eq_false_iff_ne.mpr hc; have he := bne_iff_ne.mpr hc) | (have hd := decide_eq_false hc) | (have hd := decide_eq_true hc) | skip)))
  | (go_at_call 16; replace h := Option.bind_eq_some_iff.mp h; obtain ⟨t, A, h⟩ := h; (try dsimp only at h); refine (spec_ShopOk.calls _ _ _ _ _ _ _ _ _ _ _ _ _ _ _ Rd.out LeI.out Rd.out LeI.out Rd.out LeI.out A).mono ?_; rintro e w2 ⟨rfl, hb⟩; have jb := Bel.mk hb; clear A hb; (repeat' first | ((with_reducible replace h := ite_some h); rcases h with ⟨hc, h⟩ | ⟨hc, h⟩ <;> first | exact (none_some h).elim | exact absurd hc (by decide) | subst hc | (replace hc := Bool.eq_false_iff.mpr hc; subst hc) | (have hd := beq_iff_eq.mpr hc; have he := bne_eq_false_iff_eq.mpr hc; clear hc) | (have hd := beq_eq_false_iff_ne.mpr hc; have he := bne_iff_ne.mpr hc) | (have hd := decide_eq_false hc) | (have hd := decide_eq_true hc) | skip)))
  | (go_at_call 85; replace h := Option.bind_eq_some_iff.mp h; obtain ⟨⟨t1, t2, t3, t4⟩, A, h⟩ := h; (try dsimp only at h); refine (spec_KnockKey.calls _ _ _ _ _ _ _ _ _ _ _ _ _ _ _ Rd.out LeI.out Rd.out LeI.out A).mono ?_; rintro e w2 ⟨v0, v1, rfl, ho0, ho1, hb⟩; obtain ⟨B0, b0, rfl⟩ := Kd.R_slice ho0; have j0 := RowE.mk ho0; have q0 := LeI.mk (rowLe j0); obtain ⟨B1, b1, rfl⟩ := Kd.R_slice ho1; have j1 := RowE.mk ho1; have q1 := LeI.mk (rowLe j1); have jb := Bel.mk hb; clear A ho0 ho1 hb; (repeat' first | ((with_reducible replace h := ite_some h); rcases h with ⟨hc, h⟩ | ⟨hc, h⟩ <;> first | exact (none_some h).elim | exact absurd hc (by decide) | subst hc | (replace hc := Bool.eq_false_iff.mpr hc; subst hc) | (have hd := beq_iff_eq.mpr hc; have he := bne_eq_false_iff_eq.mpr hc; clear hc) | (have hd := beq_eq_false_iff_ne.mpr hc; have he := bne_iff_ne.mpr hc) | (have hd := decide_eq_false hc) | (have hd := decide_eq_true hc) | skip))))
 all_goals (repeat' first | ((with_reducible replace h := ite_some h); rcases h with ⟨hc, h⟩ | ⟨hc, h⟩ <;> first | exact (none_some h).elim | exact absurd hc (by decide) | subst hc | (replace hc := Bool.eq_false_iff.mpr hc; subst hc) | (have hd := beq_iff_eq.mpr hc; have he := bne_eq_false_iff_eq.mpr hc; clear hc) | (have hd := beq_eq_false_iff_ne.mpr hc; have he := bne_iff_ne.mpr hc) | (have hd := decide_eq_false hc) | (have hd := decide_eq_true hc) | skip))
 all_goals simp only [Option.some.injEq, Prod.mk.injEq] at h
 all_goals obtain ⟨rfl, rfl, rfl, rfl, rfl, rfl, rfl⟩ := h
 all_goals refine bodyPost_ret (results_ct rfl _ _ _ _ _ (0, 0) _ rfl Blk.out Try.underlying36 rfl (by kernel_rfl)) rfl ?_
 all_goals exact ⟨_, _, _, rfl, (by first | exact rowFin | exact Kd.R_nil _ _ _ _ _), (by first | exact rowFin | exact Kd.R_nil _ _ _ _ _), (by first | exact rowFin | exact Kd.R_nil _ _ _ _ _), From.out⟩
end Go.Proofs.Ytbkkpllejgedcaa.P


namespace Go.Proofs.Ytbkkpllejgedcaa.P
open Go.RowKit Go.Proofs.YtbkkpllejgedcaaW.PrintWords Go.Proofs.YtbkkpllejgedcaaW.PrintLast Go.Proofs.YtbkkpllejgedcaaW.PrintMore
attribute [local go_sem] max2_int min2_int max_two min_two max_three min_three max_four min_four
set_option linter.unusedVariables false
set_option linter.unusedSimpArgs false
def spec_WrongSteps.l0 : Nat → List Int → Int → List (S96) → Int → List Int → Option (List Int)
 | 0, _, _, _, _, _ => none
 | k + 1, x3, x4, x511000, x511001, x511002 => if x4 < x511001 then (if 0 ≤ x4 then (if x4 < (x511000.length : Int) then (if 0 ≤ ((rd_T96 x511000 x4).f1) then (if ((rd_T96 x511000 x4).f1) < (x511002.length : Int) then (if 0 ≤ ((rd_T96 x511000 x4).f0) then (if ((rd_T96 x511000 x4).f0) < (x511002.length : Int) then ((spec_TunedPitch.f k (rd x511002 ((rd_T96 x511000 x4).f0)) ((rd_T96 x511000 x4).f2) ((rd_T96 x511000 x4).f3)).bind fun t519 => (if (rd x511002 ((rd_T96 x511000 x4).f1)) = t519 then (spec_WrongSteps.l0 k x3 (wrap64 (x4 + 1)) x511000 x511001 x511002) else (if x3.length < 17592186044416 then (spec_WrongSteps.l0 k (x3 ++ [x4]) (wrap64 (x4 + 1)) x511000 x511001 x511002) else (none)))) else (none)) else (none)) else (none)) else (none)) else (none)) else (none)) else (some x3)
def spec_WrongSteps.f (k : Nat) (l0_0 : List (S96)) (a0_1 : Int) (l0_2 : List Int) : Option (List Int) := (some (([] : List Int) : List Int)).bind fun y511 => ((spec_WorkOk.f k l0_0 a0_1 l0_2).bind fun t514 => (if t514 = true then (spec_WrongSteps.l0 k y511 0 l0_0 a0_1 l0_2) else (some y511)))
def spec_WrongSteps.T8 : Bool × List (List Nat × List Nat) := (true, [([], []), ([0], [0]), ([], []), ([2], [2]), ([1, 3], [1, 3]), ([4], [4]), ([], []), ([6], [6]), ([], []), ([8], [8]), ([7, 9], [7, 9]), ([10], [10]), ([], []), ([12], [12]), ([], []), ([14], [14]), ([11, 13, 15], [11, 13, 15]), ([5, 16], [5, 16])])
def spec_WrongSteps.B8 : List Nat := [0, 1, 0, 4, 15, 31, 0, 64, 0, 256, 960, 1984, 0, 4096, 0, 16384, 65472, 131071]
theorem spec_WrongSteps.tab8 : rtab .any (opsOf Try.f79 8) = spec_WrongSteps.T8 := by kernel_rfl
theorem spec_WrongSteps.bits8 : waitsOk spec_WrongSteps.T8.2 spec_WrongSteps.B8 = true := by kernel_rfl
set_option maxHeartbeats 8000000 in
set_option maxRecDepth 100000 in
theorem spec_WrongSteps.calls (k : Nat) (A0_0 : Option Addr) (c0_0 : Nat) (l0_0 : List (S96)) (a0_1 : Int) (A0_2 : Option Addr) (c0_2 : Nat) (l0_2 : List Int) (r : List Int) (w : World) (hr0_0 : Kd.C k96 w A0_0 l0_0.length l0_0) (hc0_0 : l0_0.length ≤ c0_0) (hr0_2 : Kd.C (Kd.int .i64) w A0_2 l0_2.length l0_2) (hc0_2 : l0_2.length ≤ c0_2) (h : spec_WrongSteps.f k l0_0 a0_1 l0_2 = some r) :
  Calls Try.prog 79 #[.agg #[.slice A0_0 l0_0.length c0_0, .int .i64 a0_1, .slice A0_2 l0_2.length c0_2]] w fun e w' => ∃ v0_ : Value, e = .returned (v0_) ∧ Kd.R (Kd.int .i64) 3 w' w.heap.size (fun _ => True) v0_ r ∧ Below w.heap.size w w' := by
 have hu33 := Try.underlying33
 have hu96 := Try.underlying96
 have HR0_0 := A_ hr0_0
 have HC0_0 := A_ hc0_0
 clear hr0_0 hc0_0
 have HR0_2 := A_ hr0_2
 have HC0_2 := A_ hc0_2
 clear hr0_2 hc0_2
 have HB := A_ (Below.refl w.heap.size w)
 have H : ((some (([] : List Int) : List Int)).bind fun y511 => ((spec_WorkOk.f k l0_0 a0_1 l0_2).bind fun t514 => (if t514 = true then (spec_WrongSteps.l0 k y511 0 l0_0 a0_1 l0_2) else (some y511)))) = some r := h
 clear h
 obtain ⟨y511, hy511⟩ : ∃ y_ : List Int, y_ = (([] : List Int)) := ⟨_, rfl⟩
 replace H : ((spec_WorkOk.f k l0_0 a0_1 l0_2).bind fun t514 => (if t514 = true then (spec_WrongSteps.l0 k y511 0 l0_0 a0_1 l0_2) else (some y511))) = some r := by first | (rw [hy511]; with_reducible exact H) | (have H2_ := (Option.bind_some _ _).symm.trans H; rw [hy511]; with_reducible exact H2_) | (have H2_ := (Option.bind_some _ _).symm.trans H; with_reducible exact H2_) | with_reducible exact H | (rw [hy511]; exact H) | exact H
 have Ny511 := A_ hy511
 clear hy511
 replace H := Option.bind_eq_some_iff.mp H
 obtain ⟨t514, A20, H⟩ := H
 (try dsimp only at H)
 have A2 := A_ A20
 clear A20
 by_cases c3 : t514 = true
 ·subst c3
  rw [if_pos rfl] at H
  have H' := A_ H
  clear H
  go_enter Try.func79, Try.ntmps79
  go_wp2_with (first | ((with_reducible refine gate_dst (N := 1) rfl ?_); refine bX (N := 1) (cs := #[.slice A0_0 l0_0.length c0_0, .int .i64 a0_1, .slice A0_2 l0_2.length c0_2]) (t := 33) ?_; intro gb510 hg w4 hbox hb; have n0_ := A_ (below_step (oB HB) hb); have n1_ := A_ (hbox); have n2_ := A_ ((by rw [hg]; exact (below_size (oB HB)) : w.heap.size ≤ gb510)); have n3_ := A_ ((by rw [hg]; exact (below_size (oB HB)) : w.heap.size ≤ gb510)); clear HB; have HB := n0_; have BK510 := n1_; have GW510 := n2_; have GE510 := n3_; clear n0_ n1_ n2_ n3_; clear hb hbox hg) | ((with_reducible refine gate_dst (N := 6) rfl ?_); refine Kd.R_lit (Kd.int .i64) _ 3 ?hg (N := 6) ?hd (xs := ([] : List Int)) (inner := []) (ok := fun _ => True) (okp := fun _ => True) ?hr ?hp (fun _ hk => hk) trivial (Below.refl _ _) (Nat.le_refl _) (by simp) ?_; (case hd => rfl); (case hg => rfl); (case hr => first | (go_simp; done) | (go_simp; rfl)); (case hp => exact (Reps.none _ _)); intro v512 w5 ho6 hb hg_ hnew_; clear hg_ hnew_; (first | rw [← Ny511.out] at ho6 | (simp only [Int.reduceToNat] at ho6; rw [← Ny511.out] at ho6)); have n0_ := A_ (Kd.R_lower ho6 (below_size (oB HB))); have n1_ := A_ (bb BK510 hb); have n2_ := A_ (below_step (oB HB) hb); clear BK510; clear HB; have HO513 := n0_; have BK510 := n1_; have HB := n2_; clear n0_ n1_ n2_; clear hb ho6; have hcz7_0 := cz BK510 0; have hcz7_1 := cz BK510 1; have hcz7_2 := cz BK510 2; have hfz7_0 := blk_frozen BK510.out 0; have hfz7_1 := blk_frozen BK510.out 1; have hfz7_2 := blk_frozen BK510.out 2) | ((with_reducible refine gate_callee (f := 60) rfl ?_); refine gL (some 8) Try.func60 #[.agg #[.slice A0_0 l0_0.length c0_0, .int .i64 a0_1, .slice A0_2 l0_2.length c0_2]] ?_; (with_reducible refine (spec_WorkOk.calls k _ _ l0_0 a0_1 _ _ l0_2 true _ ?side1 ?side2 ?side3 ?side4 A2.out).mono ?_); (case side1 => exact oc_ HR0_0.out); (case side2 => exact HC0_0.out); (case side3 => exact oc_ HR0_2.out); (case side4 => exact HC0_2.out); rintro e w8 ⟨rfl, hb⟩; refine ⟨_, rfl, ?_⟩; have n0_ := A_ (Kd.R_below (oR HO513) hb); have n1_ := A_ (bb BK510 hb); have n2_ := A_ (below_step (oB HB) hb); clear HO513; clear BK510; clear HB; have HO513 := n0_; have BK510 := n1_; have HB := n2_; clear n0_ n1_ n2_; (try clear hb); (try clear hb2); (try clear hk); (try clear hi)))
  go_loopg [3, 4] k (fun kq v3 v4 w' => ∃ (x3_1 : List Int) (x4_1 : Int), v4 = .int .i64 x4_1 ∧ Aside0 (spec_WrongSteps.l0 kq x3_1 x4_1 l0_0 a0_1 l0_2 = some r) ∧ Aside0 (kq ≤ k) ∧ Aside0 (Kd.R (Kd.int .i64) 3 w' w.heap.size (fun _ => True) v3 x3_1) ∧ Aside0 (w'.heap[gb510]? = some (.cells #[(.slice A0_0 l0_0.length c0_0), .int .i64 a0_1, (.slice A0_2 l0_2.length c0_2)] 33 (0, 0))) ∧ Aside0 (Below w.heap.size w w'))
  case atStart => exact ⟨(y511), (0), (by first | rfl | (simp; done) | (simp [*]; done)), H', ⟨Nat.le_refl _⟩, ⟨oR HO513⟩, ⟨oK BK510⟩, ⟨oB HB⟩⟩
  case round =>
   clear H'
   try clear p2
   try clear c3
   try clear c6
   try clear c7
   try clear hcz7_0
   try clear hcz7_1
   try clear hcz7_2
   try clear hfz7_0
   try clear hfz7_1
   try clear hfz7_2
   obtain ⟨x3_1, x4_1, rfl, HA, HK1, HO_3, BK510, HB⟩ := hrel
   cases gk with
   | zero => exact absurd HA.out (by simp [spec_WrongSteps.l0])
   | succ k1 =>
    have H := HA.out
    clear HA
    simp only [spec_WrongSteps.l0] at H
    by_cases c9 : x4_1 < a0_1
    ·rw [if_pos c9] at H
     have c9b0 : decide (x4_1 < a0_1) = true := decide_eq_true c9
     clear c9
     by_cases c10 : 0 ≤ x4_1
     ·rw [if_pos c10] at H
      have c10b0 : decide (0 ≤ x4_1) = true := decide_eq_true c10
      clear c10
      by_cases c11 : x4_1 < (l0_0.length : Int)
      ·rw [if_pos c11] at H
       have c11b0 : decide (x4_1 < (l0_0.length : Int)) = true := decide_eq_true c11
       clear c11
       by_cases c12 : 0 ≤ ((rd_T96 l0_0 x4_1).f1)
       ·rw [if_pos c12] at H
        have c12b0 : decide (0 ≤ ((rd_T96 l0_0 x4_1).f1)) = true := decide_eq_true c12
        clear c12
        by_cases c13 : ((rd_T96 l0_0 x4_1).f1) < (l0_2.length : Int)
        ·rw [if_pos c13] at H
         have c13b0 : decide (((rd_T96 l0_0 x4_1).f1) < (l0_2.length : Int)) = true := decide_eq_true c13
         clear c13
         by_cases c14 : 0 ≤ ((rd_T96 l0_0 x4_1).f0)
         ·rw [if_pos c14] at H
          have c14b0 : decide (0 ≤ ((rd_T96 l0_0 x4_1).f0)) = true := decide_eq_true c14
          clear c14
          by_cases c15 : ((rd_T96 l0_0 x4_1).f0) < (l0_2.length : Int)
          ·rw [if_pos c15] at H
           have c15b0 : decide (((rd_T96 l0_0 x4_1).f0) < (l0_2.length : Int)) = true := decide_eq_true c15
           clear c15
           replace H := Option.bind_eq_some_iff.mp H
           obtain ⟨t519, A160, H⟩ := H
           (try dsimp only at H)
           have A16 := A_ A160
           clear A160
           by_cases c17 : (rd l0_2 ((rd_T96 l0_0 x4_1).f1)) = t519
           ·rw [if_pos c17] at H
            have c17b0 : ((rd l0_2 ((rd_T96 l0_0 x4_1).f1)) == t519) = true := beq_iff_eq.mpr c17
            have c17b1 : ((rd l0_2 ((rd_T96 l0_0 x4_1).f1)) != t519) = false := bne_eq_false_iff_eq.mpr c17
            clear c17
            have H' := A_ H
            clear H
            have hcz18_0 := cz BK510 0
            have hcz18_1 := cz BK510 1
            have hcz18_2 := cz BK510 2
            have hfz18_0 := blk_frozen BK510.out 0
            have hfz18_1 := blk_frozen BK510.out 1
            have hfz18_2 := blk_frozen BK510.out 2
            have p515 : 0 ≤ (x4_1 : Int) := of_decide_eq_true (by first | (with_reducible assumption) | assumption)
            have q515 : x4_1 < (l0_0.length : Int) := of_decide_eq_true (by first | (with_reducible assumption) | assumption)
            obtain ⟨ad515, e515, hx515_0, hx515_1, hx515_2, hx515_3⟩ := at_T96 HR0_0.out x4_1 p515 q515
            cases e515
            replace hx515_0 := (HB.out.cell (World.block_lt_of_cell? w _ hx515_0)).trans hx515_0
            replace hx515_1 := (HB.out.cell (World.block_lt_of_cell? w _ hx515_1)).trans hx515_1
            replace hx515_2 := (HB.out.cell (World.block_lt_of_cell? w _ hx515_2)).trans hx515_2
            replace hx515_3 := (HB.out.cell (World.block_lt_of_cell? w _ hx515_3)).trans hx515_3
            replace p515 := eq_true p515
            replace q515 := eq_true q515
            try go_wp2_with (first | ((with_reducible refine gate_dst (N := 5) rfl ?_); refine bX (N := 5) (cs := #[.int .i64 0, .int .i64 0, .int .i64 0, .int .i64 0]) (t := 96) ?_; intro gb516 hg w19 hbox hb; have n0_ := A_ (Kd.R_below (oR HO_3) hb); have n1_ := A_ (bb BK510 hb); have n2_ := A_ (below_step (oB HB) hb); have n3_ := A_ (hbox); have n4_ := A_ ((by rw [hg]; exact (below_size (oB HB)) : w.heap.size ≤ gb516)); have n5_ := A_ ((by rw [hg]; exact (below_size (oB HB)) : w.heap.size ≤ gb516)); have n6_ := A_ (nL BK510 hg); have n7_ := A_ (nG BK510 hg); clear HO_3; clear BK510; clear HB; have HO_3 := n0_; have BK510 := n1_; have HB := n2_; have BK516 := n3_; have GW516 := n4_; have GE516 := n5_; have NB510_516 := n6_; have NB516_510 := n7_; clear n0_ n1_ n2_ n3_ n4_ n5_ n6_ n7_; clear hb hbox hg; have hnb20 := NB516_510.out; have hnc20 := NB510_516.out; have hcz21_0 := cz BK516 0; have hcz21_1 := cz BK516 1; have hcz21_2 := cz BK516 2; have hcz21_3 := cz BK516 3; have hfz21_0 := blk_frozen BK516.out 0; have hfz21_1 := blk_frozen BK516.out 1; have hfz21_2 := blk_frozen BK516.out 2; have hfz21_3 := blk_frozen BK516.out 3))
            have n0_ : Aside0 (Kd.R (Kd.int .i64) 3 ((((w19.setCell ⟨gb516, 0, none⟩ (.int .i64 ((rd_T96 l0_0 x4_1).f0))).setCell ⟨gb516, 1, none⟩ (.int .i64 ((rd_T96 l0_0 x4_1).f1))).setCell ⟨gb516, 2, none⟩ (.int .i64 ((rd_T96 l0_0 x4_1).f2))).setCell ⟨gb516, 3, none⟩ (.int .i64 ((rd_T96 l0_0 x4_1).f3))) w.heap.size (fun _ => True) u3 x3_1) := ⟨by (with_reducible repeat (first | apply Kd.R_alloc | apply Kd.R_drewN | apply Kd.R_drew)); exact Kd.R_mono (Kd.R_far (p := ⟨gb516, 3, none⟩) (Kd.R_far (p := ⟨gb516, 2, none⟩) (Kd.R_far (p := ⟨gb516, 1, none⟩) (Kd.R_far (p := ⟨gb516, 0, none⟩) (Kd.R_types HO_3.out BK516.out (by decide)) (fun _ hk => hk.2) (.int .i64 ((rd_T96 l0_0 x4_1).f0))) (fun _ hk => hk.2) (.int .i64 ((rd_T96 l0_0 x4_1).f1))) (fun _ hk => hk.2) (.int .i64 ((rd_T96 l0_0 x4_1).f2))) (fun _ hk => hk.2) (.int .i64 ((rd_T96 l0_0 x4_1).f3))) (fun _ hk => trivial)⟩
            have n1_ : Aside0 (((((w19.setCell ⟨gb516, 0, none⟩ (.int .i64 ((rd_T96 l0_0 x4_1).f0))).setCell ⟨gb516, 1, none⟩ (.int .i64 ((rd_T96 l0_0 x4_1).f1))).setCell ⟨gb516, 2, none⟩ (.int .i64 ((rd_T96 l0_0 x4_1).f2))).setCell ⟨gb516, 3, none⟩ (.int .i64 ((rd_T96 l0_0 x4_1).f3))).heap[gb510]? = some (.cells #[.slice (some ad515) l0_0.length c0_0, .int .i64 a0_1, .slice A0_2 l0_2.length c0_2] 33 (0, 0))) := ⟨by (with_reducible repeat (first | refine blk_drewN ?_ _ | refine blk_drew ?_ | refine blk_alloc ?_ _)); refine blk_far ?_ NB510_516.out _; (with_reducible repeat (first | refine blk_drewN ?_ _ | refine blk_drew ?_ | refine blk_alloc ?_ _)); refine blk_far ?_ NB510_516.out _; (with_reducible repeat (first | refine blk_drewN ?_ _ | refine blk_drew ?_ | refine blk_alloc ?_ _)); refine blk_far ?_ NB510_516.out _; (with_reducible repeat (first | refine blk_drewN ?_ _ | refine blk_drew ?_ | refine blk_alloc ?_ _)); refine blk_far ?_ NB510_516.out _; (with_reducible repeat (first | refine blk_drewN ?_ _ | refine blk_drew ?_ | refine blk_alloc ?_ _)); exact BK510.out⟩
            have n2_ : Aside0 (((((w19.setCell ⟨gb516, 0, none⟩ (.int .i64 ((rd_T96 l0_0 x4_1).f0))).setCell ⟨gb516, 1, none⟩ (.int .i64 ((rd_T96 l0_0 x4_1).f1))).setCell ⟨gb516, 2, none⟩ (.int .i64 ((rd_T96 l0_0 x4_1).f2))).setCell ⟨gb516, 3, none⟩ (.int .i64 ((rd_T96 l0_0 x4_1).f3))).heap[gb516]? = some (.cells #[.int .i64 ((rd_T96 l0_0 x4_1).f0), .int .i64 ((rd_T96 l0_0 x4_1).f1), .int .i64 ((rd_T96 l0_0 x4_1).f2), .int .i64 ((rd_T96 l0_0 x4_1).f3)] 96 (0, 0))) := ⟨by (with_reducible repeat (first | refine blk_drewN ?_ _ | refine blk_drew ?_ | refine blk_alloc ?_ _)); refine blk_put (cs := #[.int .i64 ((rd_T96 l0_0 x4_1).f0), .int .i64 ((rd_T96 l0_0 x4_1).f1), .int .i64 ((rd_T96 l0_0 x4_1).f2), .int .i64 0]) ?_ 3 _ rfl; (with_reducible repeat (first | refine blk_drewN ?_ _ | refine blk_drew ?_ | refine blk_alloc ?_ _)); refine blk_put (cs := #[.int .i64 ((rd_T96 l0_0 x4_1).f0), .int .i64 ((rd_T96 l0_0 x4_1).f1), .int .i64 0, .int .i64 0]) ?_ 2 _ rfl; (with_reducible repeat (first | refine blk_drewN ?_ _ | refine blk_drew ?_ | refine blk_alloc ?_ _)); refine blk_put (cs := #[.int .i64 ((rd_T96 l0_0 x4_1).f0), .int .i64 0, .int .i64 0, .int .i64 0]) ?_ 1 _ rfl; (with_reducible repeat (first | refine blk_drewN ?_ _ | refine blk_drew ?_ | refine blk_alloc ?_ _)); refine blk_put (cs := #[.int .i64 0, .int .i64 0, .int .i64 0, .int .i64 0]) ?_ 0 _ rfl; (with_reducible repeat (first | refine blk_drewN ?_ _ | refine blk_drew ?_ | refine blk_alloc ?_ _)); exact BK516.out⟩
            have n3_ : Aside0 (Below w.heap.size w ((((w19.setCell ⟨gb516, 0, none⟩ (.int .i64 ((rd_T96 l0_0 x4_1).f0))).setCell ⟨gb516, 1, none⟩ (.int .i64 ((rd_T96 l0_0 x4_1).f1))).setCell ⟨gb516, 2, none⟩ (.int .i64 ((rd_T96 l0_0 x4_1).f2))).setCell ⟨gb516, 3, none⟩ (.int .i64 ((rd_T96 l0_0 x4_1).f3)))) := ⟨oB HB⟩
            (try clear HO_3)
            (try clear BK510)
            (try clear BK516)
            (try clear HB)
            generalize ((((w19.setCell ⟨gb516, 0, none⟩ (.int .i64 ((rd_T96 l0_0 x4_1).f0))).setCell ⟨gb516, 1, none⟩ (.int .i64 ((rd_T96 l0_0 x4_1).f1))).setCell ⟨gb516, 2, none⟩ (.int .i64 ((rd_T96 l0_0 x4_1).f2))).setCell ⟨gb516, 3, none⟩ (.int .i64 ((rd_T96 l0_0 x4_1).f3))) = w22 at n0_ n1_ n2_ n3_ ⊢
            have HO_3 := n0_
            have BK510 := n1_
            have BK516 := n2_
            have HB := n3_
            clear n0_ n1_ n2_ n3_
            have n0_ := A_ (Kd.R_drew HO_3.out)
            have n1_ := A_ (blk_drew BK510.out)
            have n2_ := A_ (blk_drew BK516.out)
            have n3_ := A_ (below_drew1 HB.out)
            clear HO_3
            clear BK510
            clear BK516
            clear HB
            have HO_3 := n0_
            have BK510 := n1_
            have BK516 := n2_
            have HB := n3_
            clear n0_ n1_ n2_ n3_
            have p517 : 0 ≤ (((rd_T96 l0_0 x4_1).f1) : Int) := of_decide_eq_true (by first | (with_reducible assumption) | assumption)
            have q517 : ((rd_T96 l0_0 x4_1).f1) < (l0_2.length : Int) := of_decide_eq_true (by first | (with_reducible assumption) | assumption)
            obtain ⟨ad517, e517, hx517_0⟩ := Kd.at_int HR0_2.out ((rd_T96 l0_0 x4_1).f1) p517 q517
            have hw517_0 := hx517_0
            cases e517
            replace hx517_0 := (HB.out.cell (World.block_lt_of_cell? w _ hx517_0)).trans hx517_0
            replace p517 := eq_true p517
            replace q517 := eq_true q517
            have p518 : 0 ≤ (((rd_T96 l0_0 x4_1).f0) : Int) := of_decide_eq_true (by first | (with_reducible assumption) | assumption)
            have q518 : ((rd_T96 l0_0 x4_1).f0) < (l0_2.length : Int) := of_decide_eq_true (by first | (with_reducible assumption) | assumption)
            obtain ⟨ad518, e518, hx518_0⟩ := Kd.at_int HR0_2.out ((rd_T96 l0_0 x4_1).f0) p518 q518
            have hw518_0 := hx518_0
            obtain rfl : ad517 = ad518 := (by injection e518)
            replace hx518_0 := (HB.out.cell (World.block_lt_of_cell? w _ hx518_0)).trans hx518_0
            replace p518 := eq_true p518
            replace q518 := eq_true q518
            refine start_ (n := 18) (S := fun w' => w'.cell? ⟨gb510, 0, none⟩ = some (.slice (some ad515) l0_0.length c0_0) ∧ w'.cell? ⟨gb510, 1, none⟩ = some (.int .i64 a0_1) ∧ w'.cell? ⟨gb510, 2, none⟩ = some (.slice (some ad517) l0_2.length c0_2) ∧ w'.cell? ⟨gb516, 0, none⟩ = some (.int .i64 ((rd_T96 l0_0 x4_1).f0)) ∧ w'.cell? ⟨gb516, 1, none⟩ = some (.int .i64 ((rd_T96 l0_0 x4_1).f1)) ∧ w'.cell? ⟨gb516, 2, none⟩ = some (.int .i64 ((rd_T96 l0_0 x4_1).f2)) ∧ w'.cell? ⟨gb516, 3, none⟩ = some (.int .i64 ((rd_T96 l0_0 x4_1).f3)) ∧ w'.cell? (ad517.add (((rd_T96 l0_0 x4_1).f1)).toNat) = some (.int .i64 (rd l0_2 ((rd_T96 l0_0 x4_1).f1))) ∧ w'.cell? (ad517.add (((rd_T96 l0_0 x4_1).f0)).toNat) = some (.int .i64 (rd l0_2 ((rd_T96 l0_0 x4_1).f0)))) (ds := []) #[false, false, false, false, false, false, false, false, false, false, false, false, false, false, false, false, false, false] (by kernel_rfl) rfl rfl ⟨cz BK510 0, cz BK510 1, cz BK510 2, cz BK516 0, cz BK516 1, cz BK516 2, cz BK516 3, ((HB.out.cell (World.block_lt_of_cell? w _ hw517_0)).trans hw517_0), ((HB.out.cell (World.block_lt_of_cell? w _ hw518_0)).trans hw518_0)⟩ (fun hHeld => ?_); refine with_tabW spec_WrongSteps.tab8 spec_WrongSteps.bits8 (fun HT_ HW_ => ?_)
            generalize w22.drew = w23 at HO_3 BK510 BK516 HB hx517_0 hx518_0 hHeld ⊢
            refine pA 0 (some 22) HT_.out ?_
            refine pA 2 (some 24) HT_.out ?_
            refine pA 6 (some 28) HT_.out ?_
            refine pA 8 (some 30) HT_.out ?_
            refine pA 12 (some 34) HT_.out ?_
            refine pA 14 (some 36) HT_.out ?_
            refine pT 1 (some 23) HT_.out HW_.out hHeld ?_
            refine pT 3 (some 25) HT_.out HW_.out hHeld ?_
            refine pA 4 (some 26) HT_.out ?_
            refine pT 5 (some 27) HT_.out HW_.out hHeld ?_
            refine pT 7 (some 29) HT_.out HW_.out hHeld ?_
            refine pT 9 (some 31) HT_.out HW_.out hHeld ?_
            refine pA 10 (some 32) HT_.out ?_
            refine pT 11 (some 33) HT_.out HW_.out hHeld ?_
            refine pT 13 (some 35) HT_.out HW_.out hHeld ?_
            refine pT 15 (some 37) HT_.out HW_.out hHeld ?_
            refine one_ (i := 16) (N := some 38) #[true, true, true, true, true, true, true, true, true, true, true, true, true, true, true, true, true, false] rfl rfl (one_of HT_.out (by kernel_rfl)) (by decide) (fun K hK => ?_)
            refine goes_ Try.func116 (by kernel_rfl) rfl #[.int .i64 (rd l0_2 ((rd_T96 l0_0 x4_1).f0)), .int .i64 ((rd_T96 l0_0 x4_1).f2), .int .i64 ((rd_T96 l0_0 x4_1).f3)] (by rfl) rfl rfl (by (try simp only [List.map_toArray, List.map_cons, List.map_nil]); first | done | rfl | (simp only [List.length_drop, List.length_take]; rfl)) ?_
            with_reducible refine (spec_TunedPitch.calls k1 (rd l0_2 ((rd_T96 l0_0 x4_1).f0)) ((rd_T96 l0_0 x4_1).f2) ((rd_T96 l0_0 x4_1).f3) t519 _ A16.out).mono ?_
            rintro e w24 ⟨rfl, hb⟩
            refine ⟨_, rfl, ?_⟩
            have n0_ := A_ (Kd.R_below (oR HO_3) hb)
            have n1_ := A_ (bb BK510 hb)
            have n2_ := A_ (bb BK516 hb)
            have n3_ := A_ (below_step (oB HB) hb)
            clear HO_3
            clear BK510
            clear BK516
            clear HB
            have HO_3 := n0_
            have BK510 := n1_
            have BK516 := n2_
            have HB := n3_
            clear n0_ n1_ n2_ n3_
            (try clear hb)
            (try clear hb2)
            (try clear hk)
            (try clear hi)
            refine hK.out _ _ ⟨cz BK510 0, cz BK510 1, cz BK510 2, cz BK516 0, cz BK516 1, cz BK516 2, cz BK516 3, ((HB.out.cell (World.block_lt_of_cell? w _ hw517_0)).trans hw517_0), ((HB.out.cell (World.block_lt_of_cell? w _ hw518_0)).trans hw518_0)⟩ (fun hHeld => ?_)
            clear hK K
            refine norm_ (a' := ?_) ?_ ?_
            rotate_left
            ·show Act.put _ (some 38) _ = _
             simp only [Act.put, List.setIfInBounds_toArray, List.set_cons_zero, List.set_cons_succ, i64_w, i32_w]
             rfl
            refine pA 17 (some 39) HT_.out ?_
            refine done_ (done_of HT_.out (by kernel_rfl)) ?_
            try go_wp2
            go_roundg k1
            case measure => have := HK1.out; omega
            case rel => exact ⟨(x3_1), (wrap64 (x4_1 + 1)), (by first | rfl | (simp; done) | (simp [*]; done)), H', ⟨by have := HK1.out; omega⟩, ⟨oR HO_3⟩, ⟨oK BK510⟩, ⟨oB HB⟩⟩
           ·rw [if_neg c17] at H
            have c17b0 : ((rd l0_2 ((rd_T96 l0_0 x4_1).f1)) == t519) = false := beq_eq_false_iff_ne.mpr c17
            have c17b1 : ((rd l0_2 ((rd_T96 l0_0 x4_1).f1)) != t519) = true := bne_iff_ne.mpr c17
            by_cases c25 : x3_1.length < 17592186044416
            ·rw [if_pos c25] at H
             have LMc25 := A_ c25
             clear c25
             obtain ⟨y520, hy520⟩ : ∃ y_ : List Int, y_ = (x3_1 ++ [x4_1]) := ⟨_, rfl⟩
             replace H : (spec_WrongSteps.l0 k1 y520 (wrap64 (x4_1 + 1)) l0_0 a0_1 l0_2) = some r := by first | (rw [hy520]; with_reducible exact H) | (have H2_ := (Option.bind_some _ _).symm.trans H; rw [hy520]; with_reducible exact H2_) | (have H2_ := (Option.bind_some _ _).symm.trans H; with_reducible exact H2_) | with_reducible exact H | (rw [hy520]; exact H) | exact H
             have Ny520 := A_ hy520
             clear hy520
             have H' := A_ H
             clear H
             have hcz26_0 := cz BK510 0
             have hcz26_1 := cz BK510 1
             have hcz26_2 := cz BK510 2
             have hfz26_0 := blk_frozen BK510.out 0
             have hfz26_1 := blk_frozen BK510.out 1
             have hfz26_2 := blk_frozen BK510.out 2
             have p515 : 0 ≤ (x4_1 : Int) := of_decide_eq_true (by first | (with_reducible assumption) | assumption)
             have q515 : x4_1 < (l0_0.length : Int) := of_decide_eq_true (by first | (with_reducible assumption) | assumption)
             obtain ⟨ad515, e515, hx515_0, hx515_1, hx515_2, hx515_3⟩ := at_T96 HR0_0.out x4_1 p515 q515
             cases e515
             replace hx515_0 := (HB.out.cell (World.block_lt_of_cell? w _ hx515_0)).trans hx515_0
             replace hx515_1 := (HB.out.cell (World.block_lt_of_cell? w _ hx515_1)).trans hx515_1
             replace hx515_2 := (HB.out.cell (World.block_lt_of_cell? w _ hx515_2)).trans hx515_2
             replace hx515_3 := (HB.out.cell (World.block_lt_of_cell? w _ hx515_3)).trans hx515_3
             replace p515 := eq_true p515
             replace q515 := eq_true q515
             try go_wp2_with (first | ((with_reducible refine gate_dst (N := 5) rfl ?_); refine bX (N := 5) (cs := #[.int .i64 0, .int .i64 0, .int .i64 0, .int .i64 0]) (t := 96) ?_; intro gb516 hg w27 hbox hb; have n0_ := A_ (Kd.R_below (oR HO_3) hb); have n1_ := A_ (bb BK510 hb); have n2_ := A_ (below_step (oB HB) hb); have n3_ := A_ (hbox); have n4_ := A_ ((by rw [hg]; exact (below_size (oB HB)) : w.heap.size ≤ gb516)); have n5_ := A_ ((by rw [hg]; exact (below_size (oB HB)) : w.heap.size ≤ gb516)); have n6_ := A_ (nL BK510 hg); have n7_ := A_ (nG BK510 hg); clear HO_3; clear BK510; clear HB; have HO_3 := n0_; have BK510 := n1_; have HB := n2_; have BK516 := n3_; have GW516 := n4_; have GE516 := n5_; have NB510_516 := n6_; have NB516_510 := n7_; clear n0_ n1_ n2_ n3_ n4_ n5_ n6_ n7_; clear hb hbox hg; have hnb28 := NB516_510.out; have hnc28 := NB510_516.out; have hcz29_0 := cz BK516 0; have hcz29_1 := cz BK516 1; have hcz29_2 := cz BK516 2; have hcz29_3 := cz BK516 3; have hfz29_0 := blk_frozen BK516.out 0; have hfz29_1 := blk_frozen BK516.out 1; have hfz29_2 := blk_frozen BK516.out 2; have hfz29_3 := blk_frozen BK516.out 3))
             have n0_ : Aside0 (Kd.R (Kd.int .i64) 3 ((((w27.setCell ⟨gb516, 0, none⟩ (.int .i64 ((rd_T96 l0_0 x4_1).f0))).setCell ⟨gb516, 1, none⟩ (.int .i64 ((rd_T96 l0_0 x4_1).f1))).setCell ⟨gb516, 2, none⟩ (.int .i64 ((rd_T96 l0_0 x4_1).f2))).setCell ⟨gb516, 3, none⟩ (.int .i64 ((rd_T96 l0_0 x4_1).f3))) w.heap.size (fun _ => True) u3 x3_1) := ⟨by (with_reducible repeat (first | apply Kd.R_alloc | apply Kd.R_drewN | apply Kd.R_drew)); exact Kd.R_mono (Kd.R_far (p := ⟨gb516, 3, none⟩) (Kd.R_far (p := ⟨gb516, 2, none⟩) (Kd.R_far (p := ⟨gb516, 1, none⟩) (Kd.R_far (p := ⟨gb516, 0, none⟩) (Kd.R_types HO_3.out BK516.out (by decide)) (fun _ hk => hk.2) (.int .i64 ((rd_T96 l0_0 x4_1).f0))) (fun _ hk => hk.2) (.int .i64 ((rd_T96 l0_0 x4_1).f1))) (fun _ hk => hk.2) (.int .i64 ((rd_T96 l0_0 x4_1).f2))) (fun _ hk => hk.2) (.int .i64 ((rd_T96 l0_0 x4_1).f3))) (fun _ hk => trivial)⟩
             have n1_ : Aside0 (((((w27.setCell ⟨gb516, 0, none⟩ (.int .i64 ((rd_T96 l0_0 x4_1).f0))).setCell ⟨gb516, 1, none⟩ (.int .i64 ((rd_T96 l0_0 x4_1).f1))).setCell ⟨gb516, 2, none⟩ (.int .i64 ((rd_T96 l0_0 x4_1).f2))).setCell ⟨gb516, 3, none⟩ (.int .i64 ((rd_T96 l0_0 x4_1).f3))).heap[gb510]? = some (.cells #[.slice (some ad515) l0_0.length c0_0, .int .i64 a0_1, .slice A0_2 l0_2.length c0_2] 33 (0, 0))) := ⟨by (with_reducible repeat (first | refine blk_drewN ?_ _ | refine blk_drew ?_ | refine blk_alloc ?_ _)); refine blk_far ?_ NB510_516.out _; (with_reducible repeat (first | refine blk_drewN ?_ _ | refine blk_drew ?_ | refine blk_alloc ?_ _)); refine blk_far ?_ NB510_516.out _; (with_reducible repeat (first | refine blk_drewN ?_ _ | refine blk_drew ?_ | refine blk_alloc ?_ _)); refine blk_far ?_ NB510_516.out _; (with_reducible repeat (first | refine blk_drewN ?_ _ | refine blk_drew ?_ | refine blk_alloc ?_ _)); refine blk_far ?_ NB510_516.out _; (with_reducible repeat (first | refine blk_drewN ?_ _ | refine blk_drew ?_ | refine blk_alloc ?_ _)); exact BK510.out⟩
             have n2_ : Aside0 (((((w27.setCell ⟨gb516, 0, none⟩ (.int .i64 ((rd_T96 l0_0 x4_1).f0))).setCell ⟨gb516, 1, none⟩ (.int .i64 ((rd_T96 l0_0 x4_1).f1))).setCell ⟨gb516, 2, none⟩ (.int .i64 ((rd_T96 l0_0 x4_1).f2))).setCell ⟨gb516, 3, none⟩ (.int .i64 ((rd_T96 l0_0 x4_1).f3))).heap[gb516]? = some (.cells #[.int .i64 ((rd_T96 l0_0 x4_1).f0), .int .i64 ((rd_T96 l0_0 x4_1).f1), .int .i64 ((rd_T96 l0_0 x4_1).f2), .int .i64 ((rd_T96 l0_0 x4_1).f3)] 96 (0, 0))) := ⟨by (with_reducible repeat (first | refine blk_drewN ?_ _ | refine blk_drew ?_ | refine blk_alloc ?_ _)); refine blk_put (cs := #[.int .i64 ((rd_T96 l0_0 x4_1).f0), .int .i64 ((rd_T96 l0_0 x4_1).f1), .int .i64 ((rd_T96 l0_0 x4_1).f2), .int .i64 0]) ?_ 3 _ rfl; (with_reducible repeat (first | refine blk_drewN ?_ _ | refine blk_drew ?_ | refine blk_alloc ?_ _)); refine blk_put (cs := #[.int .i64 ((rd_T96 l0_0 x4_1).f0), .int .i64 ((rd_T96 l0_0 x4_1).f1), .int .i64 0, .int .i64 0]) ?_ 2 _ rfl; (with_reducible repeat (first | refine blk_drewN ?_ _ | refine blk_drew ?_ | refine blk_alloc ?_ _)); refine blk_put (cs := #[.int .i64 ((rd_T96 l0_0 x4_1).f0), .int .i64 0, .int .i64 0, .int .i64 0]) ?_ 1 _ rfl; (with_reducible repeat (first | refine blk_drewN ?_ _ | refine blk_drew ?_ | refine blk_alloc ?_ _)); refine blk_put (cs := #[.int .i64 0, .int .i64 0, .int .i64 0, .int .i64 0]) ?_ 0 _ rfl; (with_reducible repeat (first | refine blk_drewN ?_ _ | refine blk_drew ?_ | refine blk_alloc ?_ _)); exact BK516.out⟩
             have n3_ : Aside0 (Below w.heap.size w ((((w27.setCell ⟨gb516, 0, none⟩ (.int .i64 ((rd_T96 l0_0 x4_1).f0))).setCell ⟨gb516, 1, none⟩ (.int .i64 ((rd_T96 l0_0 x4_1).f1))).setCell ⟨gb516, 2, none⟩ (.int .i64 ((rd_T96 l0_0 x4_1).f2))).setCell ⟨gb516, 3, none⟩ (.int .i64 ((rd_T96 l0_0 x4_1).f3)))) := ⟨oB HB⟩
             (try clear HO_3)
             (try clear BK510)
             (try clear BK516)
             (try clear HB)
             generalize ((((w27.setCell ⟨gb516, 0, none⟩ (.int .i64 ((rd_T96 l0_0 x4_1).f0))).setCell ⟨gb516, 1, none⟩ (.int .i64 ((rd_T96 l0_0 x4_1).f1))).setCell ⟨gb516, 2, none⟩ (.int .i64 ((rd_T96 l0_0 x4_1).f2))).setCell ⟨gb516, 3, none⟩ (.int .i64 ((rd_T96 l0_0 x4_1).f3))) = w30 at n0_ n1_ n2_ n3_ ⊢
             have HO_3 := n0_
             have BK510 := n1_
             have BK516 := n2_
             have HB := n3_
             clear n0_ n1_ n2_ n3_
             have n0_ := A_ (Kd.R_drew HO_3.out)
             have n1_ := A_ (blk_drew BK510.out)
             have n2_ := A_ (blk_drew BK516.out)
             have n3_ := A_ (below_drew1 HB.out)
             clear HO_3
             clear BK510
             clear BK516
             clear HB
             have HO_3 := n0_
             have BK510 := n1_
             have BK516 := n2_
             have HB := n3_
             clear n0_ n1_ n2_ n3_
             have p517 : 0 ≤ (((rd_T96 l0_0 x4_1).f1) : Int) := of_decide_eq_true (by first | (with_reducible assumption) | assumption)
             have q517 : ((rd_T96 l0_0 x4_1).f1) < (l0_2.length : Int) := of_decide_eq_true (by first | (with_reducible assumption) | assumption)
             obtain ⟨ad517, e517, hx517_0⟩ := Kd.at_int HR0_2.out ((rd_T96 l0_0 x4_1).f1) p517 q517
             have hw517_0 := hx517_0
             cases e517
             replace hx517_0 := (HB.out.cell (World.block_lt_of_cell? w _ hx517_0)).trans hx517_0
             replace p517 := eq_true p517
             replace q517 := eq_true q517
             have p518 : 0 ≤ (((rd_T96 l0_0 x4_1).f0) : Int) := of_decide_eq_true (by first | (with_reducible assumption) | assumption)
             have q518 : ((rd_T96 l0_0 x4_1).f0) < (l0_2.length : Int) := of_decide_eq_true (by first | (with_reducible assumption) | assumption)
             obtain ⟨ad518, e518, hx518_0⟩ := Kd.at_int HR0_2.out ((rd_T96 l0_0 x4_1).f0) p518 q518
             have hw518_0 := hx518_0
             obtain rfl : ad517 = ad518 := (by injection e518)
             replace hx518_0 := (HB.out.cell (World.block_lt_of_cell? w _ hx518_0)).trans hx518_0
             replace p518 := eq_true p518
             replace q518 := eq_true q518
             refine start_ (n := 18) (S := fun w' => w'.cell? ⟨gb510, 0, none⟩ = some (.slice (some ad515) l0_0.length c0_0) ∧ w'.cell? ⟨gb510, 1, none⟩ = some (.int .i64 a0_1) ∧ w'.cell? ⟨gb510, 2, none⟩ = some (.slice (some ad517) l0_2.length c0_2) ∧ w'.cell? ⟨gb516, 0, none⟩ = some (.int .i64 ((rd_T96 l0_0 x4_1).f0)) ∧ w'.cell? ⟨gb516, 1, none⟩ = some (.int .i64 ((rd_T96 l0_0 x4_1).f1)) ∧ w'.cell? ⟨gb516, 2, none⟩ = some (.int .i64 ((rd_T96 l0_0 x4_1).f2)) ∧ w'.cell? ⟨gb516, 3, none⟩ = some (.int .i64 ((rd_T96 l0_0 x4_1).f3)) ∧ w'.cell? (ad517.add (((rd_T96 l0_0 x4_1).f1)).toNat) = some (.int .i64 (rd l0_2 ((rd_T96 l0_0 x4_1).f1))) ∧ w'.cell? (ad517.add (((rd_T96 l0_0 x4_1).f0)).toNat) = some (.int .i64 (rd l0_2 ((rd_T96 l0_0 x4_1).f0)))) (ds := []) #[false, false, false, false, false, false, false, false, false, false, false, false, false, false, false, false, false, false] (by kernel_rfl) rfl rfl ⟨cz BK510 0, cz BK510 1, cz BK510 2, cz BK516 0, cz BK516 1, cz BK516 2, cz BK516 3, ((HB.out.cell (World.block_lt_of_cell? w _ hw517_0)).trans hw517_0), ((HB.out.cell (World.block_lt_of_cell? w _ hw518_0)).trans hw518_0)⟩ (fun hHeld => ?_); refine with_tabW spec_WrongSteps.tab8 spec_WrongSteps.bits8 (fun HT_ HW_ => ?_)
             generalize w30.drew = w31 at HO_3 BK510 BK516 HB hx517_0 hx518_0 hHeld ⊢
             refine pA 0 (some 22) HT_.out ?_
             refine pA 2 (some 24) HT_.out ?_
             refine pA 6 (some 28) HT_.out ?_
             refine pA 8 (some 30) HT_.out ?_
             refine pA 12 (some 34) HT_.out ?_
             refine pA 14 (some 36) HT_.out ?_
             refine pT 1 (some 23) HT_.out HW_.out hHeld ?_
             refine pT 3 (some 25) HT_.out HW_.out hHeld ?_
             refine pA 4 (some 26) HT_.out ?_
             refine pT 5 (some 27) HT_.out HW_.out hHeld ?_
             refine pT 7 (some 29) HT_.out HW_.out hHeld ?_
             refine pT 9 (some 31) HT_.out HW_.out hHeld ?_
             refine pA 10 (some 32) HT_.out ?_
             refine pT 11 (some 33) HT_.out HW_.out hHeld ?_
             refine pT 13 (some 35) HT_.out HW_.out hHeld ?_
             refine pT 15 (some 37) HT_.out HW_.out hHeld ?_
             refine one_ (i := 16) (N := some 38) #[true, true, true, true, true, true, true, true, true, true, true, true, true, true, true, true, true, false] rfl rfl (one_of HT_.out (by kernel_rfl)) (by decide) (fun K hK => ?_)
             refine goes_ Try.func116 (by kernel_rfl) rfl #[.int .i64 (rd l0_2 ((rd_T96 l0_0 x4_1).f0)), .int .i64 ((rd_T96 l0_0 x4_1).f2), .int .i64 ((rd_T96 l0_0 x4_1).f3)] (by rfl) rfl rfl (by (try simp only [List.map_toArray, List.map_cons, List.map_nil]); first | done | rfl | (simp only [List.length_drop, List.length_take]; rfl)) ?_
             with_reducible refine (spec_TunedPitch.calls k1 (rd l0_2 ((rd_T96 l0_0 x4_1).f0)) ((rd_T96 l0_0 x4_1).f2) ((rd_T96 l0_0 x4_1).f3) t519 _ A16.out).mono ?_
             rintro e w32 ⟨rfl, hb⟩
             refine ⟨_, rfl, ?_⟩
             have n0_ := A_ (Kd.R_below (oR HO_3) hb)
             have n1_ := A_ (bb BK510 hb)
             have n2_ := A_ (bb BK516 hb)
             have n3_ := A_ (below_step (oB HB) hb)
             clear HO_3
             clear BK510
             clear BK516
             clear HB
             have HO_3 := n0_
             have BK510 := n1_
             have BK516 := n2_
             have HB := n3_
             clear n0_ n1_ n2_ n3_
             (try clear hb)
             (try clear hb2)
             (try clear hk)
             (try clear hi)
             refine hK.out _ _ ⟨cz BK510 0, cz BK510 1, cz BK510 2, cz BK516 0, cz BK516 1, cz BK516 2, cz BK516 3, ((HB.out.cell (World.block_lt_of_cell? w _ hw517_0)).trans hw517_0), ((HB.out.cell (World.block_lt_of_cell? w _ hw518_0)).trans hw518_0)⟩ (fun hHeld => ?_)
             clear hK K
             refine norm_ (a' := ?_) ?_ ?_
             rotate_left
             ·show Act.put _ (some 38) _ = _
              simp only [Act.put, List.setIfInBounds_toArray, List.set_cons_zero, List.set_cons_succ, i64_w, i32_w]
              rfl
             refine pA 17 (some 39) HT_.out ?_
             refine done_ (done_of HT_.out (by kernel_rfl)) ?_
             try go_wp2_with (first | ((with_reducible refine gate_builtin (b := .append) (xs := #[.tmp 40, .tmp 42]) rfl ?_); at_builtin; refine Kd.R_append (Kd.int .i64) (w0 := w) w.heap.size rfl (.tmp 40) (.tmp 42) 23 3 (.int .i64 0) 8 rfl Try.underlying23 info3 rfl (by decide) (by omega) u3 x3_1 x4_1 [.int .i64 x4_1] (fun _ => True) (fun _ => False) rfl rfl ?aP (fun _ hk => hk.elim) ?aF ?aO ?aB ?aS ?aL ?_; (case aP => exact rfl); (case aB => exact (oB HB)); (case aF => exact (fun _ _ => trivial)); (case aO => exact (oR HO_3)); (case aS => exact (below_size (oB HB))); (case aL => have := LMc25.out; omega); intro v521 w33 ho hb hg hat; rw [← Ny520.out] at ho; have n0_ := A_ (bg BK510 hg (Kd.R_ne HO_3.out BK510.out (by decide))); have n1_ := A_ (bg BK516 hg (Kd.R_ne HO_3.out BK516.out (by decide))); have n2_ := A_ (hb); have n3_ := A_ (ho); clear BK510; clear BK516; clear HB; clear HO_3; have BK510 := n0_; have BK516 := n1_; have HB := n2_; have HO522 := n3_; clear n0_ n1_ n2_ n3_; clear ho hb hg hat))
             go_roundg k1
             case measure => have := HK1.out; omega
             case rel => exact ⟨(y520), (wrap64 (x4_1 + 1)), (by first | rfl | (simp; done) | (simp [*]; done)), H', ⟨by have := HK1.out; omega⟩, ⟨oR HO522⟩, ⟨oK BK510⟩, ⟨oB HB⟩⟩
            ·rw [if_neg c25] at H
             exact absurd H (by simp)
          ·rw [if_neg c15] at H
           exact absurd H (by simp)
         ·rw [if_neg c14] at H
          exact absurd H (by simp)
        ·rw [if_neg c13] at H
         exact absurd H (by simp)
       ·rw [if_neg c12] at H
        exact absurd H (by simp)
      ·rw [if_neg c11] at H
       exact absurd H (by simp)
     ·rw [if_neg c10] at H
      exact absurd H (by simp)
    ·rw [if_neg c9] at H
     have c9b0 : decide (x4_1 < a0_1) = false := decide_eq_false c9
     clear c9
     obtain rfl := Option.some.inj H
     have hcz34_0 := cz BK510 0
     have hcz34_1 := cz BK510 1
     have hcz34_2 := cz BK510 2
     have hfz34_0 := blk_frozen BK510.out 0
     have hfz34_1 := blk_frozen BK510.out 1
     have hfz34_2 := blk_frozen BK510.out 2
     go_wp2
     go_ret
     exact ⟨_, eR, oR HO_3, oB HB⟩
 ·replace c3 := Bool.eq_false_iff.mpr c3
  subst c3
  rw [if_neg (show ¬ (false = true) by decide)] at H
  obtain rfl := Option.some.inj H
  go_enter Try.func79, Try.ntmps79
  go_wp2_with (first | ((with_reducible refine gate_dst (N := 1) rfl ?_); refine bX (N := 1) (cs := #[.slice A0_0 l0_0.length c0_0, .int .i64 a0_1, .slice A0_2 l0_2.length c0_2]) (t := 33) ?_; intro gb510 hg w35 hbox hb; have n0_ := A_ (below_step (oB HB) hb); have n1_ := A_ (hbox); have n2_ := A_ ((by rw [hg]; exact (below_size (oB HB)) : w.heap.size ≤ gb510)); have n3_ := A_ ((by rw [hg]; exact (below_size (oB HB)) : w.heap.size ≤ gb510)); clear HB; have HB := n0_; have BK510 := n1_; have GW510 := n2_; have GE510 := n3_; clear n0_ n1_ n2_ n3_; clear hb hbox hg) | ((with_reducible refine gate_dst (N := 6) rfl ?_); refine Kd.R_lit (Kd.int .i64) _ 3 ?hg (N := 6) ?hd (xs := ([] : List Int)) (inner := []) (ok := fun _ => True) (okp := fun _ => True) ?hr ?hp (fun _ hk => hk) trivial (Below.refl _ _) (Nat.le_refl _) (by simp) ?_; (case hd => rfl); (case hg => rfl); (case hr => first | (go_simp; done) | (go_simp; rfl)); (case hp => exact (Reps.none _ _)); intro v512 w36 ho37 hb hg_ hnew_; clear hg_ hnew_; (first | rw [← Ny511.out] at ho37 | (simp only [Int.reduceToNat] at ho37; rw [← Ny511.out] at ho37)); have n0_ := A_ (Kd.R_lower ho37 (below_size (oB HB))); have n1_ := A_ (bb BK510 hb); have n2_ := A_ (below_step (oB HB) hb); clear BK510; clear HB; have HO513 := n0_; have BK510 := n1_; have HB := n2_; clear n0_ n1_ n2_; clear hb ho37; have hcz38_0 := cz BK510 0; have hcz38_1 := cz BK510 1; have hcz38_2 := cz BK510 2; have hfz38_0 := blk_frozen BK510.out 0; have hfz38_1 := blk_frozen BK510.out 1; have hfz38_2 := blk_frozen BK510.out 2) | ((with_reducible refine gate_callee (f := 60) rfl ?_); refine gL (some 8) Try.func60 #[.agg #[.slice A0_0 l0_0.length c0_0, .int .i64 a0_1, .slice A0_2 l0_2.length c0_2]] ?_; (with_reducible refine (spec_WorkOk.calls k _ _ l0_0 a0_1 _ _ l0_2 false _ ?side1 ?side2 ?side3 ?side4 A2.out).mono ?_); (case side1 => exact oc_ HR0_0.out); (case side2 => exact HC0_0.out); (case side3 => exact oc_ HR0_2.out); (case side4 => exact HC0_2.out); rintro e w39 ⟨rfl, hb⟩; refine ⟨_, rfl, ?_⟩; have n0_ := A_ (Kd.R_below (oR HO513) hb); have n1_ := A_ (bb BK510 hb); have n2_ := A_ (below_step (oB HB) hb); clear HO513; clear BK510; clear HB; have HO513 := n0_; have BK510 := n1_; have HB := n2_; clear n0_ n1_ n2_; (try clear hb); (try clear hb2); (try clear hk); (try clear hi)))
  go_ret
  exact ⟨_, eR, oR HO513, oB HB⟩
end Go.Proofs.Ytbkkpllejgedcaa.P


namespace Go.Proofs.Ytbkkpllejgedcaa.P
open Go.RowKit Go.Proofs.YtbkkpllejgedcaaW.PrintWords Go.Proofs.YtbkkpllejgedcaaW.PrintLast Go.Proofs.YtbkkpllejgedcaaW.PrintMore Go.Proofs.Ytbkkpllejgedcaa.V
attribute [local go_sem] cell_b frozen_b cellR_c cell_r frozen_r cell_r0 frozen_r0
attribute [local go_sem] max2_int min2_int max_two min_two max_three min_three max_four min_four
set_option linter.unusedVariables false
set_option linter.unusedSimpArgs false
def spec_MendStep.f (k : Nat) (l0_0 : List (S96)) (a0_1 : Int) (l0_2 : List Int) : Option ((List (S96)) × Int × List Int × Bool) := (spec_l36Copy.f l0_0 a0_1 l0_2).bind fun bt1373 => ((spec_WrongSteps.f k l0_0 a0_1 l0_2).bind fun t1381 => (if (t1381.length : Int) = 0 then (some (bt1373.1, bt1373.2.1, bt1373.2.2, false)) else (if 0 < (t1381.length : Int) then (if 0 ≤ (rd t1381 0) then (if (rd t1381 0) < (l0_0.length : Int) then (if 0 ≤ ((rd_T96 l0_0 (rd t1381 0)).f0) then (if ((rd_T96 l0_0 (rd t1381 0)).f0) < (l0_2.length : Int) then ((spec_TunedPitch.f k (rd l0_2 ((rd_T96 l0_0 (rd t1381 0)).f0)) ((rd_T96 l0_0 (rd t1381 0)).f2) ((rd_T96 l0_0 (rd t1381 0)).f3)).bind fun t1388 => (if t1388 = 0 then (some (bt1373.1, bt1373.2.1, bt1373.2.2, false)) else (if 0 ≤ ((rd_T96 l0_0 (rd t1381 0)).f1) then (if ((rd_T96 l0_0 (rd t1381 0)).f1) < (bt1373.2.2.length : Int) then (some (bt1373.1, bt1373.2.1, (bt1373.2.2.set (((rd_T96 l0_0 (rd t1381 0)).f1) : Int).toNat t1388), true)) else (none)) else (none)))) else (none)) else (none)) else (none)) else (none)) else (none))))
def spec_MendStep.T5 : Bool × List (List Nat × List Nat) := (true, [([], []), ([0], [0]), ([], []), ([2], [2]), ([3], [3]), ([1, 4], [1, 4]), ([5], [5]), ([], []), ([7, 6, 0, 1, 2, 3, 4, 5, 6, 7], [6, 7])])
def spec_MendStep.B5 : List Nat := [0, 1, 0, 4, 12, 31, 63, 0, 255]
theorem spec_MendStep.tab5 : rtab .any (opsOf Try.f87 5) = spec_MendStep.T5 := by kernel_rfl
theorem spec_MendStep.bits5 : waitsOk spec_MendStep.T5.2 spec_MendStep.B5 = true := by kernel_rfl
def spec_MendStep.T6 : Bool × List (List Nat × List Nat) := (true, [([], []), ([0], [0]), ([], []), ([2], [2]), ([1, 3], [1, 3]), ([4], [4]), ([], []), ([6], [6]), ([], []), ([8], [8]), ([5, 7, 9], [5, 7, 9]), ([10, 10, 0, 1, 2, 3, 4, 5, 6, 7, 8, 9, 10], [10])])
def spec_MendStep.B6 : List Nat := [0, 1, 0, 4, 15, 31, 0, 64, 0, 256, 1023, 2047]
theorem spec_MendStep.tab6 : rtab .any (opsOf Try.f87 6) = spec_MendStep.T6 := by kernel_rfl
theorem spec_MendStep.bits6 : waitsOk spec_MendStep.T6.2 spec_MendStep.B6 = true := by kernel_rfl
set_option maxHeartbeats 8000000 in
set_option maxRecDepth 100000 in
set_option synthInstance.maxHeartbeats 400000 in
set_option synthInstance.maxSize 100000 in
theorem spec_MendStep.calls (k : Nat) (A0_0 : Option Addr) (c0_0 : Nat) (l0_0 : List (S96)) (a0_1 : Int) (A0_2 : Option Addr) (c0_2 : Nat) (l0_2 : List Int) (r1 : List (S96)) (r2 : Int) (r3 : List Int) (r4 : Bool) (w : World) (hr0_0 : Kd.C k96 w A0_0 l0_0.length l0_0) (hc0_0 : l0_0.length ≤ c0_0) (hr0_2 : Kd.C (Kd.int .i64) w A0_2 l0_2.length l0_2) (hc0_2 : l0_2.length ≤ c0_2) (h : spec_MendStep.f k l0_0 a0_1 l0_2 = some (r1, r2, r3, r4)) :
  Calls Try.prog 87 #[.agg #[.slice A0_0 l0_0.length c0_0, .int .i64 a0_1, .slice A0_2 l0_2.length c0_2]] w fun e w' => ∃ v0_ v2_ : Value, e = .returned (.tuple #[.agg #[v0_, .int .i64 r2, v2_], .bool r4]) ∧ Kd.R k96 96 w' w.heap.size (fun _ => True) v0_ r1 ∧ Kd.R (Kd.int .i64) 3 w' w.heap.size (fun _ => True) v2_ r3 ∧ Below w.heap.size w w' := by
 have ihr0_0 := RdE.mk hr0_0
 have ihc0_0 := LeI.mk hc0_0
 have ihr0_2 := RdE.mk hr0_2
 have ihc0_2 := LeI.mk hc0_2
 clear hr0_0 hc0_0 hr0_2 hc0_2
 have nt96_3 := NeT.mk (d := k96) (e := 96) (t := 3) (by decide)
 have nt96_33 := NeT.mk (d := k96) (e := 96) (t := 33) (by decide)
 unfold spec_MendStep.f at h
 have hu33 := Try.underlying33
 have hu96 := Try.underlying96
 (repeat' first | ((with_reducible replace h := ite_some h); rcases h with ⟨hc, h⟩ | ⟨hc, h⟩ <;> first | exact (none_some h).elim | exact absurd hc (by decide) | subst hc | (replace hc := Bool.eq_false_iff.mpr hc; subst hc) | (replace hc := (Bool.not_eq_true' _).mp hc; subst hc) | (replace hc := (Bool.not_eq_false' _).mp (Bool.eq_false_iff.mpr hc); subst hc) | (have hd : (_ == _) = true := hc) | (have hd : (_ == _) = false := Bool.eq_false_iff.mpr hc) | (have hd := beq_iff_eq.mpr hc; have he := bne_eq_false_iff_eq.mpr hc; clear hc) | (have hd := beq_eq_false_iff_ne.mpr hc; have he := bne_iff_ne.mpr hc) | (have hd := decide_eq_false hc) | (have hd := decide_eq_true hc; (try (have hn := Int.natCast_pos.mp hc; have hm := decide_eq_true hn; replace hn := eq_true hn)); first | (obtain ⟨g_, e_, i_⟩ := form_ (by assumption) (by first | assumption | decide) hc; cases e_) | (obtain ⟨a_, e_, c_⟩ := atI_ (by assumption) (by first | assumption | decide) hc; cases e_) | (obtain ⟨a_, e_, c0_, c1_, c2_, c3_⟩ := at_T96 (RdE.out (self := by assumption)) _ (by first | assumption | decide) hc; cases e_; replace c0_ := CelE.mk c0_; replace c1_ := CelE.mk c1_; replace c2_ := CelE.mk c2_; replace c3_ := CelE.mk c3_)) | (have hd := decide_eq_true hc) | skip) | ((with_reducible replace h := bind_set_ h); obtain ⟨hl_, h⟩ := h; replace hl_ := A_ hl_; (try dsimp only at h)))
 all_goals go_enter Try.func87, Try.ntmps87
 all_goals go_wp2_with (first
  | ((with_reducible refine gate_dst (N := 1) rfl ?_); refine box_event rfl (N := 1) rfl (cs := #[.slice A0_0 l0_0.length c0_0, .int .i64 a0_1, .slice A0_2 l0_2.length c0_2]) (t := 33) (by first | (go_simp; done) | (go_simp; rfl)) ?_; intro g hg w1 hk hb; have j1 := Born.mk hg; have j2 := Bel.mk hb; have j3 := Blk.mk hk; clear hg hb hk)
  | ((with_reducible refine gate_dst (N := 2) rfl ?_); refine box_event rfl (N := 2) rfl (cs := #[.slice none 0 0, .int .i64 0, .slice none 0 0]) (t := 33) (by first | (go_simp; done) | (go_simp; rfl)) ?_; intro g hg w1 hk hb; have j1 := Born.mk hg; have j2 := Bel.mk hb; have j3 := Blk.mk hk; clear hg hb hk)
  | ((with_reducible refine gate_dst (N := 4) rfl ?_); refine box_event rfl (N := 4) rfl (cs := #[.slice none 0 0, .int .i64 0, .slice none 0 0]) (t := 33) (by first | (go_simp; done) | (go_simp; rfl)) ?_; intro g hg w1 hk hb; have j1 := Born.mk hg; have j2 := Bel.mk hb; have j3 := Blk.mk hk; clear hg hb hk)
  | (go_at_call 118; (try rw [hl_.out]); replace h := Option.bind_eq_some_iff.mp h; obtain ⟨⟨t1, t2, t3⟩, A, h⟩ := h; (try dsimp only at h); refine (spec_l36Copy.calls _ _ _ _ _ _ _ _ _ _ _ Rd.out LeI.out Rd.out LeI.out A).mono ?_; rintro e w2 ⟨v0, v1, rfl, ho0, ho1, hb⟩; obtain ⟨B0, b0, rfl⟩ := Kd.R_slice ho0; have j0 := RowE.mk ho0; have q0 := LeI.mk (rowLe j0); obtain ⟨B1, b1, rfl⟩ := Kd.R_slice ho1; have j1 := RowE.mk ho1; have q1 := LeI.mk (rowLe j1); have jb := Bel.mk hb; clear A ho0 ho1 hb; (repeat' first | ((with_reducible replace h := ite_some h); rcases h with ⟨hc, h⟩ | ⟨hc, h⟩ <;> first | exact (none_some h).elim | exact absurd hc (by decide) | subst hc | (replace hc := Bool.eq_false_iff.mpr hc; subst hc) | (replace hc := (Bool.not_eq_true' _).mp hc; subst hc) | (replace hc := (Bool.not_eq_false' _).mp (Bool.eq_false_iff.mpr hc); subst hc) | (have hd : (_ == _) = true := hc) | (have hd : (_ == _) = false := Bool.eq_false_iff.mpr hc) | (have hd := beq_iff_eq.mpr hc; have he := bne_eq_false_iff_eq.mpr hc; clear hc) | (have hd := beq_eq_false_iff_ne.mpr hc; have he := bne_iff_ne.mpr hc) | (have hd := decide_eq_false hc) | (have hd := decide_eq_true hc; (try (have hn := Int.natCast_pos.mp hc; have hm := decide_eq_true hn; replace hn := eq_true hn)); first | (obtain ⟨g_, e_, i_⟩ := form_ (by assumption) (by first | assumption | decide) hc; cases e_) | (obtain ⟨a_, e_, c_⟩ := atI_ (by assumption) (by first | assumption | decide) hc; cases e_) | (obtain ⟨a_, e_, c0_, c1_, c2_, c3_⟩ := at_T96 (RdE.out (self := by assumption)) _ (by first | assumption | decide) hc; cases e_; replace c0_ := CelE.mk c0_; replace c1_ := CelE.mk c1_; replace c2_ := CelE.mk c2_; replace c3_ := CelE.mk c3_)) | (have hd := decide_eq_true hc) | skip) | ((with_reducible replace h := bind_set_ h); obtain ⟨hl_, h⟩ := h; replace hl_ := A_ hl_; (try dsimp only at h))))
  | (go_at_call 79; (try rw [hl_.out]); replace h := Option.bind_eq_some_iff.mp h; obtain ⟨t, A, h⟩ := h; (try dsimp only at h); refine (spec_WrongSteps.calls _ _ _ _ _ _ _ _ _ _ Rd.out LeI.out Rd.out LeI.out A).mono ?_; rintro e w2 ⟨v0, rfl, ho0, hb⟩; obtain ⟨B0, b0, rfl⟩ := Kd.R_slice ho0; have j0 := RowE.mk ho0; have q0 := LeI.mk (rowLe j0); have jb := Bel.mk hb; clear A ho0 hb; (repeat' first | ((with_reducible replace h := ite_some h); rcases h with ⟨hc, h⟩ | ⟨hc, h⟩ <;> first | exact (none_some h).elim | exact absurd hc (by decide) | subst hc | (replace hc := Bool.eq_false_iff.mpr hc; subst hc) | (replace hc := (Bool.not_eq_true' _).mp hc; subst hc) | (replace hc := (Bool.not_eq_false' _).mp (Bool.eq_false_iff.mpr hc); subst hc) | (have hd : (_ == _) = true := hc) | (have hd : (_ == _) = false := Bool.eq_false_iff.mpr hc) | (have hd := beq_iff_eq.mpr hc; have he := bne_eq_false_iff_eq.mpr hc; clear hc) | (have hd := beq_eq_false_iff_ne.mpr hc; have he := bne_iff_ne.mpr hc) | (have hd := decide_eq_false hc) | (have hd := decide_eq_true hc; (try (have hn := Int.natCast_pos.mp hc; have hm := decide_eq_true hn; replace hn := eq_true hn)); first | (obtain ⟨g_, e_, i_⟩ := form_ (by assumption) (by first | assumption | decide) hc; cases e_) | (obtain ⟨a_, e_, c_⟩ := atI_ (by assumption) (by first | assumption | decide) hc; cases e_) | (obtain ⟨a_, e_, c0_, c1_, c2_, c3_⟩ := at_T96 (RdE.out (self := by assumption)) _ (by first | assumption | decide) hc; cases e_; replace c0_ := CelE.mk c0_; replace c1_ := CelE.mk c1_; replace c2_ := CelE.mk c2_; replace c3_ := CelE.mk c3_)) | (have hd := decide_eq_true hc) | skip) | ((with_reducible replace h := bind_set_ h); obtain ⟨hl_, h⟩ := h; replace hl_ := A_ hl_; (try dsimp only at h))); (try have hn : decide (0 < t.length) = true := decide_eq_true (by omega)); (try have hn : decide (0 < t.length) = false := decide_eq_false (by omega)))
  | (refine qR (id := 5) (ds := []) (l := #[false, false, false, false, false, false, false, false, false]) spec_MendStep.tab5 spec_MendStep.bits5 ?_; intro HT_ HW_ w3 jw u0 iu hHeld; refine qA 0 (some 16) HT_ ?_; refine qA 2 (some 18) HT_ ?_; refine qA 3 (some 19) HT_ ?_; refine qT 1 (some 17) HT_ HW_ hHeld ?_; refine qT 4 (some 20) HT_ HW_ hHeld ?_; refine qA 5 (some 21) HT_ ?_; refine qT 6 (some 22) HT_ HW_ hHeld ?_; refine qB 7 6 #[.int .i64 0, .int .i64 0, .int .i64 0, .int .i64 0] 96 HT_ hHeld fun gx jb1 wx jb2 jb3 hHeld => ?_; refine qS 8 HT_ fun hHeld => ?_; refine qD HT_ ?_)
  | (refine qR (id := 6) (ds := []) (l := #[false, false, false, false, false, false, false, false, false, false, false, false]) spec_MendStep.tab6 spec_MendStep.bits6 ?_; intro HT_ HW_ w3 jw u0 iu hHeld; refine qA 0 (some 23) HT_ ?_; refine qA 2 (some 25) HT_ ?_; refine qA 6 (some 29) HT_ ?_; refine qA 8 (some 31) HT_ ?_; refine qT 1 (some 24) HT_ HW_ hHeld ?_; refine qT 3 (some 26) HT_ HW_ hHeld ?_; refine qA 4 (some 27) HT_ ?_; refine qT 5 (some 28) HT_ HW_ hHeld ?_; refine qT 7 (some 30) HT_ HW_ hHeld ?_; refine qT 9 (some 32) HT_ HW_ hHeld ?_; replace h := Option.bind_eq_some_iff.mp h; obtain ⟨t, A, h⟩ := h; (try dsimp only at h); refine qC 10 33 Try.func116 HT_ fun K hK => ?_; refine (spec_TunedPitch.calls _ _ _ _ _ _ A).mono ?_; rintro e w2 ⟨rfl, hb⟩; have jb := Bel.mk hb; clear A hb; refine ⟨_, rfl, hK _ _ From.out fun hHeld => ?_⟩; clear hK K; refine qN ?_; refine qA 11 (some 7) HT_ ?_; refine qD HT_ ?_; (repeat' first | ((with_reducible replace h := ite_some h); rcases h with ⟨hc, h⟩ | ⟨hc, h⟩ <;> first | exact (none_some h).elim | exact absurd hc (by decide) | subst hc | (replace hc := Bool.eq_false_iff.mpr hc; subst hc) | (replace hc := (Bool.not_eq_true' _).mp hc; subst hc) | (replace hc := (Bool.not_eq_false' _).mp (Bool.eq_false_iff.mpr hc); subst hc) | (have hd : (_ == _) = true := hc) | (have hd : (_ == _) = false := Bool.eq_false_iff.mpr hc) | (have hd := beq_iff_eq.mpr hc; have he := bne_eq_false_iff_eq.mpr hc; clear hc) | (have hd := beq_eq_false_iff_ne.mpr hc; have he := bne_iff_ne.mpr hc) | (have hd := decide_eq_false hc) | (have hd := decide_eq_true hc; (try (have hn := Int.natCast_pos.mp hc; have hm := decide_eq_true hn; replace hn := eq_true hn)); first | (obtain ⟨g_, e_, i_⟩ := form_ (by assumption) (by first | assumption | decide) hc; cases e_) | (obtain ⟨a_, e_, c_⟩ := atI_ (by assumption) (by first | assumption | decide) hc; cases e_) | (obtain ⟨a_, e_, c0_, c1_, c2_, c3_⟩ := at_T96 (RdE.out (self := by assumption)) _ (by first | assumption | decide) hc; cases e_; replace c0_ := CelE.mk c0_; replace c1_ := CelE.mk c1_; replace c2_ := CelE.mk c2_; replace c3_ := CelE.mk c3_)) | (have hd := decide_eq_true hc) | skip) | ((with_reducible replace h := bind_set_ h); obtain ⟨hl_, h⟩ := h; replace hl_ := A_ hl_; (try dsimp only at h)))))
 all_goals (repeat' first | ((with_reducible replace h := ite_some h); rcases h with ⟨hc, h⟩ | ⟨hc, h⟩ <;> first | exact (none_some h).elim | exact absurd hc (by decide) | subst hc | (replace hc := Bool.eq_false_iff.mpr hc; subst hc) | (replace hc := (Bool.not_eq_true' _).mp hc; subst hc) | (replace hc := (Bool.not_eq_false' _).mp (Bool.eq_false_iff.mpr hc); subst hc) | (have hd : (_ == _) = true := hc) | (have hd : (_ == _) = false := Bool.eq_false_iff.mpr hc) | (have hd := beq_iff_eq.mpr hc; have he := bne_eq_false_iff_eq.mpr hc; clear hc) | (have hd := beq_eq_false_iff_ne.mpr hc; have he := bne_iff_ne.mpr hc) | (have hd := decide_eq_false hc) | (have hd := decide_eq_true hc; (try (have hn := Int.natCast_pos.mp hc; have hm := decide_eq_true hn; replace hn := eq_true hn)); first | (obtain ⟨g_, e_, i_⟩ := form_ (by assumption) (by first | assumption | decide) hc; cases e_) | (obtain ⟨a_, e_, c_⟩ := atI_ (by assumption) (by first | assumption | decide) hc; cases e_) | (obtain ⟨a_, e_, c0_, c1_, c2_, c3_⟩ := at_T96 (RdE.out (self := by assumption)) _ (by first | assumption | decide) hc; cases e_; replace c0_ := CelE.mk c0_; replace c1_ := CelE.mk c1_; replace c2_ := CelE.mk c2_; replace c3_ := CelE.mk c3_)) | (have hd := decide_eq_true hc) | skip) | ((with_reducible replace h := bind_set_ h); obtain ⟨hl_, h⟩ := h; replace hl_ := A_ hl_; (try dsimp only at h)))
 all_goals simp only [Option.some.injEq, Prod.mk.injEq] at h
 all_goals obtain ⟨rfl, rfl, rfl, rfl⟩ := h
 all_goals refine bodyPost_ret (results_ct rfl _ _ _ _ _ (0, 0) _ rfl Blk.out Try.underlying33 rfl (by kernel_rfl)) rfl ?_
 all_goals exact ⟨_, _, rfl, (by first | exact rowFin | exact Kd.R_nil _ _ _ _ _ | exact atFin | exact irowFin' (by simp)), (by first | exact rowFin | exact Kd.R_nil _ _ _ _ _ | exact atFin | exact irowFin' (by simp)), From.out⟩
end Go.Proofs.Ytbkkpllejgedcaa.P


namespace Go.Proofs.Ytbkkpllejgedcaa.P
open Go.RowKit Go.Proofs.YtbkkpllejgedcaaW.PrintWords Go.Proofs.YtbkkpllejgedcaaW.PrintLast Go.Proofs.YtbkkpllejgedcaaW.PrintMore Go.Proofs.Ytbkkpllejgedcaa.V
attribute [local go_sem] cell_b frozen_b cellR_c cell_r frozen_r cell_r0 frozen_r0
attribute [local go_sem] max2_int min2_int max_two min_two max_three min_three max_four min_four
set_option linter.unusedVariables false
set_option linter.unusedSimpArgs false
def spec_WorkStep.j0 : Nat → Bool → List (S96) → Int → List Int → List (S96) → Int → List Int → Option ((List (S96)) × Int × List Int × Bool)
 | 0, _, _, _, _, _, _, _ => none
 | k + 1, x19, x1391000, x1391001, x1391002, x1400000, x1400001, x1400002 => if x19 = true then (some (x1400000, x1400001, x1400002, false)) else (if 0 ≤ x1391001 then (if x1391001 < (x1391000.length : Int) then (if 0 ≤ ((rd_T96 x1391000 x1391001).f0) then (if ((rd_T96 x1391000 x1391001).f0) < (x1391002.length : Int) then ((spec_TunedPitch.f k (rd x1391002 ((rd_T96 x1391000 x1391001).f0)) ((rd_T96 x1391000 x1391001).f2) ((rd_T96 x1391000 x1391001).f3)).bind fun t1404 => (if t1404 = 0 then (some (x1400000, x1400001, x1400002, false)) else (if 0 ≤ ((rd_T96 x1391000 x1391001).f1) then (if ((rd_T96 x1391000 x1391001).f1) < (x1400002.length : Int) then (some (x1400000, wrap64 (x1391001 + 1), (x1400002.set (((rd_T96 x1391000 x1391001).f1) : Int).toNat t1404), true)) else (none)) else (none)))) else (none)) else (none)) else (none)) else (none))
def spec_WorkStep.f (k : Nat) (l0_0 : List (S96)) (a0_1 : Int) (l0_2 : List Int) : Option ((List (S96)) × Int × List Int × Bool) := (spec_l36Copy.f l0_0 a0_1 l0_2).bind fun bt1392 => ((spec_WorkOk.f k l0_0 a0_1 l0_2).bind fun t1400 => (if t1400 = true then (spec_WorkStep.j0 k (a0_1 == (l0_0.length : Int)) l0_0 a0_1 l0_2 bt1392.1 bt1392.2.1 bt1392.2.2) else (spec_WorkStep.j0 k true l0_0 a0_1 l0_2 bt1392.1 bt1392.2.1 bt1392.2.2)))
def spec_WorkStep.T5 : Bool × List (List Nat × List Nat) := (true, [([], []), ([0], [0]), ([], []), ([2], [2]), ([1, 3], [1, 3]), ([4], [4]), ([], []), ([6], [6]), ([], []), ([8], [8]), ([5, 7, 9], [5, 7, 9]), ([10, 10, 0, 1, 2, 3, 4, 5, 6, 7, 8, 9, 10], [10])])
def spec_WorkStep.B5 : List Nat := [0, 1, 0, 4, 15, 31, 0, 64, 0, 256, 1023, 2047]
theorem spec_WorkStep.tab5 : rtab .any (opsOf Try.f88 5) = spec_WorkStep.T5 := by kernel_rfl
theorem spec_WorkStep.bits5 : waitsOk spec_WorkStep.T5.2 spec_WorkStep.B5 = true := by kernel_rfl
set_option maxHeartbeats 8000000 in
set_option maxRecDepth 100000 in
set_option synthInstance.maxHeartbeats 400000 in
set_option synthInstance.maxSize 100000 in
theorem spec_WorkStep.calls (k : Nat) (A0_0 : Option Addr) (c0_0 : Nat) (l0_0 : List (S96)) (a0_1 : Int) (A0_2 : Option Addr) (c0_2 : Nat) (l0_2 : List Int) (r1 : List (S96)) (r2 : Int) (r3 : List Int) (r4 : Bool) (w : World) (hr0_0 : Kd.C k96 w A0_0 l0_0.length l0_0) (hc0_0 : l0_0.length ≤ c0_0) (hr0_2 : Kd.C (Kd.int .i64) w A0_2 l0_2.length l0_2) (hc0_2 : l0_2.length ≤ c0_2) (h : spec_WorkStep.f k l0_0 a0_1 l0_2 = some (r1, r2, r3, r4)) :
  Calls Try.prog 88 #[.agg #[.slice A0_0 l0_0.length c0_0, .int .i64 a0_1, .slice A0_2 l0_2.length c0_2]] w fun e w' => ∃ v0_ v2_ : Value, e = .returned (.tuple #[.agg #[v0_, .int .i64 r2, v2_], .bool r4]) ∧ Kd.R k96 96 w' w.heap.size (fun _ => True) v0_ r1 ∧ Kd.R (Kd.int .i64) 3 w' w.heap.size (fun _ => True) v2_ r3 ∧ Below w.heap.size w w' := by
 have ihr0_0 := RdE.mk hr0_0
 have ihc0_0 := LeI.mk hc0_0
 have ihr0_2 := RdE.mk hr0_2
 have ihc0_2 := LeI.mk hc0_2
 clear hr0_0 hc0_0 hr0_2 hc0_2
 have nt96_3 := NeT.mk (d := k96) (e := 96) (t := 3) (by decide)
 have nt96_33 := NeT.mk (d := k96) (e := 96) (t := 33) (by decide)
 unfold spec_WorkStep.f at h
 have hu33 := Try.underlying33
 have hu96 := Try.underlying96
 (repeat' first | ((with_reducible replace h := ite_some h); rcases h with ⟨hc, h⟩ | ⟨hc, h⟩ <;> first | exact (none_some h).elim | exact absurd hc (by decide) | subst hc | (replace hc := Bool.eq_false_iff.mpr hc; subst hc) | (replace hc := (Bool.not_eq_true' _).mp hc; subst hc) | (replace hc := (Bool.not_eq_false' _).mp (Bool.eq_false_iff.mpr hc); subst hc) | (have hd : (_ == _) = true := hc) | (have hd : (_ == _) = false := Bool.eq_false_iff.mpr hc) | (have hd := beq_iff_eq.mpr hc; have he := bne_eq_false_iff_eq.mpr hc; clear hc) | (have hd := beq_eq_false_iff_ne.mpr hc; have he := bne_iff_ne.mpr hc) | (have hd := decide_eq_false hc) | (have hd := decide_eq_true hc; (try (have hn := Int.natCast_pos.mp hc; have hm := decide_eq_true hn; replace hn := eq_true hn)); first | (obtain ⟨g_, e_, i_⟩ := form_ (by assumption) (by first | assumption | decide) hc; cases e_) | (obtain ⟨a_, e_, c_⟩ := atI_ (by assumption) (by first | assumption | decide) hc; cases e_) | (obtain ⟨a_, e_, c0_, c1_, c2_, c3_⟩ := at_T96 (RdE.out (self := by assumption)) _ (by first | assumption | decide) hc; cases e_; replace c0_ := CelE.mk c0_; replace c1_ := CelE.mk c1_; replace c2_ := CelE.mk c2_; replace c3_ := CelE.mk c3_)) | (have hd := decide_eq_true hc) | skip) | ((with_reducible have hj : spec_WorkStep.j0 k _ _ _ _ _ _ _ = _ := h); clear hj; rcases k with _ | k <;> rw [spec_WorkStep.j0] at h <;> first | exact (none_some h).elim | skip) | ((with_reducible replace h := bind_set_ h); obtain ⟨hl_, h⟩ := h; replace hl_ := A_ hl_; (try dsimp only at h)))
 all_goals go_enter Try.func88, Try.ntmps88
 all_goals go_wp2_with (first
  | ((with_reducible refine gate_dst (N := 1) rfl ?_); refine box_event rfl (N := 1) rfl (cs := #[.slice A0_0 l0_0.length c0_0, .int .i64 a0_1, .slice A0_2 l0_2.length c0_2]) (t := 33) (by first | (go_simp; done) | (go_simp; rfl)) ?_; intro g hg w1 hk hb; have j1 := Born.mk hg; have j2 := Bel.mk hb; have j3 := Blk.mk hk; clear hg hb hk)
  | ((with_reducible refine gate_dst (N := 2) rfl ?_); refine box_event rfl (N := 2) rfl (cs := #[.slice none 0 0, .int .i64 0, .slice none 0 0]) (t := 33) (by first | (go_simp; done) | (go_simp; rfl)) ?_; intro g hg w1 hk hb; have j1 := Born.mk hg; have j2 := Bel.mk hb; have j3 := Blk.mk hk; clear hg hb hk)
  | ((with_reducible refine gate_dst (N := 4) rfl ?_); refine box_event rfl (N := 4) rfl (cs := #[.slice none 0 0, .int .i64 0, .slice none 0 0]) (t := 33) (by first | (go_simp; done) | (go_simp; rfl)) ?_; intro g hg w1 hk hb; have j1 := Born.mk hg; have j2 := Bel.mk hb; have j3 := Blk.mk hk; clear hg hb hk)
  | ((with_reducible refine gate_dst (N := 5) rfl ?_); refine box_event rfl (N := 5) rfl (cs := #[.int .i64 0, .int .i64 0, .int .i64 0, .int .i64 0]) (t := 96) (by first | (go_simp; done) | (go_simp; rfl)) ?_; intro g hg w1 hk hb; have j1 := Born.mk hg; have j2 := Bel.mk hb; have j3 := Blk.mk hk; clear hg hb hk)
  | (go_at_call 118; (try rw [hl_.out]); replace h := Option.bind_eq_some_iff.mp h; obtain ⟨⟨t1, t2, t3⟩, A, h⟩ := h; (try dsimp only at h); refine (spec_l36Copy.calls _ _ _ _ _ _ _ _ _ _ _ Rd.out LeI.out Rd.out LeI.out A).mono ?_; rintro e w2 ⟨v0, v1, rfl, ho0, ho1, hb⟩; obtain ⟨B0, b0, rfl⟩ := Kd.R_slice ho0; have j0 := RowE.mk ho0; have q0 := LeI.mk (rowLe j0); obtain ⟨B1, b1, rfl⟩ := Kd.R_slice ho1; have j1 := RowE.mk ho1; have q1 := LeI.mk (rowLe j1); have jb := Bel.mk hb; clear A ho0 ho1 hb; (repeat' first | ((with_reducible replace h := ite_some h); rcases h with ⟨hc, h⟩ | ⟨hc, h⟩ <;> first | exact (none_some h).elim | exact absurd hc (by decide) | subst hc | (replace hc := Bool.eq_false_iff.mpr hc; subst hc) | (replace hc := (Bool.not_eq_true' _).mp hc; subst hc) | (replace hc := (Bool.not_eq_false' _).mp (Bool.eq_false_iff.mpr hc); subst hc) | (have hd : (_ == _) = true := hc) | (have hd : (_ == _) = false := Bool.eq_false_iff.mpr hc) | (have hd := beq_iff_eq.mpr hc; have he := bne_eq_false_iff_eq.mpr hc; clear hc) | (have hd := beq_eq_false_iff_ne.mpr hc; have he := bne_iff_ne.mpr hc) | (have hd := decide_eq_false hc) | (have hd := decide_eq_true hc; (try (have hn := Int.natCast_pos.mp hc; have hm := decide_eq_true hn; replace hn := eq_true hn)); first | (obtain ⟨g_, e_, i_⟩ := form_ (by assumption) (by first | assumption | decide) hc; cases e_) | (obtain ⟨a_, e_, c_⟩ := atI_ (by assumption) (by first | assumption | decide) hc; cases e_) | (obtain ⟨a_, e_, c0_, c1_, c2_, c3_⟩ := at_T96 (RdE.out (self := by assumption)) _ (by first | assumption | decide) hc; cases e_; replace c0_ := CelE.mk c0_; replace c1_ := CelE.mk c1_; replace c2_ := CelE.mk c2_; replace c3_ := CelE.mk c3_)) | (have hd := decide_eq_true hc) | skip) | ((with_reducible have hj : spec_WorkStep.j0 k _ _ _ _ _ _ _ = _ := h); clear hj; rcases k with _ | k <;> rw [spec_WorkStep.j0] at h <;> first | exact (none_some h).elim | skip) | ((with_reducible replace h := bind_set_ h); obtain ⟨hl_, h⟩ := h; replace hl_ := A_ hl_; (try dsimp only at h))))
  | (go_at_call 60; (try rw [hl_.out]); replace h := Option.bind_eq_some_iff.mp h; obtain ⟨t, A, h⟩ := h; (try dsimp only at h); refine (spec_WorkOk.calls _ _ _ _ _ _ _ _ _ _ Rd.out LeI.out Rd.out LeI.out A).mono ?_; rintro e w2 ⟨rfl, hb⟩; have jb := Bel.mk hb; clear A hb; (repeat' first | ((with_reducible replace h := ite_some h); rcases h with ⟨hc, h⟩ | ⟨hc, h⟩ <;> first | exact (none_some h).elim | exact absurd hc (by decide) | subst hc | (replace hc := Bool.eq_false_iff.mpr hc; subst hc) | (replace hc := (Bool.not_eq_true' _).mp hc; subst hc) | (replace hc := (Bool.not_eq_false' _).mp (Bool.eq_false_iff.mpr hc); subst hc) | (have hd : (_ == _) = true := hc) | (have hd : (_ == _) = false := Bool.eq_false_iff.mpr hc) | (have hd := beq_iff_eq.mpr hc; have he := bne_eq_false_iff_eq.mpr hc; clear hc) | (have hd := beq_eq_false_iff_ne.mpr hc; have he := bne_iff_ne.mpr hc) | (have hd := decide_eq_false hc) | (have hd := decide_eq_true hc; (try (have hn := Int.natCast_pos.mp hc; have hm := decide_eq_true hn; replace hn := eq_true hn)); first | (obtain ⟨g_, e_, i_⟩ := form_ (by assumption) (by first | assumption | decide) hc; cases e_) | (obtain ⟨a_, e_, c_⟩ := atI_ (by assumption) (by first | assumption | decide) hc; cases e_) | (obtain ⟨a_, e_, c0_, c1_, c2_, c3_⟩ := at_T96 (RdE.out (self := by assumption)) _ (by first | assumption | decide) hc; cases e_; replace c0_ := CelE.mk c0_; replace c1_ := CelE.mk c1_; replace c2_ := CelE.mk c2_; replace c3_ := CelE.mk c3_)) | (have hd := decide_eq_true hc) | skip) | ((with_reducible have hj : spec_WorkStep.j0 k _ _ _ _ _ _ _ = _ := h); clear hj; rcases k with _ | k <;> rw [spec_WorkStep.j0] at h <;> first | exact (none_some h).elim | skip) | ((with_reducible replace h := bind_set_ h); obtain ⟨hl_, h⟩ := h; replace hl_ := A_ hl_; (try dsimp only at h))))
  | (refine qR (id := 5) (ds := []) (l := #[false, false, false, false, false, false, false, false, false, false, false, false]) spec_WorkStep.tab5 spec_WorkStep.bits5 ?_; intro HT_ HW_ w3 jw u0 iu hHeld; refine qA 0 (some 27) HT_ ?_; refine qA 2 (some 29) HT_ ?_; refine qA 6 (some 33) HT_ ?_; refine qA 8 (some 35) HT_ ?_; refine qT 1 (some 28) HT_ HW_ hHeld ?_; refine qT 3 (some 30) HT_ HW_ hHeld ?_; refine qA 4 (some 31) HT_ ?_; refine qT 5 (some 32) HT_ HW_ hHeld ?_; refine qT 7 (some 34) HT_ HW_ hHeld ?_; refine qT 9 (some 36) HT_ HW_ hHeld ?_; replace h := Option.bind_eq_some_iff.mp h; obtain ⟨t, A, h⟩ := h; (try dsimp only at h); refine qC 10 37 Try.func116 HT_ fun K hK => ?_; refine (spec_TunedPitch.calls _ _ _ _ _ _ A).mono ?_; rintro e w2 ⟨rfl, hb⟩; have jb := Bel.mk hb; clear A hb; refine ⟨_, rfl, hK _ _ From.out fun hHeld => ?_⟩; clear hK K; refine qN ?_; refine qA 11 (some 6) HT_ ?_; refine qD HT_ ?_; (repeat' first | ((with_reducible replace h := ite_some h); rcases h with ⟨hc, h⟩ | ⟨hc, h⟩ <;> first | exact (none_some h).elim | exact absurd hc (by decide) | subst hc | (replace hc := Bool.eq_false_iff.mpr hc; subst hc) | (replace hc := (Bool.not_eq_true' _).mp hc; subst hc) | (replace hc := (Bool.not_eq_false' _).mp (Bool.eq_false_iff.mpr hc); subst hc) | (have hd : (_ == _) = true := hc) | (have hd : (_ == _) = false := Bool.eq_false_iff.mpr hc) | (have hd := beq_iff_eq.mpr hc; have he := bne_eq_false_iff_eq.mpr hc; clear hc) | (have hd := beq_eq_false_iff_ne.mpr hc; have he := bne_iff_ne.mpr hc) | (have hd := decide_eq_false hc) | (have hd := decide_eq_true hc; (try (have hn := Int.natCast_pos.mp hc; have hm := decide_eq_true hn; replace hn := eq_true hn)); first | (obtain ⟨g_, e_, i_⟩ := form_ (by assumption) (by first | assumption | decide) hc; cases e_) | (obtain ⟨a_, e_, c_⟩ := atI_ (by assumption) (by first | assumption | decide) hc; cases e_) | (obtain ⟨a_, e_, c0_, c1_, c2_, c3_⟩ := at_T96 (RdE.out (self := by assumption)) _ (by first | assumption | decide) hc; cases e_; replace c0_ := CelE.mk c0_; replace c1_ := CelE.mk c1_; replace c2_ := CelE.mk c2_; replace c3_ := CelE.mk c3_)) | (have hd := decide_eq_true hc) | skip) | ((with_reducible have hj : spec_WorkStep.j0 k _ _ _ _ _ _ _ = _ := h); clear hj; rcases k with _ | k <;> rw [spec_WorkStep.j0] at h <;> first | exact (none_some h).elim | skip) | ((with_reducible replace h := bind_set_ h); obtain ⟨hl_, h⟩ := h; replace hl_ := A_ hl_; (try dsimp only at h)))))
 all_goals (repeat' first | ((with_reducible replace h := ite_some h); rcases h with ⟨hc, h⟩ | ⟨hc, h⟩ <;> first | exact (none_some h).elim | exact absurd hc (by decide) | subst hc | (replace hc := Bool.eq_false_iff.mpr hc; subst hc) | (replace hc := (Bool.not_eq_true' _).mp hc; subst hc) | (replace hc := (Bool.not_eq_false' _).mp (Bool.eq_false_iff.mpr hc); subst hc) | (have hd : (_ == _) = true := hc) | (have hd : (_ == _) = false := Bool.eq_false_iff.mpr hc) | (have hd := beq_iff_eq.mpr hc; have he := bne_eq_false_iff_eq.mpr hc; clear hc) | (have hd := beq_eq_false_iff_ne.mpr hc; have he := bne_iff_ne.mpr hc) | (have hd := decide_eq_false hc) | (have hd := decide_eq_true hc; (try (have hn := Int.natCast_pos.mp hc; have hm := decide_eq_true hn; replace hn := eq_true hn)); first | (obtain ⟨g_, e_, i_⟩ := form_ (by assumption) (by first | assumption | decide) hc; cases e_) | (obtain ⟨a_, e_, c_⟩ := atI_ (by assumption) (by first | assumption | decide) hc; cases e_) | (obtain ⟨a_, e_, c0_, c1_, c2_, c3_⟩ := at_T96 (RdE.out (self := by assumption)) _ (by first | assumption | decide) hc; cases e_; replace c0_ := CelE.mk c0_; replace c1_ := CelE.mk c1_; replace c2_ := CelE.mk c2_; replace c3_ := CelE.mk c3_)) | (have hd := decide_eq_true hc) | skip) | ((with_reducible have hj : spec_WorkStep.j0 k _ _ _ _ _ _ _ = _ := h); clear hj; rcases k with _ | k <;> rw [spec_WorkStep.j0] at h <;> first | exact (none_some h).elim | skip) | ((with_reducible replace h := bind_set_ h); obtain ⟨hl_, h⟩ := h; replace hl_ := A_ hl_; (try dsimp only at h)))
 all_goals simp only [Option.some.injEq, Prod.mk.injEq] at h
 all_goals obtain ⟨rfl, rfl, rfl, rfl⟩ := h
 all_goals refine bodyPost_ret (results_ct rfl _ _ _ _ _ (0, 0) _ rfl Blk.out Try.underlying33 rfl (by kernel_rfl)) rfl ?_
 all_goals exact ⟨_, _, rfl, (by first | exact rowFin | exact Kd.R_nil _ _ _ _ _ | exact atFin | exact irowFin' (by simp)), (by first | exact rowFin | exact Kd.R_nil _ _ _ _ _ | exact atFin | exact irowFin' (by simp)), From.out⟩
end Go.Proofs.Ytbkkpllejgedcaa.P


namespace Go.Proofs.Ytbkkpllejgedcaa.P
open Go.RowKit Go.Proofs.YtbkkpllejgedcaaW.PrintWords Go.Proofs.YtbkkpllejgedcaaW.PrintLast Go.Proofs.YtbkkpllejgedcaaW.PrintMore Go.Proofs.Ytbkkpllejgedcaa.V
attribute [local go_sem] cell_b frozen_b
attribute [local go_sem] max2_int min2_int max_two min_two max_three min_three max_four min_four
set_option linter.unusedVariables false
set_option linter.unusedSimpArgs false
def spec_ShopTune.f (k : Nat) (l0_0 : List (S96)) (a0_1 : Int) (l0_2 : List Int) (a0_3 : Int) (a0_4 : Int) (l0_5 : List (S74)) : Option ((List (S96)) × Int × List Int × Int × Int × (List (S74)) × Bool) := (spec_l38Copy.f l0_0 a0_1 l0_2 a0_3 a0_4 l0_5).bind fun bt1408 => ((spec_ShopOk.f k l0_0 a0_1 l0_2 a0_3 a0_4 l0_5).bind fun t1421 => (if t1421 = true then ((spec_WrongSteps.f k l0_0 a0_1 l0_2).bind fun t1422 => (if (t1422.length : Int) > 0 then ((spec_MendStep.f k l0_0 a0_1 l0_2).bind fun bt1425 => (some (bt1425.1, bt1425.2.1, bt1425.2.2.1, bt1408.2.2.2.1, bt1408.2.2.2.2.1, bt1408.2.2.2.2.2, bt1425.2.2.2))) else ((spec_WorkStep.f k l0_0 a0_1 l0_2).bind fun bt1433 => (some (bt1433.1, bt1433.2.1, bt1433.2.2.1, bt1408.2.2.2.1, bt1408.2.2.2.2.1, bt1408.2.2.2.2.2, bt1433.2.2.2))))) else (some (bt1408.1, bt1408.2.1, bt1408.2.2.1, bt1408.2.2.2.1, bt1408.2.2.2.2.1, bt1408.2.2.2.2.2, false))))
set_option maxHeartbeats 8000000 in
set_option maxRecDepth 100000 in
set_option synthInstance.maxHeartbeats 400000 in
set_option synthInstance.maxSize 100000 in
theorem spec_ShopTune.calls (k : Nat) (A0_0 : Option Addr) (c0_0 : Nat) (l0_0 : List (S96)) (a0_1 : Int) (A0_2 : Option Addr) (c0_2 : Nat) (l0_2 : List Int) (a0_3 : Int) (a0_4 : Int) (A0_5 : Option Addr) (c0_5 : Nat) (l0_5 : List (S74)) (r1 : List (S96)) (r2 : Int) (r3 : List Int) (r4 : Int) (r5 : Int) (r6 : List (S74)) (r7 : Bool) (w : World) (hr0_0 : Kd.C k96 w A0_0 l0_0.length l0_0) (hc0_0 : l0_0.length ≤ c0_0) (hr0_2 : Kd.C (Kd.int .i64) w A0_2 l0_2.length l0_2) (hc0_2 : l0_2.length ≤ c0_2) (hr0_5 : Kd.C k74 w A0_5 l0_5.length l0_5) (hc0_5 : l0_5.length ≤ c0_5) (h : spec_ShopTune.f k l0_0 a0_1 l0_2 a0_3 a0_4 l0_5 = some (r1, r2, r3, r4, r5, r6, r7)) :
  Calls Try.prog 41 #[.agg #[.slice A0_0 l0_0.length c0_0, .int .i64 a0_1, .slice A0_2 l0_2.length c0_2, .int .i64 a0_3, .int .i64 a0_4, .slice A0_5 l0_5.length c0_5]] w fun e w' => ∃ v0_ v2_ v5_ : Value, e = .returned (.tuple #[.agg #[v0_, .int .i64 r2, v2_, .int .i64 r4, .int .i64 r5, v5_], .bool r7]) ∧ Kd.R k96 96 w' w.heap.size (fun _ => True) v0_ r1 ∧ Kd.R (Kd.int .i64) 3 w' w.heap.size (fun _ => True) v2_ r3 ∧ Kd.R k74 74 w' w.heap.size (fun _ => True) v5_ r6 ∧ Below w.heap.size w w' := by
 have ihr0_0 := RdE.mk hr0_0
 have ihc0_0 := LeI.mk hc0_0
 have ihr0_2 := RdE.mk hr0_2
 have ihc0_2 := LeI.mk hc0_2
 have ihr0_5 := RdE.mk hr0_5
 have ihc0_5 := LeI.mk hc0_5
 clear hr0_0 hc0_0 hr0_2 hc0_2 hr0_5 hc0_5
 unfold spec_ShopTune.f at h
 have hu36 := Try.underlying36
 (repeat' first | ((with_reducible replace h := ite_some h); rcases h with ⟨hc, h⟩ | ⟨hc, h⟩ <;> first | exact (none_some h).elim | exact absurd hc (by decide) | subst hc | (replace hc := Bool.eq_false_iff.mpr hc; subst hc) | (have hd := beq_iff_eq.mpr hc; have he := bne_eq_false_iff_eq.mpr hc; clear hc) | (have hd := beq_eq_false_iff_ne.mpr hc; have he := bne_iff_ne.mpr hc) | (have hd := decide_eq_false hc) | (have hd := decide_eq_true hc) | skip))
 all_goals go_enter Try.func41, Try.ntmps41
 all_goals go_wp2_with (first
  | ((with_reducible refine gate_dst (N := 1) rfl ?_); refine box_event rfl (N := 1) rfl (cs := #[.slice A0_0 l0_0.length c0_0, .int .i64 a0_1, .slice A0_2 l0_2.length c0_2, .int .i64 a0_3, .int .i64 a0_4, .slice A0_5 l0_5.length c0_5]) (t := 36) (by first | (go_simp; done) | (go_simp; rfl)) ?_; intro g hg w1 hk hb; have j1 := Born.mk hg; have j2 := Bel.mk hb; have j3 := Blk.mk hk; clear hg hb hk)
  | ((with_reducible refine gate_dst (N := 2) rfl ?_); refine box_event rfl (N := 2) rfl (cs := #[.slice none 0 0, .int .i64 0, .slice none 0 0, .int .i64 0, .int .i64 0, .slice none 0 0]) (t := 36) (by first | (go_simp; done) | (go_simp; rfl)) ?_; intro g hg w1 hk hb; have j1 := Born.mk hg; have j2 := Bel.mk hb; have j3 := Blk.mk hk; clear hg hb hk)
  | ((with_reducible refine gate_dst (N := 4) rfl ?_); refine box_event rfl (N := 4) rfl (cs := #[.slice none 0 0, .int .i64 0, .slice none 0 0, .int .i64 0, .int .i64 0, .slice none 0 0]) (t := 36) (by first | (go_simp; done) | (go_simp; rfl)) ?_; intro g hg w1 hk hb; have j1 := Born.mk hg; have j2 := Bel.mk hb; have j3 := Blk.mk hk; clear hg hb hk)
  | (go_at_call 83; replace h := Option.bind_eq_some_iff.mp h; obtain ⟨⟨t1, t2, t3, t4, t5, t6⟩, A, h⟩ := h; (try dsimp only at h); refine (spec_l38Copy.calls _ _ _ _ _ _ _ _ _ _ _ _ _ _ _ _ _ _ _ Rd.out LeI.out Rd.out LeI.out Rd.out LeI.out A).mono ?_; rintro e w2 ⟨v0, v1, v2, rfl, ho0, ho1, ho2, hb⟩; obtain ⟨B0, b0, rfl⟩ := Kd.R_slice ho0; have j0 := RowE.mk ho0; have q0 := LeI.mk (rowLe j0); obtain ⟨B1, b1, rfl⟩ := Kd.R_slice ho1; have j1 := RowE.mk ho1; have q1 := LeI.mk (rowLe j1); obtain ⟨B2, b2, rfl⟩ := Kd.R_slice ho2; have j2 := RowE.mk ho2; have q2 := LeI.mk (rowLe j2); have jb := Bel.mk hb; clear A ho0 ho1 ho2 hb; (repeat' first | ((with_reducible replace h := ite_some h); rcases h with ⟨hc, h⟩ | ⟨hc, h⟩ <;> first | exact (none_some h).elim | exact absurd hc (by decide) | subst hc | (replace hc := Bool.eq_false_iff.mpr hc; subst hc) | (have hd := beq_iff_eq.mpr hc; have he := bne_eq_false_iff_eq.mpr hc; clear hc) | (have hd := beq_eq_false_iff_ne.mpr hc; have he := bne_iff_ne.mpr hc) | (have hd := decide_eq_false hc) | (have hd := decide_eq_true hc) | skip)))
  | (go_at_call 16; replace h := Option.bind_eq_some_iff.mp h; obtain ⟨t, A, h⟩ := h; (try dsimp only at h); refine (spec_ShopOk.calls _ _ _ _ _ _ _ _ _ _ _ _ _ _ _ Rd.out LeI.out Rd.out LeI.out Rd.out LeI.out A).mono ?_; rintro e w2 ⟨rfl, hb⟩; have jb := Bel.mk hb; clear A hb; (repeat' first | ((with_reducible replace h := ite_some h); rcases h with ⟨hc, h⟩ | ⟨hc, h⟩ <;> first | exact (none_some h).elim | exact absurd hc (by decide) | subst hc | (replace hc := Bool.eq_false_iff.mpr hc; subst hc) | (have hd := beq_iff_eq.mpr hc; have he := bne_eq_false_iff_eq.mpr hc; clear hc) | (have hd := beq_eq_false_iff_ne.mpr hc; have he := bne_iff_ne.mpr hc) | (have hd := decide_eq_false hc) | (have hd := decide_eq_true hc) | skip)))
  | (go_at_call 79; replace h := Option.bind_eq_some_iff.mp h; obtain ⟨t, A, h⟩ := h; (try dsimp only at h); refine (spec_WrongSteps.calls _ _ _ _ _ _ _ _ _ _ Rd.out LeI.out Rd.out LeI.out A).mono ?_; rintro e w2 ⟨v0, rfl, ho0, hb⟩; obtain ⟨B0, b0, rfl⟩ := Kd.R_slice ho0; have j0 := RowE.mk ho0; have q0 := LeI.mk (rowLe j0); have jb := Bel.mk hb; clear A ho0 hb; (repeat' first | ((with_reducible replace h := ite_some h); rcases h with ⟨hc, h⟩ | ⟨hc, h⟩ <;> first | exact (none_some h).elim | exact absurd hc (by decide) | subst hc | (replace hc := Bool.eq_false_iff.mpr hc; subst hc) | (have hd := beq_iff_eq.mpr hc; have he := bne_eq_false_iff_eq.mpr hc; clear hc) | (have hd := beq_eq_false_iff_ne.mpr hc; have he := bne_iff_ne.mpr hc) | (have hd := decide_eq_false hc) | (have hd := decide_eq_true hc) | skip)); (try have hn : decide (0 < t.length) = true := decide_eq_true (by omega)); (try have hn : decide (0 < t.length) = false := decide_eq_false (by omega)))
  | (go_at_call 87; replace h := Option.bind_eq_some_iff.mp h; obtain ⟨⟨t1, t2, t3, t4⟩, A, h⟩ := h; (try dsimp only at h); refine (spec_MendStep.calls _ _ _ _ _ _ _ _ _ _ _ _ _ Rd.out LeI.out Rd.out LeI.out A).mono ?_; rintro e w2 ⟨v0, v1, rfl, ho0, ho1, hb⟩; obtain ⟨B0, b0, rfl⟩ := Kd.R_slice ho0; have j0 := RowE.mk ho0; have q0 := LeI.mk (rowLe j0); obtain ⟨B1, b1, rfl⟩ := Kd.R_slice ho1; have j1 := RowE.mk ho1; have q1 := LeI.mk (rowLe j1); have jb := Bel.mk hb; clear A ho0 ho1 hb; (repeat' first | ((with_reducible replace h := ite_some h); rcases h with ⟨hc, h⟩ | ⟨hc, h⟩ <;> first | exact (none_some h).elim | exact absurd hc (by decide) | subst hc | (replace hc := Bool.eq_false_iff.mpr hc; subst hc) | (have hd := beq_iff_eq.mpr hc; have he := bne_eq_false_iff_eq.mpr hc; clear hc) | (have hd := beq_eq_false_iff_ne.mpr hc; have he := bne_iff_ne.mpr hc) | (have hd := decide_eq_false hc) | (have hd := decide_eq_true hc) | skip)))
  | (go_at_call 88; replace h := Option.bind_eq_some_iff.mp h; obtain ⟨⟨t1, t2, t3, t4⟩, A, h⟩ := h; (try dsimp only at h); refine (spec_WorkStep.calls _ _ _ _ _ _ _ _ _ _ _ _ _ Rd.out LeI.out Rd.out LeI.out A).mono ?_; rintro e w2 ⟨v0, v1, rfl, ho0, ho1, hb⟩; obtain ⟨B0, b0, rfl⟩ := Kd.R_slice ho0; have j0 := RowE.mk ho0; have q0 := LeI.mk (rowLe j0); obtain ⟨B1, b1, rfl⟩ := Kd.R_slice ho1; have j1 := RowE.mk ho1; have q1 := LeI.mk (rowLe j1); have jb := Bel.mk hb; clear A ho0 ho1 hb; (repeat' first | ((with_reducible replace h := ite_some h); rcases h with ⟨hc, h⟩ | ⟨hc, h⟩ <;> first | exact (none_some h).elim | exact absurd hc (by decide) | subst hc | (replace hc := Bool.eq_false_iff.mpr hc; subst hc) | (have hd := beq_iff_eq.mpr hc; have he := bne_eq_false_iff_eq.mpr hc; clear hc) | (have hd := beq_eq_false_iff_ne.mpr hc; have he := bne_iff_ne.mpr hc) | (have hd := decide_eq_false hc) | (have hd := decide_eq_true hc) | skip))))
 all_goals (repeat' first | ((with_reducible replace h := ite_some h); rcases h with ⟨hc, h⟩ | ⟨hc, h⟩ <;> first | exact (none_some h).elim | exact absurd hc (by decide) | subst hc | (replace hc := Bool.eq_false_iff.mpr hc; subst hc) | (have hd := beq_iff_eq.mpr hc; have he := bne_eq_false_iff_eq.mpr hc; clear hc) | (have hd := beq_eq_false_iff_ne.mpr hc; have he := bne_iff_ne.mpr hc) | (have hd := decide_eq_false hc) | (have hd := decide_eq_true hc) | skip))
 all_goals simp only [Option.some.injEq, Prod.mk.injEq] at h
 all_goals obtain ⟨rfl, rfl, rfl, rfl, rfl, rfl, rfl⟩ := h
 all_goals refine bodyPost_ret (results_ct rfl _ _ _ _ _ (0, 0) _ rfl Blk.out Try.underlying36 rfl (by kernel_rfl)) rfl ?_
 all_goals exact ⟨_, _, _, rfl, (by first | exact rowFin | exact Kd.R_nil _ _ _ _ _), (by first | exact rowFin | exact Kd.R_nil _ _ _ _ _), (by first | exact rowFin | exact Kd.R_nil _ _ _ _ _), From.out⟩
end Go.Proofs.Ytbkkpllejgedcaa.P


namespace Go.Proofs.Ytbkkpllejgedcaa.P
open Go.RowKit Go.Proofs.YtbkkpllejgedcaaW.PrintWords Go.Proofs.YtbkkpllejgedcaaW.PrintLast Go.Proofs.YtbkkpllejgedcaaW.PrintMore
attribute [local go_sem] max2_int min2_int max_two min_two max_three min_three max_four min_four
set_option linter.unusedVariables false
set_option linter.unusedSimpArgs false
def spec_l01Below.f (s0_0 : List Int) (s0_1 : Int) (s0_2 : Int) (a1 : Int) : Option (Int × Int × Int) := if a1 ≤ 0 then (some (0, s0_1, s0_2)) else (if a1 ≤ 256 then ((spec_l01Byte.f s0_0 s0_1 s0_2).bind fun bt1617 => (if a1 = 0 then (none) else (some (Int.tmod bt1617.1 a1, bt1617.2.1, bt1617.2.2)))) else ((spec_l01Byte.f s0_0 s0_1 s0_2).bind fun bt1620 => ((spec_l01Byte.f s0_0 bt1620.2.1 bt1620.2.2).bind fun bt1623 => ((spec_l01Byte.f s0_0 bt1623.2.1 bt1623.2.2).bind fun bt1626 => ((spec_l01Byte.f s0_0 bt1626.2.1 bt1626.2.2).bind fun bt1629 => (if a1 = 0 then (none) else (some (Int.tmod (wrap64 ((wrap64 ((wrap64 ((wrap64 (bt1620.1 * 16777216)) + (wrap64 (bt1623.1 * 65536)))) + (wrap64 (bt1626.1 * 256)))) + bt1629.1)) a1, bt1629.2.1, bt1629.2.2))))))))
set_option maxHeartbeats 8000000 in
set_option maxRecDepth 100000 in
theorem spec_l01Below.calls (g : Nat) (s0_0 : List Int) (s0_1 : Int) (s0_2 : Int) (a1 : Int) (r1 : Int) (r2 : Int) (r3 : Int) (w0 w : World) (hI : IsS129 w0 w g s0_0 s0_1 s0_2) (hB : Below w0.heap.size w0 w) (h : spec_l01Below.f s0_0 s0_1 s0_2 a1 = some (r1, r2, r3)) :
  Calls Try.prog 120 #[.pointer (some ⟨g, 0, none⟩), .int .i64 a1] w fun e w' => e = .returned (.int .i64 r1) ∧ IsS129 w0 w' g s0_0 r2 r3 ∧ Below w0.heap.size w0 w' ∧ KeepBut w w' g none := by
 have HI0 := A_ hI
 have HK := A_ (KeepBut.refl w g none)
 have HL := A_ hB.size
 clear hI
 have HW0 := A_ hB.size
 have HB := A_ hB
 clear hB
 have H : (if a1 ≤ 0 then (some (0, s0_1, s0_2)) else (if a1 ≤ 256 then ((spec_l01Byte.f s0_0 s0_1 s0_2).bind fun bt1617 => (if a1 = 0 then (none) else (some (Int.tmod bt1617.1 a1, bt1617.2.1, bt1617.2.2)))) else ((spec_l01Byte.f s0_0 s0_1 s0_2).bind fun bt1620 => ((spec_l01Byte.f s0_0 bt1620.2.1 bt1620.2.2).bind fun bt1623 => ((spec_l01Byte.f s0_0 bt1623.2.1 bt1623.2.2).bind fun bt1626 => ((spec_l01Byte.f s0_0 bt1626.2.1 bt1626.2.2).bind fun bt1629 => (if a1 = 0 then (none) else (some (Int.tmod (wrap64 ((wrap64 ((wrap64 ((wrap64 (bt1620.1 * 16777216)) + (wrap64 (bt1623.1 * 65536)))) + (wrap64 (bt1626.1 * 256)))) + bt1629.1)) a1, bt1629.2.1, bt1629.2.2))))))))) = some (r1, r2, r3) := h
 clear h
 by_cases c3 : a1 ≤ 0
 ·rw [if_pos c3] at H
  have c3b0 : decide (a1 ≤ 0) = true := decide_eq_true c3
  clear c3
  simp only [Option.some.injEq, Prod.mk.injEq] at H
  obtain ⟨rfl, rfl, rfl⟩ := H
  go_enter Try.func120, Try.ntmps120
  go_wp2
  go_ret
  exact ⟨eR, oI129 HI0, oB129 HB, oKe HK⟩
 ·rw [if_neg c3] at H
  have c3b0 : decide (a1 ≤ 0) = false := decide_eq_false c3
  clear c3
  by_cases c4 : a1 ≤ 256
  ·rw [if_pos c4] at H
   have c4b0 : decide (a1 ≤ 256) = true := decide_eq_true c4
   clear c4
   replace H := Option.bind_eq_some_iff.mp H
   obtain ⟨⟨t1617, t1618, t1619⟩, A50, H⟩ := H
   (try dsimp only at H)
   have A5 := A_ A50
   clear A50
   by_cases c6 : a1 = 0
   ·rw [if_pos c6] at H
    exact absurd H (by simp)
   ·rw [if_neg c6] at H
    have c6b0 : (a1 == 0) = false := beq_eq_false_iff_ne.mpr c6
    have c6b1 : (a1 != 0) = true := bne_iff_ne.mpr c6
    simp only [Option.some.injEq, Prod.mk.injEq] at H
    obtain ⟨rfl, rfl, rfl⟩ := H
    go_enter Try.func120, Try.ntmps120
    go_wp2_with (first | ((with_reducible refine gate_callee (f := 127) rfl ?_); refine gL (some 14) Try.func127 #[.pointer (some ⟨g, 0, none⟩)] ?_; (with_reducible refine (spec_l01Byte.calls g s0_0 s0_1 s0_2 t1617 t1618 t1619 w0 _ ?side1 ?side2 A5.out).mono ?_); (case side1 => exact oI129 HI0); (case side2 => exact oB129 HB); rintro e w7 ⟨rfl, hi, hb, hk⟩; refine ⟨_, rfl, ?_⟩; have n0_ := A_ (KeepBut.trans (oKe HK) hk (.inl rfl)); have n1_ := A_ (hb); have n2_ := A_ (hi); clear HK; clear HB; clear HI0; have HK := n0_; have HB := n1_; have HI0 := n2_; clear n0_ n1_ n2_; (try clear hb); (try clear hb2); (try clear hk); (try clear hi)))
    go_ret
    exact ⟨eR, oI129 HI0, oB129 HB, oKe HK⟩
  ·rw [if_neg c4] at H
   have c4b0 : decide (a1 ≤ 256) = false := decide_eq_false c4
   clear c4
   replace H := Option.bind_eq_some_iff.mp H
   obtain ⟨⟨t1620, t1621, t1622⟩, A80, H⟩ := H
   (try dsimp only at H)
   have A8 := A_ A80
   clear A80
   replace H := Option.bind_eq_some_iff.mp H
   obtain ⟨⟨t1623, t1624, t1625⟩, A90, H⟩ := H
   (try dsimp only at H)
   have A9 := A_ A90
   clear A90
   replace H := Option.bind_eq_some_iff.mp H
   obtain ⟨⟨t1626, t1627, t1628⟩, A100, H⟩ := H
   (try dsimp only at H)
   have A10 := A_ A100
   clear A100
   replace H := Option.bind_eq_some_iff.mp H
   obtain ⟨⟨t1629, t1630, t1631⟩, A110, H⟩ := H
   (try dsimp only at H)
   have A11 := A_ A110
   clear A110
   by_cases c12 : a1 = 0
   ·rw [if_pos c12] at H
    exact absurd H (by simp)
   ·rw [if_neg c12] at H
    have c12b0 : (a1 == 0) = false := beq_eq_false_iff_ne.mpr c12
    have c12b1 : (a1 != 0) = true := bne_iff_ne.mpr c12
    simp only [Option.some.injEq, Prod.mk.injEq] at H
    obtain ⟨rfl, rfl, rfl⟩ := H
    go_enter Try.func120, Try.ntmps120
    go_wp2_with (first | ((with_reducible refine gate_callee (f := 127) rfl ?_); refine gL (some 18) Try.func127 #[.pointer (some ⟨g, 0, none⟩)] ?_; (with_reducible refine (spec_l01Byte.calls g s0_0 s0_1 s0_2 t1620 t1621 t1622 w0 _ ?side1 ?side2 A8.out).mono ?_); (case side1 => exact oI129 HI0); (case side2 => exact oB129 HB); rintro e w13 ⟨rfl, hi, hb, hk⟩; refine ⟨_, rfl, ?_⟩; have n0_ := A_ (KeepBut.trans (oKe HK) hk (.inl rfl)); have n1_ := A_ (hb); have n2_ := A_ (hi); clear HK; clear HB; clear HI0; have HK := n0_; have HB := n1_; have HI0 := n2_; clear n0_ n1_ n2_; (try clear hb); (try clear hb2); (try clear hk); (try clear hi)) | ((with_reducible refine gate_callee (f := 127) rfl ?_); refine gL (some 20) Try.func127 #[.pointer (some ⟨g, 0, none⟩)] ?_; (with_reducible refine (spec_l01Byte.calls g s0_0 t1621 t1622 t1623 t1624 t1625 w0 _ ?side1 ?side2 A9.out).mono ?_); (case side1 => exact oI129 HI0); (case side2 => exact oB129 HB); rintro e w14 ⟨rfl, hi, hb, hk⟩; refine ⟨_, rfl, ?_⟩; have n0_ := A_ (KeepBut.trans (oKe HK) hk (.inl rfl)); have n1_ := A_ (hb); have n2_ := A_ (hi); clear HK; clear HB; clear HI0; have HK := n0_; have HB := n1_; have HI0 := n2_; clear n0_ n1_ n2_; (try clear hb); (try clear hb2); (try clear hk); (try clear hi)) | ((with_reducible refine gate_callee (f := 127) rfl ?_); refine gL (some 22) Try.func127 #[.pointer (some ⟨g, 0, none⟩)] ?_; (with_reducible refine (spec_l01Byte.calls g s0_0 t1624 t1625 t1626 t1627 t1628 w0 _ ?side1 ?side2 A10.out).mono ?_); (case side1 => exact oI129 HI0); (case side2 => exact oB129 HB); rintro e w15 ⟨rfl, hi, hb, hk⟩; refine ⟨_, rfl, ?_⟩; have n0_ := A_ (KeepBut.trans (oKe HK) hk (.inl rfl)); have n1_ := A_ (hb); have n2_ := A_ (hi); clear HK; clear HB; clear HI0; have HK := n0_; have HB := n1_; have HI0 := n2_; clear n0_ n1_ n2_; (try clear hb); (try clear hb2); (try clear hk); (try clear hi)) | ((with_reducible refine gate_callee (f := 127) rfl ?_); refine gL (some 24) Try.func127 #[.pointer (some ⟨g, 0, none⟩)] ?_; (with_reducible refine (spec_l01Byte.calls g s0_0 t1627 t1628 t1629 t1630 t1631 w0 _ ?side1 ?side2 A11.out).mono ?_); (case side1 => exact oI129 HI0); (case side2 => exact oB129 HB); rintro e w16 ⟨rfl, hi, hb, hk⟩; refine ⟨_, rfl, ?_⟩; have n0_ := A_ (KeepBut.trans (oKe HK) hk (.inl rfl)); have n1_ := A_ (hb); have n2_ := A_ (hi); clear HK; clear HB; clear HI0; have HK := n0_; have HB := n1_; have HI0 := n2_; clear n0_ n1_ n2_; (try clear hb); (try clear hb2); (try clear hk); (try clear hi)))
    go_ret
    exact ⟨eR, oI129 HI0, oB129 HB, oKe HK⟩
end Go.Proofs.Ytbkkpllejgedcaa.P


namespace Go.Proofs.Ytbkkpllejgedcaa.P
open Go.RowKit Go.Proofs.YtbkkpllejgedcaaW.PrintWords Go.Proofs.YtbkkpllejgedcaaW.PrintLast Go.Proofs.YtbkkpllejgedcaaW.PrintMore
attribute [local go_sem] max2_int min2_int max_two min_two max_three min_three max_four min_four
set_option linter.unusedVariables false
set_option linter.unusedSimpArgs false
def spec_UsualPlan.l0 : Nat → Int → List (S96) → Int → Option ((List (S96)))
 | 0, _, _, _ => none
 | k + 1, x0, x3, x4 => if x4 < 11 then ((spec_l01In.f x0 0 5000).bind fun t599 => (if t599 = true then ((some (([1, 2, 1, 2, 1, 2, 2, 1, 2, 1, 2] : List Int) : List Int)).bind fun y600 => (if 0 ≤ x4 then (if x4 < (y600.length : Int) then (if x3.length < 4398046511104 then (spec_UsualPlan.l0 k x0 (x3 ++ [(⟨x4, wrap64 (x4 + 1), rd y600 x4, x0⟩ : S96)]) (wrap64 (x4 + 1))) else (none)) else (none)) else (none))) else (some x3))) else (some x3)
def spec_UsualPlan.f (k : Nat) (a0 : Int) : Option ((List (S96))) := spec_UsualPlan.l0 k a0 (([] : List (S96))) 0
set_option maxHeartbeats 8000000 in
set_option maxRecDepth 100000 in
theorem spec_UsualPlan.calls (k : Nat) (a0 : Int) (r : List (S96)) (w : World) (h : spec_UsualPlan.f k a0 = some r) :
  Calls Try.prog 81 #[.int .i64 a0] w fun e w' => ∃ v0_ : Value, e = .returned (v0_) ∧ Kd.R k96 96 w' w.heap.size (fun _ => True) v0_ r ∧ Below w.heap.size w w' := by
 have hu96 := Try.underlying96
 have HB := A_ (Below.refl w.heap.size w)
 have H : (spec_UsualPlan.l0 k a0 (([] : List (S96))) 0) = some r := h
 clear h
 obtain ⟨y596, hy596⟩ : ∃ y_ : List (S96), y_ = (([] : List (S96))) := ⟨_, rfl⟩
 replace H : (spec_UsualPlan.l0 k a0 y596 0) = some r := by first | (rw [hy596]; with_reducible exact H) | (have H2_ := (Option.bind_some _ _).symm.trans H; rw [hy596]; with_reducible exact H2_) | (have H2_ := (Option.bind_some _ _).symm.trans H; with_reducible exact H2_) | with_reducible exact H | (rw [hy596]; exact H) | exact H
 have Ny596 := A_ hy596
 clear hy596
 have H' := A_ H
 clear H
 go_enter Try.func81, Try.ntmps81
 go_wp2_with (first | ((with_reducible refine gate_dst (N := 6) rfl ?_); refine Kd.R_lit k96 _ 96 ?hg (N := 6) ?hd (xs := ([] : List (S96))) (inner := []) (ok := fun _ => True) (okp := fun _ => True) ?hr ?hp (fun _ hk => hk) trivial (Below.refl _ _) (Nat.le_refl _) (by simp) ?_; (case hd => rfl); (case hg => rfl); (case hr => first | (go_simp; done) | (go_simp; rfl)); (case hp => exact (Reps.none _ _)); intro v597 w2 ho3 hb hg_ hnew_; clear hg_ hnew_; (first | rw [← Ny596.out] at ho3 | (simp only [Int.reduceToNat] at ho3; rw [← Ny596.out] at ho3)); have n0_ := A_ (Kd.R_lower ho3 (below_size (oB HB))); have n1_ := A_ (below_step (oB HB) hb); clear HB; have HO598 := n0_; have HB := n1_; clear n0_ n1_; clear hb ho3))
 go_loopg [3, 4] k (fun kq v3 v4 w' => ∃ (x3_1 : List (S96)) (x4_1 : Int), v4 = .int .i64 x4_1 ∧ Aside0 (spec_UsualPlan.l0 kq a0 x3_1 x4_1 = some r) ∧ Aside0 (kq ≤ k) ∧ Aside0 (Kd.R k96 96 w' w.heap.size (fun _ => True) v3 x3_1) ∧ Aside0 (Below w.heap.size w w'))
 case atStart => exact ⟨(y596), (0), (by first | rfl | (simp; done) | (simp [*]; done)), H', ⟨Nat.le_refl _⟩, ⟨oR HO598⟩, ⟨oB HB⟩⟩
 case round =>
  clear H'
  try clear p2
  obtain ⟨x3_1, x4_1, rfl, HA, HK1, HO_3, HB⟩ := hrel
  cases gk with
  | zero => exact absurd HA.out (by simp [spec_UsualPlan.l0])
  | succ k1 =>
   have H := HA.out
   clear HA
   simp only [spec_UsualPlan.l0] at H
   by_cases c4 : x4_1 < 11
   ·rw [if_pos c4] at H
    have c4b0 : decide (x4_1 < 11) = true := decide_eq_true c4
    clear c4
    replace H := Option.bind_eq_some_iff.mp H
    obtain ⟨t599, A50, H⟩ := H
    (try dsimp only at H)
    have A5 := A_ A50
    clear A50
    by_cases c6 : t599 = true
    ·subst c6
     rw [if_pos rfl] at H
     obtain ⟨y600, hy600⟩ : ∃ y_ : List Int, y_ = (([1, 2, 1, 2, 1, 2, 2, 1, 2, 1, 2] : List Int)) := ⟨_, rfl⟩
     replace H : (if 0 ≤ x4_1 then (if x4_1 < (y600.length : Int) then (if x3_1.length < 4398046511104 then (spec_UsualPlan.l0 k1 a0 (x3_1 ++ [(⟨x4_1, wrap64 (x4_1 + 1), rd y600 x4_1, a0⟩ : S96)]) (wrap64 (x4_1 + 1))) else (none)) else (none)) else (none)) = some r := by first | (rw [hy600]; with_reducible exact H) | (have H2_ := (Option.bind_some _ _).symm.trans H; rw [hy600]; with_reducible exact H2_) | (have H2_ := (Option.bind_some _ _).symm.trans H; with_reducible exact H2_) | with_reducible exact H | (rw [hy600]; exact H) | exact H
     have Ny600 := A_ hy600
     clear hy600
     by_cases c7 : 0 ≤ x4_1
     ·rw [if_pos c7] at H
      have c7b0 : decide (0 ≤ x4_1) = true := decide_eq_true c7
      clear c7
      by_cases c8 : x4_1 < (y600.length : Int)
      ·rw [if_pos c8] at H
       have c8b0 : decide (x4_1 < (y600.length : Int)) = true := decide_eq_true c8
       clear c8
       by_cases c9 : x3_1.length < 4398046511104
       ·rw [if_pos c9] at H
        have LMc9 := A_ c9
        clear c9
        obtain ⟨y604, hy604⟩ : ∃ y_ : List (S96), y_ = (x3_1 ++ [(⟨x4_1, wrap64 (x4_1 + 1), rd y600 x4_1, a0⟩ : S96)]) := ⟨_, rfl⟩
        replace H : (spec_UsualPlan.l0 k1 a0 y604 (wrap64 (x4_1 + 1))) = some r := by first | (rw [hy604]; with_reducible exact H) | (have H2_ := (Option.bind_some _ _).symm.trans H; rw [hy604]; with_reducible exact H2_) | (have H2_ := (Option.bind_some _ _).symm.trans H; with_reducible exact H2_) | with_reducible exact H | (rw [hy604]; exact H) | exact H
        have Ny604 := A_ hy604
        clear hy604
        have H' := A_ H
        clear H
        go_wp2_with (first | (go_at_call 62; (with_reducible refine (spec_l01In.calls a0 0 5000 true _ A5.out).mono ?_); rintro e w' ⟨rfl, ⟨nd, rfl⟩⟩) | ((with_reducible refine gate_dst (N := 15) rfl ?_); refine Kd.R_lit (Kd.int .i64) _ 3 ?hg (N := 15) ?hd (xs := ([1, 2, 1, 2, 1, 2, 2, 1, 2, 1, 2] : List Int)) (inner := [.int .i64 1, .int .i64 2, .int .i64 1, .int .i64 2, .int .i64 1, .int .i64 2, .int .i64 2, .int .i64 1, .int .i64 2, .int .i64 1, .int .i64 2]) (ok := fun _ => True) (okp := fun _ => True) ?hr ?hp (fun _ hk => hk) trivial (Below.refl _ _) (Nat.le_refl _) (by simp) ?_; (case hd => rfl); (case hg => rfl); (case hr => first | (go_simp; done) | (go_simp; rfl)); (case hp => exact (Reps.one (show Kd.M (Kd.int .i64) _ _ _ 1 [.int .i64 1] from rfl) (Reps.one (show Kd.M (Kd.int .i64) _ _ _ 2 [.int .i64 2] from rfl) (Reps.one (show Kd.M (Kd.int .i64) _ _ _ 1 [.int .i64 1] from rfl) (Reps.one (show Kd.M (Kd.int .i64) _ _ _ 2 [.int .i64 2] from rfl) (Reps.one (show Kd.M (Kd.int .i64) _ _ _ 1 [.int .i64 1] from rfl) (Reps.one (show Kd.M (Kd.int .i64) _ _ _ 2 [.int .i64 2] from rfl) (Reps.one (show Kd.M (Kd.int .i64) _ _ _ 2 [.int .i64 2] from rfl) (Reps.one (show Kd.M (Kd.int .i64) _ _ _ 1 [.int .i64 1] from rfl) (Reps.one (show Kd.M (Kd.int .i64) _ _ _ 2 [.int .i64 2] from rfl) (Reps.one (show Kd.M (Kd.int .i64) _ _ _ 1 [.int .i64 1] from rfl) (Reps.one (show Kd.M (Kd.int .i64) _ _ _ 2 [.int .i64 2] from rfl) (Reps.none _ _))))))))))))); intro v601 w10 ho11 hb hg_ hnew_; clear hg_ hnew_; (first | rw [← Ny600.out] at ho11 | (simp only [Int.reduceToNat] at ho11; rw [← Ny600.out] at ho11)); have n0_ := A_ (Kd.R_below (oR HO_3) hb); have n1_ := A_ (Kd.R_lower ho11 (below_size (oB HB))); have n2_ := A_ (below_step (oB HB) hb); clear HO_3; clear HB; have HO_3 := n0_; have HO602 := n1_; have HB := n2_; clear n0_ n1_ n2_; clear hb ho11; obtain ⟨Ao12, co12, eo12⟩ := Kd.R_slice HO602.out; subst eo12; have p603 : 0 ≤ (x4_1 : Int) := of_decide_eq_true (by first | (with_reducible assumption) | assumption); have q603 : x4_1 < (y600.length : Int) := of_decide_eq_true (by first | (with_reducible assumption) | assumption); obtain ⟨ad603, e603, hx603_0⟩ := Kd.at_int (Kd.R_reads' HO602.out).2.2 x4_1 p603 q603; cases e603; replace p603 := eq_true p603; replace q603 := eq_true q603) | ((with_reducible refine gate_builtin (b := .append) (xs := #[.tmp 19, .tmp 26]) rfl ?_); at_builtin; refine Kd.R_append k96 (w0 := w) w.heap.size rfl (.tmp 19) (.tmp 26) 31 96 (.agg #[(.int .i64 0), (.int .i64 0), (.int .i64 0), (.int .i64 0)]) 32 rfl Try.underlying31 info96 rfl (by decide) (by omega) u3 x3_1 (⟨x4_1, wrap64 (x4_1 + 1), rd y600 x4_1, a0⟩ : S96) [.int .i64 x4_1, .int .i64 (wrap64 (x4_1 + 1)), .int .i64 (rd y600 x4_1), .int .i64 a0] (fun _ => True) (fun _ => False) rfl rfl ?aP (fun _ hk => hk.elim) ?aF ?aO ?aB ?aS ?aL ?_; (case aP => exact k96_mkM _ _ _ (⟨x4_1, wrap64 (x4_1 + 1), rd y600 x4_1, a0⟩ : S96)); (case aB => exact (oB HB)); (case aF => exact (fun _ _ => trivial)); (case aO => exact (oR HO_3)); (case aS => exact (below_size (oB HB))); (case aL => have := LMc9.out; omega); intro v605 w13 ho hb hg hat; rw [← Ny604.out] at ho; have n0_ := A_ (Kd.R_over' (oR HO602) (Kd.R_typed (oR HO_3)) (by decide) hg); have n1_ := A_ (hb); have n2_ := A_ (ho); clear HO602; clear HB; clear HO_3; have HO602 := n0_; have HB := n1_; have HO606 := n2_; clear n0_ n1_ n2_; clear ho hb hg hat))
        go_roundg k1
        case measure => have := HK1.out; omega
        case rel => exact ⟨(y604), (wrap64 (x4_1 + 1)), (by first | rfl | (simp; done) | (simp [*]; done)), H', ⟨by have := HK1.out; omega⟩, ⟨oR HO606⟩, ⟨oB HB⟩⟩
       ·rw [if_neg c9] at H
        exact absurd H (by simp)
      ·rw [if_neg c8] at H
       exact absurd H (by simp)
     ·rw [if_neg c7] at H
      exact absurd H (by simp)
    ·replace c6 := Bool.eq_false_iff.mpr c6
     subst c6
     rw [if_neg (show ¬ (false = true) by decide)] at H
     obtain rfl := Option.some.inj H
     go_wp2_with (first | (go_at_call 62; (with_reducible refine (spec_l01In.calls a0 0 5000 false _ A5.out).mono ?_); rintro e w' ⟨rfl, ⟨nd, rfl⟩⟩))
     go_ret
     exact ⟨_, eR, oR HO_3, oB HB⟩
   ·rw [if_neg c4] at H
    have c4b0 : decide (x4_1 < 11) = false := decide_eq_false c4
    clear c4
    obtain rfl := Option.some.inj H
    go_wp2
    go_ret
    exact ⟨_, eR, oR HO_3, oB HB⟩
end Go.Proofs.Ytbkkpllejgedcaa.P


namespace Go.Proofs.Ytbkkpllejgedcaa.P
open Go.RowKit Go.Proofs.YtbkkpllejgedcaaW.PrintWords Go.Proofs.YtbkkpllejgedcaaW.PrintLast Go.Proofs.YtbkkpllejgedcaaW.PrintMore
attribute [local go_sem] max2_int min2_int max_two min_two max_three min_three max_four min_four
set_option linter.unusedVariables false
set_option linter.unusedSimpArgs false
def spec_l01Once.f (s0_0 : List Int) (s0_1 : Int) (s0_2 : Int) (a1 : Int) : Option (Bool × Int × Int) := (spec_l01Below.f s0_0 s0_1 s0_2 a1).bind fun bt1632 => (some ((bt1632.1 == 0), bt1632.2.1, bt1632.2.2))
set_option maxHeartbeats 8000000 in
set_option maxRecDepth 100000 in
theorem spec_l01Once.calls (g : Nat) (s0_0 : List Int) (s0_1 : Int) (s0_2 : Int) (a1 : Int) (r1 : Bool) (r2 : Int) (r3 : Int) (w0 w : World) (hI : IsS129 w0 w g s0_0 s0_1 s0_2) (hB : Below w0.heap.size w0 w) (h : spec_l01Once.f s0_0 s0_1 s0_2 a1 = some (r1, r2, r3)) :
  Calls Try.prog 97 #[.pointer (some ⟨g, 0, none⟩), .int .i64 a1] w fun e w' => e = .returned (.bool r1) ∧ IsS129 w0 w' g s0_0 r2 r3 ∧ Below w0.heap.size w0 w' ∧ KeepBut w w' g none := by
 have HI0 := A_ hI
 have HK := A_ (KeepBut.refl w g none)
 have HL := A_ hB.size
 clear hI
 have HW0 := A_ hB.size
 have HB := A_ hB
 clear hB
 have H : ((spec_l01Below.f s0_0 s0_1 s0_2 a1).bind fun bt1632 => (some ((bt1632.1 == 0), bt1632.2.1, bt1632.2.2))) = some (r1, r2, r3) := h
 clear h
 replace H := Option.bind_eq_some_iff.mp H
 obtain ⟨⟨t1632, t1633, t1634⟩, A30, H⟩ := H
 (try dsimp only at H)
 have A3 := A_ A30
 clear A30
 simp only [Option.some.injEq, Prod.mk.injEq] at H
 obtain ⟨rfl, rfl, rfl⟩ := H
 go_enter Try.func97, Try.ntmps97
 go_wp2_with (first | ((with_reducible refine gate_callee (f := 120) rfl ?_); refine gL (some 7) Try.func120 #[.pointer (some ⟨g, 0, none⟩), .int .i64 a1] ?_; (with_reducible refine (spec_l01Below.calls g s0_0 s0_1 s0_2 a1 t1632 t1633 t1634 w0 _ ?side1 ?side2 A3.out).mono ?_); (case side1 => exact oI129 HI0); (case side2 => exact oB129 HB); rintro e w4 ⟨rfl, hi, hb, hk⟩; refine ⟨_, rfl, ?_⟩; have n0_ := A_ (KeepBut.trans (oKe HK) hk (.inl rfl)); have n1_ := A_ (hb); have n2_ := A_ (hi); clear HK; clear HB; clear HI0; have HK := n0_; have HB := n1_; have HI0 := n2_; clear n0_ n1_ n2_; (try clear hb); (try clear hb2); (try clear hk); (try clear hi)))
 go_ret
 exact ⟨eR, oI129 HI0, oB129 HB, oKe HK⟩
end Go.Proofs.Ytbkkpllejgedcaa.P


namespace Go.Proofs.Ytbkkpllejgedcaa.P
open Go.RowKit Go.Proofs.YtbkkpllejgedcaaW.PrintWords Go.Proofs.YtbkkpllejgedcaaW.PrintLast Go.Proofs.YtbkkpllejgedcaaW.PrintMore
attribute [local go_sem] max2_int min2_int max_two min_two max_three min_three max_four min_four
set_option linter.unusedVariables false
set_option linter.unusedSimpArgs false
def spec_l01PickInt.f (s0_0 : List Int) (s0_1 : Int) (s0_2 : Int) (l1 : List Int) : Option (Int × Int × Int) := (spec_l01Below.f s0_0 s0_1 s0_2 (l1.length : Int)).bind fun bt1635 => (if 0 ≤ bt1635.1 then (if bt1635.1 < (l1.length : Int) then (some (rd l1 bt1635.1, bt1635.2.1, bt1635.2.2)) else (none)) else (none))
set_option maxHeartbeats 8000000 in
set_option maxRecDepth 100000 in
theorem spec_l01PickInt.calls (g : Nat) (s0_0 : List Int) (s0_1 : Int) (s0_2 : Int) (A1 : Option Addr) (c1 : Nat) (l1 : List Int) (r1 : Int) (r2 : Int) (r3 : Int) (w0 w : World) (hI : IsS129 w0 w g s0_0 s0_1 s0_2) (hB : Below w0.heap.size w0 w) (hr1 : Kd.C (Kd.int .i64) w A1 l1.length l1) (hc1 : l1.length ≤ c1) (hf1 : ∀ ad, A1 = some ad → 0 < l1.length → ad.block ≠ g) (h : spec_l01PickInt.f s0_0 s0_1 s0_2 l1 = some (r1, r2, r3)) :
  Calls Try.prog 124 #[.pointer (some ⟨g, 0, none⟩), .slice A1 l1.length c1] w fun e w' => e = .returned (.int .i64 r1) ∧ IsS129 w0 w' g s0_0 r2 r3 ∧ Below w0.heap.size w0 w' ∧ KeepBut w w' g none := by
 have HR1 := A_ hr1
 have HC1 := A_ hc1
 clear hr1 hc1
 have HI0 := A_ hI
 have HK := A_ (KeepBut.refl w g none)
 have HL := A_ hB.size
 clear hI
 have HW0 := A_ hB.size
 have HB := A_ hB
 clear hB
 have H : ((spec_l01Below.f s0_0 s0_1 s0_2 (l1.length : Int)).bind fun bt1635 => (if 0 ≤ bt1635.1 then (if bt1635.1 < (l1.length : Int) then (some (rd l1 bt1635.1, bt1635.2.1, bt1635.2.2)) else (none)) else (none))) = some (r1, r2, r3) := h
 clear h
 replace H := Option.bind_eq_some_iff.mp H
 obtain ⟨⟨t1635, t1636, t1637⟩, A30, H⟩ := H
 (try dsimp only at H)
 have A3 := A_ A30
 clear A30
 by_cases c4 : 0 ≤ t1635
 ·rw [if_pos c4] at H
  have c4b0 : decide (0 ≤ t1635) = true := decide_eq_true c4
  clear c4
  by_cases c5 : t1635 < (l1.length : Int)
  ·rw [if_pos c5] at H
   have c5b0 : decide (t1635 < (l1.length : Int)) = true := decide_eq_true c5
   clear c5
   simp only [Option.some.injEq, Prod.mk.injEq] at H
   obtain ⟨rfl, rfl, rfl⟩ := H
   go_enter Try.func124, Try.ntmps124
   go_wp2_with (first | ((with_reducible refine gate_callee (f := 120) rfl ?_); refine gL (some 9) Try.func120 #[.pointer (some ⟨g, 0, none⟩), .int .i64 (l1.length : Int)] ?_; (with_reducible refine (spec_l01Below.calls g s0_0 s0_1 s0_2 (l1.length : Int) t1635 t1636 t1637 w0 _ ?side1 ?side2 A3.out).mono ?_); (case side1 => exact oI129 HI0); (case side2 => exact oB129 HB); rintro e w6 ⟨rfl, hi, hb, hk⟩; refine ⟨_, rfl, ?_⟩; have n0_ := A_ (KeepBut.trans (oKe HK) hk (.inl rfl)); have n1_ := A_ (hb); have n2_ := A_ (hi); clear HK; clear HB; clear HI0; have HK := n0_; have HB := n1_; have HI0 := n2_; clear n0_ n1_ n2_; (try clear hb); (try clear hb2); (try clear hk); (try clear hi); have p1638 : 0 ≤ (t1635 : Int) := of_decide_eq_true (by first | (with_reducible assumption) | assumption); have q1638 : t1635 < (l1.length : Int) := of_decide_eq_true (by first | (with_reducible assumption) | assumption); obtain ⟨ad1638, e1638, hx1638_0⟩ := Kd.at_int HR1.out t1635 p1638 q1638; cases e1638; replace hx1638_0 := keep_cell HK.out hx1638_0 (by first | (rw [add_block]; exact hf1 _ rfl (by omega)) | exact hf1 _ rfl (by omega) | exact hf1 ad1638 rfl (by omega)); replace p1638 := eq_true p1638; replace q1638 := eq_true q1638))
   go_ret
   exact ⟨eR, oI129 HI0, oB129 HB, oKe HK⟩
  ·rw [if_neg c5] at H
   exact absurd H (by simp)
 ·rw [if_neg c4] at H
  exact absurd H (by simp)
end Go.Proofs.Ytbkkpllejgedcaa.P


namespace Go.Proofs.Ytbkkpllejgedcaa.P
open Go.RowKit Go.Proofs.YtbkkpllejgedcaaW.PrintWords Go.Proofs.YtbkkpllejgedcaaW.PrintLast Go.Proofs.YtbkkpllejgedcaaW.PrintMore
attribute [local go_sem] max2_int min2_int max_two min_two max_three min_three max_four min_four
set_option linter.unusedVariables false
set_option linter.unusedSimpArgs false
def spec_l19Plan.l0 : Nat → List (S96) → Int → List Int → Int → Int → Option ((List (S96)) × Int × Int)
 | 0, _, _, _, _, _ => none
 | k + 1, x3, x4, x1000, x1001, x1002 => if x4 < (x3.length : Int) then ((spec_l01Below.f x1000 x1001 x1002 1500).bind fun bt1654 => (if 0 ≤ x4 then ((some (x3.set (x4 : Int).toNat (⟨(rd_T96 x3 x4).f0, (rd_T96 x3 x4).f1, (rd_T96 x3 x4).f2, bt1654.1⟩ : S96) : List (S96))).bind fun y1657 => ((spec_l01Once.f x1000 bt1654.2.1 bt1654.2.2 5).bind fun bt1658 => (if bt1658.1 = true then (spec_l19Plan.l0 k (y1657.set (x4 : Int).toNat (⟨(rd_T96 y1657 x4).f0, (rd_T96 y1657 x4).f1, 2, (rd_T96 y1657 x4).f3⟩ : S96)) (wrap64 (x4 + 1)) x1000 bt1658.2.1 bt1658.2.2) else (spec_l19Plan.l0 k y1657 (wrap64 (x4 + 1)) x1000 bt1658.2.1 bt1658.2.2)))) else (none))) else ((spec_l01Below.f x1000 x1001 x1002 12).bind fun bt1642 => ((spec_l01PickInt.f x1000 bt1642.2.1 bt1642.2.2 (([11, 11, 11, bt1642.1] : List Int))).bind fun bt1648 => (if 0 ≤ bt1648.1 then (if bt1648.1 ≤ (x3.length : Int) then (some ((x3.take (bt1648.1 : Int).toNat), bt1648.2.1, bt1648.2.2)) else (none)) else (none))))
def spec_l19Plan.f (k : Nat) (s0_0 : List Int) (s0_1 : Int) (s0_2 : Int) : Option ((List (S96)) × Int × Int) := (spec_UsualPlan.f k 0).bind fun t1639 => (spec_l19Plan.l0 k t1639 0 s0_0 s0_1 s0_2)
set_option maxHeartbeats 8000000 in
set_option maxRecDepth 100000 in
theorem spec_l19Plan.calls (k : Nat) (g : Nat) (s0_0 : List Int) (s0_1 : Int) (s0_2 : Int) (r1 : List (S96)) (r2 : Int) (r3 : Int) (w0 w : World) (hI : IsS129 w0 w g s0_0 s0_1 s0_2) (hB : Below w0.heap.size w0 w) (h : spec_l19Plan.f k s0_0 s0_1 s0_2 = some (r1, r2, r3)) :
  Calls Try.prog 121 #[.pointer (some ⟨g, 0, none⟩)] w fun e w' => ∃ v0_ : Value, e = .returned (v0_) ∧ Kd.R k96 96 w' w.heap.size (fun _ => True) v0_ r1 ∧ IsS129 w0 w' g s0_0 r2 r3 ∧ Below w0.heap.size w0 w' ∧ KeepBut w w' g none := by
 have HI0 := A_ hI
 have HK := A_ (KeepBut.refl w g none)
 have HL := A_ hB.size
 clear hI
 have HW0 := A_ hB.size
 have HB := A_ hB
 clear hB
 have H : ((spec_UsualPlan.f k 0).bind fun t1639 => (spec_l19Plan.l0 k t1639 0 s0_0 s0_1 s0_2)) = some (r1, r2, r3) := h
 clear h
 replace H := Option.bind_eq_some_iff.mp H
 obtain ⟨t1639, A20, H⟩ := H
 (try dsimp only at H)
 have A2 := A_ A20
 clear A20
 have H' := A_ H
 clear H
 go_enter Try.func121, Try.ntmps121
 go_wp2_with (first | ((with_reducible refine gate_callee (f := 81) rfl ?_); refine gL (some 5) Try.func81 #[.int .i64 0] ?_; (with_reducible refine (spec_UsualPlan.calls k 0 t1639 _ A2.out).mono ?_); rintro e w3 ⟨v1640, rfl, ho0, hb⟩; refine ⟨_, rfl, ?_⟩; have n0_ := A_ (Kd.R_lower ho0 (keep_size (w := w) (g := g) (row := none) (by repeat (first | (with_reducible first | exact HK.out | apply KeepBut.set_ | apply keep_drewN | apply keep_drew | apply keep_alloc) | exact HK.out)))); have n1_ := A_ (IsS129.below (oI129 HI0) hb); have n2_ := A_ (KeepBut.trans (oKe HK) (KeepBut.of_below hb g none) (.inl rfl)); have n3_ := A_ (below_step (oB129 HB) hb); clear HI0; clear HK; clear HB; have HO1641 := n0_; have HI0 := n1_; have HK := n2_; have HB := n3_; clear n0_ n1_ n2_ n3_; (try clear hb); (try clear hb2); (try clear hk); (try clear hi); (try clear ho0)))
 go_loopg [4] k (fun kq v4 w' => ∃ (x3_1 : List (S96)) (x4_1 : Int) (x1001_1 : Int) (x1002_1 : Int), v4 = .int .i64 x4_1 ∧ Aside0 (spec_l19Plan.l0 kq x3_1 x4_1 s0_0 x1001_1 x1002_1 = some (r1, r2, r3)) ∧ Aside0 (kq ≤ k) ∧ Aside0 (Kd.R k96 96 w' w.heap.size (fun _ => True) v1640 x3_1) ∧ Aside0 (IsS129 w0 w' g s0_0 x1001_1 x1002_1) ∧ Aside0 (KeepBut w w' g none) ∧ Aside0 (Below w0.heap.size w0 w'))
 case atStart => exact ⟨(t1639), (0), (s0_1), (s0_2), (by first | rfl | (simp; done) | (simp [*]; done)), H', ⟨Nat.le_refl _⟩, ⟨oR HO1641⟩, ⟨oI129 HI0⟩, ⟨oKe HK⟩, ⟨oB129 HB⟩⟩
 case round =>
  clear H'
  try clear c1
  try clear p2
  obtain ⟨x3_1, x4_1, x1001_1, x1002_1, rfl, HA, HK1, HO_3, HI0, HK, HB⟩ := hrel
  cases gk with
  | zero => exact absurd HA.out (by simp [spec_l19Plan.l0])
  | succ k1 =>
   have H := HA.out
   clear HA
   simp only [spec_l19Plan.l0] at H
   by_cases c4 : x4_1 < (x3_1.length : Int)
   ·rw [if_pos c4] at H
    have c4b0 : decide (x4_1 < (x3_1.length : Int)) = true := decide_eq_true c4
    clear c4
    replace H := Option.bind_eq_some_iff.mp H
    obtain ⟨⟨t1654, t1655, t1656⟩, A50, H⟩ := H
    (try dsimp only at H)
    have A5 := A_ A50
    clear A50
    by_cases c6 : 0 ≤ x4_1
    ·rw [if_pos c6] at H
     have c6b0 : decide (0 ≤ x4_1) = true := decide_eq_true c6
     clear c6
     obtain ⟨y1657, hy1657⟩ : ∃ y_ : List (S96), y_ = (x3_1.set (x4_1 : Int).toNat (⟨(rd_T96 x3_1 x4_1).f0, (rd_T96 x3_1 x4_1).f1, (rd_T96 x3_1 x4_1).f2, t1654⟩ : S96)) := ⟨_, rfl⟩
     replace H : ((spec_l01Once.f s0_0 t1655 t1656 5).bind fun bt1658 => (if bt1658.1 = true then (spec_l19Plan.l0 k1 (y1657.set (x4_1 : Int).toNat (⟨(rd_T96 y1657 x4_1).f0, (rd_T96 y1657 x4_1).f1, 2, (rd_T96 y1657 x4_1).f3⟩ : S96)) (wrap64 (x4_1 + 1)) s0_0 bt1658.2.1 bt1658.2.2) else (spec_l19Plan.l0 k1 y1657 (wrap64 (x4_1 + 1)) s0_0 bt1658.2.1 bt1658.2.2))) = some (r1, r2, r3) := by first | (rw [hy1657]; with_reducible exact H) | (have H2_ := (Option.bind_some _ _).symm.trans H; rw [hy1657]; with_reducible exact H2_) | (have H2_ := (Option.bind_some _ _).symm.trans H; with_reducible exact H2_) | with_reducible exact H | (rw [hy1657]; exact H) | exact H
     have Ny1657 := A_ hy1657
     clear hy1657
     replace H := Option.bind_eq_some_iff.mp H
     obtain ⟨⟨t1658, t1659, t1660⟩, A80, H⟩ := H
     (try dsimp only at H)
     have A8 := A_ A80
     clear A80
     by_cases c9 : t1658 = true
     ·subst c9
      rw [if_pos rfl] at H
      obtain ⟨y1661, hy1661⟩ : ∃ y_ : List (S96), y_ = (y1657.set (x4_1 : Int).toNat (⟨(rd_T96 y1657 x4_1).f0, (rd_T96 y1657 x4_1).f1, 2, (rd_T96 y1657 x4_1).f3⟩ : S96)) := ⟨_, rfl⟩
      replace H : (spec_l19Plan.l0 k1 y1661 (wrap64 (x4_1 + 1)) s0_0 t1659 t1660) = some (r1, r2, r3) := by first | (rw [hy1661]; with_reducible exact H) | (have H2_ := (Option.bind_some _ _).symm.trans H; rw [hy1661]; with_reducible exact H2_) | (have H2_ := (Option.bind_some _ _).symm.trans H; with_reducible exact H2_) | with_reducible exact H | (rw [hy1661]; exact H) | exact H
      have Ny1661 := A_ hy1661
      clear hy1661
      have H' := A_ H
      clear H
      obtain ⟨Ao11, co11, eo11⟩ := Kd.R_slice HO_3.out
      subst eo11
      go_wp2_with (first | ((with_reducible refine gate_callee (f := 120) rfl ?_); refine gL (some 15) Try.func120 #[.pointer (some ⟨g, 0, none⟩), .int .i64 1500] ?_; (with_reducible refine (spec_l01Below.calls g s0_0 x1001_1 x1002_1 1500 t1654 t1655 t1656 w0 _ ?side1 ?side2 A5.out).mono ?_); (case side1 => exact oI129 HI0); (case side2 => exact oB129 HB); rintro e w12 ⟨rfl, hi, hb, hk⟩; refine ⟨_, rfl, ?_⟩; have n0_ := A_ (Kd.R_mono (Kd.R_keep (IsS129.apart (show IsS129 w0 _ g s0_0 x1001_1 x1002_1 from oI129 HI0) (oR HO_3) (by decide)) hk (fun _ h => h.2)) (fun _ h => h.1)); have n1_ := A_ (KeepBut.trans (oKe HK) hk (.inl rfl)); have n2_ := A_ (hb); have n3_ := A_ (hi); clear HO_3; clear HK; clear HB; clear HI0; have HO_3 := n0_; have HK := n1_; have HB := n2_; have HI0 := n3_; clear n0_ n1_ n2_ n3_; (try clear hb); (try clear hb2); (try clear hk); (try clear hi); have p7 : 0 ≤ (x4_1 : Int) := of_decide_eq_true (by first | (with_reducible assumption) | assumption); have q7 : (x4_1 : Int) < ((x3_1.length : Int) : Int) := of_decide_eq_true (by first | (with_reducible assumption) | assumption); obtain ⟨go7, co7, eo7, gb7, gl7, cl7, HG7⟩ := Kd.R_form HO_3.out (by omega); (first | cases eo7 | (injection eo7 with ea_ en_ ec_; (first | subst ea_ | (injection ea_ with ea_; subst ea_)); subst ec_; clear en_)); have GB7 := A_ gb7; have GG7 := A_ HG7; clear gb7 gl7 HG7; obtain ⟨ce7, hcl7, hM7, hcc7, hfr7⟩ := Kd.R_elem HO_3.out z96 (x4_1 : Int) p7 q7; obtain rfl := k96_openM hM7; have hx7_0 : w12.cell? ⟨go7, (x4_1 : Int).toNat * 4, none⟩ = some (.int .i64 ((rd_T96 x3_1 x4_1).f0)) := hcc7 0 _ rfl; have hx7_1 : w12.cell? ⟨go7, (x4_1 : Int).toNat * 4 + 1, none⟩ = some (.int .i64 ((rd_T96 x3_1 x4_1).f1)) := hcc7 1 _ rfl; have hx7_2 : w12.cell? ⟨go7, (x4_1 : Int).toNat * 4 + 2, none⟩ = some (.int .i64 ((rd_T96 x3_1 x4_1).f2)) := hcc7 2 _ rfl; have hx7_3 : w12.cell? ⟨go7, (x4_1 : Int).toNat * 4 + 3, none⟩ = some (.int .i64 ((rd_T96 x3_1 x4_1).f3)) := hcc7 3 _ rfl; have hf7_0 : w12.frozen? ⟨go7, (x4_1 : Int).toNat * 4, none⟩ = false := hfr7 0; have hf7_1 : w12.frozen? ⟨go7, (x4_1 : Int).toNat * 4 + 1, none⟩ = false := hfr7 1; have hf7_2 : w12.frozen? ⟨go7, (x4_1 : Int).toNat * 4 + 2, none⟩ = false := hfr7 2; have hf7_3 : w12.frozen? ⟨go7, (x4_1 : Int).toNat * 4 + 3, none⟩ = false := hfr7 3; clear hcl7 hcc7 hfr7 hM7; replace p7 := eq_true p7; replace q7 := eq_true q7; have HX13 := A_ (show Kd.R k96 96 w12 w.heap.size (fun _ => True) (.slice (some ⟨go7, 0, none⟩) x3_1.length co11) x3_1 from (oR HO_3)); obtain ⟨ce13, hcl13, hM13, hcc13, hfr13⟩ := Kd.R_elem HX13.out z96 (x4_1 : Int) (of_decide_eq_true (by first | (with_reducible assumption) | assumption)) (by have h_ : (x4_1 : Int) < ((x3_1.length : Int) : Int) := of_decide_eq_true (by first | (with_reducible assumption) | assumption); first | exact h_ | (have e_ := (Kd.R_reads' HO_3.out).1; omega) | simpa using h_); obtain rfl := k96_openM hM13; have HP13 := Kd.R_seg HX13.out (x4_1 : Int) (of_decide_eq_true (by first | (with_reducible assumption) | assumption)) (by have h_ : (x4_1 : Int) < ((x3_1.length : Int) : Int) := of_decide_eq_true (by first | (with_reducible assumption) | assumption); first | exact h_ | (have e_ := (Kd.R_reads' HO_3.out).1; omega) | simpa using h_) (seg := [.int .i64 t1654]) (j := 3) hcl13 hcc13 (show 4 ≤ 4 from by decide) (x' := (⟨(rd_T96 x3_1 x4_1).f0, (rd_T96 x3_1 x4_1).f1, (rd_T96 x3_1 x4_1).f2, t1654⟩ : S96)) (k96_mkM _ _ _ (⟨(rd_T96 x3_1 x4_1).f0, (rd_T96 x3_1 x4_1).f1, (rd_T96 x3_1 x4_1).f2, t1654⟩ : S96) ) (fun _ hk => hk); have hx13_3 := hcc13 3 _ rfl; (try simp only [show (k96).sz = 4 from rfl, Nat.mul_one, Nat.add_zero] at hx13_3); have hf13_3 := hfr13 3; (try simp only [show (k96).sz = 4 from rfl, Nat.mul_one, Nat.add_zero] at hf13_3); clear hcl13 hcc13 hfr13 hM13) | ((with_reducible refine gate_store (t := 3) (p := 17) rfl ?_); refine store_event (t := 3) (p := 17) (v := ?vo_w14) (w1 := (w12.setCell ⟨go7, (x4_1 : Int).toNat * 4 + 3, none⟩ (.int .i64 t1654))) ?hg ?ho ?hn ?hr ?_; (case ho => rfl); (case hg => rfl); (case hn => rfl); (case hr => first | (go_simp; done) | (go_simp; rfl)); intro w14 hw; have hg : w12.grownBy w14 (some go7) := (by rw [hw]; exact HP13.2); have hp_ : Kd.R k96 96 w14 w.heap.size (fun _ => True) (.slice (some ⟨go7, 0, none⟩) x3_1.length co11) y1657 := (by rw [hw, Ny1657.out]; exact HP13.1); clear HP13; have n0_ := A_ (hp_); have n1_ := A_ (IsS129.grown (oI129 HI0) hg (IsS129.own_ne HI0.out HO_3.out (by decide))); have n2_ := A_ ((by rw [hw]; exact below_set (HB.out) (Nat.le_trans HL.out GB7.out) : Below w0.heap.size w0 w14)); have n3_ := A_ (KeepBut.trans (oKe HK) (KeepBut.of_grown hg g) (Kd.R_base2 HO_3.out)); clear HO_3; clear HI0; clear HB; clear HK; have HO_3 := n0_; have HI0 := n1_; have HB := n2_; have HK := n3_; clear n0_ n1_ n2_ n3_; clear hg hw hp_) | ((with_reducible refine gate_callee (f := 97) rfl ?_); refine gL (some 19) Try.func97 #[.pointer (some ⟨g, 0, none⟩), .int .i64 5] ?_; (with_reducible refine (spec_l01Once.calls g s0_0 t1655 t1656 5 true t1659 t1660 w0 _ ?side1 ?side2 A8.out).mono ?_); (case side1 => exact oI129 HI0); (case side2 => exact oB129 HB); rintro e w15 ⟨rfl, hi, hb, hk⟩; refine ⟨_, rfl, ?_⟩; have n0_ := A_ (Kd.R_mono (Kd.R_keep (IsS129.apart (show IsS129 w0 _ g s0_0 t1655 t1656 from oI129 HI0) (oR HO_3) (by decide)) hk (fun _ h => h.2)) (fun _ h => h.1)); have n1_ := A_ (KeepBut.trans (oKe HK) hk (.inl rfl)); have n2_ := A_ (hb); have n3_ := A_ (hi); clear HO_3; clear HK; clear HB; clear HI0; have HO_3 := n0_; have HK := n1_; have HB := n2_; have HI0 := n3_; clear n0_ n1_ n2_ n3_; (try clear hb); (try clear hb2); (try clear hk); (try clear hi); have p10 : 0 ≤ (x4_1 : Int) := of_decide_eq_true (by first | (with_reducible assumption) | assumption); have q10 : (x4_1 : Int) < ((x3_1.length : Int) : Int) := of_decide_eq_true (by first | (with_reducible assumption) | assumption); obtain ⟨ce10, hcl10, hM10, hcc10, hfr10⟩ := Kd.R_elem HO_3.out z96 (x4_1 : Int) p10 q10; obtain rfl := k96_openM hM10; have hx10_0 : w15.cell? ⟨go7, (x4_1 : Int).toNat * 4, none⟩ = some (.int .i64 ((rd_T96 y1657 x4_1).f0)) := hcc10 0 _ rfl; have hx10_1 : w15.cell? ⟨go7, (x4_1 : Int).toNat * 4 + 1, none⟩ = some (.int .i64 ((rd_T96 y1657 x4_1).f1)) := hcc10 1 _ rfl; have hx10_2 : w15.cell? ⟨go7, (x4_1 : Int).toNat * 4 + 2, none⟩ = some (.int .i64 ((rd_T96 y1657 x4_1).f2)) := hcc10 2 _ rfl; have hx10_3 : w15.cell? ⟨go7, (x4_1 : Int).toNat * 4 + 3, none⟩ = some (.int .i64 ((rd_T96 y1657 x4_1).f3)) := hcc10 3 _ rfl; have hf10_0 : w15.frozen? ⟨go7, (x4_1 : Int).toNat * 4, none⟩ = false := hfr10 0; have hf10_1 : w15.frozen? ⟨go7, (x4_1 : Int).toNat * 4 + 1, none⟩ = false := hfr10 1; have hf10_2 : w15.frozen? ⟨go7, (x4_1 : Int).toNat * 4 + 2, none⟩ = false := hfr10 2; have hf10_3 : w15.frozen? ⟨go7, (x4_1 : Int).toNat * 4 + 3, none⟩ = false := hfr10 3; clear hcl10 hcc10 hfr10 hM10; replace p10 := eq_true p10; replace q10 := eq_true q10; have HX16 := A_ (show Kd.R k96 96 w15 w.heap.size (fun _ => True) (.slice (some ⟨go7, 0, none⟩) x3_1.length co11) y1657 from (oR HO_3)); obtain ⟨ce16, hcl16, hM16, hcc16, hfr16⟩ := Kd.R_elem HX16.out z96 (x4_1 : Int) (of_decide_eq_true (by first | (with_reducible assumption) | assumption)) (by have h_ : (x4_1 : Int) < ((x3_1.length : Int) : Int) := of_decide_eq_true (by first | (with_reducible assumption) | assumption); first | exact h_ | (have e_ := (Kd.R_reads' HO_3.out).1; omega) | simpa using h_); obtain rfl := k96_openM hM16; have HP16 := Kd.R_seg HX16.out (x4_1 : Int) (of_decide_eq_true (by first | (with_reducible assumption) | assumption)) (by have h_ : (x4_1 : Int) < ((x3_1.length : Int) : Int) := of_decide_eq_true (by first | (with_reducible assumption) | assumption); first | exact h_ | (have e_ := (Kd.R_reads' HO_3.out).1; omega) | simpa using h_) (seg := [.int .i64 2]) (j := 2) hcl16 hcc16 (show 3 ≤ 4 from by decide) (x' := (⟨(rd_T96 y1657 x4_1).f0, (rd_T96 y1657 x4_1).f1, 2, (rd_T96 y1657 x4_1).f3⟩ : S96)) (k96_mkM _ _ _ (⟨(rd_T96 y1657 x4_1).f0, (rd_T96 y1657 x4_1).f1, 2, (rd_T96 y1657 x4_1).f3⟩ : S96) ) (fun _ hk => hk); have hx16_2 := hcc16 2 _ rfl; (try simp only [show (k96).sz = 4 from rfl, Nat.mul_one, Nat.add_zero] at hx16_2); have hf16_2 := hfr16 2; (try simp only [show (k96).sz = 4 from rfl, Nat.mul_one, Nat.add_zero] at hf16_2); clear hcl16 hcc16 hfr16 hM16) | ((with_reducible refine gate_store (t := 3) (p := 23) rfl ?_); refine store_event (t := 3) (p := 23) (v := ?vo_w17) (w1 := (w15.setCell ⟨go7, (x4_1 : Int).toNat * 4 + 2, none⟩ (.int .i64 2))) ?hg ?ho ?hn ?hr ?_; (case ho => rfl); (case hg => rfl); (case hn => rfl); (case hr => first | (go_simp; done) | (go_simp; rfl)); intro w17 hw; have hg : w15.grownBy w17 (some go7) := (by rw [hw]; exact HP16.2); have hp_ : Kd.R k96 96 w17 w.heap.size (fun _ => True) (.slice (some ⟨go7, 0, none⟩) x3_1.length co11) y1661 := (by rw [hw, Ny1661.out]; exact HP16.1); clear HP16; have n0_ := A_ (hp_); have n1_ := A_ (IsS129.grown (oI129 HI0) hg (IsS129.own_ne HI0.out HO_3.out (by decide))); have n2_ := A_ ((by rw [hw]; exact below_set (HB.out) (Nat.le_trans HL.out GB7.out) : Below w0.heap.size w0 w17)); have n3_ := A_ (KeepBut.trans (oKe HK) (KeepBut.of_grown hg g) (Kd.R_base2 HO_3.out)); clear HO_3; clear HI0; clear HB; clear HK; have HO_3 := n0_; have HI0 := n1_; have HB := n2_; have HK := n3_; clear n0_ n1_ n2_ n3_; clear hg hw hp_))
      go_roundg k1
      case measure => have := HK1.out; omega
      case rel => exact ⟨(y1661), (wrap64 (x4_1 + 1)), (t1659), (t1660), (by first | rfl | (simp; done) | (simp [*]; done)), H', ⟨by have := HK1.out; omega⟩, ⟨oR HO_3⟩, ⟨oI129 HI0⟩, ⟨oKe HK⟩, ⟨oB129 HB⟩⟩
     ·replace c9 := Bool.eq_false_iff.mpr c9
      subst c9
      rw [if_neg (show ¬ (false = true) by decide)] at H
      have H' := A_ H
      clear H
      obtain ⟨Ao18, co18, eo18⟩ := Kd.R_slice HO_3.out
      subst eo18
      go_wp2_with (first | ((with_reducible refine gate_callee (f := 120) rfl ?_); refine gL (some 15) Try.func120 #[.pointer (some ⟨g, 0, none⟩), .int .i64 1500] ?_; (with_reducible refine (spec_l01Below.calls g s0_0 x1001_1 x1002_1 1500 t1654 t1655 t1656 w0 _ ?side1 ?side2 A5.out).mono ?_); (case side1 => exact oI129 HI0); (case side2 => exact oB129 HB); rintro e w19 ⟨rfl, hi, hb, hk⟩; refine ⟨_, rfl, ?_⟩; have n0_ := A_ (Kd.R_mono (Kd.R_keep (IsS129.apart (show IsS129 w0 _ g s0_0 x1001_1 x1002_1 from oI129 HI0) (oR HO_3) (by decide)) hk (fun _ h => h.2)) (fun _ h => h.1)); have n1_ := A_ (KeepBut.trans (oKe HK) hk (.inl rfl)); have n2_ := A_ (hb); have n3_ := A_ (hi); clear HO_3; clear HK; clear HB; clear HI0; have HO_3 := n0_; have HK := n1_; have HB := n2_; have HI0 := n3_; clear n0_ n1_ n2_ n3_; (try clear hb); (try clear hb2); (try clear hk); (try clear hi); have p7 : 0 ≤ (x4_1 : Int) := of_decide_eq_true (by first | (with_reducible assumption) | assumption); have q7 : (x4_1 : Int) < ((x3_1.length : Int) : Int) := of_decide_eq_true (by first | (with_reducible assumption) | assumption); obtain ⟨go7, co7, eo7, gb7, gl7, cl7, HG7⟩ := Kd.R_form HO_3.out (by omega); (first | cases eo7 | (injection eo7 with ea_ en_ ec_; (first | subst ea_ | (injection ea_ with ea_; subst ea_)); subst ec_; clear en_)); have GB7 := A_ gb7; have GG7 := A_ HG7; clear gb7 gl7 HG7; obtain ⟨ce7, hcl7, hM7, hcc7, hfr7⟩ := Kd.R_elem HO_3.out z96 (x4_1 : Int) p7 q7; obtain rfl := k96_openM hM7; have hx7_0 : w19.cell? ⟨go7, (x4_1 : Int).toNat * 4, none⟩ = some (.int .i64 ((rd_T96 x3_1 x4_1).f0)) := hcc7 0 _ rfl; have hx7_1 : w19.cell? ⟨go7, (x4_1 : Int).toNat * 4 + 1, none⟩ = some (.int .i64 ((rd_T96 x3_1 x4_1).f1)) := hcc7 1 _ rfl; have hx7_2 : w19.cell? ⟨go7, (x4_1 : Int).toNat * 4 + 2, none⟩ = some (.int .i64 ((rd_T96 x3_1 x4_1).f2)) := hcc7 2 _ rfl; have hx7_3 : w19.cell? ⟨go7, (x4_1 : Int).toNat * 4 + 3, none⟩ = some (.int .i64 ((rd_T96 x3_1 x4_1).f3)) := hcc7 3 _ rfl; have hf7_0 : w19.frozen? ⟨go7, (x4_1 : Int).toNat * 4, none⟩ = false := hfr7 0; have hf7_1 : w19.frozen? ⟨go7, (x4_1 : Int).toNat * 4 + 1, none⟩ = false := hfr7 1; have hf7_2 : w19.frozen? ⟨go7, (x4_1 : Int).toNat * 4 + 2, none⟩ = false := hfr7 2; have hf7_3 : w19.frozen? ⟨go7, (x4_1 : Int).toNat * 4 + 3, none⟩ = false := hfr7 3; clear hcl7 hcc7 hfr7 hM7; replace p7 := eq_true p7; replace q7 := eq_true q7; have HX20 := A_ (show Kd.R k96 96 w19 w.heap.size (fun _ => True) (.slice (some ⟨go7, 0, none⟩) x3_1.length co18) x3_1 from (oR HO_3)); obtain ⟨ce20, hcl20, hM20, hcc20, hfr20⟩ := Kd.R_elem HX20.out z96 (x4_1 : Int) (of_decide_eq_true (by first | (with_reducible assumption) | assumption)) (by have h_ : (x4_1 : Int) < ((x3_1.length : Int) : Int) := of_decide_eq_true (by first | (with_reducible assumption) | assumption); first | exact h_ | (have e_ := (Kd.R_reads' HO_3.out).1; omega) | simpa using h_); obtain rfl := k96_openM hM20; have HP20 := Kd.R_seg HX20.out (x4_1 : Int) (of_decide_eq_true (by first | (with_reducible assumption) | assumption)) (by have h_ : (x4_1 : Int) < ((x3_1.length : Int) : Int) := of_decide_eq_true (by first | (with_reducible assumption) | assumption); first | exact h_ | (have e_ := (Kd.R_reads' HO_3.out).1; omega) | simpa using h_) (seg := [.int .i64 t1654]) (j := 3) hcl20 hcc20 (show 4 ≤ 4 from by decide) (x' := (⟨(rd_T96 x3_1 x4_1).f0, (rd_T96 x3_1 x4_1).f1, (rd_T96 x3_1 x4_1).f2, t1654⟩ : S96)) (k96_mkM _ _ _ (⟨(rd_T96 x3_1 x4_1).f0, (rd_T96 x3_1 x4_1).f1, (rd_T96 x3_1 x4_1).f2, t1654⟩ : S96) ) (fun _ hk => hk); have hx20_3 := hcc20 3 _ rfl; (try simp only [show (k96).sz = 4 from rfl, Nat.mul_one, Nat.add_zero] at hx20_3); have hf20_3 := hfr20 3; (try simp only [show (k96).sz = 4 from rfl, Nat.mul_one, Nat.add_zero] at hf20_3); clear hcl20 hcc20 hfr20 hM20) | ((with_reducible refine gate_store (t := 3) (p := 17) rfl ?_); refine store_event (t := 3) (p := 17) (v := ?vo_w21) (w1 := (w19.setCell ⟨go7, (x4_1 : Int).toNat * 4 + 3, none⟩ (.int .i64 t1654))) ?hg ?ho ?hn ?hr ?_; (case ho => rfl); (case hg => rfl); (case hn => rfl); (case hr => first | (go_simp; done) | (go_simp; rfl)); intro w21 hw; have hg : w19.grownBy w21 (some go7) := (by rw [hw]; exact HP20.2); have hp_ : Kd.R k96 96 w21 w.heap.size (fun _ => True) (.slice (some ⟨go7, 0, none⟩) x3_1.length co18) y1657 := (by rw [hw, Ny1657.out]; exact HP20.1); clear HP20; have n0_ := A_ (hp_); have n1_ := A_ (IsS129.grown (oI129 HI0) hg (IsS129.own_ne HI0.out HO_3.out (by decide))); have n2_ := A_ ((by rw [hw]; exact below_set (HB.out) (Nat.le_trans HL.out GB7.out) : Below w0.heap.size w0 w21)); have n3_ := A_ (KeepBut.trans (oKe HK) (KeepBut.of_grown hg g) (Kd.R_base2 HO_3.out)); clear HO_3; clear HI0; clear HB; clear HK; have HO_3 := n0_; have HI0 := n1_; have HB := n2_; have HK := n3_; clear n0_ n1_ n2_ n3_; clear hg hw hp_) | ((with_reducible refine gate_callee (f := 97) rfl ?_); refine gL (some 19) Try.func97 #[.pointer (some ⟨g, 0, none⟩), .int .i64 5] ?_; (with_reducible refine (spec_l01Once.calls g s0_0 t1655 t1656 5 false t1659 t1660 w0 _ ?side1 ?side2 A8.out).mono ?_); (case side1 => exact oI129 HI0); (case side2 => exact oB129 HB); rintro e w22 ⟨rfl, hi, hb, hk⟩; refine ⟨_, rfl, ?_⟩; have n0_ := A_ (Kd.R_mono (Kd.R_keep (IsS129.apart (show IsS129 w0 _ g s0_0 t1655 t1656 from oI129 HI0) (oR HO_3) (by decide)) hk (fun _ h => h.2)) (fun _ h => h.1)); have n1_ := A_ (KeepBut.trans (oKe HK) hk (.inl rfl)); have n2_ := A_ (hb); have n3_ := A_ (hi); clear HO_3; clear HK; clear HB; clear HI0; have HO_3 := n0_; have HK := n1_; have HB := n2_; have HI0 := n3_; clear n0_ n1_ n2_ n3_; (try clear hb); (try clear hb2); (try clear hk); (try clear hi)))
      go_roundg k1
      case measure => have := HK1.out; omega
      case rel => exact ⟨(y1657), (wrap64 (x4_1 + 1)), (t1659), (t1660), (by first | rfl | (simp; done) | (simp [*]; done)), H', ⟨by have := HK1.out; omega⟩, ⟨oR HO_3⟩, ⟨oI129 HI0⟩, ⟨oKe HK⟩, ⟨oB129 HB⟩⟩
    ·rw [if_neg c6] at H
     exact absurd H (by simp)
   ·rw [if_neg c4] at H
    have c4b0 : decide (x4_1 < (x3_1.length : Int)) = false := decide_eq_false c4
    clear c4
    replace H := Option.bind_eq_some_iff.mp H
    obtain ⟨⟨t1642, t1643, t1644⟩, A230, H⟩ := H
    (try dsimp only at H)
    have A23 := A_ A230
    clear A230
    obtain ⟨y1645, hy1645⟩ : ∃ y_ : List Int, y_ = (([11, 11, 11, t1642] : List Int)) := ⟨_, rfl⟩
    replace H : ((spec_l01PickInt.f s0_0 t1643 t1644 y1645).bind fun bt1648 => (if 0 ≤ bt1648.1 then (if bt1648.1 ≤ (x3_1.length : Int) then (some ((x3_1.take (bt1648.1 : Int).toNat), bt1648.2.1, bt1648.2.2)) else (none)) else (none))) = some (r1, r2, r3) := by first | (rw [hy1645]; with_reducible exact H) | (have H2_ := (Option.bind_some _ _).symm.trans H; rw [hy1645]; with_reducible exact H2_) | (have H2_ := (Option.bind_some _ _).symm.trans H; with_reducible exact H2_) | with_reducible exact H | (rw [hy1645]; exact H) | exact H
    have Ny1645 := A_ hy1645
    clear hy1645
    replace H := Option.bind_eq_some_iff.mp H
    obtain ⟨⟨t1648, t1649, t1650⟩, A240, H⟩ := H
    (try dsimp only at H)
    have A24 := A_ A240
    clear A240
    by_cases c25 : 0 ≤ t1648
    ·rw [if_pos c25] at H
     have c25b0 := eq_true c25
     have c25b1 : decide (0 ≤ t1648) = true := decide_eq_true c25
     clear c25
     by_cases c26 : t1648 ≤ (x3_1.length : Int)
     ·rw [if_pos c26] at H
      have c26b0 := eq_true c26
      have c26b1 : decide (t1648 ≤ (x3_1.length : Int)) = true := decide_eq_true c26
      clear c26
      obtain ⟨y1651, hy1651⟩ : ∃ y_ : List (S96), y_ = (x3_1.take (t1648 : Int).toNat) := ⟨_, rfl⟩
      replace H : (some (y1651, t1649, t1650)) = some (r1, r2, r3) := by first | (rw [hy1651]; with_reducible exact H) | (have H2_ := (Option.bind_some _ _).symm.trans H; rw [hy1651]; with_reducible exact H2_) | (have H2_ := (Option.bind_some _ _).symm.trans H; with_reducible exact H2_) | with_reducible exact H | (rw [hy1651]; exact H) | exact H
      have Ny1651 := A_ hy1651
      clear hy1651
      simp only [Option.some.injEq, Prod.mk.injEq] at H
      obtain ⟨rfl, rfl, rfl⟩ := H
      obtain ⟨Ao27, co27, eo27⟩ := Kd.R_slice HO_3.out
      subst eo27
      go_wp2_with (first | ((with_reducible refine gate_callee (f := 120) rfl ?_); refine gL (some 27) Try.func120 #[.pointer (some ⟨g, 0, none⟩), .int .i64 12] ?_; (with_reducible refine (spec_l01Below.calls g s0_0 x1001_1 x1002_1 12 t1642 t1643 t1644 w0 _ ?side1 ?side2 A23.out).mono ?_); (case side1 => exact oI129 HI0); (case side2 => exact oB129 HB); rintro e w28 ⟨rfl, hi, hb, hk⟩; refine ⟨_, rfl, ?_⟩; have n0_ := A_ (Kd.R_mono (Kd.R_keep (IsS129.apart (show IsS129 w0 _ g s0_0 x1001_1 x1002_1 from oI129 HI0) (oR HO_3) (by decide)) hk (fun _ h => h.2)) (fun _ h => h.1)); have n1_ := A_ (KeepBut.trans (oKe HK) hk (.inl rfl)); have n2_ := A_ (hb); have n3_ := A_ (hi); clear HO_3; clear HK; clear HB; clear HI0; have HO_3 := n0_; have HK := n1_; have HB := n2_; have HI0 := n3_; clear n0_ n1_ n2_ n3_; (try clear hb); (try clear hb2); (try clear hk); (try clear hi)) | ((with_reducible refine gate_dst (N := 28) rfl ?_); refine Kd.R_lit (Kd.int .i64) _ 3 ?hg (N := 28) ?hd (xs := ([11, 11, 11, t1642] : List Int)) (inner := [.int .i64 11, .int .i64 11, .int .i64 11, .int .i64 t1642]) (ok := fun _ => True) (okp := fun _ => True) ?hr ?hp (fun _ hk => hk) trivial (Below.refl _ _) (Nat.le_refl _) (by simp) ?_; (case hd => rfl); (case hg => rfl); (case hr => first | (go_simp; done) | (go_simp; rfl)); (case hp => exact (Reps.one (show Kd.M (Kd.int .i64) _ _ _ 11 [.int .i64 11] from rfl) (Reps.one (show Kd.M (Kd.int .i64) _ _ _ 11 [.int .i64 11] from rfl) (Reps.one (show Kd.M (Kd.int .i64) _ _ _ 11 [.int .i64 11] from rfl) (Reps.one (show Kd.M (Kd.int .i64) _ _ _ t1642 [.int .i64 t1642] from rfl) (Reps.none _ _)))))); intro v1646 w29 ho30 hb hg_ hnew_; clear hg_ hnew_; (first | rw [← Ny1645.out] at ho30 | (simp only [Int.reduceToNat] at ho30; rw [← Ny1645.out] at ho30)); have n0_ := A_ (Kd.R_below (oR HO_3) hb); have n1_ := A_ (Kd.R_lower ho30 (keep_size (w := w) (g := g) (row := none) (by repeat (first | (with_reducible first | exact HK.out | apply KeepBut.set_ | apply keep_drewN | apply keep_drew | apply keep_alloc) | exact HK.out)))); have n2_ := A_ (IsS129.below (oI129 HI0) hb); have n3_ := A_ (KeepBut.trans (oKe HK) (KeepBut.of_below hb g none) (.inl rfl)); have n4_ := A_ (below_step (oB129 HB) hb); clear HO_3; clear HI0; clear HK; clear HB; have HO_3 := n0_; have HO1647 := n1_; have HI0 := n2_; have HK := n3_; have HB := n4_; clear n0_ n1_ n2_ n3_ n4_; clear hb ho30; obtain ⟨Ao31, co31, eo31⟩ := Kd.R_slice HO1647.out; subst eo31) | ((with_reducible refine gate_callee (f := 124) rfl ?_); refine gL (some 29) Try.func124 #[.pointer (some ⟨g, 0, none⟩), .slice Ao31 y1645.length co31] ?_; (with_reducible refine (spec_l01PickInt.calls g s0_0 t1643 t1644 _ _ y1645 t1648 t1649 t1650 w0 _ ?side1 ?side2 ?side3 ?side4 ?side5 A24.out).mono ?_); (case side1 => exact oI129 HI0); (case side2 => exact oB129 HB); (case side3 => repeat (first | exact (Kd.R_reads' HO1647.out).2.2 | (with_reducible refine Kd.C_alloc ?_ _) | (with_reducible refine Kd.C_drewN ?_ _) | (with_reducible refine Kd.C_drew ?_))); (case side4 => exact (Kd.R_reads' HO1647.out).2.1); (case side5 => exact far_slice (IsS129.own_ne HI0.out HO1647.out (by decide))); rintro e w32 ⟨rfl, hi, hb, hk⟩; refine ⟨_, rfl, ?_⟩; have n0_ := A_ (Kd.R_mono (Kd.R_keep (IsS129.apart (show IsS129 w0 _ g s0_0 t1643 t1644 from oI129 HI0) (oR HO_3) (by decide)) hk (fun _ h => h.2)) (fun _ h => h.1)); have n1_ := A_ (Kd.R_mono (Kd.R_keep (IsS129.apart (show IsS129 w0 _ g s0_0 t1643 t1644 from oI129 HI0) (oR HO1647) (by decide)) hk (fun _ h => h.2)) (fun _ h => h.1)); have n2_ := A_ (KeepBut.trans (oKe HK) hk (.inl rfl)); have n3_ := A_ (hb); have n4_ := A_ (hi); clear HO_3; clear HO1647; clear HK; clear HB; clear HI0; have HO_3 := n0_; have HO1647 := n1_; have HK := n2_; have HB := n3_; have HI0 := n4_; clear n0_ n1_ n2_ n3_ n4_; (try clear hb); (try clear hb2); (try clear hk); (try clear hi); have q33 : (t1648 : Int) ≤ ((x3_1.length : Int) : Int) := of_decide_eq_true (by first | (with_reducible assumption) | assumption); obtain ⟨i033, hi033, _, hsz33, _⟩ := info_parts info96; have hcut33 := cut_to (P := Try.prog) 31 96 .i64 Try.underlying31 hi033 Ao27 x3_1.length co27 t1648 (of_decide_eq_true (by first | (with_reducible assumption) | assumption)) q33 (Kd.R_reads' HO_3.out).2.1; have hr33 := Kd.R_take (m := (t1648 : Int).toNat) HO_3.out (by omega); have hy33 : y1651.length = (t1648 : Int).toNat := (by rw [Ny1651.out, List.length_take]; omega); rw [← Ny1651.out] at hr33; rw [← hy33] at hr33 hcut33; clear hy33 hi033 hsz33 HO_3; have HO1653 := A_ hr33; clear hr33; replace q33 := eq_true q33))
      go_ret
      exact ⟨_, eR, oR HO1653, oI129 HI0, oB129 HB, oKe HK⟩
     ·rw [if_neg c26] at H
      exact absurd H (by simp)
    ·rw [if_neg c25] at H
     exact absurd H (by simp)
end Go.Proofs.Ytbkkpllejgedcaa.P


namespace Go.Proofs.Ytbkkpllejgedcaa.P
open Go.RowKit Go.Proofs.YtbkkpllejgedcaaW.PrintWords Go.Proofs.YtbkkpllejgedcaaW.PrintLast Go.Proofs.YtbkkpllejgedcaaW.PrintMore
attribute [local go_sem] max2_int min2_int max_two min_two max_three min_three max_four min_four
set_option linter.unusedVariables false
set_option linter.unusedSimpArgs false
def spec_l34Pipe.f (s0_0 : List Int) (s0_1 : Int) (s0_2 : Int) : Option (Int × Int × Int × Int) := (spec_l01Below.f s0_0 s0_1 s0_2 2).bind fun bt1663 => ((spec_l01Below.f s0_0 bt1663.2.1 bt1663.2.2 6).bind fun bt1666 => (some (bt1663.1, bt1666.1, bt1666.2.1, bt1666.2.2)))
set_option maxHeartbeats 8000000 in
set_option maxRecDepth 100000 in
theorem spec_l34Pipe.calls (g : Nat) (s0_0 : List Int) (s0_1 : Int) (s0_2 : Int) (r1 : Int) (r2 : Int) (r3 : Int) (r4 : Int) (w0 w : World) (hI : IsS129 w0 w g s0_0 s0_1 s0_2) (hB : Below w0.heap.size w0 w) (h : spec_l34Pipe.f s0_0 s0_1 s0_2 = some (r1, r2, r3, r4)) :
  Calls Try.prog 122 #[.pointer (some ⟨g, 0, none⟩)] w fun e w' => e = .returned (.agg #[.int .i64 r1, .int .i64 r2]) ∧ IsS129 w0 w' g s0_0 r3 r4 ∧ Below w0.heap.size w0 w' ∧ KeepBut w w' g none := by
 have hu56 := Try.underlying56
 have HI0 := A_ hI
 have HK := A_ (KeepBut.refl w g none)
 have HL := A_ hB.size
 clear hI
 have HW0 := A_ hB.size
 have HB := A_ hB
 clear hB
 have H : ((spec_l01Below.f s0_0 s0_1 s0_2 2).bind fun bt1663 => ((spec_l01Below.f s0_0 bt1663.2.1 bt1663.2.2 6).bind fun bt1666 => (some (bt1663.1, bt1666.1, bt1666.2.1, bt1666.2.2)))) = some (r1, r2, r3, r4) := h
 clear h
 replace H := Option.bind_eq_some_iff.mp H
 obtain ⟨⟨t1663, t1664, t1665⟩, A20, H⟩ := H
 (try dsimp only at H)
 have A2 := A_ A20
 clear A20
 replace H := Option.bind_eq_some_iff.mp H
 obtain ⟨⟨t1666, t1667, t1668⟩, A30, H⟩ := H
 (try dsimp only at H)
 have A3 := A_ A30
 clear A30
 simp only [Option.some.injEq, Prod.mk.injEq] at H
 obtain ⟨rfl, rfl, rfl, rfl⟩ := H
 go_enter Try.func122, Try.ntmps122
 go_wp2_with (first | ((with_reducible refine gate_dst (N := 2) rfl ?_); refine bX (N := 2) (cs := #[.int .i64 0, .int .i64 0]) (t := 56) ?_; intro gb1662 hg w4 hbox hb; have n0_ := A_ (IsS129.below (oI129 HI0) hb); have n1_ := A_ (KeepBut.trans (oKe HK) (KeepBut.of_below hb g none) (.inl rfl)); have n2_ := A_ (below_step (oB129 HB) hb); have n3_ := A_ (hbox); have n4_ := A_ ((by rw [hg]; exact (keep_size (w := w) (g := g) (row := none) (by repeat (first | (with_reducible first | exact HK.out | apply KeepBut.set_ | apply keep_drewN | apply keep_drew | apply keep_alloc) | exact HK.out))) : w.heap.size ≤ gb1662)); have n5_ := A_ ((Nat.le_trans HW0.out (by rw [hg]; exact (keep_size (w := w) (g := g) (row := none) (by repeat (first | (with_reducible first | exact HK.out | apply KeepBut.set_ | apply keep_drewN | apply keep_drew | apply keep_alloc) | exact HK.out))) : w.heap.size ≤ gb1662) : w0.heap.size ≤ gb1662)); have n6_ := A_ ((by rw [hg]; exact Nat.ne_of_lt (IsS129.lt (show IsS129 w0 _ g s0_0 s0_1 s0_2 from oI129 HI0)) : g ≠ gb1662)); have n7_ := A_ ((by rw [hg]; exact Nat.ne_of_gt (IsS129.lt (show IsS129 w0 _ g s0_0 s0_1 s0_2 from oI129 HI0)) : gb1662 ≠ g)); clear HI0; clear HK; clear HB; have HI0 := n0_; have HK := n1_; have HB := n2_; have BK1662 := n3_; have GW1662 := n4_; have GE1662 := n5_; have NB0_1662 := n6_; have NB1662_0 := n7_; clear n0_ n1_ n2_ n3_ n4_ n5_ n6_ n7_; clear hb hbox hg) | ((with_reducible refine gate_callee (f := 120) rfl ?_); refine gL (some 5) Try.func120 #[.pointer (some ⟨g, 0, none⟩), .int .i64 2] ?_; (with_reducible refine (spec_l01Below.calls g s0_0 s0_1 s0_2 2 t1663 t1664 t1665 w0 _ ?side1 ?side2 A2.out).mono ?_); (case side1 => exact oI129 HI0); (case side2 => exact oB129 HB); rintro e w5 ⟨rfl, hi, hb, hk⟩; refine ⟨_, rfl, ?_⟩; have n0_ := A_ (KeepBut.blk hk (g' := gb1662) (o := .cells #[.int .i64 0, .int .i64 0] 56 (0, 0)) (oK BK1662) NB1662_0.out (by simp)); have n1_ := A_ (KeepBut.trans (oKe HK) hk (.inl rfl)); have n2_ := A_ (hb); have n3_ := A_ (hi); clear BK1662; clear HK; clear HB; clear HI0; have BK1662 := n0_; have HK := n1_; have HB := n2_; have HI0 := n3_; clear n0_ n1_ n2_ n3_; (try clear hb); (try clear hb2); (try clear hk); (try clear hi)) | ((with_reducible refine gate_callee (f := 120) rfl ?_); refine gL (some 8) Try.func120 #[.pointer (some ⟨g, 0, none⟩), .int .i64 6] ?_; (with_reducible refine (spec_l01Below.calls g s0_0 t1664 t1665 6 t1666 t1667 t1668 w0 _ ?side1 ?side2 A3.out).mono ?_); (case side1 => exact oI129 HI0); (case side2 => exact oB129 HB); rintro e w6 ⟨rfl, hi, hb, hk⟩; refine ⟨_, rfl, ?_⟩; have n0_ := A_ (KeepBut.blk hk (g' := gb1662) (o := .cells #[.int .i64 0, .int .i64 0] 56 (0, 0)) (oK BK1662) NB1662_0.out (by simp)); have n1_ := A_ (KeepBut.trans (oKe HK) hk (.inl rfl)); have n2_ := A_ (hb); have n3_ := A_ (hi); clear BK1662; clear HK; clear HB; clear HI0; have BK1662 := n0_; have HK := n1_; have HB := n2_; have HI0 := n3_; clear n0_ n1_ n2_ n3_; (try clear hb); (try clear hb2); (try clear hk); (try clear hi); have hnb7 := NB1662_0.out; have hnc7 := NB0_1662.out; have hcz8_0 := cz BK1662 0; have hcz8_1 := cz BK1662 1; have hfz8_0 := blk_frozen BK1662.out 0; have hfz8_1 := blk_frozen BK1662.out 1))
 refine bodyPost_ret (results_cell_row rfl _ _ gb1662 56 #[.int .i64 t1663, .int .i64 t1666] (0, 0) _ rfl (by (with_reducible repeat (first | refine blk_drewN ?_ _ | refine blk_drew ?_ | refine blk_alloc ?_ _)); refine blk_put (cs := #[.int .i64 t1663, .int .i64 0]) ?_ 1 _ rfl; (with_reducible repeat (first | refine blk_drewN ?_ _ | refine blk_drew ?_ | refine blk_alloc ?_ _)); refine blk_put (cs := #[.int .i64 0, .int .i64 0]) ?_ 0 _ rfl; (with_reducible repeat (first | refine blk_drewN ?_ _ | refine blk_drew ?_ | refine blk_alloc ?_ _)); exact BK1662.out) Try.underlying56 rfl (by kernel_rfl)) rfl ?_
 exact ⟨eR, oI129 HI0, oB129 HB, oKe HK⟩
end Go.Proofs.Ytbkkpllejgedcaa.P

