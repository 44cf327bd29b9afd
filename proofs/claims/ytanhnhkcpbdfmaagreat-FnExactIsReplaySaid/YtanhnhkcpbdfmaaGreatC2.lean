/- What functions of the program come to (f), that their calls come to just this (calls), and the plain laws over lists and numbers. No condition but those of the given row. -/
import Derived.Test.YtanhnhkcpbdfmaaGreatC1
set_option linter.unusedVariables false
set_option linter.unusedSimpArgs false
namespace Go.Proofs.YtanhnhkcpbdfmaaGreat.P
set_option maxHeartbeats 8000000
set_option maxRecDepth 100000
set_option synthInstance.maxHeartbeats 400000
set_option synthInstance.maxSize 100000
open Go.RowKit Go.Proofs.YtanhnhkcpbdfmaaGreatW.PrintWords Go.Proofs.YtanhnhkcpbdfmaaGreatW.PrintLast Go.Proofs.YtanhnhkcpbdfmaaGreatW.PrintMore Go.Proofs.YtanhnhkcpbdfmaaGreat.V
attribute [local go_sem] cell_b frozen_b
attribute [local go_sem] max2_int min2_int max_two min_two max_three min_three max_four min_four
def laws_szShop.f (l0_0 : List (S140)) (a0_1 : Int) (l0_2 : List Int) (a0_3 : Int) (a0_4 : Int) (l0_5 : List (S127)) (a1 : Int) : Option (Int) := (laws_szWork.f l0_0 a0_1 l0_2 a1).bind fun t105 => (if t105 < 0 then (some (-1)) else ((laws_szEntryS.f l0_5 t105).bind fun t106 => (if t106 < 0 then (some (-1)) else (some t106))))
theorem laws_szShop.calls (A0_0 : Option Addr) (c0_0 : Nat) (l0_0 : List (S140)) (a0_1 : Int) (A0_2 : Option Addr) (c0_2 : Nat) (l0_2 : List Int) (a0_3 : Int) (a0_4 : Int) (A0_5 : Option Addr) (c0_5 : Nat) (l0_5 : List (S127)) (a1 : Int) (r : Int) (w : World) (hr0_0 : Kd.C k140 w A0_0 l0_0.length l0_0) (hc0_0 : l0_0.length ≤ c0_0) (hr0_2 : Kd.C (Kd.int .i64) w A0_2 l0_2.length l0_2) (hc0_2 : l0_2.length ≤ c0_2) (hr0_5 : Kd.C k127 w A0_5 l0_5.length l0_5) (hc0_5 : l0_5.length ≤ c0_5) (h : laws_szShop.f l0_0 a0_1 l0_2 a0_3 a0_4 l0_5 a1 = some r) :
  Calls Tryz.prog 9 #[.agg #[.slice A0_0 l0_0.length c0_0, .int .i64 a0_1, .slice A0_2 l0_2.length c0_2, .int .i64 a0_3, .int .i64 a0_4, .slice A0_5 l0_5.length c0_5], .int .i64 a1] w fun e w' => e = .returned (.int .i64 r) ∧ Below w.heap.size w w' := by
 replace hr0_0 := RdE.mk hr0_0
 replace hc0_0 := LeI.mk hc0_0
 replace hr0_2 := RdE.mk hr0_2
 replace hc0_2 := LeI.mk hc0_2
 replace hr0_5 := RdE.mk hr0_5
 replace hc0_5 := LeI.mk hc0_5
 unfold laws_szShop.f at h
 have hu28 := Tryz.underlying28
 (repeat' first | ((with_reducible replace h := ite_some h); rcases h with ⟨hc, h⟩ | ⟨hc, h⟩ <;> first | exact (none_some h).elim | exact absurd hc (by decide) | subst hc | (replace hc := hF_ hc; subst hc) | (have hd := hI_ hc; have he := hJ_ hc; clear hc) | (have hd := hK_ hc; have he := hL_ hc) | (have hd := decide_eq_false hc) | (have hd := decide_eq_true hc) | skip))
 all_goals go_enter Tryz.func9, Tryz.ntmps9
 all_goals go_wp2_with ((first
  | ((with_reducible refine gate_dst (N := 2) rfl ?_); refine box_event rfl (N := 2) rfl (cs := #[.slice A0_0 l0_0.length c0_0, .int .i64 a0_1, .slice A0_2 l0_2.length c0_2, .int .i64 a0_3, .int .i64 a0_4, .slice A0_5 l0_5.length c0_5]) (t := 28) (by first | (go_simp; done) | (go_simp; rfl)) ?_; intro g hg w1 hk hb; have j1 := Born.mk hg; have j2 := Bel.mk hb; have j3 := Blk.mk hk; clear hg hb hk)
  | (go_at_call 43; replace h := Option.bind_eq_some_iff.mp h; obtain ⟨t, A, h⟩ := h; (try dsimp only at h); refine (laws_szWork.calls _ _ _ _ _ _ _ _ _ _ Rd.out LeI.out Rd.out LeI.out A).mono ?_; rintro e w2 ⟨rfl, hb⟩; have jb := Bel.mk hb; clear A hb)
  | (go_at_call 44; replace h := Option.bind_eq_some_iff.mp h; obtain ⟨t, A, h⟩ := h; (try dsimp only at h); refine (laws_szEntryS.calls _ _ _ _ _ _ Rd.out LeI.out A).mono ?_; rintro e w2 ⟨rfl, n, rfl⟩; clear A)); (repeat' first | ((with_reducible replace h := ite_some h); rcases h with ⟨hc, h⟩ | ⟨hc, h⟩ <;> first | exact (none_some h).elim | exact absurd hc (by decide) | subst hc | (replace hc := hF_ hc; subst hc) | (have hd := hI_ hc; have he := hJ_ hc; clear hc) | (have hd := hK_ hc; have he := hL_ hc) | (have hd := decide_eq_false hc) | (have hd := decide_eq_true hc) | skip)))
 all_goals obtain rfl := Option.some.inj h
 all_goals go_ret
 all_goals exact ⟨rfl, From.out⟩
def laws_toWork.f (k : Nat) (l0_0 : List (S140)) (a0_1 : Int) (l0_2 : List Int) : Option ((List (S112)) × Int × List Int) := (laws_toStepS.f k l0_0).bind fun t553 => ((laws_toIntS.f k l0_2).bind fun t556 => (some (t553, a0_1, t556)))
theorem laws_toWork.calls (k : Nat) (A0_0 : Option Addr) (c0_0 : Nat) (l0_0 : List (S140)) (a0_1 : Int) (A0_2 : Option Addr) (c0_2 : Nat) (l0_2 : List Int) (r1 : List (S112)) (r2 : Int) (r3 : List Int) (w : World) (hr0_0 : Kd.C k140 w A0_0 l0_0.length l0_0) (hc0_0 : l0_0.length ≤ c0_0) (hr0_2 : Kd.C (Kd.int .i64) w A0_2 l0_2.length l0_2) (hc0_2 : l0_2.length ≤ c0_2) (h : laws_toWork.f k l0_0 a0_1 l0_2 = some (r1, r2, r3)) :
  Calls Tryz.prog 54 #[.agg #[.slice A0_0 l0_0.length c0_0, .int .i64 a0_1, .slice A0_2 l0_2.length c0_2]] w fun e w' => ∃ v0_ v2_ : Value, e = .returned (.agg #[v0_, .int .i64 r2, v2_]) ∧ Kd.R k112 112 w' w.heap.size (fun _ => True) v0_ r1 ∧ Kd.R (Kd.int .i64) 3 w' w.heap.size (fun _ => True) v2_ r3 ∧ Below w.heap.size w w' := by
 replace hr0_0 := RdE.mk hr0_0
 replace hc0_0 := LeI.mk hc0_0
 replace hr0_2 := RdE.mk hr0_2
 replace hc0_2 := LeI.mk hc0_2
 unfold laws_toWork.f at h
 have hu25 := Tryz.underlying25
 have hu34 := Tryz.underlying34
 (repeat' first | ((with_reducible replace h := ite_some h); rcases h with ⟨hc, h⟩ | ⟨hc, h⟩ <;> first | exact (none_some h).elim | exact absurd hc (by decide) | subst hc | (replace hc := hF_ hc; subst hc) | (have hd := hI_ hc; have he := hJ_ hc; clear hc) | (have hd := hK_ hc; have he := hL_ hc) | (have hd := decide_eq_false hc) | (have hd := decide_eq_true hc) | skip))
 all_goals go_enter Tryz.func54, Tryz.ntmps54
 all_goals go_wp2_with ((first
  | ((with_reducible refine gate_dst (N := 1) rfl ?_); refine box_event rfl (N := 1) rfl (cs := #[.slice A0_0 l0_0.length c0_0, .int .i64 a0_1, .slice A0_2 l0_2.length c0_2]) (t := 25) (by first | (go_simp; done) | (go_simp; rfl)) ?_; intro g hg w1 hk hb; have j1 := Born.mk hg; have j2 := Bel.mk hb; have j3 := Blk.mk hk; clear hg hb hk)
  | ((with_reducible refine gate_dst (N := 2) rfl ?_); refine box_event rfl (N := 2) rfl (cs := #[.slice none 0 0, .int .i64 0, .slice none 0 0]) (t := 34) (by first | (go_simp; done) | (go_simp; rfl)) ?_; intro g hg w1 hk hb; have j1 := Born.mk hg; have j2 := Bel.mk hb; have j3 := Blk.mk hk; clear hg hb hk)
  | ((with_reducible refine gate_dst (N := 3) rfl ?_); refine box_event rfl (N := 3) rfl (cs := #[.slice none 0 0, .int .i64 0, .slice none 0 0]) (t := 34) (by first | (go_simp; done) | (go_simp; rfl)) ?_; intro g hg w1 hk hb; have j1 := Born.mk hg; have j2 := Bel.mk hb; have j3 := Blk.mk hk; clear hg hb hk)
  | (go_at_call 104; replace h := Option.bind_eq_some_iff.mp h; obtain ⟨t, A, h⟩ := h; (try dsimp only at h); refine (laws_toStepS.calls _ _ _ _ _ _ Rd.out LeI.out A).mono ?_; rintro e w2 ⟨v0, rfl, ho0, hb⟩; obtain ⟨B0, b0, rfl⟩ := Kd.R_slice ho0; have j0 := RowE.mk ho0; have q0 := LeI.mk (rowLe j0); have jb := Bel.mk hb; clear A ho0 hb)
  | (go_at_call 27; replace h := Option.bind_eq_some_iff.mp h; obtain ⟨t, A, h⟩ := h; (try dsimp only at h); refine (laws_toIntS.calls _ _ _ _ _ _ Rd.out LeI.out A).mono ?_; rintro e w2 ⟨v0, rfl, ho0, hb⟩; obtain ⟨B0, b0, rfl⟩ := Kd.R_slice ho0; have j0 := RowE.mk ho0; have q0 := LeI.mk (rowLe j0); have jb := Bel.mk hb; clear A ho0 hb)); (repeat' first | ((with_reducible replace h := ite_some h); rcases h with ⟨hc, h⟩ | ⟨hc, h⟩ <;> first | exact (none_some h).elim | exact absurd hc (by decide) | subst hc | (replace hc := hF_ hc; subst hc) | (have hd := hI_ hc; have he := hJ_ hc; clear hc) | (have hd := hK_ hc; have he := hL_ hc) | (have hd := decide_eq_false hc) | (have hd := decide_eq_true hc) | skip)); all_goals (try have hn : decide (0 < t.length) = true := decide_eq_true (by omega)); all_goals (try have hn : decide (0 < t.length) = false := decide_eq_false (by omega)))
 all_goals simp only [Option.some.injEq, Prod.mk.injEq] at h
 all_goals obtain ⟨rfl, rfl, rfl⟩ := h
 all_goals refine bodyPost_ret (results_cell_row rfl _ _ _ _ _ (0, 0) _ rfl Blk.out Tryz.underlying34 rfl (by kernel_rfl)) rfl ?_
 all_goals exact ⟨_, _, rfl, (by first | exact rowFin | exact Kd.R_nil _ _ _ _ _), (by first | exact rowFin | exact Kd.R_nil _ _ _ _ _), From.out⟩
def laws_toEntry.f (a0_0 : Int) (a0_1 : Int) (a0_2 : Int) (a0_3 : Int) : Option (Int × Int × Int × Int) := (laws_toPipe.f a0_0 a0_1).bind fun bt565 => (some (bt565.1, bt565.2, a0_2, a0_3))
theorem laws_toEntry.calls (a0_0 : Int) (a0_1 : Int) (a0_2 : Int) (a0_3 : Int) (r1 : Int) (r2 : Int) (r3 : Int) (r4 : Int) (w : World) (h : laws_toEntry.f a0_0 a0_1 a0_2 a0_3 = some (r1, r2, r3, r4)) :
  Calls Tryz.prog 105 #[.agg #[.int .i64 a0_0, .int .i64 a0_1, .int .i64 a0_2, .int .i64 a0_3]] w fun e w' => e = .returned (.agg #[.int .i64 r1, .int .i64 r2, .int .i64 r3, .int .i64 r4]) ∧ Below w.heap.size w w' := by
 unfold laws_toEntry.f at h
 have hu104 := Tryz.underlying104
 have hu127 := Tryz.underlying127
 (repeat' first | ((with_reducible replace h := ite_some h); rcases h with ⟨hc, h⟩ | ⟨hc, h⟩ <;> first | exact (none_some h).elim | exact absurd hc (by decide) | subst hc | (replace hc := hF_ hc; subst hc) | (have hd := hI_ hc; have he := hJ_ hc; clear hc) | (have hd := hK_ hc; have he := hL_ hc) | (have hd := decide_eq_false hc) | (have hd := decide_eq_true hc) | skip))
 all_goals go_enter Tryz.func105, Tryz.ntmps105
 all_goals go_wp2_with ((first
  | ((with_reducible refine gate_dst (N := 1) rfl ?_); refine box_event rfl (N := 1) rfl (cs := #[.int .i64 a0_0, .int .i64 a0_1, .int .i64 a0_2, .int .i64 a0_3]) (t := 127) (by first | (go_simp; done) | (go_simp; rfl)) ?_; intro g hg w1 hk hb; have j1 := Born.mk hg; have j2 := Bel.mk hb; have j3 := Blk.mk hk; clear hg hb hk)
  | ((with_reducible refine gate_dst (N := 2) rfl ?_); refine box_event rfl (N := 2) rfl (cs := #[.int .i64 0, .int .i64 0, .int .i64 0, .int .i64 0]) (t := 104) (by first | (go_simp; done) | (go_simp; rfl)) ?_; intro g hg w1 hk hb; have j1 := Born.mk hg; have j2 := Bel.mk hb; have j3 := Blk.mk hk; clear hg hb hk)
  | ((with_reducible refine gate_dst (N := 3) rfl ?_); refine box_event rfl (N := 3) rfl (cs := #[.int .i64 0, .int .i64 0, .int .i64 0, .int .i64 0]) (t := 104) (by first | (go_simp; done) | (go_simp; rfl)) ?_; intro g hg w1 hk hb; have j1 := Born.mk hg; have j2 := Bel.mk hb; have j3 := Blk.mk hk; clear hg hb hk)
  | (go_at_call 130; replace h := Option.bind_eq_some_iff.mp h; obtain ⟨⟨t1, t2⟩, A, h⟩ := h; (try dsimp only at h); refine (laws_toPipe.calls _ _ _ _ _ A).mono ?_; rintro e w2 ⟨rfl, hb⟩; have jb := Bel.mk hb; clear A hb)); (repeat' first | ((with_reducible replace h := ite_some h); rcases h with ⟨hc, h⟩ | ⟨hc, h⟩ <;> first | exact (none_some h).elim | exact absurd hc (by decide) | subst hc | (replace hc := hF_ hc; subst hc) | (have hd := hI_ hc; have he := hJ_ hc; clear hc) | (have hd := hK_ hc; have he := hL_ hc) | (have hd := decide_eq_false hc) | (have hd := decide_eq_true hc) | skip)))
 all_goals simp only [Option.some.injEq, Prod.mk.injEq] at h
 all_goals obtain ⟨rfl, rfl, rfl, rfl⟩ := h
 all_goals refine bodyPost_ret (results_cell_row rfl _ _ _ _ _ (0, 0) _ rfl Blk.out Tryz.underlying104 rfl (by kernel_rfl)) rfl ?_
 all_goals exact ⟨rfl, From.out⟩
def laws_eqStep.f (a0_0 : Int) (a0_1 : Int) (a0_2 : Int) (a0_3 : Int) (a1_0 : Int) (a1_1 : Int) (a1_2 : Int) (a1_3 : Int) : Option (Bool) := if a0_0 = a1_0 then (if a0_1 = a1_1 then (if a0_2 = a1_2 then (if a0_3 = a1_3 then (some true) else (some false)) else (some false)) else (some false)) else (some false)
theorem laws_eqStep.calls (a0_0 : Int) (a0_1 : Int) (a0_2 : Int) (a0_3 : Int) (a1_0 : Int) (a1_1 : Int) (a1_2 : Int) (a1_3 : Int) (r : Bool) (w : World) (h : laws_eqStep.f a0_0 a0_1 a0_2 a0_3 a1_0 a1_1 a1_2 a1_3 = some r) :
  Calls Tryz.prog 133 #[.agg #[.int .i64 a0_0, .int .i64 a0_1, .int .i64 a0_2, .int .i64 a0_3], .agg #[.int .i64 a1_0, .int .i64 a1_1, .int .i64 a1_2, .int .i64 a1_3]] w fun e w' => e = .returned (.bool r) ∧ Below w.heap.size w w' := by
 unfold laws_eqStep.f at h
 have hu112 := Tryz.underlying112
 (repeat' first | ((with_reducible replace h := ite_some h); rcases h with ⟨hc, h⟩ | ⟨hc, h⟩ <;> first | exact (none_some h).elim | exact absurd hc (by decide) | subst hc | (replace hc := hF_ hc; subst hc) | (have hd := hI_ hc; have he := hJ_ hc; clear hc) | (have hd := hK_ hc; have he := hL_ hc) | (have hd := decide_eq_false hc) | (have hd := decide_eq_true hc) | skip))
 all_goals go_enter Tryz.func133, Tryz.ntmps133
 all_goals go_wp2_with ((first
  | ((with_reducible refine gate_dst (N := 2) rfl ?_); refine box_event rfl (N := 2) rfl (cs := #[.int .i64 a0_0, .int .i64 a0_1, .int .i64 a0_2, .int .i64 a0_3]) (t := 112) (by first | (go_simp; done) | (go_simp; rfl)) ?_; intro g hg w1 hk hb; have j1 := Born.mk hg; have j2 := Bel.mk hb; have j3 := Blk.mk hk; clear hg hb hk)
  | ((with_reducible refine gate_dst (N := 3) rfl ?_); refine box_event rfl (N := 3) rfl (cs := #[.int .i64 a1_0, .int .i64 a1_1, .int .i64 a1_2, .int .i64 a1_3]) (t := 112) (by first | (go_simp; done) | (go_simp; rfl)) ?_; intro g hg w1 hk hb; have j1 := Born.mk hg; have j2 := Bel.mk hb; have j3 := Blk.mk hk; clear hg hb hk)); (repeat' first | ((with_reducible replace h := ite_some h); rcases h with ⟨hc, h⟩ | ⟨hc, h⟩ <;> first | exact (none_some h).elim | exact absurd hc (by decide) | subst hc | (replace hc := hF_ hc; subst hc) | (have hd := hI_ hc; have he := hJ_ hc; clear hc) | (have hd := hK_ hc; have he := hL_ hc) | (have hd := decide_eq_false hc) | (have hd := decide_eq_true hc) | skip)))
 all_goals obtain rfl := Option.some.inj h
 all_goals go_ret
 all_goals exact ⟨rfl, From.out⟩
def laws_eqPipe.f (a0_0 : Int) (a0_1 : Int) (a1_0 : Int) (a1_1 : Int) : Option (Bool) := if a0_0 = a1_0 then (if a0_1 = a1_1 then (some true) else (some false)) else (some false)
theorem laws_eqPipe.calls (a0_0 : Int) (a0_1 : Int) (a1_0 : Int) (a1_1 : Int) (r : Bool) (w : World) (h : laws_eqPipe.f a0_0 a0_1 a1_0 a1_1 = some r) :
  Calls Tryz.prog 134 #[.agg #[.int .i64 a0_0, .int .i64 a0_1], .agg #[.int .i64 a1_0, .int .i64 a1_1]] w fun e w' => e = .returned (.bool r) ∧ Below w.heap.size w w' := by
 unfold laws_eqPipe.f at h
 have hu74 := Tryz.underlying74
 (repeat' first | ((with_reducible replace h := ite_some h); rcases h with ⟨hc, h⟩ | ⟨hc, h⟩ <;> first | exact (none_some h).elim | exact absurd hc (by decide) | subst hc | (replace hc := hF_ hc; subst hc) | (have hd := hI_ hc; have he := hJ_ hc; clear hc) | (have hd := hK_ hc; have he := hL_ hc) | (have hd := decide_eq_false hc) | (have hd := decide_eq_true hc) | skip))
 all_goals go_enter Tryz.func134, Tryz.ntmps134
 all_goals go_wp2_with ((first
  | ((with_reducible refine gate_dst (N := 2) rfl ?_); refine box_event rfl (N := 2) rfl (cs := #[.int .i64 a0_0, .int .i64 a0_1]) (t := 74) (by first | (go_simp; done) | (go_simp; rfl)) ?_; intro g hg w1 hk hb; have j1 := Born.mk hg; have j2 := Bel.mk hb; have j3 := Blk.mk hk; clear hg hb hk)
  | ((with_reducible refine gate_dst (N := 3) rfl ?_); refine box_event rfl (N := 3) rfl (cs := #[.int .i64 a1_0, .int .i64 a1_1]) (t := 74) (by first | (go_simp; done) | (go_simp; rfl)) ?_; intro g hg w1 hk hb; have j1 := Born.mk hg; have j2 := Bel.mk hb; have j3 := Blk.mk hk; clear hg hb hk)); (repeat' first | ((with_reducible replace h := ite_some h); rcases h with ⟨hc, h⟩ | ⟨hc, h⟩ <;> first | exact (none_some h).elim | exact absurd hc (by decide) | subst hc | (replace hc := hF_ hc; subst hc) | (have hd := hI_ hc; have he := hJ_ hc; clear hc) | (have hd := hK_ hc; have he := hL_ hc) | (have hd := decide_eq_false hc) | (have hd := decide_eq_true hc) | skip)))
 all_goals obtain rfl := Option.some.inj h
 all_goals go_ret
 all_goals exact ⟨rfl, From.out⟩
def laws_eqEntry.f (a0_0 : Int) (a0_1 : Int) (a0_2 : Int) (a0_3 : Int) (a1_0 : Int) (a1_1 : Int) (a1_2 : Int) (a1_3 : Int) : Option (Bool) := (laws_eqPipe.f a0_0 a0_1 a1_0 a1_1).bind fun t1030 => (if t1030 = true then (if a0_2 = a1_2 then (if a0_3 = a1_3 then (some true) else (some false)) else (some false)) else (some false))
theorem laws_eqEntry.calls (a0_0 : Int) (a0_1 : Int) (a0_2 : Int) (a0_3 : Int) (a1_0 : Int) (a1_1 : Int) (a1_2 : Int) (a1_3 : Int) (r : Bool) (w : World) (h : laws_eqEntry.f a0_0 a0_1 a0_2 a0_3 a1_0 a1_1 a1_2 a1_3 = some r) :
  Calls Tryz.prog 112 #[.agg #[.int .i64 a0_0, .int .i64 a0_1, .int .i64 a0_2, .int .i64 a0_3], .agg #[.int .i64 a1_0, .int .i64 a1_1, .int .i64 a1_2, .int .i64 a1_3]] w fun e w' => e = .returned (.bool r) ∧ Below w.heap.size w w' := by
 unfold laws_eqEntry.f at h
 have hu104 := Tryz.underlying104
 (repeat' first | ((with_reducible replace h := ite_some h); rcases h with ⟨hc, h⟩ | ⟨hc, h⟩ <;> first | exact (none_some h).elim | exact absurd hc (by decide) | subst hc | (replace hc := hF_ hc; subst hc) | (have hd := hI_ hc; have he := hJ_ hc; clear hc) | (have hd := hK_ hc; have he := hL_ hc) | (have hd := decide_eq_false hc) | (have hd := decide_eq_true hc) | skip))
 all_goals go_enter Tryz.func112, Tryz.ntmps112
 all_goals go_wp2_with ((first
  | ((with_reducible refine gate_dst (N := 2) rfl ?_); refine box_event rfl (N := 2) rfl (cs := #[.int .i64 a0_0, .int .i64 a0_1, .int .i64 a0_2, .int .i64 a0_3]) (t := 104) (by first | (go_simp; done) | (go_simp; rfl)) ?_; intro g hg w1 hk hb; have j1 := Born.mk hg; have j2 := Bel.mk hb; have j3 := Blk.mk hk; clear hg hb hk)
  | ((with_reducible refine gate_dst (N := 3) rfl ?_); refine box_event rfl (N := 3) rfl (cs := #[.int .i64 a1_0, .int .i64 a1_1, .int .i64 a1_2, .int .i64 a1_3]) (t := 104) (by first | (go_simp; done) | (go_simp; rfl)) ?_; intro g hg w1 hk hb; have j1 := Born.mk hg; have j2 := Bel.mk hb; have j3 := Blk.mk hk; clear hg hb hk)
  | (go_at_call 134; replace h := Option.bind_eq_some_iff.mp h; obtain ⟨t, A, h⟩ := h; (try dsimp only at h); refine (laws_eqPipe.calls _ _ _ _ _ _ A).mono ?_; rintro e w2 ⟨rfl, hb⟩; have jb := Bel.mk hb; clear A hb)); (repeat' first | ((with_reducible replace h := ite_some h); rcases h with ⟨hc, h⟩ | ⟨hc, h⟩ <;> first | exact (none_some h).elim | exact absurd hc (by decide) | subst hc | (replace hc := hF_ hc; subst hc) | (have hd := hI_ hc; have he := hJ_ hc; clear hc) | (have hd := hK_ hc; have he := hL_ hc) | (have hd := decide_eq_false hc) | (have hd := decide_eq_true hc) | skip)))
 all_goals obtain rfl := Option.some.inj h
 all_goals go_ret
 all_goals exact ⟨rfl, From.out⟩
def laws_toAct.f (a0_0 : Int) (a0_1 : Int) (a0_2 : Int) (a0_3 : Int) : Option (Int × Int × Int × Int) := some (a0_0, a0_1, a0_2, a0_3)
theorem laws_toAct.calls (a0_0 : Int) (a0_1 : Int) (a0_2 : Int) (a0_3 : Int) (r1 : Int) (r2 : Int) (r3 : Int) (r4 : Int) (w : World) (h : laws_toAct.f a0_0 a0_1 a0_2 a0_3 = some (r1, r2, r3, r4)) :
  Calls Tryz.prog 12 #[.agg #[.int .i64 a0_0, .int .i64 a0_1, .int .i64 a0_2, .int .i64 a0_3]] w fun e w' => e = .returned (.agg #[.int .i64 r1, .int .i64 r2, .int .i64 r3, .int .i64 r4]) ∧ Below w.heap.size w w' := by
 unfold laws_toAct.f at h
 have hu30 := Tryz.underlying30
 have hu41 := Tryz.underlying41
 (repeat' first | ((with_reducible replace h := ite_some h); rcases h with ⟨hc, h⟩ | ⟨hc, h⟩ <;> first | exact (none_some h).elim | exact absurd hc (by decide) | subst hc | (replace hc := hF_ hc; subst hc) | (have hd := hI_ hc; have he := hJ_ hc; clear hc) | (have hd := hK_ hc; have he := hL_ hc) | (have hd := decide_eq_false hc) | (have hd := decide_eq_true hc) | skip))
 all_goals go_enter Tryz.func12, Tryz.ntmps12
 all_goals go_wp2_with ((first
  | ((with_reducible refine gate_dst (N := 1) rfl ?_); refine box_event rfl (N := 1) rfl (cs := #[.int .i64 a0_0, .int .i64 a0_1, .int .i64 a0_2, .int .i64 a0_3]) (t := 30) (by first | (go_simp; done) | (go_simp; rfl)) ?_; intro g hg w1 hk hb; have j1 := Born.mk hg; have j2 := Bel.mk hb; have j3 := Blk.mk hk; clear hg hb hk)
  | ((with_reducible refine gate_dst (N := 2) rfl ?_); refine box_event rfl (N := 2) rfl (cs := #[.int .i64 0, .int .i64 0, .int .i64 0, .int .i64 0]) (t := 41) (by first | (go_simp; done) | (go_simp; rfl)) ?_; intro g hg w1 hk hb; have j1 := Born.mk hg; have j2 := Bel.mk hb; have j3 := Blk.mk hk; clear hg hb hk)
  | ((with_reducible refine gate_dst (N := 3) rfl ?_); refine box_event rfl (N := 3) rfl (cs := #[.int .i64 0, .int .i64 0, .int .i64 0, .int .i64 0]) (t := 41) (by first | (go_simp; done) | (go_simp; rfl)) ?_; intro g hg w1 hk hb; have j1 := Born.mk hg; have j2 := Bel.mk hb; have j3 := Blk.mk hk; clear hg hb hk)); (repeat' first | ((with_reducible replace h := ite_some h); rcases h with ⟨hc, h⟩ | ⟨hc, h⟩ <;> first | exact (none_some h).elim | exact absurd hc (by decide) | subst hc | (replace hc := hF_ hc; subst hc) | (have hd := hI_ hc; have he := hJ_ hc; clear hc) | (have hd := hK_ hc; have he := hL_ hc) | (have hd := decide_eq_false hc) | (have hd := decide_eq_true hc) | skip)))
 all_goals simp only [Option.some.injEq, Prod.mk.injEq] at h
 all_goals obtain ⟨rfl, rfl, rfl, rfl⟩ := h
 all_goals refine bodyPost_ret (results_cell_row rfl _ _ _ _ _ (0, 0) _ rfl Blk.out Tryz.underlying41 rfl (by kernel_rfl)) rfl ?_
 all_goals exact ⟨rfl, From.out⟩
def laws_eqAct.f (a0_0 : Int) (a0_1 : Int) (a0_2 : Int) (a0_3 : Int) (a1_0 : Int) (a1_1 : Int) (a1_2 : Int) (a1_3 : Int) : Option (Bool) := if a0_0 = a1_0 then (if a0_1 = a1_1 then (if a0_2 = a1_2 then (if a0_3 = a1_3 then (some true) else (some false)) else (some false)) else (some false)) else (some false)
theorem laws_eqAct.calls (a0_0 : Int) (a0_1 : Int) (a0_2 : Int) (a0_3 : Int) (a1_0 : Int) (a1_1 : Int) (a1_2 : Int) (a1_3 : Int) (r : Bool) (w : World) (h : laws_eqAct.f a0_0 a0_1 a0_2 a0_3 a1_0 a1_1 a1_2 a1_3 = some r) :
  Calls Tryz.prog 69 #[.agg #[.int .i64 a0_0, .int .i64 a0_1, .int .i64 a0_2, .int .i64 a0_3], .agg #[.int .i64 a1_0, .int .i64 a1_1, .int .i64 a1_2, .int .i64 a1_3]] w fun e w' => e = .returned (.bool r) ∧ Below w.heap.size w w' := by
 unfold laws_eqAct.f at h
 have hu41 := Tryz.underlying41
 (repeat' first | ((with_reducible replace h := ite_some h); rcases h with ⟨hc, h⟩ | ⟨hc, h⟩ <;> first | exact (none_some h).elim | exact absurd hc (by decide) | subst hc | (replace hc := hF_ hc; subst hc) | (have hd := hI_ hc; have he := hJ_ hc; clear hc) | (have hd := hK_ hc; have he := hL_ hc) | (have hd := decide_eq_false hc) | (have hd := decide_eq_true hc) | skip))
 all_goals go_enter Tryz.func69, Tryz.ntmps69
 all_goals go_wp2_with ((first
  | ((with_reducible refine gate_dst (N := 2) rfl ?_); refine box_event rfl (N := 2) rfl (cs := #[.int .i64 a0_0, .int .i64 a0_1, .int .i64 a0_2, .int .i64 a0_3]) (t := 41) (by first | (go_simp; done) | (go_simp; rfl)) ?_; intro g hg w1 hk hb; have j1 := Born.mk hg; have j2 := Bel.mk hb; have j3 := Blk.mk hk; clear hg hb hk)
  | ((with_reducible refine gate_dst (N := 3) rfl ?_); refine box_event rfl (N := 3) rfl (cs := #[.int .i64 a1_0, .int .i64 a1_1, .int .i64 a1_2, .int .i64 a1_3]) (t := 41) (by first | (go_simp; done) | (go_simp; rfl)) ?_; intro g hg w1 hk hb; have j1 := Born.mk hg; have j2 := Bel.mk hb; have j3 := Blk.mk hk; clear hg hb hk)); (repeat' first | ((with_reducible replace h := ite_some h); rcases h with ⟨hc, h⟩ | ⟨hc, h⟩ <;> first | exact (none_some h).elim | exact absurd hc (by decide) | subst hc | (replace hc := hF_ hc; subst hc) | (have hd := hI_ hc; have he := hJ_ hc; clear hc) | (have hd := hK_ hc; have he := hL_ hc) | (have hd := decide_eq_false hc) | (have hd := decide_eq_true hc) | skip)))
 all_goals obtain rfl := Option.some.inj h
 all_goals go_ret
 all_goals exact ⟨rfl, From.out⟩
def spec_l36Copy.f (l0_0 : List (S112)) (a0_1 : Int) (l0_2 : List Int) : Option ((List (S112)) × Int × List Int) := (spec_l19Copy.f l0_0).bind fun t158 => ((spec_l02Copy.f l0_2).bind fun t161 => (some (t158, a0_1, t161)))
theorem spec_l36Copy.calls (A0_0 : Option Addr) (c0_0 : Nat) (l0_0 : List (S112)) (a0_1 : Int) (A0_2 : Option Addr) (c0_2 : Nat) (l0_2 : List Int) (r1 : List (S112)) (r2 : Int) (r3 : List Int) (w : World) (hr0_0 : Kd.C k112 w A0_0 l0_0.length l0_0) (hc0_0 : l0_0.length ≤ c0_0) (hr0_2 : Kd.C (Kd.int .i64) w A0_2 l0_2.length l0_2) (hc0_2 : l0_2.length ≤ c0_2) (h : spec_l36Copy.f l0_0 a0_1 l0_2 = some (r1, r2, r3)) :
  Calls Tryz.prog 95 #[.agg #[.slice A0_0 l0_0.length c0_0, .int .i64 a0_1, .slice A0_2 l0_2.length c0_2]] w fun e w' => ∃ v0_ v2_ : Value, e = .returned (.agg #[v0_, .int .i64 r2, v2_]) ∧ Kd.R k112 112 w' w.heap.size (fun _ => True) v0_ r1 ∧ Kd.R (Kd.int .i64) 3 w' w.heap.size (fun _ => True) v2_ r3 ∧ Below w.heap.size w w' := by
 replace hr0_0 := RdE.mk hr0_0
 replace hc0_0 := LeI.mk hc0_0
 replace hr0_2 := RdE.mk hr0_2
 replace hc0_2 := LeI.mk hc0_2
 unfold spec_l36Copy.f at h
 have hu34 := Tryz.underlying34
 (repeat' first | ((with_reducible replace h := ite_some h); rcases h with ⟨hc, h⟩ | ⟨hc, h⟩ <;> first | exact (none_some h).elim | exact absurd hc (by decide) | subst hc | (replace hc := hF_ hc; subst hc) | (have hd := hI_ hc; have he := hJ_ hc; clear hc) | (have hd := hK_ hc; have he := hL_ hc) | (have hd := decide_eq_false hc) | (have hd := decide_eq_true hc) | skip))
 all_goals go_enter Tryz.func95, Tryz.ntmps95
 all_goals go_wp2_with ((first
  | ((with_reducible refine gate_dst (N := 1) rfl ?_); refine box_event rfl (N := 1) rfl (cs := #[.slice A0_0 l0_0.length c0_0, .int .i64 a0_1, .slice A0_2 l0_2.length c0_2]) (t := 34) (by first | (go_simp; done) | (go_simp; rfl)) ?_; intro g hg w1 hk hb; have j1 := Born.mk hg; have j2 := Bel.mk hb; have j3 := Blk.mk hk; clear hg hb hk)
  | ((with_reducible refine gate_dst (N := 2) rfl ?_); refine box_event rfl (N := 2) rfl (cs := #[.slice none 0 0, .int .i64 0, .slice none 0 0]) (t := 34) (by first | (go_simp; done) | (go_simp; rfl)) ?_; intro g hg w1 hk hb; have j1 := Born.mk hg; have j2 := Bel.mk hb; have j3 := Blk.mk hk; clear hg hb hk)
  | ((with_reducible refine region_at ?_); intro w3 jw; refine region_st 2 (by rfl) ?_; intro g hg w4 jv; subst hg; go_region_held3 (fun w' => SinB g w4 w') (first | exact ⟨FromB.out⟩ | skip) (first | (go_at_call 126; replace h := Option.bind_eq_some_iff.mp h; obtain ⟨t, A, h⟩ := h; (try dsimp only at h); refine (spec_l19Copy.calls _ _ _ _ _ Rd.out LeI.out A).mono ?_; rintro e w2 ⟨v0, rfl, ho0, hb⟩; obtain ⟨B0, b0, rfl⟩ := Kd.R_slice ho0; have j0 := RowE.mk ho0; have q0 := LeI.mk (rowLe j0); have jb := Bel.mk hb; clear A ho0 hb; (repeat' first | ((with_reducible replace h := ite_some h); rcases h with ⟨hc, h⟩ | ⟨hc, h⟩ <;> first | exact (none_some h).elim | exact absurd hc (by decide) | subst hc | (replace hc := hF_ hc; subst hc) | (have hd := hI_ hc; have he := hJ_ hc; clear hc) | (have hd := hK_ hc; have he := hL_ hc) | (have hd := decide_eq_false hc) | (have hd := decide_eq_true hc) | skip)); (try have hn : decide (0 < t.length) = true := decide_eq_true (by omega)); (try have hn : decide (0 < t.length) = false := decide_eq_false (by omega))) | (go_at_call 127; replace h := Option.bind_eq_some_iff.mp h; obtain ⟨t, A, h⟩ := h; (try dsimp only at h); refine (spec_l02Copy.calls _ _ _ _ _ Rd.out LeI.out A).mono ?_; rintro e w2 ⟨v0, rfl, ho0, hb⟩; obtain ⟨B0, b0, rfl⟩ := Kd.R_slice ho0; have j0 := RowE.mk ho0; have q0 := LeI.mk (rowLe j0); have jb := Bel.mk hb; clear A ho0 hb)); (repeat' first | ((with_reducible replace h := ite_some h); rcases h with ⟨hc, h⟩ | ⟨hc, h⟩ <;> first | exact (none_some h).elim | exact absurd hc (by decide) | subst hc | (replace hc := hF_ hc; subst hc) | (have hd := hI_ hc; have he := hJ_ hc; clear hc) | (have hd := hK_ hc; have he := hL_ hc) | (have hd := decide_eq_false hc) | (have hd := decide_eq_true hc) | skip)); all_goals (try have hn : decide (0 < t.length) = true := decide_eq_true (by omega)); all_goals (try have hn : decide (0 < t.length) = false := decide_eq_false (by omega)))))
 all_goals simp only [Option.some.injEq, Prod.mk.injEq] at h
 all_goals obtain ⟨rfl, rfl, rfl⟩ := h
 all_goals refine bodyPost_ret (results_cell_row rfl _ _ _ _ _ (0, 0) _ rfl Blk.out Tryz.underlying34 rfl (by kernel_rfl)) rfl ?_
 all_goals exact ⟨_, _, rfl, (by first | exact rowFin | exact Kd.R_nil _ _ _ _ _), (by first | exact rowFin | exact Kd.R_nil _ _ _ _ _), From.out⟩
def spec_l38Copy.f (l0_0 : List (S112)) (a0_1 : Int) (l0_2 : List Int) (a0_3 : Int) (a0_4 : Int) (l0_5 : List (S104)) : Option ((List (S112)) × Int × List Int × Int × Int × (List (S104))) := (spec_l36Copy.f l0_0 a0_1 l0_2).bind fun bt172 => ((spec_l34Copy.f l0_5).bind fun t179 => (some (bt172.1, bt172.2.1, bt172.2.2, a0_3, a0_4, t179)))
theorem spec_l38Copy.calls (A0_0 : Option Addr) (c0_0 : Nat) (l0_0 : List (S112)) (a0_1 : Int) (A0_2 : Option Addr) (c0_2 : Nat) (l0_2 : List Int) (a0_3 : Int) (a0_4 : Int) (A0_5 : Option Addr) (c0_5 : Nat) (l0_5 : List (S104)) (r1 : List (S112)) (r2 : Int) (r3 : List Int) (r4 : Int) (r5 : Int) (r6 : List (S104)) (w : World) (hr0_0 : Kd.C k112 w A0_0 l0_0.length l0_0) (hc0_0 : l0_0.length ≤ c0_0) (hr0_2 : Kd.C (Kd.int .i64) w A0_2 l0_2.length l0_2) (hc0_2 : l0_2.length ≤ c0_2) (hr0_5 : Kd.C k104 w A0_5 l0_5.length l0_5) (hc0_5 : l0_5.length ≤ c0_5) (h : spec_l38Copy.f l0_0 a0_1 l0_2 a0_3 a0_4 l0_5 = some (r1, r2, r3, r4, r5, r6)) :
  Calls Tryz.prog 45 #[.agg #[.slice A0_0 l0_0.length c0_0, .int .i64 a0_1, .slice A0_2 l0_2.length c0_2, .int .i64 a0_3, .int .i64 a0_4, .slice A0_5 l0_5.length c0_5]] w fun e w' => ∃ v0_ v2_ v5_ : Value, e = .returned (.agg #[v0_, .int .i64 r2, v2_, .int .i64 r4, .int .i64 r5, v5_]) ∧ Kd.R k112 112 w' w.heap.size (fun _ => True) v0_ r1 ∧ Kd.R (Kd.int .i64) 3 w' w.heap.size (fun _ => True) v2_ r3 ∧ Kd.R k104 104 w' w.heap.size (fun _ => True) v5_ r6 ∧ Below w.heap.size w w' := by
 replace hr0_0 := RdE.mk hr0_0
 replace hc0_0 := LeI.mk hc0_0
 replace hr0_2 := RdE.mk hr0_2
 replace hc0_2 := LeI.mk hc0_2
 replace hr0_5 := RdE.mk hr0_5
 replace hc0_5 := LeI.mk hc0_5
 unfold spec_l38Copy.f at h
 have hu37 := Tryz.underlying37
 (repeat' first | ((with_reducible replace h := ite_some h); rcases h with ⟨hc, h⟩ | ⟨hc, h⟩ <;> first | exact (none_some h).elim | exact absurd hc (by decide) | subst hc | (replace hc := hF_ hc; subst hc) | (have hd := hI_ hc; have he := hJ_ hc; clear hc) | (have hd := hK_ hc; have he := hL_ hc) | (have hd := decide_eq_false hc) | (have hd := decide_eq_true hc) | skip))
 all_goals go_enter Tryz.func45, Tryz.ntmps45
 all_goals go_wp2_with ((first
  | ((with_reducible refine gate_dst (N := 1) rfl ?_); refine box_event rfl (N := 1) rfl (cs := #[.slice A0_0 l0_0.length c0_0, .int .i64 a0_1, .slice A0_2 l0_2.length c0_2, .int .i64 a0_3, .int .i64 a0_4, .slice A0_5 l0_5.length c0_5]) (t := 37) (by first | (go_simp; done) | (go_simp; rfl)) ?_; intro g hg w1 hk hb; have j1 := Born.mk hg; have j2 := Bel.mk hb; have j3 := Blk.mk hk; clear hg hb hk)
  | ((with_reducible refine gate_dst (N := 2) rfl ?_); refine box_event rfl (N := 2) rfl (cs := #[.slice none 0 0, .int .i64 0, .slice none 0 0, .int .i64 0, .int .i64 0, .slice none 0 0]) (t := 37) (by first | (go_simp; done) | (go_simp; rfl)) ?_; intro g hg w1 hk hb; have j1 := Born.mk hg; have j2 := Bel.mk hb; have j3 := Blk.mk hk; clear hg hb hk)
  | ((with_reducible refine region_at ?_); intro w3 jw; refine region_st 2 (by rfl) ?_; intro g hg w4 jv; subst hg; go_region_held3 (fun w' => SinB g w4 w') (first | exact ⟨FromB.out⟩ | skip) (first | (go_at_call 95; replace h := Option.bind_eq_some_iff.mp h; obtain ⟨⟨t1, t2, t3⟩, A, h⟩ := h; (try dsimp only at h); refine (spec_l36Copy.calls _ _ _ _ _ _ _ _ _ _ _ Rd.out LeI.out Rd.out LeI.out A).mono ?_; rintro e w2 ⟨v0, v1, rfl, ho0, ho1, hb⟩; obtain ⟨B0, b0, rfl⟩ := Kd.R_slice ho0; have j0 := RowE.mk ho0; have q0 := LeI.mk (rowLe j0); obtain ⟨B1, b1, rfl⟩ := Kd.R_slice ho1; have j1 := RowE.mk ho1; have q1 := LeI.mk (rowLe j1); have jb := Bel.mk hb; clear A ho0 ho1 hb; (repeat' first | ((with_reducible replace h := ite_some h); rcases h with ⟨hc, h⟩ | ⟨hc, h⟩ <;> first | exact (none_some h).elim | exact absurd hc (by decide) | subst hc | (replace hc := hF_ hc; subst hc) | (have hd := hI_ hc; have he := hJ_ hc; clear hc) | (have hd := hK_ hc; have he := hL_ hc) | (have hd := decide_eq_false hc) | (have hd := decide_eq_true hc) | skip))) | (go_at_call 96; replace h := Option.bind_eq_some_iff.mp h; obtain ⟨t, A, h⟩ := h; (try dsimp only at h); refine (spec_l34Copy.calls _ _ _ _ _ Rd.out LeI.out A).mono ?_; rintro e w2 ⟨v0, rfl, ho0, hb⟩; obtain ⟨B0, b0, rfl⟩ := Kd.R_slice ho0; have j0 := RowE.mk ho0; have q0 := LeI.mk (rowLe j0); have jb := Bel.mk hb; clear A ho0 hb)); (repeat' first | ((with_reducible replace h := ite_some h); rcases h with ⟨hc, h⟩ | ⟨hc, h⟩ <;> first | exact (none_some h).elim | exact absurd hc (by decide) | subst hc | (replace hc := hF_ hc; subst hc) | (have hd := hI_ hc; have he := hJ_ hc; clear hc) | (have hd := hK_ hc; have he := hL_ hc) | (have hd := decide_eq_false hc) | (have hd := decide_eq_true hc) | skip)); all_goals (try have hn : decide (0 < t.length) = true := decide_eq_true (by omega)); all_goals (try have hn : decide (0 < t.length) = false := decide_eq_false (by omega)))))
 all_goals simp only [Option.some.injEq, Prod.mk.injEq] at h
 all_goals obtain ⟨rfl, rfl, rfl, rfl, rfl, rfl⟩ := h
 all_goals refine bodyPost_ret (results_cell_row rfl _ _ _ _ _ (0, 0) _ rfl Blk.out Tryz.underlying37 rfl (by kernel_rfl)) rfl ?_
 all_goals exact ⟨_, _, _, rfl, (by first | exact rowFin | exact Kd.R_nil _ _ _ _ _), (by first | exact rowFin | exact Kd.R_nil _ _ _ _ _), (by first | exact rowFin | exact Kd.R_nil _ _ _ _ _), From.out⟩
def impl_copyShop.f (l0_0 : List (S112)) (a0_1 : Int) (l0_2 : List Int) (a0_3 : Int) (a0_4 : Int) (l0_5 : List (S104)) : Option ((List (S112)) × Int × List Int × Int × Int × (List (S104))) := (impl_copyWork.f l0_0 a0_1 l0_2).bind fun bt652 => ((impl_copyLog.f l0_5).bind fun t659 => (some (bt652.1, bt652.2.1, bt652.2.2, a0_3, a0_4, t659)))
theorem impl_copyShop.calls (A0_0 : Option Addr) (c0_0 : Nat) (l0_0 : List (S112)) (a0_1 : Int) (A0_2 : Option Addr) (c0_2 : Nat) (l0_2 : List Int) (a0_3 : Int) (a0_4 : Int) (A0_5 : Option Addr) (c0_5 : Nat) (l0_5 : List (S104)) (r1 : List (S112)) (r2 : Int) (r3 : List Int) (r4 : Int) (r5 : Int) (r6 : List (S104)) (w : World) (hr0_0 : Kd.C k112 w A0_0 l0_0.length l0_0) (hc0_0 : l0_0.length ≤ c0_0) (hr0_2 : Kd.C (Kd.int .i64) w A0_2 l0_2.length l0_2) (hc0_2 : l0_2.length ≤ c0_2) (hr0_5 : Kd.C k104 w A0_5 l0_5.length l0_5) (hc0_5 : l0_5.length ≤ c0_5) (h : impl_copyShop.f l0_0 a0_1 l0_2 a0_3 a0_4 l0_5 = some (r1, r2, r3, r4, r5, r6)) :
  Calls Tryz.prog 57 #[.agg #[.slice A0_0 l0_0.length c0_0, .int .i64 a0_1, .slice A0_2 l0_2.length c0_2, .int .i64 a0_3, .int .i64 a0_4, .slice A0_5 l0_5.length c0_5]] w fun e w' => ∃ v0_ v2_ v5_ : Value, e = .returned (.agg #[v0_, .int .i64 r2, v2_, .int .i64 r4, .int .i64 r5, v5_]) ∧ Kd.R k112 112 w' w.heap.size (fun _ => True) v0_ r1 ∧ Kd.R (Kd.int .i64) 3 w' w.heap.size (fun _ => True) v2_ r3 ∧ Kd.R k104 104 w' w.heap.size (fun _ => True) v5_ r6 ∧ Below w.heap.size w w' := by
 replace hr0_0 := RdE.mk hr0_0
 replace hc0_0 := LeI.mk hc0_0
 replace hr0_2 := RdE.mk hr0_2
 replace hc0_2 := LeI.mk hc0_2
 replace hr0_5 := RdE.mk hr0_5
 replace hc0_5 := LeI.mk hc0_5
 unfold impl_copyShop.f at h
 have hu37 := Tryz.underlying37
 (repeat' first | ((with_reducible replace h := ite_some h); rcases h with ⟨hc, h⟩ | ⟨hc, h⟩ <;> first | exact (none_some h).elim | exact absurd hc (by decide) | subst hc | (replace hc := hF_ hc; subst hc) | (have hd := hI_ hc; have he := hJ_ hc; clear hc) | (have hd := hK_ hc; have he := hL_ hc) | (have hd := decide_eq_false hc) | (have hd := decide_eq_true hc) | skip))
 all_goals go_enter Tryz.func57, Tryz.ntmps57
 all_goals go_wp2_with ((first
  | ((with_reducible refine gate_dst (N := 1) rfl ?_); refine box_event rfl (N := 1) rfl (cs := #[.slice A0_0 l0_0.length c0_0, .int .i64 a0_1, .slice A0_2 l0_2.length c0_2, .int .i64 a0_3, .int .i64 a0_4, .slice A0_5 l0_5.length c0_5]) (t := 37) (by first | (go_simp; done) | (go_simp; rfl)) ?_; intro g hg w1 hk hb; have j1 := Born.mk hg; have j2 := Bel.mk hb; have j3 := Blk.mk hk; clear hg hb hk)
  | ((with_reducible refine gate_dst (N := 2) rfl ?_); refine box_event rfl (N := 2) rfl (cs := #[.slice none 0 0, .int .i64 0, .slice none 0 0, .int .i64 0, .int .i64 0, .slice none 0 0]) (t := 37) (by first | (go_simp; done) | (go_simp; rfl)) ?_; intro g hg w1 hk hb; have j1 := Born.mk hg; have j2 := Bel.mk hb; have j3 := Blk.mk hk; clear hg hb hk)
  | ((with_reducible refine region_at ?_); intro w3 jw; refine region_st 2 (by rfl) ?_; intro g hg w4 jv; subst hg; go_region_held3 (fun w' => SinB g w4 w') (first | exact ⟨FromB.out⟩ | skip) (first | (go_at_call 106; replace h := Option.bind_eq_some_iff.mp h; obtain ⟨⟨t1, t2, t3⟩, A, h⟩ := h; (try dsimp only at h); refine (impl_copyWork.calls _ _ _ _ _ _ _ _ _ _ _ Rd.out LeI.out Rd.out LeI.out A).mono ?_; rintro e w2 ⟨v0, v1, rfl, ho0, ho1, hb⟩; obtain ⟨B0, b0, rfl⟩ := Kd.R_slice ho0; have j0 := RowE.mk ho0; have q0 := LeI.mk (rowLe j0); obtain ⟨B1, b1, rfl⟩ := Kd.R_slice ho1; have j1 := RowE.mk ho1; have q1 := LeI.mk (rowLe j1); have jb := Bel.mk hb; clear A ho0 ho1 hb; (repeat' first | ((with_reducible replace h := ite_some h); rcases h with ⟨hc, h⟩ | ⟨hc, h⟩ <;> first | exact (none_some h).elim | exact absurd hc (by decide) | subst hc | (replace hc := hF_ hc; subst hc) | (have hd := hI_ hc; have he := hJ_ hc; clear hc) | (have hd := hK_ hc; have he := hL_ hc) | (have hd := decide_eq_false hc) | (have hd := decide_eq_true hc) | skip))) | (go_at_call 107; replace h := Option.bind_eq_some_iff.mp h; obtain ⟨t, A, h⟩ := h; (try dsimp only at h); refine (impl_copyLog.calls _ _ _ _ _ Rd.out LeI.out A).mono ?_; rintro e w2 ⟨v0, rfl, ho0, hb⟩; obtain ⟨B0, b0, rfl⟩ := Kd.R_slice ho0; have j0 := RowE.mk ho0; have q0 := LeI.mk (rowLe j0); have jb := Bel.mk hb; clear A ho0 hb)); (repeat' first | ((with_reducible replace h := ite_some h); rcases h with ⟨hc, h⟩ | ⟨hc, h⟩ <;> first | exact (none_some h).elim | exact absurd hc (by decide) | subst hc | (replace hc := hF_ hc; subst hc) | (have hd := hI_ hc; have he := hJ_ hc; clear hc) | (have hd := hK_ hc; have he := hL_ hc) | (have hd := decide_eq_false hc) | (have hd := decide_eq_true hc) | skip)); all_goals (try have hn : decide (0 < t.length) = true := decide_eq_true (by omega)); all_goals (try have hn : decide (0 < t.length) = false := decide_eq_false (by omega)))))
 all_goals simp only [Option.some.injEq, Prod.mk.injEq] at h
 all_goals obtain ⟨rfl, rfl, rfl, rfl, rfl, rfl⟩ := h
 all_goals refine bodyPost_ret (results_cell_row rfl _ _ _ _ _ (0, 0) _ rfl Blk.out Tryz.underlying37 rfl (by kernel_rfl)) rfl ?_
 all_goals exact ⟨_, _, _, rfl, (by first | exact rowFin | exact Kd.R_nil _ _ _ _ _), (by first | exact rowFin | exact Kd.R_nil _ _ _ _ _), (by first | exact rowFin | exact Kd.R_nil _ _ _ _ _), From.out⟩
end Go.Proofs.YtanhnhkcpbdfmaaGreat.P
namespace Go.Proofs.YtanhnhkcpbdfmaaGreat.P
set_option maxHeartbeats 8000000
set_option maxRecDepth 100000
open Go.RowKit Go.Proofs.YtanhnhkcpbdfmaaGreatW.PrintWords Go.Proofs.YtanhnhkcpbdfmaaGreatW.PrintLast Go.Proofs.YtanhnhkcpbdfmaaGreatW.PrintMore
attribute [local go_sem] max2_int min2_int max_two min_two max_three min_three max_four min_four
def laws_toEntryS.l0 : Nat → List (S127) → List (S104) → Int → Option ((List (S104)))
 | 0, _, _, _ => none
 | k + 1, x0, x3, x4 => if x4 < (x0.length : Int) then (if 0 ≤ x4 then ((laws_toEntry.f ((rd_T127 x0 x4).f0.f0) ((rd_T127 x0 x4).f0.f1) ((rd_T127 x0 x4).f1) ((rd_T127 x0 x4).f2)).bind fun bt571 => (if x4 < (x3.length : Int) then (laws_toEntryS.l0 k x0 (x3.set (x4 : Int).toNat (⟨(⟨bt571.1, bt571.2.1⟩ : S74), bt571.2.2.1, bt571.2.2.2⟩ : S104)) (wrap64 (x4 + 1))) else (none))) else (none)) else (some x3)
def laws_toEntryS.f (k : Nat) (l0 : List (S127)) : Option ((List (S104))) := if 0 ≤ (l0.length : Int) then (if ((l0.length : Int) : Int).toNat ≤ 8796093022208 then (laws_toEntryS.l0 k l0 (List.replicate ((l0.length : Int) : Int).toNat z104) 0) else (none)) else (none)
theorem laws_toEntryS.calls (k : Nat) (A0 : Option Addr) (c0 : Nat) (l0 : List (S127)) (r : List (S104)) (w : World) (hr0 : Kd.C k127 w A0 l0.length l0) (hc0 : l0.length ≤ c0) (h : laws_toEntryS.f k l0 = some r) :
  Calls Tryz.prog 55 #[.slice A0 l0.length c0] w fun e w' => ∃ v0_ : Value, e = .returned (v0_) ∧ Kd.R k104 104 w' w.heap.size (fun _ => True) v0_ r ∧ Below w.heap.size w w' := by
 have hu127 := Tryz.underlying127
 have hu104 := Tryz.underlying104
 have HR0 := A_ hr0
 have HC0 := A_ hc0
 clear hr0 hc0
 have HB := A_ (Below.refl w.heap.size w)
 have H : (if 0 ≤ (l0.length : Int) then (if ((l0.length : Int) : Int).toNat ≤ 8796093022208 then (laws_toEntryS.l0 k l0 (List.replicate ((l0.length : Int) : Int).toNat z104) 0) else (none)) else (none)) = some r := h
 clear h
 by_cases c2 : 0 ≤ (l0.length : Int)
 ·rw [if_pos c2] at H
  have c2b0 := eq_true c2
  have c2b1 : decide (0 ≤ (l0.length : Int)) = true := decide_eq_true c2
  clear c2
  by_cases c3 : ((l0.length : Int) : Int).toNat ≤ 8796093022208
  ·rw [if_pos c3] at H
   have c3b0 := eq_true c3
   have c3b1 : decide (((l0.length : Int) : Int).toNat ≤ 8796093022208) = true := decide_eq_true c3
   clear c3
   obtain ⟨y567, hy567⟩ : ∃ y_ : List (S104), y_ = (List.replicate ((l0.length : Int) : Int).toNat z104) := ⟨_, rfl⟩
   replace H : (laws_toEntryS.l0 k l0 y567 0) = some r := by first | (rw [hy567]; with_reducible exact H) | (have H2_ := (Option.bind_some _ _).symm.trans H; rw [hy567]; with_reducible exact H2_) | (have H2_ := (Option.bind_some _ _).symm.trans H; with_reducible exact H2_) | with_reducible exact H | (rw [hy567]; exact H) | exact H
   have Ny567 := A_ hy567
   clear hy567
   have H' := A_ H
   clear H
   go_enter Tryz.func55, Tryz.ntmps55
   go_wp2_with (first | ((with_reducible refine gate_dst (N := 7) rfl ?_); refine Kd.R_make k104 _ 104 rfl (N := 7) rfl 35 _ _ rfl (l0.length : Int) rfl rfl Tryz.underlying35 (.agg #[(.int .i64 0), (.int .i64 0), (.int .i64 0), (.int .i64 0)]) 32 info104 rfl (by decide) (by omega) z104 (ok := fun _ => True) (okp := fun _ => True) (k104_mkM _ _ _ z104 ) (fun _ hk => hk) trivial (of_decide_eq_true (by first | (with_reducible assumption) | assumption)) (Nat.le_trans (Nat.mul_le_mul_right _ (of_decide_eq_true (by first | (with_reducible assumption) | assumption) : (l0.length : Int).toNat ≤ 8796093022208)) (by omega)) (Below.refl _ _) (Nat.le_refl _) ?_; intro v568 w4 ho5 hb hg_ hnew_; clear hg_ hnew_; (first | rw [← Ny567.out] at ho5 | (simp only [Int.reduceToNat] at ho5; rw [← Ny567.out] at ho5)); have n0_ := A_ (Kd.R_lower ho5 (below_size (oB HB))); have n1_ := A_ (below_step (oB HB) hb); clear HB; have HO569 := n0_; have HB := n1_; clear n0_ n1_; clear hb ho5))
   go_loopg [4] k (fun kq v4 w' => ∃ (x3_1 : List (S104)) (x4_1 : Int), v4 = .int .i64 x4_1 ∧ Aside0 (laws_toEntryS.l0 kq l0 x3_1 x4_1 = some r) ∧ Aside0 (kq ≤ k) ∧ Aside0 (Kd.R k104 104 w' w.heap.size (fun _ => True) v568 x3_1) ∧ Aside0 (Below w.heap.size w w'))
   case atStart => exact ⟨(y567), (0), (by first | rfl | (simp; done) | (simp [*]; done)), H', ⟨Nat.le_refl _⟩, ⟨oR HO569⟩, ⟨oB HB⟩⟩
   case round =>
    clear H'
    try clear c2
    try clear c2b0
    try clear c2b1
    try clear p2
    try clear c3
    try clear c3b0
    try clear c3b1
    try clear c5
    obtain ⟨x3_1, x4_1, rfl, HA, HK1, HO_3, HB⟩ := hrel
    cases gk with
    | zero => exact absurd HA.out (by simp [laws_toEntryS.l0])
    | succ k1 =>
     have H := HA.out
     clear HA
     simp only [laws_toEntryS.l0] at H
     by_cases c6 : x4_1 < (l0.length : Int)
     ·rw [if_pos c6] at H
      have c6b0 : decide (x4_1 < (l0.length : Int)) = true := decide_eq_true c6
      clear c6
      by_cases c7 : 0 ≤ x4_1
      ·rw [if_pos c7] at H
       have c7b0 : decide (0 ≤ x4_1) = true := decide_eq_true c7
       clear c7
       replace H := Option.bind_eq_some_iff.mp H
       obtain ⟨⟨t571, t572, t573, t574⟩, A80, H⟩ := H
       (try dsimp only at H)
       have A8 := A_ A80
       clear A80
       by_cases c9 : x4_1 < (x3_1.length : Int)
       ·rw [if_pos c9] at H
        have c9b0 : decide (x4_1 < (x3_1.length : Int)) = true := decide_eq_true c9
        clear c9
        obtain ⟨y575, hy575⟩ : ∃ y_ : List (S104), y_ = (x3_1.set (x4_1 : Int).toNat (⟨(⟨t571, t572⟩ : S74), t573, t574⟩ : S104)) := ⟨_, rfl⟩
        replace H : (laws_toEntryS.l0 k1 l0 y575 (wrap64 (x4_1 + 1))) = some r := by first | (rw [hy575]; with_reducible exact H) | (have H2_ := (Option.bind_some _ _).symm.trans H; rw [hy575]; with_reducible exact H2_) | (have H2_ := (Option.bind_some _ _).symm.trans H; with_reducible exact H2_) | with_reducible exact H | (rw [hy575]; exact H) | exact H
        have Ny575 := A_ hy575
        clear hy575
        have H' := A_ H
        clear H
        have p570 : 0 ≤ (x4_1 : Int) := of_decide_eq_true (by first | (with_reducible assumption) | assumption)
        have q570 : x4_1 < (l0.length : Int) := of_decide_eq_true (by first | (with_reducible assumption) | assumption)
        obtain ⟨ad570, e570, hx570_0, hx570_1, hx570_2, hx570_3⟩ := at_T127 HR0.out x4_1 p570 q570
        cases e570
        replace hx570_0 := (HB.out.cell (World.block_lt_of_cell? w _ hx570_0)).trans hx570_0
        replace hx570_1 := (HB.out.cell (World.block_lt_of_cell? w _ hx570_1)).trans hx570_1
        replace hx570_2 := (HB.out.cell (World.block_lt_of_cell? w _ hx570_2)).trans hx570_2
        replace hx570_3 := (HB.out.cell (World.block_lt_of_cell? w _ hx570_3)).trans hx570_3
        replace p570 := eq_true p570
        replace q570 := eq_true q570
        go_wp2_with (first | ((with_reducible refine gate_callee (f := 105) rfl ?_); refine gL (some 20) Tryz.func105 #[.agg #[.int .i64 ((rd_T127 l0 x4_1).f0.f0), .int .i64 ((rd_T127 l0 x4_1).f0.f1), .int .i64 ((rd_T127 l0 x4_1).f1), .int .i64 ((rd_T127 l0 x4_1).f2)]] ?_; (with_reducible refine (laws_toEntry.calls ((rd_T127 l0 x4_1).f0.f0) ((rd_T127 l0 x4_1).f0.f1) ((rd_T127 l0 x4_1).f1) ((rd_T127 l0 x4_1).f2) t571 t572 t573 t574 _ A8.out).mono ?_); rintro e w11 ⟨rfl, hb⟩; refine ⟨_, rfl, ?_⟩; have n0_ := A_ (Kd.R_below (oR HO_3) hb); have n1_ := A_ (below_step (oB HB) hb); clear HO_3; clear HB; have HO_3 := n0_; have HB := n1_; clear n0_ n1_; (try clear hb); (try clear hb2); (try clear hk); (try clear hi); have p10 : 0 ≤ (x4_1 : Int) := of_decide_eq_true (by first | (with_reducible assumption) | assumption); have q10 : (x4_1 : Int) < ((x3_1.length : Int) : Int) := of_decide_eq_true (by first | (with_reducible assumption) | assumption); obtain ⟨go10, co10, eo10, gb10, gl10, cl10, HG10⟩ := Kd.R_form HO_3.out (by omega); (first | cases eo10 | (injection eo10 with ea_ en_ ec_; (first | subst ea_ | (injection ea_ with ea_; subst ea_)); subst ec_; clear en_)); have GB10 := A_ gb10; have GG10 := A_ HG10; clear gb10 gl10 HG10; obtain ⟨ce10, hcl10, hM10, hcc10, hfr10⟩ := Kd.R_elem HO_3.out z104 (x4_1 : Int) p10 q10; obtain rfl := k104_openM hM10; have hx10_0 : w11.cell? ⟨go10, (x4_1 : Int).toNat * 4, none⟩ = some (.int .i64 ((rd_T104 x3_1 x4_1).f0.f0)) := hcc10 0 _ rfl; have hx10_1 : w11.cell? ⟨go10, (x4_1 : Int).toNat * 4 + 1, none⟩ = some (.int .i64 ((rd_T104 x3_1 x4_1).f0.f1)) := hcc10 1 _ rfl; have hx10_2 : w11.cell? ⟨go10, (x4_1 : Int).toNat * 4 + 2, none⟩ = some (.int .i64 ((rd_T104 x3_1 x4_1).f1)) := hcc10 2 _ rfl; have hx10_3 : w11.cell? ⟨go10, (x4_1 : Int).toNat * 4 + 3, none⟩ = some (.int .i64 ((rd_T104 x3_1 x4_1).f2)) := hcc10 3 _ rfl; have hf10_0 : w11.frozen? ⟨go10, (x4_1 : Int).toNat * 4, none⟩ = false := hfr10 0; have hf10_1 : w11.frozen? ⟨go10, (x4_1 : Int).toNat * 4 + 1, none⟩ = false := hfr10 1; have hf10_2 : w11.frozen? ⟨go10, (x4_1 : Int).toNat * 4 + 2, none⟩ = false := hfr10 2; have hf10_3 : w11.frozen? ⟨go10, (x4_1 : Int).toNat * 4 + 3, none⟩ = false := hfr10 3; clear hcl10 hcc10 hfr10 hM10; replace p10 := eq_true p10; replace q10 := eq_true q10; have HX12 := A_ (show Kd.R k104 104 w11 w.heap.size (fun _ => True) (.slice (some ⟨go10, 0, none⟩) x3_1.length co10) x3_1 from (oR HO_3)); obtain ⟨ce12, hcl12, hM12, hcc12, hfr12⟩ := Kd.R_elem HX12.out z104 (x4_1 : Int) (of_decide_eq_true (by first | (with_reducible assumption) | assumption)) (by have h_ : (x4_1 : Int) < ((x3_1.length : Int) : Int) := of_decide_eq_true (by first | (with_reducible assumption) | assumption); first | exact h_ | (have e_ := (Kd.R_reads' HO_3.out).1; omega) | simpa using h_); obtain rfl := k104_openM hM12; have HP12 := Kd.R_seg HX12.out (x4_1 : Int) (of_decide_eq_true (by first | (with_reducible assumption) | assumption)) (by have h_ : (x4_1 : Int) < ((x3_1.length : Int) : Int) := of_decide_eq_true (by first | (with_reducible assumption) | assumption); first | exact h_ | (have e_ := (Kd.R_reads' HO_3.out).1; omega) | simpa using h_) (seg := [.int .i64 t571, .int .i64 t572, .int .i64 t573, .int .i64 t574]) (j := 0) hcl12 hcc12 (show 4 ≤ 4 from by decide) (x' := (⟨(⟨t571, t572⟩ : S74), t573, t574⟩ : S104)) (k104_mkM _ _ _ (⟨(⟨t571, t572⟩ : S74), t573, t574⟩ : S104) ) (fun _ hk => hk); have hx12_0 := hcc12 0 _ rfl; (try simp only [show (k104).sz = 4 from rfl, Nat.mul_one, Nat.add_zero] at hx12_0); have hf12_0 := hfr12 0; (try simp only [show (k104).sz = 4 from rfl, Nat.mul_one, Nat.add_zero] at hf12_0); have hx12_1 := hcc12 1 _ rfl; (try simp only [show (k104).sz = 4 from rfl, Nat.mul_one, Nat.add_zero] at hx12_1); have hf12_1 := hfr12 1; (try simp only [show (k104).sz = 4 from rfl, Nat.mul_one, Nat.add_zero] at hf12_1); have hx12_2 := hcc12 2 _ rfl; (try simp only [show (k104).sz = 4 from rfl, Nat.mul_one, Nat.add_zero] at hx12_2); have hf12_2 := hfr12 2; (try simp only [show (k104).sz = 4 from rfl, Nat.mul_one, Nat.add_zero] at hf12_2); have hx12_3 := hcc12 3 _ rfl; (try simp only [show (k104).sz = 4 from rfl, Nat.mul_one, Nat.add_zero] at hx12_3); have hf12_3 := hfr12 3; (try simp only [show (k104).sz = 4 from rfl, Nat.mul_one, Nat.add_zero] at hf12_3); clear hcl12 hcc12 hfr12 hM12) | ((with_reducible refine gate_store (t := 104) (p := 21) rfl ?_); refine store_event (t := 104) (p := 21) (v := ?vo_w13) (w1 := ((((w11.setCell ⟨go10, (x4_1 : Int).toNat * 4, none⟩ (.int .i64 t571)).setCell ⟨go10, (x4_1 : Int).toNat * 4 + 1, none⟩ (.int .i64 t572)).setCell ⟨go10, (x4_1 : Int).toNat * 4 + 2, none⟩ (.int .i64 t573)).setCell ⟨go10, (x4_1 : Int).toNat * 4 + 3, none⟩ (.int .i64 t574))) ?hg ?ho ?hn ?hr ?_; (case ho => rfl); (case hg => rfl); (case hn => rfl); (case hr => first | (go_simp; done) | (go_simp; rfl)); intro w13 hw; have hg : w11.grownBy w13 (some go10) := (by rw [hw]; exact HP12.2); have hp_ : Kd.R k104 104 w13 w.heap.size (fun _ => True) (.slice (some ⟨go10, 0, none⟩) x3_1.length co10) y575 := (by rw [hw, Ny575.out]; exact HP12.1); clear HP12; have n0_ := A_ (hp_); have n1_ := A_ ((by rw [hw]; exact below_set (below_set (below_set (below_set (HB.out) GB10.out) GB10.out) GB10.out) GB10.out : Below w.heap.size w w13)); clear HO_3; clear HB; have HO_3 := n0_; have HB := n1_; clear n0_ n1_; clear hg hw hp_))
        go_roundg k1
        case measure => have := HK1.out; omega
        case rel => exact ⟨(y575), (wrap64 (x4_1 + 1)), (by first | rfl | (simp; done) | (simp [*]; done)), H', ⟨by have := HK1.out; omega⟩, ⟨oR HO_3⟩, ⟨oB HB⟩⟩
       ·rw [if_neg c9] at H
        exact absurd H (by simp)
      ·rw [if_neg c7] at H
       exact absurd H (by simp)
     ·rw [if_neg c6] at H
      have c6b0 : decide (x4_1 < (l0.length : Int)) = false := decide_eq_false c6
      clear c6
      obtain rfl := Option.some.inj H
      go_wp2
      go_ret
      exact ⟨_, eR, oR HO_3, oB HB⟩
  ·rw [if_neg c3] at H
   exact absurd H (by simp)
 ·rw [if_neg c2] at H
  exact absurd H (by simp)
def laws_eqStepS.l0 : Nat → List (S112) → List (S112) → Int → Option (Bool)
 | 0, _, _, _ => none
 | k + 1, x0, x1, x5 => if x5 < (x0.length : Int) then (if 0 ≤ x5 then (if x5 < (x1.length : Int) then ((laws_eqStep.f ((rd_T112 x0 x5).f0) ((rd_T112 x0 x5).f1) ((rd_T112 x0 x5).f2) ((rd_T112 x0 x5).f3) ((rd_T112 x1 x5).f0) ((rd_T112 x1 x5).f1) ((rd_T112 x1 x5).f2) ((rd_T112 x1 x5).f3)).bind fun t1021 => (if t1021 = true then (laws_eqStepS.l0 k x0 x1 (wrap64 (x5 + 1))) else (some false))) else (none)) else (none)) else (some true)
def laws_eqStepS.f (k : Nat) (l0 : List (S112)) (l1 : List (S112)) : Option (Bool) := if (l0.length : Int) = (l1.length : Int) then (laws_eqStepS.l0 k l0 l1 0) else (some false)
def laws_eqStepS.T6 : Bool × List (List Nat × List Nat) := (true, [([], []), ([], []), ([0, 1], [0, 1]), ([2], [2]), ([], []), ([], []), ([4, 5], [4, 5]), ([6], [6]), ([3, 7], [3, 7]), ([8], [8])])
def laws_eqStepS.B6 : List Nat := [0, 0, 3, 7, 0, 0, 48, 112, 255, 511]
theorem laws_eqStepS.tab6 : rtab .any (opsOf Tryz.f111 6) = laws_eqStepS.T6 := by kernel_rfl
theorem laws_eqStepS.bits6 : waitsOk laws_eqStepS.T6.2 laws_eqStepS.B6 = true := by kernel_rfl
theorem laws_eqStepS.calls (k : Nat) (A0 : Option Addr) (c0 : Nat) (l0 : List (S112)) (A1 : Option Addr) (c1 : Nat) (l1 : List (S112)) (r : Bool) (w : World) (hr0 : Kd.C k112 w A0 l0.length l0) (hc0 : l0.length ≤ c0) (hr1 : Kd.C k112 w A1 l1.length l1) (hc1 : l1.length ≤ c1) (h : laws_eqStepS.f k l0 l1 = some r) :
  Calls Tryz.prog 111 #[.slice A0 l0.length c0, .slice A1 l1.length c1] w fun e w' => e = .returned (.bool r) ∧ Below w.heap.size w w' := by
 have hu112 := Tryz.underlying112
 have HR0 := A_ hr0
 have HC0 := A_ hc0
 clear hr0 hc0
 have HR1 := A_ hr1
 have HC1 := A_ hc1
 clear hr1 hc1
 have HB := A_ (Below.refl w.heap.size w)
 have H : (if (l0.length : Int) = (l1.length : Int) then (laws_eqStepS.l0 k l0 l1 0) else (some false)) = some r := h
 clear h
 by_cases c3 : (l0.length : Int) = (l1.length : Int)
 ·rw [if_pos c3] at H
  have c3b0 : ((l0.length : Int) == (l1.length : Int)) = true := beq_iff_eq.mpr c3
  have c3b1 : ((l0.length : Int) != (l1.length : Int)) = false := bne_eq_false_iff_eq.mpr c3
  have c3b2 : (l0.length == l1.length) = true := by first | simpa using c3 | (simp at c3 ⊢; omega)
  clear c3
  have H' := A_ H
  clear H
  go_enter Tryz.func111, Tryz.ntmps111
  go_wp2
  go_loopg [5] k (fun kq v5 w' => ∃ (x5_1 : Int), v5 = .int .i64 x5_1 ∧ Aside0 (laws_eqStepS.l0 kq l0 l1 x5_1 = some r) ∧ Aside0 (kq ≤ k) ∧ Aside0 (Below w.heap.size w w'))
  case atStart => exact ⟨(0), (by first | rfl | (simp; done) | (simp [*]; done)), H', ⟨Nat.le_refl _⟩, ⟨oB HB⟩⟩
  case round =>
   clear H'
   try clear c1
   try clear p2
   try clear c3
   try clear c3b0
   try clear c3b1
   try clear c3b2
   obtain ⟨x5_1, rfl, HA, HK1, HB⟩ := hrel
   cases gk with
   | zero => exact absurd HA.out (by simp [laws_eqStepS.l0])
   | succ k1 =>
    have H := HA.out
    clear HA
    simp only [laws_eqStepS.l0] at H
    by_cases c4 : x5_1 < (l0.length : Int)
    ·rw [if_pos c4] at H
     have c4b0 : decide (x5_1 < (l0.length : Int)) = true := decide_eq_true c4
     clear c4
     by_cases c5 : 0 ≤ x5_1
     ·rw [if_pos c5] at H
      have c5b0 : decide (0 ≤ x5_1) = true := decide_eq_true c5
      clear c5
      by_cases c6 : x5_1 < (l1.length : Int)
      ·rw [if_pos c6] at H
       have c6b0 : decide (x5_1 < (l1.length : Int)) = true := decide_eq_true c6
       clear c6
       replace H := Option.bind_eq_some_iff.mp H
       obtain ⟨t1021, A70, H⟩ := H
       (try dsimp only at H)
       have A7 := A_ A70
       clear A70
       by_cases c8 : t1021 = true
       ·subst c8
        rw [if_pos rfl] at H
        have H' := A_ H
        clear H
        try go_wp2
        have n0_ := A_ (below_drew1 HB.out)
        clear HB
        have HB := n0_
        clear n0_
        have p1019 : 0 ≤ (x5_1 : Int) := of_decide_eq_true (by first | (with_reducible assumption) | assumption)
        have q1019 : x5_1 < (l0.length : Int) := of_decide_eq_true (by first | (with_reducible assumption) | assumption)
        obtain ⟨ad1019, e1019, hx1019_0, hx1019_1, hx1019_2, hx1019_3⟩ := at_T112 HR0.out x5_1 p1019 q1019
        have hw1019_3 := hx1019_3
        have hw1019_2 := hx1019_2
        have hw1019_1 := hx1019_1
        have hw1019_0 := hx1019_0
        cases e1019
        replace hx1019_0 := (HB.out.cell (World.block_lt_of_cell? w _ hx1019_0)).trans hx1019_0
        replace hx1019_1 := (HB.out.cell (World.block_lt_of_cell? w _ hx1019_1)).trans hx1019_1
        replace hx1019_2 := (HB.out.cell (World.block_lt_of_cell? w _ hx1019_2)).trans hx1019_2
        replace hx1019_3 := (HB.out.cell (World.block_lt_of_cell? w _ hx1019_3)).trans hx1019_3
        replace p1019 := eq_true p1019
        replace q1019 := eq_true q1019
        have p1020 : 0 ≤ (x5_1 : Int) := of_decide_eq_true (by first | (with_reducible assumption) | assumption)
        have q1020 : x5_1 < (l1.length : Int) := of_decide_eq_true (by first | (with_reducible assumption) | assumption)
        obtain ⟨ad1020, e1020, hx1020_0, hx1020_1, hx1020_2, hx1020_3⟩ := at_T112 HR1.out x5_1 p1020 q1020
        have hw1020_3 := hx1020_3
        have hw1020_2 := hx1020_2
        have hw1020_1 := hx1020_1
        have hw1020_0 := hx1020_0
        cases e1020
        replace hx1020_0 := (HB.out.cell (World.block_lt_of_cell? w _ hx1020_0)).trans hx1020_0
        replace hx1020_1 := (HB.out.cell (World.block_lt_of_cell? w _ hx1020_1)).trans hx1020_1
        replace hx1020_2 := (HB.out.cell (World.block_lt_of_cell? w _ hx1020_2)).trans hx1020_2
        replace hx1020_3 := (HB.out.cell (World.block_lt_of_cell? w _ hx1020_3)).trans hx1020_3
        replace p1020 := eq_true p1020
        replace q1020 := eq_true q1020
        refine start_ (n := 10) (S := fun w' => w'.cell? (ad1019.add ((x5_1).toNat * 4)) = some (.int .i64 ((rd_T112 l0 x5_1).f0)) ∧ w'.cell? ⟨(ad1019.add ((x5_1).toNat * 4)).block, (ad1019.add ((x5_1).toNat * 4)).off + 1, none⟩ = some (.int .i64 ((rd_T112 l0 x5_1).f1)) ∧ w'.cell? ⟨(ad1019.add ((x5_1).toNat * 4)).block, (ad1019.add ((x5_1).toNat * 4)).off + 2, none⟩ = some (.int .i64 ((rd_T112 l0 x5_1).f2)) ∧ w'.cell? ⟨(ad1019.add ((x5_1).toNat * 4)).block, (ad1019.add ((x5_1).toNat * 4)).off + 3, none⟩ = some (.int .i64 ((rd_T112 l0 x5_1).f3)) ∧ w'.cell? (ad1020.add ((x5_1).toNat * 4)) = some (.int .i64 ((rd_T112 l1 x5_1).f0)) ∧ w'.cell? ⟨(ad1020.add ((x5_1).toNat * 4)).block, (ad1020.add ((x5_1).toNat * 4)).off + 1, none⟩ = some (.int .i64 ((rd_T112 l1 x5_1).f1)) ∧ w'.cell? ⟨(ad1020.add ((x5_1).toNat * 4)).block, (ad1020.add ((x5_1).toNat * 4)).off + 2, none⟩ = some (.int .i64 ((rd_T112 l1 x5_1).f2)) ∧ w'.cell? ⟨(ad1020.add ((x5_1).toNat * 4)).block, (ad1020.add ((x5_1).toNat * 4)).off + 3, none⟩ = some (.int .i64 ((rd_T112 l1 x5_1).f3))) (ds := []) #[false, false, false, false, false, false, false, false, false, false] (by kernel_rfl) rfl rfl ⟨((HB.out.cell (World.block_lt_of_cell? w _ hw1019_0)).trans hw1019_0), ((HB.out.cell (World.block_lt_of_cell? w _ hw1019_1)).trans hw1019_1), ((HB.out.cell (World.block_lt_of_cell? w _ hw1019_2)).trans hw1019_2), ((HB.out.cell (World.block_lt_of_cell? w _ hw1019_3)).trans hw1019_3), ((HB.out.cell (World.block_lt_of_cell? w _ hw1020_0)).trans hw1020_0), ((HB.out.cell (World.block_lt_of_cell? w _ hw1020_1)).trans hw1020_1), ((HB.out.cell (World.block_lt_of_cell? w _ hw1020_2)).trans hw1020_2), ((HB.out.cell (World.block_lt_of_cell? w _ hw1020_3)).trans hw1020_3)⟩ (fun hHeld => ?_); refine with_tabW laws_eqStepS.tab6 laws_eqStepS.bits6 (fun HT_ HW_ => ?_)
        generalize wr.drew = w9 at HB hx1019_0 hx1019_1 hx1019_2 hx1019_3 hx1020_0 hx1020_1 hx1020_2 hx1020_3 hHeld ⊢
        refine pA 0 (some 17) HT_.out ?_
        refine pA 1 (some 18) HT_.out ?_
        refine pA 2 (some 19) HT_.out ?_
        refine pA 4 (some 21) HT_.out ?_
        refine pA 5 (some 22) HT_.out ?_
        refine pA 6 (some 23) HT_.out ?_
        refine pT 3 (some 20) HT_.out HW_.out hHeld ?_
        refine pT 7 (some 24) HT_.out HW_.out hHeld ?_
        refine one_ (i := 8) (N := some 25) #[true, true, true, true, true, true, true, true, true, false] rfl rfl (one_of HT_.out (by kernel_rfl)) (by decide) (fun K hK => ?_)
        refine goes_ Tryz.func133 (by kernel_rfl) rfl #[.agg #[.int .i64 ((rd_T112 l0 x5_1).f0), .int .i64 ((rd_T112 l0 x5_1).f1), .int .i64 ((rd_T112 l0 x5_1).f2), .int .i64 ((rd_T112 l0 x5_1).f3)], .agg #[.int .i64 ((rd_T112 l1 x5_1).f0), .int .i64 ((rd_T112 l1 x5_1).f1), .int .i64 ((rd_T112 l1 x5_1).f2), .int .i64 ((rd_T112 l1 x5_1).f3)]] (by rfl) rfl rfl (by (try simp only [List.map_toArray, List.map_cons, List.map_nil]); first | done | rfl | (simp only [List.length_drop, List.length_take]; rfl)) ?_
        with_reducible refine (laws_eqStep.calls ((rd_T112 l0 x5_1).f0) ((rd_T112 l0 x5_1).f1) ((rd_T112 l0 x5_1).f2) ((rd_T112 l0 x5_1).f3) ((rd_T112 l1 x5_1).f0) ((rd_T112 l1 x5_1).f1) ((rd_T112 l1 x5_1).f2) ((rd_T112 l1 x5_1).f3) true _ A7.out).mono ?_
        rintro e w10 ⟨rfl, hb⟩
        refine ⟨_, rfl, ?_⟩
        have n0_ := A_ (below_step (oB HB) hb)
        clear HB
        have HB := n0_
        clear n0_
        (try clear hb)
        (try clear hb2)
        (try clear hk)
        (try clear hi)
        refine hK.out _ _ ⟨((HB.out.cell (World.block_lt_of_cell? w _ hw1019_0)).trans hw1019_0), ((HB.out.cell (World.block_lt_of_cell? w _ hw1019_1)).trans hw1019_1), ((HB.out.cell (World.block_lt_of_cell? w _ hw1019_2)).trans hw1019_2), ((HB.out.cell (World.block_lt_of_cell? w _ hw1019_3)).trans hw1019_3), ((HB.out.cell (World.block_lt_of_cell? w _ hw1020_0)).trans hw1020_0), ((HB.out.cell (World.block_lt_of_cell? w _ hw1020_1)).trans hw1020_1), ((HB.out.cell (World.block_lt_of_cell? w _ hw1020_2)).trans hw1020_2), ((HB.out.cell (World.block_lt_of_cell? w _ hw1020_3)).trans hw1020_3)⟩ (fun hHeld => ?_)
        clear hK K
        refine norm_ (a' := ?_) ?_ ?_
        rotate_left
        ·show Act.put _ (some 25) _ = _
         simp only [Act.put, List.setIfInBounds_toArray, List.set_cons_zero, List.set_cons_succ, i64_w, i32_w]
         rfl
        refine pA 9 (some 26) HT_.out ?_
        refine done_ (done_of HT_.out (by kernel_rfl)) ?_
        try go_wp2
        go_roundg k1
        case measure => have := HK1.out; omega
        case rel => exact ⟨(wrap64 (x5_1 + 1)), (by first | rfl | (simp; done) | (simp [*]; done)), H', ⟨by have := HK1.out; omega⟩, ⟨oB HB⟩⟩
       ·replace c8 := Bool.eq_false_iff.mpr c8
        subst c8
        rw [if_neg (show ¬ (false = true) by decide)] at H
        obtain rfl := Option.some.inj H
        try go_wp2
        have n0_ := A_ (below_drew1 HB.out)
        clear HB
        have HB := n0_
        clear n0_
        have p1019 : 0 ≤ (x5_1 : Int) := of_decide_eq_true (by first | (with_reducible assumption) | assumption)
        have q1019 : x5_1 < (l0.length : Int) := of_decide_eq_true (by first | (with_reducible assumption) | assumption)
        obtain ⟨ad1019, e1019, hx1019_0, hx1019_1, hx1019_2, hx1019_3⟩ := at_T112 HR0.out x5_1 p1019 q1019
        have hw1019_3 := hx1019_3
        have hw1019_2 := hx1019_2
        have hw1019_1 := hx1019_1
        have hw1019_0 := hx1019_0
        cases e1019
        replace hx1019_0 := (HB.out.cell (World.block_lt_of_cell? w _ hx1019_0)).trans hx1019_0
        replace hx1019_1 := (HB.out.cell (World.block_lt_of_cell? w _ hx1019_1)).trans hx1019_1
        replace hx1019_2 := (HB.out.cell (World.block_lt_of_cell? w _ hx1019_2)).trans hx1019_2
        replace hx1019_3 := (HB.out.cell (World.block_lt_of_cell? w _ hx1019_3)).trans hx1019_3
        replace p1019 := eq_true p1019
        replace q1019 := eq_true q1019
        have p1020 : 0 ≤ (x5_1 : Int) := of_decide_eq_true (by first | (with_reducible assumption) | assumption)
        have q1020 : x5_1 < (l1.length : Int) := of_decide_eq_true (by first | (with_reducible assumption) | assumption)
        obtain ⟨ad1020, e1020, hx1020_0, hx1020_1, hx1020_2, hx1020_3⟩ := at_T112 HR1.out x5_1 p1020 q1020
        have hw1020_3 := hx1020_3
        have hw1020_2 := hx1020_2
        have hw1020_1 := hx1020_1
        have hw1020_0 := hx1020_0
        cases e1020
        replace hx1020_0 := (HB.out.cell (World.block_lt_of_cell? w _ hx1020_0)).trans hx1020_0
        replace hx1020_1 := (HB.out.cell (World.block_lt_of_cell? w _ hx1020_1)).trans hx1020_1
        replace hx1020_2 := (HB.out.cell (World.block_lt_of_cell? w _ hx1020_2)).trans hx1020_2
        replace hx1020_3 := (HB.out.cell (World.block_lt_of_cell? w _ hx1020_3)).trans hx1020_3
        replace p1020 := eq_true p1020
        replace q1020 := eq_true q1020
        refine start_ (n := 10) (S := fun w' => w'.cell? (ad1019.add ((x5_1).toNat * 4)) = some (.int .i64 ((rd_T112 l0 x5_1).f0)) ∧ w'.cell? ⟨(ad1019.add ((x5_1).toNat * 4)).block, (ad1019.add ((x5_1).toNat * 4)).off + 1, none⟩ = some (.int .i64 ((rd_T112 l0 x5_1).f1)) ∧ w'.cell? ⟨(ad1019.add ((x5_1).toNat * 4)).block, (ad1019.add ((x5_1).toNat * 4)).off + 2, none⟩ = some (.int .i64 ((rd_T112 l0 x5_1).f2)) ∧ w'.cell? ⟨(ad1019.add ((x5_1).toNat * 4)).block, (ad1019.add ((x5_1).toNat * 4)).off + 3, none⟩ = some (.int .i64 ((rd_T112 l0 x5_1).f3)) ∧ w'.cell? (ad1020.add ((x5_1).toNat * 4)) = some (.int .i64 ((rd_T112 l1 x5_1).f0)) ∧ w'.cell? ⟨(ad1020.add ((x5_1).toNat * 4)).block, (ad1020.add ((x5_1).toNat * 4)).off + 1, none⟩ = some (.int .i64 ((rd_T112 l1 x5_1).f1)) ∧ w'.cell? ⟨(ad1020.add ((x5_1).toNat * 4)).block, (ad1020.add ((x5_1).toNat * 4)).off + 2, none⟩ = some (.int .i64 ((rd_T112 l1 x5_1).f2)) ∧ w'.cell? ⟨(ad1020.add ((x5_1).toNat * 4)).block, (ad1020.add ((x5_1).toNat * 4)).off + 3, none⟩ = some (.int .i64 ((rd_T112 l1 x5_1).f3))) (ds := []) #[false, false, false, false, false, false, false, false, false, false] (by kernel_rfl) rfl rfl ⟨((HB.out.cell (World.block_lt_of_cell? w _ hw1019_0)).trans hw1019_0), ((HB.out.cell (World.block_lt_of_cell? w _ hw1019_1)).trans hw1019_1), ((HB.out.cell (World.block_lt_of_cell? w _ hw1019_2)).trans hw1019_2), ((HB.out.cell (World.block_lt_of_cell? w _ hw1019_3)).trans hw1019_3), ((HB.out.cell (World.block_lt_of_cell? w _ hw1020_0)).trans hw1020_0), ((HB.out.cell (World.block_lt_of_cell? w _ hw1020_1)).trans hw1020_1), ((HB.out.cell (World.block_lt_of_cell? w _ hw1020_2)).trans hw1020_2), ((HB.out.cell (World.block_lt_of_cell? w _ hw1020_3)).trans hw1020_3)⟩ (fun hHeld => ?_); refine with_tabW laws_eqStepS.tab6 laws_eqStepS.bits6 (fun HT_ HW_ => ?_)
        generalize wr.drew = w11 at HB hx1019_0 hx1019_1 hx1019_2 hx1019_3 hx1020_0 hx1020_1 hx1020_2 hx1020_3 hHeld ⊢
        refine pA 0 (some 17) HT_.out ?_
        refine pA 1 (some 18) HT_.out ?_
        refine pA 2 (some 19) HT_.out ?_
        refine pA 4 (some 21) HT_.out ?_
        refine pA 5 (some 22) HT_.out ?_
        refine pA 6 (some 23) HT_.out ?_
        refine pT 3 (some 20) HT_.out HW_.out hHeld ?_
        refine pT 7 (some 24) HT_.out HW_.out hHeld ?_
        refine one_ (i := 8) (N := some 25) #[true, true, true, true, true, true, true, true, true, false] rfl rfl (one_of HT_.out (by kernel_rfl)) (by decide) (fun K hK => ?_)
        refine goes_ Tryz.func133 (by kernel_rfl) rfl #[.agg #[.int .i64 ((rd_T112 l0 x5_1).f0), .int .i64 ((rd_T112 l0 x5_1).f1), .int .i64 ((rd_T112 l0 x5_1).f2), .int .i64 ((rd_T112 l0 x5_1).f3)], .agg #[.int .i64 ((rd_T112 l1 x5_1).f0), .int .i64 ((rd_T112 l1 x5_1).f1), .int .i64 ((rd_T112 l1 x5_1).f2), .int .i64 ((rd_T112 l1 x5_1).f3)]] (by rfl) rfl rfl (by (try simp only [List.map_toArray, List.map_cons, List.map_nil]); first | done | rfl | (simp only [List.length_drop, List.length_take]; rfl)) ?_
        with_reducible refine (laws_eqStep.calls ((rd_T112 l0 x5_1).f0) ((rd_T112 l0 x5_1).f1) ((rd_T112 l0 x5_1).f2) ((rd_T112 l0 x5_1).f3) ((rd_T112 l1 x5_1).f0) ((rd_T112 l1 x5_1).f1) ((rd_T112 l1 x5_1).f2) ((rd_T112 l1 x5_1).f3) false _ A7.out).mono ?_
        rintro e w12 ⟨rfl, hb⟩
        refine ⟨_, rfl, ?_⟩
        have n0_ := A_ (below_step (oB HB) hb)
        clear HB
        have HB := n0_
        clear n0_
        (try clear hb)
        (try clear hb2)
        (try clear hk)
        (try clear hi)
        refine hK.out _ _ ⟨((HB.out.cell (World.block_lt_of_cell? w _ hw1019_0)).trans hw1019_0), ((HB.out.cell (World.block_lt_of_cell? w _ hw1019_1)).trans hw1019_1), ((HB.out.cell (World.block_lt_of_cell? w _ hw1019_2)).trans hw1019_2), ((HB.out.cell (World.block_lt_of_cell? w _ hw1019_3)).trans hw1019_3), ((HB.out.cell (World.block_lt_of_cell? w _ hw1020_0)).trans hw1020_0), ((HB.out.cell (World.block_lt_of_cell? w _ hw1020_1)).trans hw1020_1), ((HB.out.cell (World.block_lt_of_cell? w _ hw1020_2)).trans hw1020_2), ((HB.out.cell (World.block_lt_of_cell? w _ hw1020_3)).trans hw1020_3)⟩ (fun hHeld => ?_)
        clear hK K
        refine norm_ (a' := ?_) ?_ ?_
        rotate_left
        ·show Act.put _ (some 25) _ = _
         simp only [Act.put, List.setIfInBounds_toArray, List.set_cons_zero, List.set_cons_succ, i64_w, i32_w]
         rfl
        refine pA 9 (some 26) HT_.out ?_
        refine done_ (done_of HT_.out (by kernel_rfl)) ?_
        try go_wp2
        go_ret
        exact ⟨eR, oB HB⟩
      ·rw [if_neg c6] at H
       exact absurd H (by simp)
     ·rw [if_neg c5] at H
      exact absurd H (by simp)
    ·rw [if_neg c4] at H
     have c4b0 : decide (x5_1 < (l0.length : Int)) = false := decide_eq_false c4
     clear c4
     obtain rfl := Option.some.inj H
     go_wp2
     go_ret
     exact ⟨eR, oB HB⟩
 ·rw [if_neg c3] at H
  have c3b0 : ((l0.length : Int) == (l1.length : Int)) = false := beq_eq_false_iff_ne.mpr c3
  have c3b1 : ((l0.length : Int) != (l1.length : Int)) = true := bne_iff_ne.mpr c3
  have c3b2 : (l0.length == l1.length) = false := by first | simpa using c3 | (simp at c3 ⊢; omega)
  obtain rfl := Option.some.inj H
  go_enter Tryz.func111, Tryz.ntmps111
  go_wp2
  go_ret
  exact ⟨eR, oB HB⟩
def laws_eqEntryS.l0 : Nat → List (S104) → List (S104) → Int → Option (Bool)
 | 0, _, _, _ => none
 | k + 1, x0, x1, x5 => if x5 < (x0.length : Int) then (if 0 ≤ x5 then (if x5 < (x1.length : Int) then ((laws_eqEntry.f ((rd_T104 x0 x5).f0.f0) ((rd_T104 x0 x5).f0.f1) ((rd_T104 x0 x5).f1) ((rd_T104 x0 x5).f2) ((rd_T104 x1 x5).f0.f0) ((rd_T104 x1 x5).f0.f1) ((rd_T104 x1 x5).f1) ((rd_T104 x1 x5).f2)).bind fun t1033 => (if t1033 = true then (laws_eqEntryS.l0 k x0 x1 (wrap64 (x5 + 1))) else (some false))) else (none)) else (none)) else (some true)
def laws_eqEntryS.f (k : Nat) (l0 : List (S104)) (l1 : List (S104)) : Option (Bool) := if (l0.length : Int) = (l1.length : Int) then (laws_eqEntryS.l0 k l0 l1 0) else (some false)
def laws_eqEntryS.T6 : Bool × List (List Nat × List Nat) := (true, [([], []), ([], []), ([0, 1], [0, 1]), ([2], [2]), ([], []), ([], []), ([4, 5], [4, 5]), ([6], [6]), ([3, 7], [3, 7]), ([8], [8])])
def laws_eqEntryS.B6 : List Nat := [0, 0, 3, 7, 0, 0, 48, 112, 255, 511]
theorem laws_eqEntryS.tab6 : rtab .any (opsOf Tryz.f64 6) = laws_eqEntryS.T6 := by kernel_rfl
theorem laws_eqEntryS.bits6 : waitsOk laws_eqEntryS.T6.2 laws_eqEntryS.B6 = true := by kernel_rfl
theorem laws_eqEntryS.calls (k : Nat) (A0 : Option Addr) (c0 : Nat) (l0 : List (S104)) (A1 : Option Addr) (c1 : Nat) (l1 : List (S104)) (r : Bool) (w : World) (hr0 : Kd.C k104 w A0 l0.length l0) (hc0 : l0.length ≤ c0) (hr1 : Kd.C k104 w A1 l1.length l1) (hc1 : l1.length ≤ c1) (h : laws_eqEntryS.f k l0 l1 = some r) :
  Calls Tryz.prog 64 #[.slice A0 l0.length c0, .slice A1 l1.length c1] w fun e w' => e = .returned (.bool r) ∧ Below w.heap.size w w' := by
 have hu104 := Tryz.underlying104
 have HR0 := A_ hr0
 have HC0 := A_ hc0
 clear hr0 hc0
 have HR1 := A_ hr1
 have HC1 := A_ hc1
 clear hr1 hc1
 have HB := A_ (Below.refl w.heap.size w)
 have H : (if (l0.length : Int) = (l1.length : Int) then (laws_eqEntryS.l0 k l0 l1 0) else (some false)) = some r := h
 clear h
 by_cases c3 : (l0.length : Int) = (l1.length : Int)
 ·rw [if_pos c3] at H
  have c3b0 : ((l0.length : Int) == (l1.length : Int)) = true := beq_iff_eq.mpr c3
  have c3b1 : ((l0.length : Int) != (l1.length : Int)) = false := bne_eq_false_iff_eq.mpr c3
  have c3b2 : (l0.length == l1.length) = true := by first | simpa using c3 | (simp at c3 ⊢; omega)
  clear c3
  have H' := A_ H
  clear H
  go_enter Tryz.func64, Tryz.ntmps64
  go_wp2
  go_loopg [5] k (fun kq v5 w' => ∃ (x5_1 : Int), v5 = .int .i64 x5_1 ∧ Aside0 (laws_eqEntryS.l0 kq l0 l1 x5_1 = some r) ∧ Aside0 (kq ≤ k) ∧ Aside0 (Below w.heap.size w w'))
  case atStart => exact ⟨(0), (by first | rfl | (simp; done) | (simp [*]; done)), H', ⟨Nat.le_refl _⟩, ⟨oB HB⟩⟩
  case round =>
   clear H'
   try clear c1
   try clear p2
   try clear c3
   try clear c3b0
   try clear c3b1
   try clear c3b2
   obtain ⟨x5_1, rfl, HA, HK1, HB⟩ := hrel
   cases gk with
   | zero => exact absurd HA.out (by simp [laws_eqEntryS.l0])
   | succ k1 =>
    have H := HA.out
    clear HA
    simp only [laws_eqEntryS.l0] at H
    by_cases c4 : x5_1 < (l0.length : Int)
    ·rw [if_pos c4] at H
     have c4b0 : decide (x5_1 < (l0.length : Int)) = true := decide_eq_true c4
     clear c4
     by_cases c5 : 0 ≤ x5_1
     ·rw [if_pos c5] at H
      have c5b0 : decide (0 ≤ x5_1) = true := decide_eq_true c5
      clear c5
      by_cases c6 : x5_1 < (l1.length : Int)
      ·rw [if_pos c6] at H
       have c6b0 : decide (x5_1 < (l1.length : Int)) = true := decide_eq_true c6
       clear c6
       replace H := Option.bind_eq_some_iff.mp H
       obtain ⟨t1033, A70, H⟩ := H
       (try dsimp only at H)
       have A7 := A_ A70
       clear A70
       by_cases c8 : t1033 = true
       ·subst c8
        rw [if_pos rfl] at H
        have H' := A_ H
        clear H
        try go_wp2
        have n0_ := A_ (below_drew1 HB.out)
        clear HB
        have HB := n0_
        clear n0_
        have p1031 : 0 ≤ (x5_1 : Int) := of_decide_eq_true (by first | (with_reducible assumption) | assumption)
        have q1031 : x5_1 < (l0.length : Int) := of_decide_eq_true (by first | (with_reducible assumption) | assumption)
        obtain ⟨ad1031, e1031, hx1031_0, hx1031_1, hx1031_2, hx1031_3⟩ := at_T104 HR0.out x5_1 p1031 q1031
        have hw1031_3 := hx1031_3
        have hw1031_2 := hx1031_2
        have hw1031_1 := hx1031_1
        have hw1031_0 := hx1031_0
        cases e1031
        replace hx1031_0 := (HB.out.cell (World.block_lt_of_cell? w _ hx1031_0)).trans hx1031_0
        replace hx1031_1 := (HB.out.cell (World.block_lt_of_cell? w _ hx1031_1)).trans hx1031_1
        replace hx1031_2 := (HB.out.cell (World.block_lt_of_cell? w _ hx1031_2)).trans hx1031_2
        replace hx1031_3 := (HB.out.cell (World.block_lt_of_cell? w _ hx1031_3)).trans hx1031_3
        replace p1031 := eq_true p1031
        replace q1031 := eq_true q1031
        have p1032 : 0 ≤ (x5_1 : Int) := of_decide_eq_true (by first | (with_reducible assumption) | assumption)
        have q1032 : x5_1 < (l1.length : Int) := of_decide_eq_true (by first | (with_reducible assumption) | assumption)
        obtain ⟨ad1032, e1032, hx1032_0, hx1032_1, hx1032_2, hx1032_3⟩ := at_T104 HR1.out x5_1 p1032 q1032
        have hw1032_3 := hx1032_3
        have hw1032_2 := hx1032_2
        have hw1032_1 := hx1032_1
        have hw1032_0 := hx1032_0
        cases e1032
        replace hx1032_0 := (HB.out.cell (World.block_lt_of_cell? w _ hx1032_0)).trans hx1032_0
        replace hx1032_1 := (HB.out.cell (World.block_lt_of_cell? w _ hx1032_1)).trans hx1032_1
        replace hx1032_2 := (HB.out.cell (World.block_lt_of_cell? w _ hx1032_2)).trans hx1032_2
        replace hx1032_3 := (HB.out.cell (World.block_lt_of_cell? w _ hx1032_3)).trans hx1032_3
        replace p1032 := eq_true p1032
        replace q1032 := eq_true q1032
        refine start_ (n := 10) (S := fun w' => w'.cell? (ad1031.add ((x5_1).toNat * 4)) = some (.int .i64 ((rd_T104 l0 x5_1).f0.f0)) ∧ w'.cell? ⟨(ad1031.add ((x5_1).toNat * 4)).block, (ad1031.add ((x5_1).toNat * 4)).off + 1, none⟩ = some (.int .i64 ((rd_T104 l0 x5_1).f0.f1)) ∧ w'.cell? ⟨(ad1031.add ((x5_1).toNat * 4)).block, (ad1031.add ((x5_1).toNat * 4)).off + 2, none⟩ = some (.int .i64 ((rd_T104 l0 x5_1).f1)) ∧ w'.cell? ⟨(ad1031.add ((x5_1).toNat * 4)).block, (ad1031.add ((x5_1).toNat * 4)).off + 3, none⟩ = some (.int .i64 ((rd_T104 l0 x5_1).f2)) ∧ w'.cell? (ad1032.add ((x5_1).toNat * 4)) = some (.int .i64 ((rd_T104 l1 x5_1).f0.f0)) ∧ w'.cell? ⟨(ad1032.add ((x5_1).toNat * 4)).block, (ad1032.add ((x5_1).toNat * 4)).off + 1, none⟩ = some (.int .i64 ((rd_T104 l1 x5_1).f0.f1)) ∧ w'.cell? ⟨(ad1032.add ((x5_1).toNat * 4)).block, (ad1032.add ((x5_1).toNat * 4)).off + 2, none⟩ = some (.int .i64 ((rd_T104 l1 x5_1).f1)) ∧ w'.cell? ⟨(ad1032.add ((x5_1).toNat * 4)).block, (ad1032.add ((x5_1).toNat * 4)).off + 3, none⟩ = some (.int .i64 ((rd_T104 l1 x5_1).f2))) (ds := []) #[false, false, false, false, false, false, false, false, false, false] (by kernel_rfl) rfl rfl ⟨((HB.out.cell (World.block_lt_of_cell? w _ hw1031_0)).trans hw1031_0), ((HB.out.cell (World.block_lt_of_cell? w _ hw1031_1)).trans hw1031_1), ((HB.out.cell (World.block_lt_of_cell? w _ hw1031_2)).trans hw1031_2), ((HB.out.cell (World.block_lt_of_cell? w _ hw1031_3)).trans hw1031_3), ((HB.out.cell (World.block_lt_of_cell? w _ hw1032_0)).trans hw1032_0), ((HB.out.cell (World.block_lt_of_cell? w _ hw1032_1)).trans hw1032_1), ((HB.out.cell (World.block_lt_of_cell? w _ hw1032_2)).trans hw1032_2), ((HB.out.cell (World.block_lt_of_cell? w _ hw1032_3)).trans hw1032_3)⟩ (fun hHeld => ?_); refine with_tabW laws_eqEntryS.tab6 laws_eqEntryS.bits6 (fun HT_ HW_ => ?_)
        generalize wr.drew = w9 at HB hx1031_0 hx1031_1 hx1031_2 hx1031_3 hx1032_0 hx1032_1 hx1032_2 hx1032_3 hHeld ⊢
        refine pA 0 (some 17) HT_.out ?_
        refine pA 1 (some 18) HT_.out ?_
        refine pA 2 (some 19) HT_.out ?_
        refine pA 4 (some 21) HT_.out ?_
        refine pA 5 (some 22) HT_.out ?_
        refine pA 6 (some 23) HT_.out ?_
        refine pT 3 (some 20) HT_.out HW_.out hHeld ?_
        refine pT 7 (some 24) HT_.out HW_.out hHeld ?_
        refine one_ (i := 8) (N := some 25) #[true, true, true, true, true, true, true, true, true, false] rfl rfl (one_of HT_.out (by kernel_rfl)) (by decide) (fun K hK => ?_)
        refine goes_ Tryz.func112 (by kernel_rfl) rfl #[.agg #[.int .i64 ((rd_T104 l0 x5_1).f0.f0), .int .i64 ((rd_T104 l0 x5_1).f0.f1), .int .i64 ((rd_T104 l0 x5_1).f1), .int .i64 ((rd_T104 l0 x5_1).f2)], .agg #[.int .i64 ((rd_T104 l1 x5_1).f0.f0), .int .i64 ((rd_T104 l1 x5_1).f0.f1), .int .i64 ((rd_T104 l1 x5_1).f1), .int .i64 ((rd_T104 l1 x5_1).f2)]] (by rfl) rfl rfl (by (try simp only [List.map_toArray, List.map_cons, List.map_nil]); first | done | rfl | (simp only [List.length_drop, List.length_take]; rfl)) ?_
        with_reducible refine (laws_eqEntry.calls ((rd_T104 l0 x5_1).f0.f0) ((rd_T104 l0 x5_1).f0.f1) ((rd_T104 l0 x5_1).f1) ((rd_T104 l0 x5_1).f2) ((rd_T104 l1 x5_1).f0.f0) ((rd_T104 l1 x5_1).f0.f1) ((rd_T104 l1 x5_1).f1) ((rd_T104 l1 x5_1).f2) true _ A7.out).mono ?_
        rintro e w10 ⟨rfl, hb⟩
        refine ⟨_, rfl, ?_⟩
        have n0_ := A_ (below_step (oB HB) hb)
        clear HB
        have HB := n0_
        clear n0_
        (try clear hb)
        (try clear hb2)
        (try clear hk)
        (try clear hi)
        refine hK.out _ _ ⟨((HB.out.cell (World.block_lt_of_cell? w _ hw1031_0)).trans hw1031_0), ((HB.out.cell (World.block_lt_of_cell? w _ hw1031_1)).trans hw1031_1), ((HB.out.cell (World.block_lt_of_cell? w _ hw1031_2)).trans hw1031_2), ((HB.out.cell (World.block_lt_of_cell? w _ hw1031_3)).trans hw1031_3), ((HB.out.cell (World.block_lt_of_cell? w _ hw1032_0)).trans hw1032_0), ((HB.out.cell (World.block_lt_of_cell? w _ hw1032_1)).trans hw1032_1), ((HB.out.cell (World.block_lt_of_cell? w _ hw1032_2)).trans hw1032_2), ((HB.out.cell (World.block_lt_of_cell? w _ hw1032_3)).trans hw1032_3)⟩ (fun hHeld => ?_)
        clear hK K
        refine norm_ (a' := ?_) ?_ ?_
        rotate_left
        ·show Act.put _ (some 25) _ = _
         simp only [Act.put, List.setIfInBounds_toArray, List.set_cons_zero, List.set_cons_succ, i64_w, i32_w]
         rfl
        refine pA 9 (some 26) HT_.out ?_
        refine done_ (done_of HT_.out (by kernel_rfl)) ?_
        try go_wp2
        go_roundg k1
        case measure => have := HK1.out; omega
        case rel => exact ⟨(wrap64 (x5_1 + 1)), (by first | rfl | (simp; done) | (simp [*]; done)), H', ⟨by have := HK1.out; omega⟩, ⟨oB HB⟩⟩
       ·replace c8 := Bool.eq_false_iff.mpr c8
        subst c8
        rw [if_neg (show ¬ (false = true) by decide)] at H
        obtain rfl := Option.some.inj H
        try go_wp2
        have n0_ := A_ (below_drew1 HB.out)
        clear HB
        have HB := n0_
        clear n0_
        have p1031 : 0 ≤ (x5_1 : Int) := of_decide_eq_true (by first | (with_reducible assumption) | assumption)
        have q1031 : x5_1 < (l0.length : Int) := of_decide_eq_true (by first | (with_reducible assumption) | assumption)
        obtain ⟨ad1031, e1031, hx1031_0, hx1031_1, hx1031_2, hx1031_3⟩ := at_T104 HR0.out x5_1 p1031 q1031
        have hw1031_3 := hx1031_3
        have hw1031_2 := hx1031_2
        have hw1031_1 := hx1031_1
        have hw1031_0 := hx1031_0
        cases e1031
        replace hx1031_0 := (HB.out.cell (World.block_lt_of_cell? w _ hx1031_0)).trans hx1031_0
        replace hx1031_1 := (HB.out.cell (World.block_lt_of_cell? w _ hx1031_1)).trans hx1031_1
        replace hx1031_2 := (HB.out.cell (World.block_lt_of_cell? w _ hx1031_2)).trans hx1031_2
        replace hx1031_3 := (HB.out.cell (World.block_lt_of_cell? w _ hx1031_3)).trans hx1031_3
        replace p1031 := eq_true p1031
        replace q1031 := eq_true q1031
        have p1032 : 0 ≤ (x5_1 : Int) := of_decide_eq_true (by first | (with_reducible assumption) | assumption)
        have q1032 : x5_1 < (l1.length : Int) := of_decide_eq_true (by first | (with_reducible assumption) | assumption)
        obtain ⟨ad1032, e1032, hx1032_0, hx1032_1, hx1032_2, hx1032_3⟩ := at_T104 HR1.out x5_1 p1032 q1032
        have hw1032_3 := hx1032_3
        have hw1032_2 := hx1032_2
        have hw1032_1 := hx1032_1
        have hw1032_0 := hx1032_0
        cases e1032
        replace hx1032_0 := (HB.out.cell (World.block_lt_of_cell? w _ hx1032_0)).trans hx1032_0
        replace hx1032_1 := (HB.out.cell (World.block_lt_of_cell? w _ hx1032_1)).trans hx1032_1
        replace hx1032_2 := (HB.out.cell (World.block_lt_of_cell? w _ hx1032_2)).trans hx1032_2
        replace hx1032_3 := (HB.out.cell (World.block_lt_of_cell? w _ hx1032_3)).trans hx1032_3
        replace p1032 := eq_true p1032
        replace q1032 := eq_true q1032
        refine start_ (n := 10) (S := fun w' => w'.cell? (ad1031.add ((x5_1).toNat * 4)) = some (.int .i64 ((rd_T104 l0 x5_1).f0.f0)) ∧ w'.cell? ⟨(ad1031.add ((x5_1).toNat * 4)).block, (ad1031.add ((x5_1).toNat * 4)).off + 1, none⟩ = some (.int .i64 ((rd_T104 l0 x5_1).f0.f1)) ∧ w'.cell? ⟨(ad1031.add ((x5_1).toNat * 4)).block, (ad1031.add ((x5_1).toNat * 4)).off + 2, none⟩ = some (.int .i64 ((rd_T104 l0 x5_1).f1)) ∧ w'.cell? ⟨(ad1031.add ((x5_1).toNat * 4)).block, (ad1031.add ((x5_1).toNat * 4)).off + 3, none⟩ = some (.int .i64 ((rd_T104 l0 x5_1).f2)) ∧ w'.cell? (ad1032.add ((x5_1).toNat * 4)) = some (.int .i64 ((rd_T104 l1 x5_1).f0.f0)) ∧ w'.cell? ⟨(ad1032.add ((x5_1).toNat * 4)).block, (ad1032.add ((x5_1).toNat * 4)).off + 1, none⟩ = some (.int .i64 ((rd_T104 l1 x5_1).f0.f1)) ∧ w'.cell? ⟨(ad1032.add ((x5_1).toNat * 4)).block, (ad1032.add ((x5_1).toNat * 4)).off + 2, none⟩ = some (.int .i64 ((rd_T104 l1 x5_1).f1)) ∧ w'.cell? ⟨(ad1032.add ((x5_1).toNat * 4)).block, (ad1032.add ((x5_1).toNat * 4)).off + 3, none⟩ = some (.int .i64 ((rd_T104 l1 x5_1).f2))) (ds := []) #[false, false, false, false, false, false, false, false, false, false] (by kernel_rfl) rfl rfl ⟨((HB.out.cell (World.block_lt_of_cell? w _ hw1031_0)).trans hw1031_0), ((HB.out.cell (World.block_lt_of_cell? w _ hw1031_1)).trans hw1031_1), ((HB.out.cell (World.block_lt_of_cell? w _ hw1031_2)).trans hw1031_2), ((HB.out.cell (World.block_lt_of_cell? w _ hw1031_3)).trans hw1031_3), ((HB.out.cell (World.block_lt_of_cell? w _ hw1032_0)).trans hw1032_0), ((HB.out.cell (World.block_lt_of_cell? w _ hw1032_1)).trans hw1032_1), ((HB.out.cell (World.block_lt_of_cell? w _ hw1032_2)).trans hw1032_2), ((HB.out.cell (World.block_lt_of_cell? w _ hw1032_3)).trans hw1032_3)⟩ (fun hHeld => ?_); refine with_tabW laws_eqEntryS.tab6 laws_eqEntryS.bits6 (fun HT_ HW_ => ?_)
        generalize wr.drew = w11 at HB hx1031_0 hx1031_1 hx1031_2 hx1031_3 hx1032_0 hx1032_1 hx1032_2 hx1032_3 hHeld ⊢
        refine pA 0 (some 17) HT_.out ?_
        refine pA 1 (some 18) HT_.out ?_
        refine pA 2 (some 19) HT_.out ?_
        refine pA 4 (some 21) HT_.out ?_
        refine pA 5 (some 22) HT_.out ?_
        refine pA 6 (some 23) HT_.out ?_
        refine pT 3 (some 20) HT_.out HW_.out hHeld ?_
        refine pT 7 (some 24) HT_.out HW_.out hHeld ?_
        refine one_ (i := 8) (N := some 25) #[true, true, true, true, true, true, true, true, true, false] rfl rfl (one_of HT_.out (by kernel_rfl)) (by decide) (fun K hK => ?_)
        refine goes_ Tryz.func112 (by kernel_rfl) rfl #[.agg #[.int .i64 ((rd_T104 l0 x5_1).f0.f0), .int .i64 ((rd_T104 l0 x5_1).f0.f1), .int .i64 ((rd_T104 l0 x5_1).f1), .int .i64 ((rd_T104 l0 x5_1).f2)], .agg #[.int .i64 ((rd_T104 l1 x5_1).f0.f0), .int .i64 ((rd_T104 l1 x5_1).f0.f1), .int .i64 ((rd_T104 l1 x5_1).f1), .int .i64 ((rd_T104 l1 x5_1).f2)]] (by rfl) rfl rfl (by (try simp only [List.map_toArray, List.map_cons, List.map_nil]); first | done | rfl | (simp only [List.length_drop, List.length_take]; rfl)) ?_
        with_reducible refine (laws_eqEntry.calls ((rd_T104 l0 x5_1).f0.f0) ((rd_T104 l0 x5_1).f0.f1) ((rd_T104 l0 x5_1).f1) ((rd_T104 l0 x5_1).f2) ((rd_T104 l1 x5_1).f0.f0) ((rd_T104 l1 x5_1).f0.f1) ((rd_T104 l1 x5_1).f1) ((rd_T104 l1 x5_1).f2) false _ A7.out).mono ?_
        rintro e w12 ⟨rfl, hb⟩
        refine ⟨_, rfl, ?_⟩
        have n0_ := A_ (below_step (oB HB) hb)
        clear HB
        have HB := n0_
        clear n0_
        (try clear hb)
        (try clear hb2)
        (try clear hk)
        (try clear hi)
        refine hK.out _ _ ⟨((HB.out.cell (World.block_lt_of_cell? w _ hw1031_0)).trans hw1031_0), ((HB.out.cell (World.block_lt_of_cell? w _ hw1031_1)).trans hw1031_1), ((HB.out.cell (World.block_lt_of_cell? w _ hw1031_2)).trans hw1031_2), ((HB.out.cell (World.block_lt_of_cell? w _ hw1031_3)).trans hw1031_3), ((HB.out.cell (World.block_lt_of_cell? w _ hw1032_0)).trans hw1032_0), ((HB.out.cell (World.block_lt_of_cell? w _ hw1032_1)).trans hw1032_1), ((HB.out.cell (World.block_lt_of_cell? w _ hw1032_2)).trans hw1032_2), ((HB.out.cell (World.block_lt_of_cell? w _ hw1032_3)).trans hw1032_3)⟩ (fun hHeld => ?_)
        clear hK K
        refine norm_ (a' := ?_) ?_ ?_
        rotate_left
        ·show Act.put _ (some 25) _ = _
         simp only [Act.put, List.setIfInBounds_toArray, List.set_cons_zero, List.set_cons_succ, i64_w, i32_w]
         rfl
        refine pA 9 (some 26) HT_.out ?_
        refine done_ (done_of HT_.out (by kernel_rfl)) ?_
        try go_wp2
        go_ret
        exact ⟨eR, oB HB⟩
      ·rw [if_neg c6] at H
       exact absurd H (by simp)
     ·rw [if_neg c5] at H
      exact absurd H (by simp)
    ·rw [if_neg c4] at H
     have c4b0 : decide (x5_1 < (l0.length : Int)) = false := decide_eq_false c4
     clear c4
     obtain rfl := Option.some.inj H
     go_wp2
     go_ret
     exact ⟨eR, oB HB⟩
 ·rw [if_neg c3] at H
  have c3b0 : ((l0.length : Int) == (l1.length : Int)) = false := beq_eq_false_iff_ne.mpr c3
  have c3b1 : ((l0.length : Int) != (l1.length : Int)) = true := bne_iff_ne.mpr c3
  have c3b2 : (l0.length == l1.length) = false := by first | simpa using c3 | (simp at c3 ⊢; omega)
  obtain rfl := Option.some.inj H
  go_enter Tryz.func64, Tryz.ntmps64
  go_wp2
  go_ret
  exact ⟨eR, oB HB⟩
def laws_toActS.l0 : Nat → List (S30) → List (S41) → Int → Option ((List (S41)))
 | 0, _, _, _ => none
 | k + 1, x0, x3, x4 => if x4 < (x0.length : Int) then (if 0 ≤ x4 then ((laws_toAct.f ((rd_T30 x0 x4).f0) ((rd_T30 x0 x4).f1) ((rd_T30 x0 x4).f2) ((rd_T30 x0 x4).f3)).bind fun bt1234 => (if x4 < (x3.length : Int) then (laws_toActS.l0 k x0 (x3.set (x4 : Int).toNat (⟨bt1234.1, bt1234.2.1, bt1234.2.2.1, bt1234.2.2.2⟩ : S41)) (wrap64 (x4 + 1))) else (none))) else (none)) else (some x3)
def laws_toActS.f (k : Nat) (l0 : List (S30)) : Option ((List (S41))) := if 0 ≤ (l0.length : Int) then (if ((l0.length : Int) : Int).toNat ≤ 8796093022208 then (laws_toActS.l0 k l0 (List.replicate ((l0.length : Int) : Int).toNat z41) 0) else (none)) else (none)
theorem laws_toActS.calls (k : Nat) (A0 : Option Addr) (c0 : Nat) (l0 : List (S30)) (r : List (S41)) (w : World) (hr0 : Kd.C k30 w A0 l0.length l0) (hc0 : l0.length ≤ c0) (h : laws_toActS.f k l0 = some r) :
  Calls Tryz.prog 19 #[.slice A0 l0.length c0] w fun e w' => ∃ v0_ : Value, e = .returned (v0_) ∧ Kd.R k41 41 w' w.heap.size (fun _ => True) v0_ r ∧ Below w.heap.size w w' := by
 have hu30 := Tryz.underlying30
 have hu41 := Tryz.underlying41
 have HR0 := A_ hr0
 have HC0 := A_ hc0
 clear hr0 hc0
 have HB := A_ (Below.refl w.heap.size w)
 have H : (if 0 ≤ (l0.length : Int) then (if ((l0.length : Int) : Int).toNat ≤ 8796093022208 then (laws_toActS.l0 k l0 (List.replicate ((l0.length : Int) : Int).toNat z41) 0) else (none)) else (none)) = some r := h
 clear h
 by_cases c2 : 0 ≤ (l0.length : Int)
 ·rw [if_pos c2] at H
  have c2b0 := eq_true c2
  have c2b1 : decide (0 ≤ (l0.length : Int)) = true := decide_eq_true c2
  clear c2
  by_cases c3 : ((l0.length : Int) : Int).toNat ≤ 8796093022208
  ·rw [if_pos c3] at H
   have c3b0 := eq_true c3
   have c3b1 : decide (((l0.length : Int) : Int).toNat ≤ 8796093022208) = true := decide_eq_true c3
   clear c3
   obtain ⟨y1230, hy1230⟩ : ∃ y_ : List (S41), y_ = (List.replicate ((l0.length : Int) : Int).toNat z41) := ⟨_, rfl⟩
   replace H : (laws_toActS.l0 k l0 y1230 0) = some r := by first | (rw [hy1230]; with_reducible exact H) | (have H2_ := (Option.bind_some _ _).symm.trans H; rw [hy1230]; with_reducible exact H2_) | (have H2_ := (Option.bind_some _ _).symm.trans H; with_reducible exact H2_) | with_reducible exact H | (rw [hy1230]; exact H) | exact H
   have Ny1230 := A_ hy1230
   clear hy1230
   have H' := A_ H
   clear H
   go_enter Tryz.func19, Tryz.ntmps19
   go_wp2_with (first | ((with_reducible refine gate_dst (N := 7) rfl ?_); refine Kd.R_make k41 _ 41 rfl (N := 7) rfl 50 _ _ rfl (l0.length : Int) rfl rfl Tryz.underlying50 (.agg #[(.int .i64 0), (.int .i64 0), (.int .i64 0), (.int .i64 0)]) 32 info41 rfl (by decide) (by omega) z41 (ok := fun _ => True) (okp := fun _ => True) (k41_mkM _ _ _ z41 ) (fun _ hk => hk) trivial (of_decide_eq_true (by first | (with_reducible assumption) | assumption)) (Nat.le_trans (Nat.mul_le_mul_right _ (of_decide_eq_true (by first | (with_reducible assumption) | assumption) : (l0.length : Int).toNat ≤ 8796093022208)) (by omega)) (Below.refl _ _) (Nat.le_refl _) ?_; intro v1231 w4 ho5 hb hg_ hnew_; clear hg_ hnew_; (first | rw [← Ny1230.out] at ho5 | (simp only [Int.reduceToNat] at ho5; rw [← Ny1230.out] at ho5)); have n0_ := A_ (Kd.R_lower ho5 (below_size (oB HB))); have n1_ := A_ (below_step (oB HB) hb); clear HB; have HO1232 := n0_; have HB := n1_; clear n0_ n1_; clear hb ho5))
   go_loopg [4] k (fun kq v4 w' => ∃ (x3_1 : List (S41)) (x4_1 : Int), v4 = .int .i64 x4_1 ∧ Aside0 (laws_toActS.l0 kq l0 x3_1 x4_1 = some r) ∧ Aside0 (kq ≤ k) ∧ Aside0 (Kd.R k41 41 w' w.heap.size (fun _ => True) v1231 x3_1) ∧ Aside0 (Below w.heap.size w w'))
   case atStart => exact ⟨(y1230), (0), (by first | rfl | (simp; done) | (simp [*]; done)), H', ⟨Nat.le_refl _⟩, ⟨oR HO1232⟩, ⟨oB HB⟩⟩
   case round =>
    clear H'
    try clear c1
    try clear c2
    try clear c2b0
    try clear c2b1
    try clear p2
    try clear c3
    try clear c3b0
    try clear c3b1
    obtain ⟨x3_1, x4_1, rfl, HA, HK1, HO_3, HB⟩ := hrel
    cases gk with
    | zero => exact absurd HA.out (by simp [laws_toActS.l0])
    | succ k1 =>
     have H := HA.out
     clear HA
     simp only [laws_toActS.l0] at H
     by_cases c6 : x4_1 < (l0.length : Int)
     ·rw [if_pos c6] at H
      have c6b0 : decide (x4_1 < (l0.length : Int)) = true := decide_eq_true c6
      clear c6
      by_cases c7 : 0 ≤ x4_1
      ·rw [if_pos c7] at H
       have c7b0 : decide (0 ≤ x4_1) = true := decide_eq_true c7
       clear c7
       replace H := Option.bind_eq_some_iff.mp H
       obtain ⟨⟨t1234, t1235, t1236, t1237⟩, A80, H⟩ := H
       (try dsimp only at H)
       have A8 := A_ A80
       clear A80
       by_cases c9 : x4_1 < (x3_1.length : Int)
       ·rw [if_pos c9] at H
        have c9b0 : decide (x4_1 < (x3_1.length : Int)) = true := decide_eq_true c9
        clear c9
        obtain ⟨y1238, hy1238⟩ : ∃ y_ : List (S41), y_ = (x3_1.set (x4_1 : Int).toNat (⟨t1234, t1235, t1236, t1237⟩ : S41)) := ⟨_, rfl⟩
        replace H : (laws_toActS.l0 k1 l0 y1238 (wrap64 (x4_1 + 1))) = some r := by first | (rw [hy1238]; with_reducible exact H) | (have H2_ := (Option.bind_some _ _).symm.trans H; rw [hy1238]; with_reducible exact H2_) | (have H2_ := (Option.bind_some _ _).symm.trans H; with_reducible exact H2_) | with_reducible exact H | (rw [hy1238]; exact H) | exact H
        have Ny1238 := A_ hy1238
        clear hy1238
        have H' := A_ H
        clear H
        have p1233 : 0 ≤ (x4_1 : Int) := of_decide_eq_true (by first | (with_reducible assumption) | assumption)
        have q1233 : x4_1 < (l0.length : Int) := of_decide_eq_true (by first | (with_reducible assumption) | assumption)
        obtain ⟨ad1233, e1233, hx1233_0, hx1233_1, hx1233_2, hx1233_3⟩ := at_T30 HR0.out x4_1 p1233 q1233
        cases e1233
        replace hx1233_0 := (HB.out.cell (World.block_lt_of_cell? w _ hx1233_0)).trans hx1233_0
        replace hx1233_1 := (HB.out.cell (World.block_lt_of_cell? w _ hx1233_1)).trans hx1233_1
        replace hx1233_2 := (HB.out.cell (World.block_lt_of_cell? w _ hx1233_2)).trans hx1233_2
        replace hx1233_3 := (HB.out.cell (World.block_lt_of_cell? w _ hx1233_3)).trans hx1233_3
        replace p1233 := eq_true p1233
        replace q1233 := eq_true q1233
        go_wp2_with (first | ((with_reducible refine gate_callee (f := 12) rfl ?_); refine gL (some 20) Tryz.func12 #[.agg #[.int .i64 ((rd_T30 l0 x4_1).f0), .int .i64 ((rd_T30 l0 x4_1).f1), .int .i64 ((rd_T30 l0 x4_1).f2), .int .i64 ((rd_T30 l0 x4_1).f3)]] ?_; (with_reducible refine (laws_toAct.calls ((rd_T30 l0 x4_1).f0) ((rd_T30 l0 x4_1).f1) ((rd_T30 l0 x4_1).f2) ((rd_T30 l0 x4_1).f3) t1234 t1235 t1236 t1237 _ A8.out).mono ?_); rintro e w11 ⟨rfl, hb⟩; refine ⟨_, rfl, ?_⟩; have n0_ := A_ (Kd.R_below (oR HO_3) hb); have n1_ := A_ (below_step (oB HB) hb); clear HO_3; clear HB; have HO_3 := n0_; have HB := n1_; clear n0_ n1_; (try clear hb); (try clear hb2); (try clear hk); (try clear hi); have p10 : 0 ≤ (x4_1 : Int) := of_decide_eq_true (by first | (with_reducible assumption) | assumption); have q10 : (x4_1 : Int) < ((x3_1.length : Int) : Int) := of_decide_eq_true (by first | (with_reducible assumption) | assumption); obtain ⟨go10, co10, eo10, gb10, gl10, cl10, HG10⟩ := Kd.R_form HO_3.out (by omega); (first | cases eo10 | (injection eo10 with ea_ en_ ec_; (first | subst ea_ | (injection ea_ with ea_; subst ea_)); subst ec_; clear en_)); have GB10 := A_ gb10; have GG10 := A_ HG10; clear gb10 gl10 HG10; obtain ⟨ce10, hcl10, hM10, hcc10, hfr10⟩ := Kd.R_elem HO_3.out z41 (x4_1 : Int) p10 q10; obtain rfl := k41_openM hM10; have hx10_0 : w11.cell? ⟨go10, (x4_1 : Int).toNat * 4, none⟩ = some (.int .i64 ((rd_T41 x3_1 x4_1).f0)) := hcc10 0 _ rfl; have hx10_1 : w11.cell? ⟨go10, (x4_1 : Int).toNat * 4 + 1, none⟩ = some (.int .i64 ((rd_T41 x3_1 x4_1).f1)) := hcc10 1 _ rfl; have hx10_2 : w11.cell? ⟨go10, (x4_1 : Int).toNat * 4 + 2, none⟩ = some (.int .i64 ((rd_T41 x3_1 x4_1).f2)) := hcc10 2 _ rfl; have hx10_3 : w11.cell? ⟨go10, (x4_1 : Int).toNat * 4 + 3, none⟩ = some (.int .i64 ((rd_T41 x3_1 x4_1).f3)) := hcc10 3 _ rfl; have hf10_0 : w11.frozen? ⟨go10, (x4_1 : Int).toNat * 4, none⟩ = false := hfr10 0; have hf10_1 : w11.frozen? ⟨go10, (x4_1 : Int).toNat * 4 + 1, none⟩ = false := hfr10 1; have hf10_2 : w11.frozen? ⟨go10, (x4_1 : Int).toNat * 4 + 2, none⟩ = false := hfr10 2; have hf10_3 : w11.frozen? ⟨go10, (x4_1 : Int).toNat * 4 + 3, none⟩ = false := hfr10 3; clear hcl10 hcc10 hfr10 hM10; replace p10 := eq_true p10; replace q10 := eq_true q10; have HX12 := A_ (show Kd.R k41 41 w11 w.heap.size (fun _ => True) (.slice (some ⟨go10, 0, none⟩) x3_1.length co10) x3_1 from (oR HO_3)); obtain ⟨ce12, hcl12, hM12, hcc12, hfr12⟩ := Kd.R_elem HX12.out z41 (x4_1 : Int) (of_decide_eq_true (by first | (with_reducible assumption) | assumption)) (by have h_ : (x4_1 : Int) < ((x3_1.length : Int) : Int) := of_decide_eq_true (by first | (with_reducible assumption) | assumption); first | exact h_ | (have e_ := (Kd.R_reads' HO_3.out).1; omega) | simpa using h_); obtain rfl := k41_openM hM12; have HP12 := Kd.R_seg HX12.out (x4_1 : Int) (of_decide_eq_true (by first | (with_reducible assumption) | assumption)) (by have h_ : (x4_1 : Int) < ((x3_1.length : Int) : Int) := of_decide_eq_true (by first | (with_reducible assumption) | assumption); first | exact h_ | (have e_ := (Kd.R_reads' HO_3.out).1; omega) | simpa using h_) (seg := [.int .i64 t1234, .int .i64 t1235, .int .i64 t1236, .int .i64 t1237]) (j := 0) hcl12 hcc12 (show 4 ≤ 4 from by decide) (x' := (⟨t1234, t1235, t1236, t1237⟩ : S41)) (k41_mkM _ _ _ (⟨t1234, t1235, t1236, t1237⟩ : S41) ) (fun _ hk => hk); have hx12_0 := hcc12 0 _ rfl; (try simp only [show (k41).sz = 4 from rfl, Nat.mul_one, Nat.add_zero] at hx12_0); have hf12_0 := hfr12 0; (try simp only [show (k41).sz = 4 from rfl, Nat.mul_one, Nat.add_zero] at hf12_0); have hx12_1 := hcc12 1 _ rfl; (try simp only [show (k41).sz = 4 from rfl, Nat.mul_one, Nat.add_zero] at hx12_1); have hf12_1 := hfr12 1; (try simp only [show (k41).sz = 4 from rfl, Nat.mul_one, Nat.add_zero] at hf12_1); have hx12_2 := hcc12 2 _ rfl; (try simp only [show (k41).sz = 4 from rfl, Nat.mul_one, Nat.add_zero] at hx12_2); have hf12_2 := hfr12 2; (try simp only [show (k41).sz = 4 from rfl, Nat.mul_one, Nat.add_zero] at hf12_2); have hx12_3 := hcc12 3 _ rfl; (try simp only [show (k41).sz = 4 from rfl, Nat.mul_one, Nat.add_zero] at hx12_3); have hf12_3 := hfr12 3; (try simp only [show (k41).sz = 4 from rfl, Nat.mul_one, Nat.add_zero] at hf12_3); clear hcl12 hcc12 hfr12 hM12) | ((with_reducible refine gate_store (t := 41) (p := 21) rfl ?_); refine store_event (t := 41) (p := 21) (v := ?vo_w13) (w1 := ((((w11.setCell ⟨go10, (x4_1 : Int).toNat * 4, none⟩ (.int .i64 t1234)).setCell ⟨go10, (x4_1 : Int).toNat * 4 + 1, none⟩ (.int .i64 t1235)).setCell ⟨go10, (x4_1 : Int).toNat * 4 + 2, none⟩ (.int .i64 t1236)).setCell ⟨go10, (x4_1 : Int).toNat * 4 + 3, none⟩ (.int .i64 t1237))) ?hg ?ho ?hn ?hr ?_; (case ho => rfl); (case hg => rfl); (case hn => rfl); (case hr => first | (go_simp; done) | (go_simp; rfl)); intro w13 hw; have hg : w11.grownBy w13 (some go10) := (by rw [hw]; exact HP12.2); have hp_ : Kd.R k41 41 w13 w.heap.size (fun _ => True) (.slice (some ⟨go10, 0, none⟩) x3_1.length co10) y1238 := (by rw [hw, Ny1238.out]; exact HP12.1); clear HP12; have n0_ := A_ (hp_); have n1_ := A_ ((by rw [hw]; exact below_set (below_set (below_set (below_set (HB.out) GB10.out) GB10.out) GB10.out) GB10.out : Below w.heap.size w w13)); clear HO_3; clear HB; have HO_3 := n0_; have HB := n1_; clear n0_ n1_; clear hg hw hp_))
        go_roundg k1
        case measure => have := HK1.out; omega
        case rel => exact ⟨(y1238), (wrap64 (x4_1 + 1)), (by first | rfl | (simp; done) | (simp [*]; done)), H', ⟨by have := HK1.out; omega⟩, ⟨oR HO_3⟩, ⟨oB HB⟩⟩
       ·rw [if_neg c9] at H
        exact absurd H (by simp)
      ·rw [if_neg c7] at H
       exact absurd H (by simp)
     ·rw [if_neg c6] at H
      have c6b0 : decide (x4_1 < (l0.length : Int)) = false := decide_eq_false c6
      clear c6
      obtain rfl := Option.some.inj H
      go_wp2
      go_ret
      exact ⟨_, eR, oR HO_3, oB HB⟩
  ·rw [if_neg c3] at H
   exact absurd H (by simp)
 ·rw [if_neg c2] at H
  exact absurd H (by simp)
def laws_eqActS.l0 : Nat → List (S41) → List (S41) → Int → Option (Bool)
 | 0, _, _, _ => none
 | k + 1, x0, x1, x5 => if x5 < (x0.length : Int) then (if 0 ≤ x5 then (if x5 < (x1.length : Int) then ((laws_eqAct.f ((rd_T41 x0 x5).f0) ((rd_T41 x0 x5).f1) ((rd_T41 x0 x5).f2) ((rd_T41 x0 x5).f3) ((rd_T41 x1 x5).f0) ((rd_T41 x1 x5).f1) ((rd_T41 x1 x5).f2) ((rd_T41 x1 x5).f3)).bind fun t1281 => (if t1281 = true then (laws_eqActS.l0 k x0 x1 (wrap64 (x5 + 1))) else (some false))) else (none)) else (none)) else (some true)
def laws_eqActS.f (k : Nat) (l0 : List (S41)) (l1 : List (S41)) : Option (Bool) := if (l0.length : Int) = (l1.length : Int) then (laws_eqActS.l0 k l0 l1 0) else (some false)
def laws_eqActS.T6 : Bool × List (List Nat × List Nat) := (true, [([], []), ([], []), ([0, 1], [0, 1]), ([2], [2]), ([], []), ([], []), ([4, 5], [4, 5]), ([6], [6]), ([3, 7], [3, 7]), ([8], [8])])
def laws_eqActS.B6 : List Nat := [0, 0, 3, 7, 0, 0, 48, 112, 255, 511]
theorem laws_eqActS.tab6 : rtab .any (opsOf Tryz.f22 6) = laws_eqActS.T6 := by kernel_rfl
theorem laws_eqActS.bits6 : waitsOk laws_eqActS.T6.2 laws_eqActS.B6 = true := by kernel_rfl
theorem laws_eqActS.calls (k : Nat) (A0 : Option Addr) (c0 : Nat) (l0 : List (S41)) (A1 : Option Addr) (c1 : Nat) (l1 : List (S41)) (r : Bool) (w : World) (hr0 : Kd.C k41 w A0 l0.length l0) (hc0 : l0.length ≤ c0) (hr1 : Kd.C k41 w A1 l1.length l1) (hc1 : l1.length ≤ c1) (h : laws_eqActS.f k l0 l1 = some r) :
  Calls Tryz.prog 22 #[.slice A0 l0.length c0, .slice A1 l1.length c1] w fun e w' => e = .returned (.bool r) ∧ Below w.heap.size w w' := by
 have hu41 := Tryz.underlying41
 have HR0 := A_ hr0
 have HC0 := A_ hc0
 clear hr0 hc0
 have HR1 := A_ hr1
 have HC1 := A_ hc1
 clear hr1 hc1
 have HB := A_ (Below.refl w.heap.size w)
 have H : (if (l0.length : Int) = (l1.length : Int) then (laws_eqActS.l0 k l0 l1 0) else (some false)) = some r := h
 clear h
 by_cases c3 : (l0.length : Int) = (l1.length : Int)
 ·rw [if_pos c3] at H
  have c3b0 : ((l0.length : Int) == (l1.length : Int)) = true := beq_iff_eq.mpr c3
  have c3b1 : ((l0.length : Int) != (l1.length : Int)) = false := bne_eq_false_iff_eq.mpr c3
  have c3b2 : (l0.length == l1.length) = true := by first | simpa using c3 | (simp at c3 ⊢; omega)
  clear c3
  have H' := A_ H
  clear H
  go_enter Tryz.func22, Tryz.ntmps22
  go_wp2
  go_loopg [5] k (fun kq v5 w' => ∃ (x5_1 : Int), v5 = .int .i64 x5_1 ∧ Aside0 (laws_eqActS.l0 kq l0 l1 x5_1 = some r) ∧ Aside0 (kq ≤ k) ∧ Aside0 (Below w.heap.size w w'))
  case atStart => exact ⟨(0), (by first | rfl | (simp; done) | (simp [*]; done)), H', ⟨Nat.le_refl _⟩, ⟨oB HB⟩⟩
  case round =>
   clear H'
   try clear c1
   try clear c2
   try clear p2
   try clear c3
   try clear c3b0
   try clear c3b1
   try clear c3b2
   obtain ⟨x5_1, rfl, HA, HK1, HB⟩ := hrel
   cases gk with
   | zero => exact absurd HA.out (by simp [laws_eqActS.l0])
   | succ k1 =>
    have H := HA.out
    clear HA
    simp only [laws_eqActS.l0] at H
    by_cases c4 : x5_1 < (l0.length : Int)
    ·rw [if_pos c4] at H
     have c4b0 : decide (x5_1 < (l0.length : Int)) = true := decide_eq_true c4
     clear c4
     by_cases c5 : 0 ≤ x5_1
     ·rw [if_pos c5] at H
      have c5b0 : decide (0 ≤ x5_1) = true := decide_eq_true c5
      clear c5
      by_cases c6 : x5_1 < (l1.length : Int)
      ·rw [if_pos c6] at H
       have c6b0 : decide (x5_1 < (l1.length : Int)) = true := decide_eq_true c6
       clear c6
       replace H := Option.bind_eq_some_iff.mp H
       obtain ⟨t1281, A70, H⟩ := H
       (try dsimp only at H)
       have A7 := A_ A70
       clear A70
       by_cases c8 : t1281 = true
       ·subst c8
        rw [if_pos rfl] at H
        have H' := A_ H
        clear H
        try go_wp2
        have n0_ := A_ (below_drew1 HB.out)
        clear HB
        have HB := n0_
        clear n0_
        have p1279 : 0 ≤ (x5_1 : Int) := of_decide_eq_true (by first | (with_reducible assumption) | assumption)
        have q1279 : x5_1 < (l0.length : Int) := of_decide_eq_true (by first | (with_reducible assumption) | assumption)
        obtain ⟨ad1279, e1279, hx1279_0, hx1279_1, hx1279_2, hx1279_3⟩ := at_T41 HR0.out x5_1 p1279 q1279
        have hw1279_3 := hx1279_3
        have hw1279_2 := hx1279_2
        have hw1279_1 := hx1279_1
        have hw1279_0 := hx1279_0
        cases e1279
        replace hx1279_0 := (HB.out.cell (World.block_lt_of_cell? w _ hx1279_0)).trans hx1279_0
        replace hx1279_1 := (HB.out.cell (World.block_lt_of_cell? w _ hx1279_1)).trans hx1279_1
        replace hx1279_2 := (HB.out.cell (World.block_lt_of_cell? w _ hx1279_2)).trans hx1279_2
        replace hx1279_3 := (HB.out.cell (World.block_lt_of_cell? w _ hx1279_3)).trans hx1279_3
        replace p1279 := eq_true p1279
        replace q1279 := eq_true q1279
        have p1280 : 0 ≤ (x5_1 : Int) := of_decide_eq_true (by first | (with_reducible assumption) | assumption)
        have q1280 : x5_1 < (l1.length : Int) := of_decide_eq_true (by first | (with_reducible assumption) | assumption)
        obtain ⟨ad1280, e1280, hx1280_0, hx1280_1, hx1280_2, hx1280_3⟩ := at_T41 HR1.out x5_1 p1280 q1280
        have hw1280_3 := hx1280_3
        have hw1280_2 := hx1280_2
        have hw1280_1 := hx1280_1
        have hw1280_0 := hx1280_0
        cases e1280
        replace hx1280_0 := (HB.out.cell (World.block_lt_of_cell? w _ hx1280_0)).trans hx1280_0
        replace hx1280_1 := (HB.out.cell (World.block_lt_of_cell? w _ hx1280_1)).trans hx1280_1
        replace hx1280_2 := (HB.out.cell (World.block_lt_of_cell? w _ hx1280_2)).trans hx1280_2
        replace hx1280_3 := (HB.out.cell (World.block_lt_of_cell? w _ hx1280_3)).trans hx1280_3
        replace p1280 := eq_true p1280
        replace q1280 := eq_true q1280
        refine start_ (n := 10) (S := fun w' => w'.cell? (ad1279.add ((x5_1).toNat * 4)) = some (.int .i64 ((rd_T41 l0 x5_1).f0)) ∧ w'.cell? ⟨(ad1279.add ((x5_1).toNat * 4)).block, (ad1279.add ((x5_1).toNat * 4)).off + 1, none⟩ = some (.int .i64 ((rd_T41 l0 x5_1).f1)) ∧ w'.cell? ⟨(ad1279.add ((x5_1).toNat * 4)).block, (ad1279.add ((x5_1).toNat * 4)).off + 2, none⟩ = some (.int .i64 ((rd_T41 l0 x5_1).f2)) ∧ w'.cell? ⟨(ad1279.add ((x5_1).toNat * 4)).block, (ad1279.add ((x5_1).toNat * 4)).off + 3, none⟩ = some (.int .i64 ((rd_T41 l0 x5_1).f3)) ∧ w'.cell? (ad1280.add ((x5_1).toNat * 4)) = some (.int .i64 ((rd_T41 l1 x5_1).f0)) ∧ w'.cell? ⟨(ad1280.add ((x5_1).toNat * 4)).block, (ad1280.add ((x5_1).toNat * 4)).off + 1, none⟩ = some (.int .i64 ((rd_T41 l1 x5_1).f1)) ∧ w'.cell? ⟨(ad1280.add ((x5_1).toNat * 4)).block, (ad1280.add ((x5_1).toNat * 4)).off + 2, none⟩ = some (.int .i64 ((rd_T41 l1 x5_1).f2)) ∧ w'.cell? ⟨(ad1280.add ((x5_1).toNat * 4)).block, (ad1280.add ((x5_1).toNat * 4)).off + 3, none⟩ = some (.int .i64 ((rd_T41 l1 x5_1).f3))) (ds := []) #[false, false, false, false, false, false, false, false, false, false] (by kernel_rfl) rfl rfl ⟨((HB.out.cell (World.block_lt_of_cell? w _ hw1279_0)).trans hw1279_0), ((HB.out.cell (World.block_lt_of_cell? w _ hw1279_1)).trans hw1279_1), ((HB.out.cell (World.block_lt_of_cell? w _ hw1279_2)).trans hw1279_2), ((HB.out.cell (World.block_lt_of_cell? w _ hw1279_3)).trans hw1279_3), ((HB.out.cell (World.block_lt_of_cell? w _ hw1280_0)).trans hw1280_0), ((HB.out.cell (World.block_lt_of_cell? w _ hw1280_1)).trans hw1280_1), ((HB.out.cell (World.block_lt_of_cell? w _ hw1280_2)).trans hw1280_2), ((HB.out.cell (World.block_lt_of_cell? w _ hw1280_3)).trans hw1280_3)⟩ (fun hHeld => ?_); refine with_tabW laws_eqActS.tab6 laws_eqActS.bits6 (fun HT_ HW_ => ?_)
        generalize wr.drew = w9 at HB hx1279_0 hx1279_1 hx1279_2 hx1279_3 hx1280_0 hx1280_1 hx1280_2 hx1280_3 hHeld ⊢
        refine pA 0 (some 17) HT_.out ?_
        refine pA 1 (some 18) HT_.out ?_
        refine pA 2 (some 19) HT_.out ?_
        refine pA 4 (some 21) HT_.out ?_
        refine pA 5 (some 22) HT_.out ?_
        refine pA 6 (some 23) HT_.out ?_
        refine pT 3 (some 20) HT_.out HW_.out hHeld ?_
        refine pT 7 (some 24) HT_.out HW_.out hHeld ?_
        refine one_ (i := 8) (N := some 25) #[true, true, true, true, true, true, true, true, true, false] rfl rfl (one_of HT_.out (by kernel_rfl)) (by decide) (fun K hK => ?_)
        refine goes_ Tryz.func69 (by kernel_rfl) rfl #[.agg #[.int .i64 ((rd_T41 l0 x5_1).f0), .int .i64 ((rd_T41 l0 x5_1).f1), .int .i64 ((rd_T41 l0 x5_1).f2), .int .i64 ((rd_T41 l0 x5_1).f3)], .agg #[.int .i64 ((rd_T41 l1 x5_1).f0), .int .i64 ((rd_T41 l1 x5_1).f1), .int .i64 ((rd_T41 l1 x5_1).f2), .int .i64 ((rd_T41 l1 x5_1).f3)]] (by rfl) rfl rfl (by (try simp only [List.map_toArray, List.map_cons, List.map_nil]); first | done | rfl | (simp only [List.length_drop, List.length_take]; rfl)) ?_
        with_reducible refine (laws_eqAct.calls ((rd_T41 l0 x5_1).f0) ((rd_T41 l0 x5_1).f1) ((rd_T41 l0 x5_1).f2) ((rd_T41 l0 x5_1).f3) ((rd_T41 l1 x5_1).f0) ((rd_T41 l1 x5_1).f1) ((rd_T41 l1 x5_1).f2) ((rd_T41 l1 x5_1).f3) true _ A7.out).mono ?_
        rintro e w10 ⟨rfl, hb⟩
        refine ⟨_, rfl, ?_⟩
        have n0_ := A_ (below_step (oB HB) hb)
        clear HB
        have HB := n0_
        clear n0_
        (try clear hb)
        (try clear hb2)
        (try clear hk)
        (try clear hi)
        refine hK.out _ _ ⟨((HB.out.cell (World.block_lt_of_cell? w _ hw1279_0)).trans hw1279_0), ((HB.out.cell (World.block_lt_of_cell? w _ hw1279_1)).trans hw1279_1), ((HB.out.cell (World.block_lt_of_cell? w _ hw1279_2)).trans hw1279_2), ((HB.out.cell (World.block_lt_of_cell? w _ hw1279_3)).trans hw1279_3), ((HB.out.cell (World.block_lt_of_cell? w _ hw1280_0)).trans hw1280_0), ((HB.out.cell (World.block_lt_of_cell? w _ hw1280_1)).trans hw1280_1), ((HB.out.cell (World.block_lt_of_cell? w _ hw1280_2)).trans hw1280_2), ((HB.out.cell (World.block_lt_of_cell? w _ hw1280_3)).trans hw1280_3)⟩ (fun hHeld => ?_)
        clear hK K
        refine norm_ (a' := ?_) ?_ ?_
        rotate_left
        ·show Act.put _ (some 25) _ = _
         simp only [Act.put, List.setIfInBounds_toArray, List.set_cons_zero, List.set_cons_succ, i64_w, i32_w]
         rfl
        refine pA 9 (some 26) HT_.out ?_
        refine done_ (done_of HT_.out (by kernel_rfl)) ?_
        try go_wp2
        go_roundg k1
        case measure => have := HK1.out; omega
        case rel => exact ⟨(wrap64 (x5_1 + 1)), (by first | rfl | (simp; done) | (simp [*]; done)), H', ⟨by have := HK1.out; omega⟩, ⟨oB HB⟩⟩
       ·replace c8 := Bool.eq_false_iff.mpr c8
        subst c8
        rw [if_neg (show ¬ (false = true) by decide)] at H
        obtain rfl := Option.some.inj H
        try go_wp2
        have n0_ := A_ (below_drew1 HB.out)
        clear HB
        have HB := n0_
        clear n0_
        have p1279 : 0 ≤ (x5_1 : Int) := of_decide_eq_true (by first | (with_reducible assumption) | assumption)
        have q1279 : x5_1 < (l0.length : Int) := of_decide_eq_true (by first | (with_reducible assumption) | assumption)
        obtain ⟨ad1279, e1279, hx1279_0, hx1279_1, hx1279_2, hx1279_3⟩ := at_T41 HR0.out x5_1 p1279 q1279
        have hw1279_3 := hx1279_3
        have hw1279_2 := hx1279_2
        have hw1279_1 := hx1279_1
        have hw1279_0 := hx1279_0
        cases e1279
        replace hx1279_0 := (HB.out.cell (World.block_lt_of_cell? w _ hx1279_0)).trans hx1279_0
        replace hx1279_1 := (HB.out.cell (World.block_lt_of_cell? w _ hx1279_1)).trans hx1279_1
        replace hx1279_2 := (HB.out.cell (World.block_lt_of_cell? w _ hx1279_2)).trans hx1279_2
        replace hx1279_3 := (HB.out.cell (World.block_lt_of_cell? w _ hx1279_3)).trans hx1279_3
        replace p1279 := eq_true p1279
        replace q1279 := eq_true q1279
        have p1280 : 0 ≤ (x5_1 : Int) := of_decide_eq_true (by first | (with_reducible assumption) | assumption)
        have q1280 : x5_1 < (l1.length : Int) := of_decide_eq_true (by first | (with_reducible assumption) | assumption)
        obtain ⟨ad1280, e1280, hx1280_0, hx1280_1, hx1280_2, hx1280_3⟩ := at_T41 HR1.out x5_1 p1280 q1280
        have hw1280_3 := hx1280_3
        have hw1280_2 := hx1280_2
        have hw1280_1 := hx1280_1
        have hw1280_0 := hx1280_0
        cases e1280
        replace hx1280_0 := (HB.out.cell (World.block_lt_of_cell? w _ hx1280_0)).trans hx1280_0
        replace hx1280_1 := (HB.out.cell (World.block_lt_of_cell? w _ hx1280_1)).trans hx1280_1
        replace hx1280_2 := (HB.out.cell (World.block_lt_of_cell? w _ hx1280_2)).trans hx1280_2
        replace hx1280_3 := (HB.out.cell (World.block_lt_of_cell? w _ hx1280_3)).trans hx1280_3
        replace p1280 := eq_true p1280
        replace q1280 := eq_true q1280
        refine start_ (n := 10) (S := fun w' => w'.cell? (ad1279.add ((x5_1).toNat * 4)) = some (.int .i64 ((rd_T41 l0 x5_1).f0)) ∧ w'.cell? ⟨(ad1279.add ((x5_1).toNat * 4)).block, (ad1279.add ((x5_1).toNat * 4)).off + 1, none⟩ = some (.int .i64 ((rd_T41 l0 x5_1).f1)) ∧ w'.cell? ⟨(ad1279.add ((x5_1).toNat * 4)).block, (ad1279.add ((x5_1).toNat * 4)).off + 2, none⟩ = some (.int .i64 ((rd_T41 l0 x5_1).f2)) ∧ w'.cell? ⟨(ad1279.add ((x5_1).toNat * 4)).block, (ad1279.add ((x5_1).toNat * 4)).off + 3, none⟩ = some (.int .i64 ((rd_T41 l0 x5_1).f3)) ∧ w'.cell? (ad1280.add ((x5_1).toNat * 4)) = some (.int .i64 ((rd_T41 l1 x5_1).f0)) ∧ w'.cell? ⟨(ad1280.add ((x5_1).toNat * 4)).block, (ad1280.add ((x5_1).toNat * 4)).off + 1, none⟩ = some (.int .i64 ((rd_T41 l1 x5_1).f1)) ∧ w'.cell? ⟨(ad1280.add ((x5_1).toNat * 4)).block, (ad1280.add ((x5_1).toNat * 4)).off + 2, none⟩ = some (.int .i64 ((rd_T41 l1 x5_1).f2)) ∧ w'.cell? ⟨(ad1280.add ((x5_1).toNat * 4)).block, (ad1280.add ((x5_1).toNat * 4)).off + 3, none⟩ = some (.int .i64 ((rd_T41 l1 x5_1).f3))) (ds := []) #[false, false, false, false, false, false, false, false, false, false] (by kernel_rfl) rfl rfl ⟨((HB.out.cell (World.block_lt_of_cell? w _ hw1279_0)).trans hw1279_0), ((HB.out.cell (World.block_lt_of_cell? w _ hw1279_1)).trans hw1279_1), ((HB.out.cell (World.block_lt_of_cell? w _ hw1279_2)).trans hw1279_2), ((HB.out.cell (World.block_lt_of_cell? w _ hw1279_3)).trans hw1279_3), ((HB.out.cell (World.block_lt_of_cell? w _ hw1280_0)).trans hw1280_0), ((HB.out.cell (World.block_lt_of_cell? w _ hw1280_1)).trans hw1280_1), ((HB.out.cell (World.block_lt_of_cell? w _ hw1280_2)).trans hw1280_2), ((HB.out.cell (World.block_lt_of_cell? w _ hw1280_3)).trans hw1280_3)⟩ (fun hHeld => ?_); refine with_tabW laws_eqActS.tab6 laws_eqActS.bits6 (fun HT_ HW_ => ?_)
        generalize wr.drew = w11 at HB hx1279_0 hx1279_1 hx1279_2 hx1279_3 hx1280_0 hx1280_1 hx1280_2 hx1280_3 hHeld ⊢
        refine pA 0 (some 17) HT_.out ?_
        refine pA 1 (some 18) HT_.out ?_
        refine pA 2 (some 19) HT_.out ?_
        refine pA 4 (some 21) HT_.out ?_
        refine pA 5 (some 22) HT_.out ?_
        refine pA 6 (some 23) HT_.out ?_
        refine pT 3 (some 20) HT_.out HW_.out hHeld ?_
        refine pT 7 (some 24) HT_.out HW_.out hHeld ?_
        refine one_ (i := 8) (N := some 25) #[true, true, true, true, true, true, true, true, true, false] rfl rfl (one_of HT_.out (by kernel_rfl)) (by decide) (fun K hK => ?_)
        refine goes_ Tryz.func69 (by kernel_rfl) rfl #[.agg #[.int .i64 ((rd_T41 l0 x5_1).f0), .int .i64 ((rd_T41 l0 x5_1).f1), .int .i64 ((rd_T41 l0 x5_1).f2), .int .i64 ((rd_T41 l0 x5_1).f3)], .agg #[.int .i64 ((rd_T41 l1 x5_1).f0), .int .i64 ((rd_T41 l1 x5_1).f1), .int .i64 ((rd_T41 l1 x5_1).f2), .int .i64 ((rd_T41 l1 x5_1).f3)]] (by rfl) rfl rfl (by (try simp only [List.map_toArray, List.map_cons, List.map_nil]); first | done | rfl | (simp only [List.length_drop, List.length_take]; rfl)) ?_
        with_reducible refine (laws_eqAct.calls ((rd_T41 l0 x5_1).f0) ((rd_T41 l0 x5_1).f1) ((rd_T41 l0 x5_1).f2) ((rd_T41 l0 x5_1).f3) ((rd_T41 l1 x5_1).f0) ((rd_T41 l1 x5_1).f1) ((rd_T41 l1 x5_1).f2) ((rd_T41 l1 x5_1).f3) false _ A7.out).mono ?_
        rintro e w12 ⟨rfl, hb⟩
        refine ⟨_, rfl, ?_⟩
        have n0_ := A_ (below_step (oB HB) hb)
        clear HB
        have HB := n0_
        clear n0_
        (try clear hb)
        (try clear hb2)
        (try clear hk)
        (try clear hi)
        refine hK.out _ _ ⟨((HB.out.cell (World.block_lt_of_cell? w _ hw1279_0)).trans hw1279_0), ((HB.out.cell (World.block_lt_of_cell? w _ hw1279_1)).trans hw1279_1), ((HB.out.cell (World.block_lt_of_cell? w _ hw1279_2)).trans hw1279_2), ((HB.out.cell (World.block_lt_of_cell? w _ hw1279_3)).trans hw1279_3), ((HB.out.cell (World.block_lt_of_cell? w _ hw1280_0)).trans hw1280_0), ((HB.out.cell (World.block_lt_of_cell? w _ hw1280_1)).trans hw1280_1), ((HB.out.cell (World.block_lt_of_cell? w _ hw1280_2)).trans hw1280_2), ((HB.out.cell (World.block_lt_of_cell? w _ hw1280_3)).trans hw1280_3)⟩ (fun hHeld => ?_)
        clear hK K
        refine norm_ (a' := ?_) ?_ ?_
        rotate_left
        ·show Act.put _ (some 25) _ = _
         simp only [Act.put, List.setIfInBounds_toArray, List.set_cons_zero, List.set_cons_succ, i64_w, i32_w]
         rfl
        refine pA 9 (some 26) HT_.out ?_
        refine done_ (done_of HT_.out (by kernel_rfl)) ?_
        try go_wp2
        go_ret
        exact ⟨eR, oB HB⟩
      ·rw [if_neg c6] at H
       exact absurd H (by simp)
     ·rw [if_neg c5] at H
      exact absurd H (by simp)
    ·rw [if_neg c4] at H
     have c4b0 : decide (x5_1 < (l0.length : Int)) = false := decide_eq_false c4
     clear c4
     obtain rfl := Option.some.inj H
     go_wp2
     go_ret
     exact ⟨eR, oB HB⟩
 ·rw [if_neg c3] at H
  have c3b0 : ((l0.length : Int) == (l1.length : Int)) = false := beq_eq_false_iff_ne.mpr c3
  have c3b1 : ((l0.length : Int) != (l1.length : Int)) = true := bne_iff_ne.mpr c3
  have c3b2 : (l0.length == l1.length) = false := by first | simpa using c3 | (simp at c3 ⊢; omega)
  obtain rfl := Option.some.inj H
  go_enter Tryz.func22, Tryz.ntmps22
  go_wp2
  go_ret
  exact ⟨eR, oB HB⟩
end Go.Proofs.YtanhnhkcpbdfmaaGreat.P
namespace Go.Proofs.YtanhnhkcpbdfmaaGreat.Q
open Go.RowKit Go.Proofs.YtanhnhkcpbdfmaaGreat.P Go.Proofs.YtanhnhkcpbdfmaaGreatW.PrintWords Go.Proofs.YtanhnhkcpbdfmaaGreatW.PrintMore
def cEntry (x : S127) : S104 := ⟨⟨x.f0.f0, x.f0.f1⟩, x.f1, x.f2⟩
theorem rdE (l : List S104) (i : Nat) (h : i < l.length) : rd_T104 l (i : Int) = l[i] := by
  unfold rd_T104; simp [List.getD_eq_getElem?_getD, h]
theorem rdLE (l : List S127) (i : Nat) (h : i < l.length) : rd_T127 l (i : Int) = l[i] := by
  unfold rd_T127; simp [List.getD_eq_getElem?_getD, h]
theorem toEntryS_ev (l : List S127) (hl : l.length ≤ 1048576) : Ev (fun k => laws_toEntryS.f k l) (l.map cEntry) := by
  have key : ∀ i, i ≤ l.length → ∀ acc : List S104, acc.length = l.length → Ev (fun k => laws_toEntryS.l0 k l acc (i : Int)) (acc.take i ++ (l.drop i).map cEntry) := by
    refine down (n := l.length) ?_ ?_
    · intro acc ha
      refine Ev.step (fun k => by rw [laws_toEntryS.l0]) (evn (by omega) (evs ?_))
      rw [drop_end, List.map_nil, List.append_nil, List.take_of_length_le (by omega)]
    · intro i hi ih acc ha
      refine Ev.step (fun k => by rw [laws_toEntryS.l0]) (evp (by omega) (evp (by omega) ?_))
      rw [rdLE l i hi]
      refine evb (a := (l[i].f0.f0, l[i].f0.f1, l[i].f1, l[i].f2)) rfl (evp (by omega) ?_)
      rw [w64 (by omega) (by omega), Int.toNat_natCast]
      have := ih (acc.set i (cEntry l[i])) (by simpa using ha)
      rw [set_take _ _ _ (by omega), List.append_assoc] at this
      rw [drop_cons l i hi, List.map_cons]
      exact this
  have := key 0 (Nat.zero_le _) (List.replicate l.length z104) (by simp)
  unfold laws_toEntryS.f
  refine evp (by omega) (evp (by omega) ?_)
  simpa using this
theorem eqPipe_self (a b : Int) : laws_eqPipe.f a b a b = some true := by unfold laws_eqPipe.f; simp
theorem eqEntry_self (a b c d : Int) : laws_eqEntry.f a b c d a b c d = some true := by unfold laws_eqEntry.f; simp [eqPipe_self]
theorem eqEntryS_ev (l : List S104) (hl : l.length ≤ 9000000000000000000) : Ev (fun k => laws_eqEntryS.f k l l) true := by
  have key : ∀ i, i ≤ l.length → Ev (fun k => laws_eqEntryS.l0 k l l (i : Int)) true := by
    refine down (n := l.length) ?_ ?_
    · refine Ev.step (fun k => by rw [laws_eqEntryS.l0]) (evn (by omega) ?_)
      exact Ev.now _
    · intro i hi ih
      refine Ev.step (fun k => by rw [laws_eqEntryS.l0]) (evp (by omega) (evp (by omega) (evp (by omega) ?_)))
      refine evb (eqEntry_self _ _ _ _) (evp rfl ?_)
      rw [w64 (by omega) (by omega)]
      exact ih
  unfold laws_eqEntryS.f
  refine evp rfl ?_
  exact key 0 (Nat.zero_le _)
theorem szEntryS_eq (l : List S127) (m : Int) (h0 : 0 ≤ m) (hm : m ≤ 1048576) (hl : l.length ≤ 9223372036854775807) : laws_szEntryS.f l m = some (if m < l.length then -1 else m - l.length) := by
  unfold laws_szEntryS.f
  rw [w64 (by omega) (by omega)]
  by_cases h : m < l.length
  · rw [if_pos (by omega), if_pos h]
  · rw [if_neg (by omega), if_neg h]
def fine (n : Int) : Bool := decide (1 ≤ n ∧ n ≤ 10000000)
theorem pitch_eq (n : Int) : spec_l18Pitch.f n = some (fine n) := by unfold spec_l18Pitch.f; rw [l01In_eq]; rfl
theorem isFine_eq (n : Int) : impl_isFine.f n = some (fine n) := by unfold impl_isFine.f; rw [within_eq]; rfl
def cStep (x : S140) : S112 := ⟨x.f0, x.f1, x.f2, x.f3⟩
theorem rdS (l : List S112) (i : Nat) (h : i < l.length) : rd_T112 l (i : Int) = l[i] := by
  unfold rd_T112; simp [List.getD_eq_getElem?_getD, h]
theorem rdLS (l : List S140) (i : Nat) (h : i < l.length) : rd_T140 l (i : Int) = l[i] := by
  unfold rd_T140; simp [List.getD_eq_getElem?_getD, h]
theorem toStepS_ev (l : List S140) (hl : l.length ≤ 1048576) : Ev (fun k => laws_toStepS.f k l) (l.map cStep) := by
  have key : ∀ i, i ≤ l.length → ∀ acc : List S112, acc.length = l.length → Ev (fun k => laws_toStepS.l0 k l acc (i : Int)) (acc.take i ++ (l.drop i).map cStep) := by
    refine down (n := l.length) ?_ ?_
    · intro acc ha
      refine Ev.step (fun k => by rw [laws_toStepS.l0]) (evn (by omega) (evs ?_))
      rw [drop_end, List.map_nil, List.append_nil, List.take_of_length_le (by omega)]
    · intro i hi ih acc ha
      refine Ev.step (fun k => by rw [laws_toStepS.l0]) (evp (by omega) (evp (by omega) ?_))
      rw [rdLS l i hi]
      refine evb (a := (l[i].f0, l[i].f1, l[i].f2, l[i].f3)) rfl (evp (by omega) ?_)
      rw [w64 (by omega) (by omega), Int.toNat_natCast]
      have := ih (acc.set i (cStep l[i])) (by simpa using ha)
      rw [set_take _ _ _ (by omega), List.append_assoc] at this
      rw [drop_cons l i hi, List.map_cons]
      exact this
  have := key 0 (Nat.zero_le _) (List.replicate l.length z112) (by simp)
  unfold laws_toStepS.f
  refine evp (by omega) (evp (by omega) ?_)
  simpa using this
theorem eqStep_self (a b c d : Int) : laws_eqStep.f a b c d a b c d = some true := by unfold laws_eqStep.f; simp
theorem eqStepS_ev (l : List S112) (hl : l.length ≤ 9000000000000000000) : Ev (fun k => laws_eqStepS.f k l l) true := by
  have key : ∀ i, i ≤ l.length → Ev (fun k => laws_eqStepS.l0 k l l (i : Int)) true := by
    refine down (n := l.length) ?_ ?_
    · refine Ev.step (fun k => by rw [laws_eqStepS.l0]) (evn (by omega) ?_)
      exact Ev.now _
    · intro i hi ih
      refine Ev.step (fun k => by rw [laws_eqStepS.l0]) (evp (by omega) (evp (by omega) (evp (by omega) ?_)))
      refine evb (eqStep_self _ _ _ _) (evp rfl ?_)
      rw [w64 (by omega) (by omega)]
      exact ih
  unfold laws_eqStepS.f
  refine evp rfl ?_
  exact key 0 (Nat.zero_le _)
theorem szStepS_eq (l : List S140) (m : Int) (h0 : 0 ≤ m) (hm : m ≤ 1048576) (hl : l.length ≤ 9223372036854775807) : laws_szStepS.f l m = some (if m < l.length then -1 else m - l.length) := by
  unfold laws_szStepS.f
  rw [w64 (by omega) (by omega)]
  by_cases h : m < l.length
  · rw [if_pos (by omega), if_pos h]
  · rw [if_neg (by omega), if_neg h]
theorem copyPlan_eq (p : List S112) (hp : p.length ≤ 4000000) : impl_copyPlan.f p = some p := by
  unfold impl_copyPlan.f; simp only [Option.bind_some]; rw [if_pos (by simp; omega)]; simp
theorem l19Copy_eq (p : List S112) (hp : p.length ≤ 4000000) : spec_l19Copy.f p = some p := by
  unfold spec_l19Copy.f; simp only [Option.bind_some]; rw [if_pos (by simp; omega)]; simp
theorem l02Copy_eq (p : List Int) (hp : p.length ≤ 4000000) : spec_l02Copy.f p = some p := by
  unfold spec_l02Copy.f; simp only [Option.bind_some]; rw [if_pos (by simp; omega)]; simp
theorem copyWork_eq (p : List S112) (d : Int) (q : List Int) (hp : p.length ≤ 4000000) (hq : q.length ≤ 4000000) : impl_copyWork.f p d q = some (p, d, q) := by
  unfold impl_copyWork.f; rw [copyPlan_eq p hp]; simp only [Option.bind_some]; rw [if_pos (by simp; omega)]; simp
theorem l36Copy_eq (p : List S112) (d : Int) (q : List Int) (hp : p.length ≤ 4000000) (hq : q.length ≤ 4000000) : spec_l36Copy.f p d q = some (p, d, q) := by
  unfold spec_l36Copy.f; rw [l19Copy_eq p hp]; simp only [Option.bind_some]; rw [l02Copy_eq q hq]; rfl
theorem copyShop_eq (p : List S112) (d : Int) (q : List Int) (a m : Int) (l : List S104) (hp : p.length ≤ 4000000) (hq : q.length ≤ 4000000) (hl : l.length ≤ 4000000) : impl_copyShop.f p d q a m l = some (p, d, q, a, m, l) := by
  unfold impl_copyShop.f; rw [copyWork_eq p d q hp hq, Option.bind_some, copyLog_eq l hl]; rfl
theorem l38Copy_eq (p : List S112) (d : Int) (q : List Int) (a m : Int) (l : List S104) (hp : p.length ≤ 4000000) (hq : q.length ≤ 4000000) (hl : l.length ≤ 4000000) : spec_l38Copy.f p d q a m l = some (p, d, q, a, m, l) := by
  unfold spec_l38Copy.f; rw [l36Copy_eq p d q hp hq, Option.bind_some, l34Copy_eq l hl]; rfl
def orZero (n : Int) : Int := if fine n = true then n else 0
def tunedPitch (a k b : Int) : Int :=
  if fine a = true then
    if 0 ≤ b ∧ b ≤ 100000 then
      if k = 1 then orZero (wrap64 (Int.tdiv (mx (wrap64 ((wrap64 (3 * a)) - b)) 0) 2))
      else if k = 2 then orZero (wrap64 (Int.tdiv (mx (wrap64 ((wrap64 (3 * a)) - b)) 0) 4))
      else if k = 3 then if b = 0 then orZero (wrap64 (2 * a)) else 0
      else if k = 4 then if b = 0 then orZero (wrap64 (Int.tdiv a 2)) else 0
      else 0
    else 0
  else 0
theorem mx_comm (a b : Int) : mx a b = mx b a := by unfold mx; split <;> split <;> omega
theorem evz {n : Int} {x : Option Bool} (h : x = some (fine n)) : Ev (fun _ => x.bind fun t => if t = true then some n else some 0) (orZero n) := by
  subst h; simp only [Option.bind_some]; unfold orZero; by_cases h : fine n = true
  · rw [if_pos h, if_pos h]; exact Ev.now _
  · rw [if_neg h, if_neg h]; exact Ev.now _
theorem tuned_impl (a k b : Int) : Ev (fun n => impl_TunedPitch.f n a k b) (tunedPitch a k b) := by
  have jt : Ev (fun n => impl_TunedPitch.j0 n a k b true) 0 := Ev.step (fun n => by rw [impl_TunedPitch.j0]) (evp rfl (Ev.now _))
  unfold impl_TunedPitch.f
  refine evb (isFine_eq a) ?_
  unfold tunedPitch
  by_cases ha : fine a = true
  rotate_left
  · exact rneg ha <| evn ha jt
  refine rpos ha <| evp ha (evb (within_eq _ _ _) ?_)
  by_cases hb : 0 ≤ b ∧ b ≤ 100000
  rotate_left
  · exact rneg hb <| evn (by simpa using hb) jt
  refine rpos hb <| evp (by simpa using hb) ?_
  have jf : (k = 3 ∨ k = 4 → b = 0) → Ev (fun n => impl_TunedPitch.j0 n a k b false) (if k = 1 then orZero (wrap64 (Int.tdiv (mx (wrap64 ((wrap64 (3 * a)) - b)) 0) 2))
      else if k = 2 then orZero (wrap64 (Int.tdiv (mx (wrap64 ((wrap64 (3 * a)) - b)) 0) 4))
      else if k = 3 then if b = 0 then orZero (wrap64 (2 * a)) else 0
      else if k = 4 then if b = 0 then orZero (wrap64 (Int.tdiv a 2)) else 0
      else 0) := by
    intro h0
    refine Ev.step (fun n => by rw [impl_TunedPitch.j0]) (evn (by decide) ?_)
    by_cases h1 : k = 1
    · exact rpos h1 <| evp h1 (evz (isFine_eq _))
    refine rneg h1 <| evn h1 ?_
    by_cases h2 : k = 2
    · exact rpos h2 <| evp h2 (evz (isFine_eq _))
    refine rneg h2 <| evn h2 ?_
    by_cases h3 : k = 3
    · exact rpos h3 <| rpos (h0 (.inl h3)) <| evp h3 (evz (isFine_eq _))
    refine rneg h3 <| evn h3 ?_
    by_cases h4 : k = 4
    · exact rpos h4 <| rpos (h0 (.inr h4)) <| evp h4 (evz (isFine_eq _))
    refine rneg h4 <| evn h4 ?_
    refine evb (isFine_eq _) (evn (by decide) (Ev.now _))
  by_cases b0 : b = 0
  · exact evp b0 (jf fun _ => b0)
  refine evn b0 ?_
  by_cases h3 : k = 3
  · refine evp h3 ?_
    exact rneg (by omega) <| rneg (by omega) <| rpos h3 <| rneg b0 jt
  refine evn h3 ?_
  by_cases h4 : k = 4
  · rw [show (k == 4) = true by simp [h4]]; exact rneg (by omega) <| rneg (by omega) <| rneg (by omega) <| rpos h4 <| rneg b0 jt
  · rw [show (k == 4) = false by simp [h4]]; exact jf (by omega)
theorem tuned_spec (a k b : Int) : Ev (fun n => spec_TunedPitch.f n a k b) (tunedPitch a k b) := by
  have jt : Ev (fun n => spec_TunedPitch.j0 n a k b true) 0 := Ev.step (fun n => by rw [spec_TunedPitch.j0]) (evp rfl (Ev.now _))
  unfold spec_TunedPitch.f
  refine evb (pitch_eq a) ?_
  unfold tunedPitch
  by_cases ha : fine a = true
  rotate_left
  · exact rneg ha <| evn ha jt
  refine rpos ha <| evp ha (evb (l01In_eq _ _ _) ?_)
  by_cases hb : 0 ≤ b ∧ b ≤ 100000
  rotate_left
  · rw [show (!decide (0 ≤ b ∧ b ≤ 100000)) = true by rw [decide_eq_false hb]; rfl]; exact rneg hb jt
  rw [show (!decide (0 ≤ b ∧ b ≤ 100000)) = false by rw [decide_eq_true hb]; rfl]
  refine rpos hb ?_
  have j2t : Ev (fun n => spec_TunedPitch.j2 n a 0 true) (orZero (wrap64 (Int.tdiv a 2))) := Ev.step (fun n => by rw [spec_TunedPitch.j2]) (evp rfl (evz (pitch_eq _)))
  have j2f : Ev (fun n => spec_TunedPitch.j2 n a 0 false) 0 := Ev.step (fun n => by rw [spec_TunedPitch.j2]) (evn (by decide) (evz (pitch_eq 0)))
  refine Ev.step (fun n => by rw [spec_TunedPitch.j0]) (evn (by decide) ?_)
  by_cases h1 : k = 1
  · rw [mx_comm 0]; exact rpos h1 <| evp h1 (evz (pitch_eq _))
  refine rneg h1 <| evn h1 ?_
  by_cases h2 : k = 2
  · rw [mx_comm 0]; exact rpos h2 <| evp h2 (evz (pitch_eq _))
  refine rneg h2 <| evn h2 ?_
  have j1f : Ev (fun n => spec_TunedPitch.j1 n a k b 0 false) (if k = 4 then if b = 0 then orZero (wrap64 (Int.tdiv a 2)) else 0 else 0) := by
    refine Ev.step (fun n => by rw [spec_TunedPitch.j1]) (evn (by decide) ?_)
    by_cases h4 : k = 4
    · refine rpos h4 <| evp h4 ?_
      by_cases b0 : b = 0
      · rw [show (b == 0) = true by simp [b0]]; exact rpos b0 j2t
      · rw [show (b == 0) = false by simp [b0]]; exact rneg b0 j2f
    · exact rneg h4 <| evn h4 j2f
  by_cases h3 : k = 3
  · refine rpos h3 <| evp h3 ?_
    by_cases b0 : b = 0
    · rw [show (b == 0) = true by simp [b0]]
      exact rpos b0 <| Ev.step (fun n => by rw [spec_TunedPitch.j1]) (evp rfl (evz (pitch_eq _)))
    · rw [show (b == 0) = false by simp [b0]]
      rw [if_neg (by omega)] at j1f
      exact rneg b0 j1f
  exact rneg h3 <| evn h3 j1f
def cAct (x : S30) : S41 := ⟨x.f0, x.f1, x.f2, x.f3⟩
theorem rdA (l : List S41) (i : Nat) (h : i < l.length) : rd_T41 l (i : Int) = l[i] := by
  unfold rd_T41; simp [List.getD_eq_getElem?_getD, h]
theorem rdLA (l : List S30) (i : Nat) (h : i < l.length) : rd_T30 l (i : Int) = l[i] := by
  unfold rd_T30; simp [List.getD_eq_getElem?_getD, h]
theorem toActS_ev (l : List S30) (hl : l.length ≤ 1048576) : Ev (fun k => laws_toActS.f k l) (l.map cAct) := by
  have key : ∀ i, i ≤ l.length → ∀ acc : List S41, acc.length = l.length → Ev (fun k => laws_toActS.l0 k l acc (i : Int)) (acc.take i ++ (l.drop i).map cAct) := by
    refine down (n := l.length) ?_ ?_
    · intro acc ha
      refine Ev.step (fun k => by rw [laws_toActS.l0]) (evn (by omega) (evs ?_))
      rw [drop_end, List.map_nil, List.append_nil, List.take_of_length_le (by omega)]
    · intro i hi ih acc ha
      refine Ev.step (fun k => by rw [laws_toActS.l0]) (evp (by omega) (evp (by omega) ?_))
      rw [rdLA l i hi]
      refine evb (a := (l[i].f0, l[i].f1, l[i].f2, l[i].f3)) rfl (evp (by omega) ?_)
      rw [w64 (by omega) (by omega), Int.toNat_natCast]
      have := ih (acc.set i (cAct l[i])) (by simpa using ha)
      rw [set_take _ _ _ (by omega), List.append_assoc] at this
      rw [drop_cons l i hi, List.map_cons]
      exact this
  have := key 0 (Nat.zero_le _) (List.replicate l.length z41) (by simp)
  unfold laws_toActS.f
  refine evp (by omega) (evp (by omega) ?_)
  simpa using this
theorem eqAct_self (a b c d : Int) : laws_eqAct.f a b c d a b c d = some true := by unfold laws_eqAct.f; simp
theorem eqActS_ev (l : List S41) (hl : l.length ≤ 9000000000000000000) : Ev (fun k => laws_eqActS.f k l l) true := by
  have key : ∀ i, i ≤ l.length → Ev (fun k => laws_eqActS.l0 k l l (i : Int)) true := by
    refine down (n := l.length) ?_ ?_
    · refine Ev.step (fun k => by rw [laws_eqActS.l0]) (evn (by omega) ?_)
      exact Ev.now _
    · intro i hi ih
      refine Ev.step (fun k => by rw [laws_eqActS.l0]) (evp (by omega) (evp (by omega) (evp (by omega) ?_)))
      refine evb (eqAct_self _ _ _ _) (evp rfl ?_)
      rw [w64 (by omega) (by omega)]
      exact ih
  unfold laws_eqActS.f
  refine evp rfl ?_
  exact key 0 (Nat.zero_le _)
theorem szActS_eq (l : List S30) (m : Int) (h0 : 0 ≤ m) (hm : m ≤ 1048576) (hl : l.length ≤ 9223372036854775807) : laws_szActS.f l m = some (if m < l.length then -1 else m - l.length) := by
  unfold laws_szActS.f
  rw [w64 (by omega) (by omega)]
  by_cases h : m < l.length
  · rw [if_pos (by omega), if_pos h]
  · rw [if_neg (by omega), if_neg h]
end Go.Proofs.YtanhnhkcpbdfmaaGreat.Q
namespace Go.Proofs.YtanhnhkcpbdfmaaGreat.P
set_option maxHeartbeats 8000000
set_option maxRecDepth 100000
set_option synthInstance.maxHeartbeats 400000
set_option synthInstance.maxSize 100000
open Go.RowKit Go.Proofs.YtanhnhkcpbdfmaaGreatW.PrintWords Go.Proofs.YtanhnhkcpbdfmaaGreatW.PrintLast Go.Proofs.YtanhnhkcpbdfmaaGreatW.PrintMore Go.Proofs.YtanhnhkcpbdfmaaGreat.V
attribute [local go_sem] cell_b frozen_b
attribute [local go_sem] max2_int min2_int max_two min_two max_three min_three max_four min_four
def laws_toShop.f (k : Nat) (l0_0 : List (S140)) (a0_1 : Int) (l0_2 : List Int) (a0_3 : Int) (a0_4 : Int) (l0_5 : List (S127)) : Option ((List (S112)) × Int × List Int × Int × Int × (List (S104))) := (laws_toWork.f k l0_0 a0_1 l0_2).bind fun bt579 => ((laws_toEntryS.f k l0_5).bind fun t586 => (some (bt579.1, bt579.2.1, bt579.2.2, a0_3, a0_4, t586)))
theorem laws_toShop.calls (k : Nat) (A0_0 : Option Addr) (c0_0 : Nat) (l0_0 : List (S140)) (a0_1 : Int) (A0_2 : Option Addr) (c0_2 : Nat) (l0_2 : List Int) (a0_3 : Int) (a0_4 : Int) (A0_5 : Option Addr) (c0_5 : Nat) (l0_5 : List (S127)) (r1 : List (S112)) (r2 : Int) (r3 : List Int) (r4 : Int) (r5 : Int) (r6 : List (S104)) (w : World) (hr0_0 : Kd.C k140 w A0_0 l0_0.length l0_0) (hc0_0 : l0_0.length ≤ c0_0) (hr0_2 : Kd.C (Kd.int .i64) w A0_2 l0_2.length l0_2) (hc0_2 : l0_2.length ≤ c0_2) (hr0_5 : Kd.C k127 w A0_5 l0_5.length l0_5) (hc0_5 : l0_5.length ≤ c0_5) (h : laws_toShop.f k l0_0 a0_1 l0_2 a0_3 a0_4 l0_5 = some (r1, r2, r3, r4, r5, r6)) :
  Calls Tryz.prog 11 #[.agg #[.slice A0_0 l0_0.length c0_0, .int .i64 a0_1, .slice A0_2 l0_2.length c0_2, .int .i64 a0_3, .int .i64 a0_4, .slice A0_5 l0_5.length c0_5]] w fun e w' => ∃ v0_ v2_ v5_ : Value, e = .returned (.agg #[v0_, .int .i64 r2, v2_, .int .i64 r4, .int .i64 r5, v5_]) ∧ Kd.R k112 112 w' w.heap.size (fun _ => True) v0_ r1 ∧ Kd.R (Kd.int .i64) 3 w' w.heap.size (fun _ => True) v2_ r3 ∧ Kd.R k104 104 w' w.heap.size (fun _ => True) v5_ r6 ∧ Below w.heap.size w w' := by
 replace hr0_0 := RdE.mk hr0_0
 replace hc0_0 := LeI.mk hc0_0
 replace hr0_2 := RdE.mk hr0_2
 replace hc0_2 := LeI.mk hc0_2
 replace hr0_5 := RdE.mk hr0_5
 replace hc0_5 := LeI.mk hc0_5
 unfold laws_toShop.f at h
 have hu28 := Tryz.underlying28
 have hu37 := Tryz.underlying37
 (repeat' first | ((with_reducible replace h := ite_some h); rcases h with ⟨hc, h⟩ | ⟨hc, h⟩ <;> first | exact (none_some h).elim | exact absurd hc (by decide) | subst hc | (replace hc := hF_ hc; subst hc) | (have hd := hI_ hc; have he := hJ_ hc; clear hc) | (have hd := hK_ hc; have he := hL_ hc) | (have hd := decide_eq_false hc) | (have hd := decide_eq_true hc) | skip))
 all_goals go_enter Tryz.func11, Tryz.ntmps11
 all_goals go_wp2_with ((first
  | ((with_reducible refine gate_dst (N := 1) rfl ?_); refine box_event rfl (N := 1) rfl (cs := #[.slice A0_0 l0_0.length c0_0, .int .i64 a0_1, .slice A0_2 l0_2.length c0_2, .int .i64 a0_3, .int .i64 a0_4, .slice A0_5 l0_5.length c0_5]) (t := 28) (by first | (go_simp; done) | (go_simp; rfl)) ?_; intro g hg w1 hk hb; have j1 := Born.mk hg; have j2 := Bel.mk hb; have j3 := Blk.mk hk; clear hg hb hk)
  | ((with_reducible refine gate_dst (N := 2) rfl ?_); refine box_event rfl (N := 2) rfl (cs := #[.slice none 0 0, .int .i64 0, .slice none 0 0, .int .i64 0, .int .i64 0, .slice none 0 0]) (t := 37) (by first | (go_simp; done) | (go_simp; rfl)) ?_; intro g hg w1 hk hb; have j1 := Born.mk hg; have j2 := Bel.mk hb; have j3 := Blk.mk hk; clear hg hb hk)
  | ((with_reducible refine gate_dst (N := 3) rfl ?_); refine box_event rfl (N := 3) rfl (cs := #[.slice none 0 0, .int .i64 0, .slice none 0 0, .int .i64 0, .int .i64 0, .slice none 0 0]) (t := 37) (by first | (go_simp; done) | (go_simp; rfl)) ?_; intro g hg w1 hk hb; have j1 := Born.mk hg; have j2 := Bel.mk hb; have j3 := Blk.mk hk; clear hg hb hk)
  | (go_at_call 54; replace h := Option.bind_eq_some_iff.mp h; obtain ⟨⟨t1, t2, t3⟩, A, h⟩ := h; (try dsimp only at h); refine (laws_toWork.calls _ _ _ _ _ _ _ _ _ _ _ _ Rd.out LeI.out Rd.out LeI.out A).mono ?_; rintro e w2 ⟨v0, v1, rfl, ho0, ho1, hb⟩; obtain ⟨B0, b0, rfl⟩ := Kd.R_slice ho0; have j0 := RowE.mk ho0; have q0 := LeI.mk (rowLe j0); obtain ⟨B1, b1, rfl⟩ := Kd.R_slice ho1; have j1 := RowE.mk ho1; have q1 := LeI.mk (rowLe j1); have jb := Bel.mk hb; clear A ho0 ho1 hb)
  | (go_at_call 55; replace h := Option.bind_eq_some_iff.mp h; obtain ⟨t, A, h⟩ := h; (try dsimp only at h); refine (laws_toEntryS.calls _ _ _ _ _ _ Rd.out LeI.out A).mono ?_; rintro e w2 ⟨v0, rfl, ho0, hb⟩; obtain ⟨B0, b0, rfl⟩ := Kd.R_slice ho0; have j0 := RowE.mk ho0; have q0 := LeI.mk (rowLe j0); have jb := Bel.mk hb; clear A ho0 hb)); (repeat' first | ((with_reducible replace h := ite_some h); rcases h with ⟨hc, h⟩ | ⟨hc, h⟩ <;> first | exact (none_some h).elim | exact absurd hc (by decide) | subst hc | (replace hc := hF_ hc; subst hc) | (have hd := hI_ hc; have he := hJ_ hc; clear hc) | (have hd := hK_ hc; have he := hL_ hc) | (have hd := decide_eq_false hc) | (have hd := decide_eq_true hc) | skip)); all_goals (try have hn : decide (0 < t.length) = true := decide_eq_true (by omega)); all_goals (try have hn : decide (0 < t.length) = false := decide_eq_false (by omega)))
 all_goals simp only [Option.some.injEq, Prod.mk.injEq] at h
 all_goals obtain ⟨rfl, rfl, rfl, rfl, rfl, rfl⟩ := h
 all_goals refine bodyPost_ret (results_cell_row rfl _ _ _ _ _ (0, 0) _ rfl Blk.out Tryz.underlying37 rfl (by kernel_rfl)) rfl ?_
 all_goals exact ⟨_, _, _, rfl, (by first | exact rowFin | exact Kd.R_nil _ _ _ _ _), (by first | exact rowFin | exact Kd.R_nil _ _ _ _ _), (by first | exact rowFin | exact Kd.R_nil _ _ _ _ _), From.out⟩
def laws_eqWork.f (k : Nat) (l0_0 : List (S112)) (a0_1 : Int) (l0_2 : List Int) (l1_0 : List (S112)) (a1_1 : Int) (l1_2 : List Int) : Option (Bool) := (laws_eqStepS.f k l0_0 l1_0).bind fun t1024 => (if t1024 = true then (if a0_1 = a1_1 then ((laws_eqIntS.f k l0_2 l1_2).bind fun t1025 => (if t1025 = true then (some true) else (some false))) else (some false)) else (some false))
theorem laws_eqWork.calls (k : Nat) (A0_0 : Option Addr) (c0_0 : Nat) (l0_0 : List (S112)) (a0_1 : Int) (A0_2 : Option Addr) (c0_2 : Nat) (l0_2 : List Int) (A1_0 : Option Addr) (c1_0 : Nat) (l1_0 : List (S112)) (a1_1 : Int) (A1_2 : Option Addr) (c1_2 : Nat) (l1_2 : List Int) (r : Bool) (w : World) (hr0_0 : Kd.C k112 w A0_0 l0_0.length l0_0) (hc0_0 : l0_0.length ≤ c0_0) (hr0_2 : Kd.C (Kd.int .i64) w A0_2 l0_2.length l0_2) (hc0_2 : l0_2.length ≤ c0_2) (hr1_0 : Kd.C k112 w A1_0 l1_0.length l1_0) (hc1_0 : l1_0.length ≤ c1_0) (hr1_2 : Kd.C (Kd.int .i64) w A1_2 l1_2.length l1_2) (hc1_2 : l1_2.length ≤ c1_2) (h : laws_eqWork.f k l0_0 a0_1 l0_2 l1_0 a1_1 l1_2 = some r) :
  Calls Tryz.prog 63 #[.agg #[.slice A0_0 l0_0.length c0_0, .int .i64 a0_1, .slice A0_2 l0_2.length c0_2], .agg #[.slice A1_0 l1_0.length c1_0, .int .i64 a1_1, .slice A1_2 l1_2.length c1_2]] w fun e w' => e = .returned (.bool r) ∧ Below w.heap.size w w' := by
 replace hr0_0 := RdE.mk hr0_0
 replace hc0_0 := LeI.mk hc0_0
 replace hr0_2 := RdE.mk hr0_2
 replace hc0_2 := LeI.mk hc0_2
 replace hr1_0 := RdE.mk hr1_0
 replace hc1_0 := LeI.mk hc1_0
 replace hr1_2 := RdE.mk hr1_2
 replace hc1_2 := LeI.mk hc1_2
 unfold laws_eqWork.f at h
 have hu34 := Tryz.underlying34
 (repeat' first | ((with_reducible replace h := ite_some h); rcases h with ⟨hc, h⟩ | ⟨hc, h⟩ <;> first | exact (none_some h).elim | exact absurd hc (by decide) | subst hc | (replace hc := hF_ hc; subst hc) | (have hd := hI_ hc; have he := hJ_ hc; clear hc) | (have hd := hK_ hc; have he := hL_ hc) | (have hd := decide_eq_false hc) | (have hd := decide_eq_true hc) | skip))
 all_goals go_enter Tryz.func63, Tryz.ntmps63
 all_goals go_wp2_with ((first
  | ((with_reducible refine gate_dst (N := 2) rfl ?_); refine box_event rfl (N := 2) rfl (cs := #[.slice A0_0 l0_0.length c0_0, .int .i64 a0_1, .slice A0_2 l0_2.length c0_2]) (t := 34) (by first | (go_simp; done) | (go_simp; rfl)) ?_; intro g hg w1 hk hb; have j1 := Born.mk hg; have j2 := Bel.mk hb; have j3 := Blk.mk hk; clear hg hb hk)
  | ((with_reducible refine gate_dst (N := 3) rfl ?_); refine box_event rfl (N := 3) rfl (cs := #[.slice A1_0 l1_0.length c1_0, .int .i64 a1_1, .slice A1_2 l1_2.length c1_2]) (t := 34) (by first | (go_simp; done) | (go_simp; rfl)) ?_; intro g hg w1 hk hb; have j1 := Born.mk hg; have j2 := Bel.mk hb; have j3 := Blk.mk hk; clear hg hb hk)
  | (go_at_call 111; replace h := Option.bind_eq_some_iff.mp h; obtain ⟨t, A, h⟩ := h; (try dsimp only at h); refine (laws_eqStepS.calls _ _ _ _ _ _ _ _ _ Rd.out LeI.out Rd.out LeI.out A).mono ?_; rintro e w2 ⟨rfl, hb⟩; have jb := Bel.mk hb; clear A hb)
  | (go_at_call 21; replace h := Option.bind_eq_some_iff.mp h; obtain ⟨t, A, h⟩ := h; (try dsimp only at h); refine (laws_eqIntS.calls _ _ _ _ _ _ _ _ _ Rd.out LeI.out Rd.out LeI.out A).mono ?_; rintro e w2 ⟨rfl, n, rfl⟩; clear A)); (repeat' first | ((with_reducible replace h := ite_some h); rcases h with ⟨hc, h⟩ | ⟨hc, h⟩ <;> first | exact (none_some h).elim | exact absurd hc (by decide) | subst hc | (replace hc := hF_ hc; subst hc) | (have hd := hI_ hc; have he := hJ_ hc; clear hc) | (have hd := hK_ hc; have he := hL_ hc) | (have hd := decide_eq_false hc) | (have hd := decide_eq_true hc) | skip)))
 all_goals obtain rfl := Option.some.inj h
 all_goals go_ret
 all_goals exact ⟨rfl, From.out⟩
def laws_eqShop.f (k : Nat) (l0_0 : List (S112)) (a0_1 : Int) (l0_2 : List Int) (a0_3 : Int) (a0_4 : Int) (l0_5 : List (S104)) (l1_0 : List (S112)) (a1_1 : Int) (l1_2 : List Int) (a1_3 : Int) (a1_4 : Int) (l1_5 : List (S104)) : Option (Bool) := (laws_eqWork.f k l0_0 a0_1 l0_2 l1_0 a1_1 l1_2).bind fun t1036 => (if t1036 = true then (if a0_3 = a1_3 then (if a0_4 = a1_4 then ((laws_eqEntryS.f k l0_5 l1_5).bind fun t1037 => (if t1037 = true then (some true) else (some false))) else (some false)) else (some false)) else (some false))
theorem laws_eqShop.calls (k : Nat) (A0_0 : Option Addr) (c0_0 : Nat) (l0_0 : List (S112)) (a0_1 : Int) (A0_2 : Option Addr) (c0_2 : Nat) (l0_2 : List Int) (a0_3 : Int) (a0_4 : Int) (A0_5 : Option Addr) (c0_5 : Nat) (l0_5 : List (S104)) (A1_0 : Option Addr) (c1_0 : Nat) (l1_0 : List (S112)) (a1_1 : Int) (A1_2 : Option Addr) (c1_2 : Nat) (l1_2 : List Int) (a1_3 : Int) (a1_4 : Int) (A1_5 : Option Addr) (c1_5 : Nat) (l1_5 : List (S104)) (r : Bool) (w : World) (hr0_0 : Kd.C k112 w A0_0 l0_0.length l0_0) (hc0_0 : l0_0.length ≤ c0_0) (hr0_2 : Kd.C (Kd.int .i64) w A0_2 l0_2.length l0_2) (hc0_2 : l0_2.length ≤ c0_2) (hr0_5 : Kd.C k104 w A0_5 l0_5.length l0_5) (hc0_5 : l0_5.length ≤ c0_5) (hr1_0 : Kd.C k112 w A1_0 l1_0.length l1_0) (hc1_0 : l1_0.length ≤ c1_0) (hr1_2 : Kd.C (Kd.int .i64) w A1_2 l1_2.length l1_2) (hc1_2 : l1_2.length ≤ c1_2) (hr1_5 : Kd.C k104 w A1_5 l1_5.length l1_5) (hc1_5 : l1_5.length ≤ c1_5) (h : laws_eqShop.f k l0_0 a0_1 l0_2 a0_3 a0_4 l0_5 l1_0 a1_1 l1_2 a1_3 a1_4 l1_5 = some r) :
  Calls Tryz.prog 14 #[.agg #[.slice A0_0 l0_0.length c0_0, .int .i64 a0_1, .slice A0_2 l0_2.length c0_2, .int .i64 a0_3, .int .i64 a0_4, .slice A0_5 l0_5.length c0_5], .agg #[.slice A1_0 l1_0.length c1_0, .int .i64 a1_1, .slice A1_2 l1_2.length c1_2, .int .i64 a1_3, .int .i64 a1_4, .slice A1_5 l1_5.length c1_5]] w fun e w' => e = .returned (.bool r) ∧ Below w.heap.size w w' := by
 replace hr0_0 := RdE.mk hr0_0
 replace hc0_0 := LeI.mk hc0_0
 replace hr0_2 := RdE.mk hr0_2
 replace hc0_2 := LeI.mk hc0_2
 replace hr0_5 := RdE.mk hr0_5
 replace hc0_5 := LeI.mk hc0_5
 replace hr1_0 := RdE.mk hr1_0
 replace hc1_0 := LeI.mk hc1_0
 replace hr1_2 := RdE.mk hr1_2
 replace hc1_2 := LeI.mk hc1_2
 replace hr1_5 := RdE.mk hr1_5
 replace hc1_5 := LeI.mk hc1_5
 unfold laws_eqShop.f at h
 have hu37 := Tryz.underlying37
 (repeat' first | ((with_reducible replace h := ite_some h); rcases h with ⟨hc, h⟩ | ⟨hc, h⟩ <;> first | exact (none_some h).elim | exact absurd hc (by decide) | subst hc | (replace hc := hF_ hc; subst hc) | (have hd := hI_ hc; have he := hJ_ hc; clear hc) | (have hd := hK_ hc; have he := hL_ hc) | (have hd := decide_eq_false hc) | (have hd := decide_eq_true hc) | skip))
 all_goals go_enter Tryz.func14, Tryz.ntmps14
 all_goals go_wp2_with ((first
  | ((with_reducible refine gate_dst (N := 2) rfl ?_); refine box_event rfl (N := 2) rfl (cs := #[.slice A0_0 l0_0.length c0_0, .int .i64 a0_1, .slice A0_2 l0_2.length c0_2, .int .i64 a0_3, .int .i64 a0_4, .slice A0_5 l0_5.length c0_5]) (t := 37) (by first | (go_simp; done) | (go_simp; rfl)) ?_; intro g hg w1 hk hb; have j1 := Born.mk hg; have j2 := Bel.mk hb; have j3 := Blk.mk hk; clear hg hb hk)
  | ((with_reducible refine gate_dst (N := 3) rfl ?_); refine box_event rfl (N := 3) rfl (cs := #[.slice A1_0 l1_0.length c1_0, .int .i64 a1_1, .slice A1_2 l1_2.length c1_2, .int .i64 a1_3, .int .i64 a1_4, .slice A1_5 l1_5.length c1_5]) (t := 37) (by first | (go_simp; done) | (go_simp; rfl)) ?_; intro g hg w1 hk hb; have j1 := Born.mk hg; have j2 := Bel.mk hb; have j3 := Blk.mk hk; clear hg hb hk)
  | (go_at_call 63; replace h := Option.bind_eq_some_iff.mp h; obtain ⟨t, A, h⟩ := h; (try dsimp only at h); refine (laws_eqWork.calls _ _ _ _ _ _ _ _ _ _ _ _ _ _ _ _ _ Rd.out LeI.out Rd.out LeI.out Rd.out LeI.out Rd.out LeI.out A).mono ?_; rintro e w2 ⟨rfl, hb⟩; have jb := Bel.mk hb; clear A hb)
  | (go_at_call 64; replace h := Option.bind_eq_some_iff.mp h; obtain ⟨t, A, h⟩ := h; (try dsimp only at h); refine (laws_eqEntryS.calls _ _ _ _ _ _ _ _ _ Rd.out LeI.out Rd.out LeI.out A).mono ?_; rintro e w2 ⟨rfl, hb⟩; have jb := Bel.mk hb; clear A hb)); (repeat' first | ((with_reducible replace h := ite_some h); rcases h with ⟨hc, h⟩ | ⟨hc, h⟩ <;> first | exact (none_some h).elim | exact absurd hc (by decide) | subst hc | (replace hc := hF_ hc; subst hc) | (have hd := hI_ hc; have he := hJ_ hc; clear hc) | (have hd := hK_ hc; have he := hL_ hc) | (have hd := decide_eq_false hc) | (have hd := decide_eq_true hc) | skip)))
 all_goals obtain rfl := Option.some.inj h
 all_goals go_ret
 all_goals exact ⟨rfl, From.out⟩
end Go.Proofs.YtanhnhkcpbdfmaaGreat.P
namespace Go.Proofs.YtanhnhkcpbdfmaaGreat.V
open Go.RowKit Go.Proofs.YtanhnhkcpbdfmaaGreatW.PrintWords Go.Proofs.YtanhnhkcpbdfmaaGreatW.PrintLast
section
variable {P : Program} {ops : Array Oper} {Q : Exit → Act → World → Prop} {T : Bool × List (List Nat × List Nat)} {B : List Nat} {oi : Oper} {v : Value} {fuel : Nat} {l l' : Array Bool} {ds : List Nat} {a a' : Act} {w w1 w3 : World}
abbrev Sb (w3 : World) : World → Prop := fun w' => Below w3.heap.size w3 w'
theorem qR {id n : Nat} (hT : rtab .any ops = T) (hB : waitsOk T.2 B = true) (h : Aside0 (rtab .any ops = T) → Aside0 (waitsOk T.2 B = true) → ∀ w3, Bel w w3 → ∀ u, Bel w3 u → Sb w3 u → wpAnyLast P .any ops Q (Sb w3) ds n l a u)
    (hn : ops.size = n := by rfl) (hl : Array.replicate n false = l := by rfl) (hm : P.follows .mixedOrders = true := by kernel_rfl) : (Code.region id ops true).wp P Q a w :=
  start_ (S := Sb w) (ds := ds) l hm hn hl (below_drew1 (Below.refl _ _)) fun hS => h ⟨hT⟩ ⟨hB⟩ w ⟨Below.refl _ _⟩ w.drew ⟨hS⟩ hS
theorem qA (i : Nat) (N : Option Tmp) (HT : Aside0 (rtab .any ops = T)) (h : wpAnyLast P .any ops Q (Sb w3) ds fuel l' a' w) (hi : ops[i]? = some oi := by rfl) (hN : oi.dst = N := by rfl)
    (hl : l.setIfInBounds i true = l' := by simp only [List.setIfInBounds_toArray, List.set_cons_zero, List.set_cons_succ]; rfl) (hc : anyT T l.toList l'.toList i = true := by kernel_rfl)
    (hQ : ∀ c a w, Q (.panic c) (a.put oi.dst v) w → Q (.panic c) a w := by exact fun _ _ _ h => h) (hw : Region.wanted oi (yielded ops a.tmps) = true := by rfl)
    (hy : ∀ w', (execOp a.eval oi).run P w' = .ok (.value v) w' := by intro w'; go_simp; with_reducible rfl) (ha : a.put N v = a' := by simp only [Act.put, List.setIfInBounds_toArray, List.set_cons_zero, List.set_cons_succ, i64_w, i32_w]; rfl) :
    wpAnyLast P .any ops Q (Sb w3) ds (fuel + 1) l a w := pure_ l' hi hN (any_of HT.out hc) hQ (Or.inl ⟨hw, hy⟩) ha h
theorem qT (i : Nat) (N : Option Tmp) (HT : Aside0 (rtab .any ops = T)) (HW : Aside0 (waitsOk T.2 B = true)) (hS : Sb w3 w) (h : wpAnyLast P .any ops Q (Sb w3) ds fuel l' a' w) (hi : ops[i]? = some oi := by rfl) (hN : oi.dst = N := by rfl)
    (hl : l.setIfInBounds i true = l' := by simp only [List.setIfInBounds_toArray, List.set_cons_zero, List.set_cons_succ]; rfl) (hc : takeW T B ds l.toList l'.toList i = true := by kernel_rfl)
    (hQ : ∀ c a w, Q (.panic c) (a.put oi.dst v) w → Q (.panic c) a w := by exact fun _ _ _ h => h) (hw : Region.wanted oi (yielded ops a.tmps) = true := by rfl)
    (hy : ∀ w', Sin w3 w' → (execOp a.eval oi).run P w' = .ok (.value v) w' := by intro w' jS; go_simp; with_reducible rfl) (ha : a.put N v = a' := by simp only [Act.put, List.setIfInBounds_toArray, List.set_cons_zero, List.set_cons_succ, i64_w, i32_w]; rfl) :
    wpAnyLast P .any ops Q (Sb w3) ds (fuel + 1) l a w := take_ l' hi hN (take_ofW HT.out HW.out hc) hQ (Or.inl ⟨hw, fun w' hS => hy w' ⟨hS⟩⟩) hS ha h
theorem qB {a' : Nat → Act} (i N : Nat) (cs : Array Value) (t : TypeId) (HT : Aside0 (rtab .any ops = T)) (hS : Sb w3 w) (h : ∀ g, Born w g → ∀ w1, Bel w w1 → Blk w1 g cs t → Sb w3 w1 → wpAnyLast P .any ops Q (Sb w3) ds fuel l' (a' g) w1) (hi : ops[i]? = some oi := by rfl) (hN : oi.dst = some N := by rfl)
    (hl : l.setIfInBounds i true = l' := by simp only [List.setIfInBounds_toArray, List.set_cons_zero, List.set_cons_succ]; rfl) (hc : (readyT T.2 l.toList == [i] && l.toList.set i true == l'.toList) = true := by kernel_rfl) (hd : i ∉ ds := by decide) (hw : Region.wanted oi (yielded ops a.tmps) = true := by rfl)
    (hr : (execOp a.eval oi).run P w = .ok (.value (.pointer (some ⟨w.heap.size, 0, none⟩))) (w.alloc (.cells cs t (0, 0))) := by first | (go_simp; done) | (go_simp; rfl))
    (ha : ∀ g, a.put (some N) (.pointer (some ⟨g, 0, none⟩)) = a' g := by intro g; simp only [Act.put, List.setIfInBounds_toArray, List.set_cons_zero, List.set_cons_succ, i64_w, i32_w]; rfl) :
    wpAnyLast P .any ops Q (Sb w3) ds (fuel + 1) l a w := one_ l' hi hN (one_of HT.out hc) hd fun K hK => by
  rw [← hN]
  refine box_step hw hN hr fun g hg w1 hb hk => ?_
  have h1 : Sb w3 w1 := below_step hS hk
  exact hK.out _ _ h1 fun _ => by rw [hN, ha]; exact h g ⟨hg⟩ w1 ⟨hk⟩ ⟨hb⟩ h1
theorem qS (i : Nat) (HT : Aside0 (rtab .any ops = T)) (h : Sb w3 w1 → wpAnyLast P .any ops Q (Sb w3) ds fuel l' a w1) (hi : ops[i]? = some oi := by rfl) (hN : oi.dst = none := by rfl)
    (hl : l.setIfInBounds i true = l' := by simp only [List.setIfInBounds_toArray, List.set_cons_zero, List.set_cons_succ]; rfl) (hc : (readyT T.2 l.toList == [i] && l.toList.set i true == l'.toList) = true := by kernel_rfl) (hd : i ∉ ds := by decide) (hw : Region.wanted oi (yielded ops a.tmps) = true := by rfl)
    (hr : (execOp a.eval oi).run P w = .ok .skip w1 := by go_simp; rfl) (hS : From w3 w1 := by infer_instance) :
    wpAnyLast P .any ops Q (Sb w3) ds (fuel + 1) l a w := one_ l' hi hN (one_of HT.out hc) hd fun K hK => skip_ hw hN hr (hK.out _ _ hS.out fun _ => h hS.out)
theorem qL (i : Nat) (HT : Aside0 (rtab .any ops = T)) (h : wpAnyLast P .any ops Q (Sb w3) ds fuel l' a w1) (hi : ops[i]? = some oi := by rfl) (hN : oi.dst = none := by rfl)
    (hl : l.setIfInBounds i true = l' := by simp only [List.setIfInBounds_toArray, List.set_cons_zero, List.set_cons_succ]; rfl) (hc : (readyT T.2 l.toList == [i] && l.toList.set i true == l'.toList) = true := by kernel_rfl) (hd : i ∈ ds := by decide) (hw : Region.wanted oi (yielded ops a.tmps) = true := by rfl)
    (hr : (execOp a.eval oi).run P w = .ok .skip w1 := by go_simp; rfl) :
    wpAnyLast P .any ops Q (Sb w3) ds (fuel + 1) l a w := last_ l' hi hN (one_of HT.out hc) hd fun K hK => skip_ hw hN hr (hK.out _ _ h)
theorem qC {f : FuncId} {args : Array Value} {xs : Array Operand} {ts : Array TypeId} (i N : Nat) {fn : Func} (hf : P.funcs[f]? = some fn) (HT : Aside0 (rtab .any ops = T)) (h : ∀ K : Act → World → Prop, (∀ a' w', Sb w3 w' → (Sb w3 w' → wpAnyLast P .any ops Q (Sb w3) ds fuel l' a' w') → K a' w') → Calls P f args w fun e w' => ∃ v, e = .returned v ∧ K (a.put (some N) v) w') (hi : ops[i]? = some oi := by rfl) (hN : oi.dst = some N := by rfl)
    (hl : l.setIfInBounds i true = l' := by simp only [List.setIfInBounds_toArray, List.set_cons_zero, List.set_cons_succ]; rfl) (hc : (readyT T.2 l.toList == [i] && l.toList.set i true == l'.toList) = true := by kernel_rfl) (hd : i ∉ ds := by decide) (hw : Region.wanted oi (yielded ops a.tmps) = true := by rfl)
    (hop : oi.op = .call { callee := .value (.func f), args := xs, argTypes := ts } := by rfl) (hname : (fn.name == "runtime.NumGoroutine") = false := by kernel_rfl) (hb : fn.body.isSome = true := by rfl)
    (hargs : xs.map a.eval = args := by (try simp only [List.map_toArray, List.map_cons, List.map_nil]); first | done | rfl) :
    wpAnyLast P .any ops Q (Sb w3) ds (fuel + 1) l a w := one_ l' hi hN (one_of HT.out hc) hd fun K hK => goes_ hf hname hb args hw hN hop hargs (h K (fun a' w' h1 h2 => hK.out a' w' h1 h2))
theorem qN (h : wpAnyLast P .any ops Q (Sb w3) ds fuel l a' w) (ha : a = a' := by show Act.put _ (some _) _ = _; simp only [Act.put, List.setIfInBounds_toArray, List.set_cons_zero, List.set_cons_succ, i64_w, i32_w]; rfl) : wpAnyLast P .any ops Q (Sb w3) ds fuel l a w := norm_ ha h
theorem qD (HT : Aside0 (rtab .any ops = T)) (h : Q .normal a w) (hr : (readyT T.2 l.toList == []) = true := by kernel_rfl) : wpAnyLast P .any ops Q (Sb w3) ds fuel l a w := done_ (done_of HT.out hr) h
theorem qO1 (i : Nat) (Ni : Option Tmp) (HT : Aside0 (rtab .any ops = T))
    (h : ∀ K : Act → World → Prop, Shut (∀ a' w', Sb w3 w' → (Sb w3 w' → wpAnyLast P .any ops Q (Sb w3) ds fuel l' a' w') → K a' w') → if Region.wanted oi (yielded ops a.tmps) = true then Oper.wp P oi a w K Q else K (a.put Ni undef) w)
    (hi : ops[i]? = some oi := by rfl) (hN : oi.dst = Ni := by rfl) (hl : l.setIfInBounds i true = l' := by simp only [List.setIfInBounds_toArray, List.set_cons_zero, List.set_cons_succ]; rfl) (hc : (readyT T.2 l.toList == [i] && l.toList.set i true == l'.toList) = true := by kernel_rfl) (hd : i ∉ ds := by decide) :
    wpAnyLast P .any ops Q (Sb w3) ds (fuel + 1) l a w := one_ l' hi hN (one_of HT.out hc) hd h
theorem qX0 {K : Act → World → Prop} (N : Nat) (cs : Array Value) (t : TypeId) (h : ∀ g, Born w g → ∀ w1, Bel w w1 → Blk w1 g cs t → K (a.put (some N) (.pointer (some ⟨g, 0, none⟩))) w1) (hN : oi.dst = some N := by rfl) (hw : Region.wanted oi (yielded ops a.tmps) = true := by rfl)
    (hr : (execOp a.eval oi).run P w = .ok (.value (.pointer (some ⟨w.heap.size, 0, none⟩))) (w.alloc (.cells cs t (0, 0))) := by first | (go_simp; done) | (go_simp; rfl)) : if Region.wanted oi (yielded ops a.tmps) = true then Oper.wp P oi a w K Q else K (a.put (some N) undef) w := by
  rw [← hN]
  refine box_step hw hN hr fun g hg w1 hb hk => ?_
  rw [hN]
  exact h g ⟨hg⟩ w1 ⟨hk⟩ ⟨hb⟩
theorem qO2 {oj : Oper} {li lj : Array Bool} (i j : Nat) (Ni Nj : Option Tmp) (HT : Aside0 (rtab .any ops = T))
    (h1 : ∀ K : Act → World → Prop, Shut (∀ a' w', Sb w3 w' → (Sb w3 w' → wpAnyLast P .any ops Q (Sb w3) ds fuel li a' w') → K a' w') → if Region.wanted oi (yielded ops a.tmps) = true then Oper.wp P oi a w K Q else K (a.put Ni undef) w)
    (h2 : ∀ K : Act → World → Prop, Shut (∀ a' w', Sb w3 w' → (Sb w3 w' → wpAnyLast P .any ops Q (Sb w3) ds fuel lj a' w') → K a' w') → if Region.wanted oj (yielded ops a.tmps) = true then Oper.wp P oj a w K Q else K (a.put Nj undef) w)
    (hi : ops[i]? = some oi := by rfl) (hj : ops[j]? = some oj := by rfl) (hNi : oi.dst = Ni := by rfl) (hNj : oj.dst = Nj := by rfl)
    (hli : l.setIfInBounds i true = li := by simp only [List.setIfInBounds_toArray, List.set_cons_zero, List.set_cons_succ]; rfl) (hlj : l.setIfInBounds j true = lj := by simp only [List.setIfInBounds_toArray, List.set_cons_zero, List.set_cons_succ]; rfl)
    (hc : (readyT T.2 l.toList == [i, j] && l.toList.set i true == li.toList && l.toList.set j true == lj.toList) = true := by kernel_rfl) (hdi : i ∉ ds := by decide) (hdj : j ∉ ds := by decide) :
    wpAnyLast P .any ops Q (Sb w3) ds (fuel + 1) l a w := two_ li lj hi hj hNi hNj (two_of HT.out hc) hdi hdj h1 h2
section
variable {α : Type} {xs ys : List α} {inner : List Value} {K : Act → World → Prop} {N : Nat}
theorem qI0 (d : Kd α) (e N : Nat) (xs : List α) (inner : List Value) (hp : Reps (d.M w w.heap.size (fun _ => True)) d.sz xs inner) (h : ∀ A c w1, RowE d e w w1 A c xs → Bel w w1 → K (a.put (some N) (.slice A xs.length c)) w1)
    (hN : oi.dst = some N := by rfl) (hw : Region.wanted oi (yielded ops a.tmps) = true := by rfl) (hr : (execOp a.eval oi).run P w = .ok (.value (.slice (some ⟨w.heap.size, 0, none⟩) xs.length xs.length)) (w.alloc (.cells inner.toArray e)) := by first | (go_simp; done) | (go_simp; rfl)) (hl : xs.length ≤ 9223372036854775807 := by simp) :
    if Region.wanted oi (yielded ops a.tmps) = true then Oper.wp P oi a w K Q else K (a.put (some N) undef) w := by
  rw [← hN]
  refine Kd.R_lit_step d w.heap.size e hw hN (xs := xs) (inner := inner) (ok := fun _ => True) (okp := fun _ => True) hr hp (fun _ h => h) trivial (Below.refl _ _) (Nat.le_refl _) hl ?_
  intro v1 w1 ho hb _ _
  obtain ⟨A, c, rfl⟩ := Kd.R_slice ho
  rw [hN]
  exact h A c w1 ⟨ho⟩ ⟨hb⟩
theorem qI {a' : Option Addr → Nat → Act} (d : Kd α) (i e N : Nat) (xs : List α) (inner : List Value) (HT : Aside0 (rtab .any ops = T)) (hS : Sb w3 w) (hp : Reps (d.M w w.heap.size (fun _ => True)) d.sz xs inner) (h : ∀ A c w1, RowE d e w w1 A c xs → Bel w w1 → Sb w3 w1 → wpAnyLast P .any ops Q (Sb w3) ds fuel l' (a' A c) w1) (hi : ops[i]? = some oi := by rfl)
    (hN : oi.dst = some N := by rfl) (hl' : l.setIfInBounds i true = l' := by simp only [List.setIfInBounds_toArray, List.set_cons_zero, List.set_cons_succ]; rfl) (hc : (readyT T.2 l.toList == [i] && l.toList.set i true == l'.toList) = true := by kernel_rfl) (hd : i ∉ ds := by decide) (hw : Region.wanted oi (yielded ops a.tmps) = true := by rfl)
    (hr : (execOp a.eval oi).run P w = .ok (.value (.slice (some ⟨w.heap.size, 0, none⟩) xs.length xs.length)) (w.alloc (.cells inner.toArray e)) := by first | (go_simp; done) | (go_simp; rfl)) (hl : xs.length ≤ 9223372036854775807 := by simp)
    (ha : ∀ A c, a.put (some N) (.slice A xs.length c) = a' A c := by intro A c; simp only [Act.put, List.setIfInBounds_toArray, List.set_cons_zero, List.set_cons_succ, i64_w, i32_w]; rfl) :
    wpAnyLast P .any ops Q (Sb w3) ds (fuel + 1) l a w := one_ l' hi hN (one_of HT.out hc) hd fun K hK => qI0 d e N xs inner hp (fun A c w1 j b => hK.out _ _ (below_step hS b.out) fun _ => by rw [ha]; exact h A c w1 j b (below_step hS b.out)) hN hw hr hl
theorem qP {a' : Option Addr → Nat → Act} {A A2 : Option Addr} {c c2 e : Nat} (d : Kd α) (xs ys : List α) (i N : Nat) (so xo : Operand) (t : TypeId) (z : Value) (bytes : Nat) (HT : Aside0 (rtab .any ops = T)) (hS : Sb w3 w)
    (hu : P.underlying t = some (.slice e)) (hinfo : (P.info? e).map (fun i => (i.zero, i.size, i.bytes)) = some (some z, d.sz, bytes)) (hz : z.cells.size = d.sz) (hs0 : 0 < d.sz) (hb0 : 0 < bytes) (hKM : ∀ x cs, d.K w x cs → d.M w w3.heap.size (fun _ => False) x cs) (hlen : (xs.length + ys.length) * bytes ≤ 140737488355328)
    (h : ∀ A' c' w1, RowE d e w3 w1 A' c' (xs ++ ys) → Bel w3 w1 → Sb w3 w1 → wpAnyLast P .any ops Q (Sb w3) ds fuel l' (a' A' c') w1)
    (hi : ops[i]? = some oi := by rfl) (hN : oi.dst = some N := by rfl) (ho : oi.op = .call { callee := .builtin .append, args := #[so, xo], argTypes := #[t, t] } := by rfl) (hs : a.eval so = .slice A xs.length c := by rfl) (hx : a.eval xo = .slice A2 ys.length c2 := by rfl)
    (hl' : l.setIfInBounds i true = l' := by simp only [List.setIfInBounds_toArray, List.set_cons_zero, List.set_cons_succ]; rfl) (hc : (readyT T.2 l.toList == [i] && l.toList.set i true == l'.toList) = true := by kernel_rfl) (hd : i ∉ ds := by decide) (hw : Region.wanted oi (yielded ops a.tmps) = true := by rfl)
    (hR : d.R e w w3.heap.size (fun _ => True) (.slice A xs.length c) xs := by exact rowFin) (hR2 : d.C w A2 ys.length ys := by exact rowRd)
    (ha : ∀ A c, a.put (some N) (.slice A (xs ++ ys).length c) = a' A c := by intro A c; simp only [Act.put, List.setIfInBounds_toArray, List.set_cons_zero, List.set_cons_succ, i64_w, i32_w]; rfl) :
    wpAnyLast P .any ops Q (Sb w3) ds (fuel + 1) l a w := one_ l' hi hN (one_of HT.out hc) hd fun K hK => by
  rw [← hN]
  refine Kd.R_append_rows_step d (w0 := w3) w3.heap.size hw so xo t e z bytes ho hu hinfo hz hs0 hb0 (.slice A xs.length c) xs ys A2 ys.length c2 (fun _ => True) (fun _ => False) hs hx hR hR2 hKM (fun _ h => h.elim) (fun _ _ => trivial) hS hS.size hlen ?_
  intro v1 w1 ho2 hb _ _
  obtain ⟨A', c', rfl⟩ := Kd.R_slice ho2
  rw [hN]
  exact hK.out _ _ hb fun _ => by rw [ha]; exact h A' c' w1 ⟨ho2⟩ ⟨hb⟩ hb
end
end
class GrE (W : outParam World) (W' : World) (e : outParam Nat) : Prop where out : ∀ (g : Nat) (cs : Array Value) (t : TypeId), W.heap[g]? = some (.cells cs t (0, 0)) → e ≠ t → W'.heap[g]? = some (.cells cs t (0, 0))
class NeN (e t : Nat) : Prop where out : e ≠ t
section
variable {w w0 W W' : World} {g e t : Nat} {cs : Array Value}
instance [h : GrE W W' e] [k : Blk W g cs t] [n : NeN e t] : Blk W' g cs t := ⟨h.out g cs t k.out n.out⟩
theorem grE {α : Type} {d : Kd α} {v : Value} {xs : List α} {B : Nat} {ok : Nat → Prop} (h : d.R e W B ok v xs) (hg : W.grownBy W' v.ownBlock) : GrE W W' e := ⟨fun g cs t hb ht => blk_grown hb hg (Kd.R_ne h hb ht)⟩
theorem rowFin' {α : Type} {d : Kd α} {w1 w2 : World} {A : Option Addr} {c n : Nat} {xs : List α} [h : RowE d e w1 w2 A c xs] [k : Keep w1 w2 W] [l : From w w1] (hn : n = xs.length) : d.R e W w.heap.size (fun _ => True) (.slice A n c) xs := by rw [hn]; exact rowFin
theorem rowOf_ {α : Type} {d : Kd α} {v : Value} {xs : List α} (h : d.R e W w.heap.size (fun _ => True) v xs) : ∃ A c, v = .slice A xs.length c ∧ RowE d e w W A c xs := by
  obtain ⟨A, c, rfl⟩ := Kd.R_slice h
  exact ⟨A, c, rfl, ⟨h⟩⟩
theorem atFin' {α : Type} {d : Kd α} {w1 : World} {A : Option Addr} {c n : Nat} {xs : List α} [h : At d e w1 W A c xs] [l : From w w1] (hn : n = xs.length) : d.R e W w.heap.size (fun _ => True) (.slice A n c) xs := by rw [hn]; exact atFin
class Dj (A B : Option Addr) : Prop where out : ∀ a b : Addr, A = some a → B = some b → a.block ≠ b.block
theorem own_blk_ {a : Addr} {n c k : Nat} (h : (Value.slice (some a) n c).ownBlock = some k) : k = a.block := by cases h; rfl
theorem djOf_ {A B : Option Addr} {n c n' c' : Nat} (h : ∀ k, (Value.slice A n c).ownBlock = some k → some k ≠ (Value.slice B n' c').ownBlock) : Dj A B :=
  ⟨by rintro a b rfl rfl e; exact h a.block rfl (by rw [e]; rfl)⟩
instance {B : Option Addr} : Dj none B := ⟨fun _ _ h => by cases h⟩
instance {A : Option Addr} : Dj A none := ⟨fun _ _ _ h => by cases h⟩
theorem rowBlk_ {e : Nat} {w1 w2 : World} {a : Addr} {c : Nat} {xs : List Int} (h : RowE (Kd.int .i64) e w1 w2 (some a) c xs) : w1.heap.size ≤ a.block ∧ a.block < w2.heap.size := ⟨Kd.R_base h.out a.block rfl, Kd.R_lt h.out a.block rfl⟩
instance {e e' : Nat} {w1 w2 w1' w2' : World} {A B : Option Addr} {c c' : Nat} {xs ys : List Int} [a : RowE (Kd.int .i64) e w1 w2 A c xs] [b : RowE (Kd.int .i64) e' w1' w2' B c' ys] [s : Sz w2 w1'] : Dj A B :=
  ⟨by rintro x y rfl rfl h; have h1 := rowBlk_ a; have h2 := rowBlk_ b; have := s.out; omega⟩
instance {e e' : Nat} {w1 w2 w1' w2' : World} {A B : Option Addr} {c c' : Nat} {xs ys : List Int} [a : RowE (Kd.int .i64) e w1 w2 A c xs] [b : RowE (Kd.int .i64) e' w1' w2' B c' ys] [s : Sz w2' w1] : Dj A B :=
  ⟨by rintro x y rfl rfl h; have h1 := rowBlk_ a; have h2 := rowBlk_ b; have := s.out; omega⟩
theorem grAt {W W' : World} {A : Option Addr} {c : Nat} {xs : List Int} (hg : W.grownBy W' (Value.slice A xs.length c).ownBlock) [h : At (Kd.int .i64) e w W A c xs] : GrE W W' e := grE h.out hg
theorem djSym {A B : Option Addr} (h : Dj A B) : Dj B A := ⟨fun a b h1 h2 e => h.out b a h2 h1 e.symm⟩
theorem djR {e B0 n c n' c' : Nat} {A B : Option Addr} {ok : Nat → Prop} {xs : List Int} (h : (Kd.int .i64).R e W B0 ok (.slice A n c) xs) [d : Dj A B] : (Kd.int .i64).R e W B0 (fun k => some k ≠ (Value.slice B n' c').ownBlock) (.slice A n c) xs :=
  Kd.R_reok rfl h (by
    intro k hk he
    rcases A with _ | a
    · cases hk
    rcases B with _ | b
    · cases he
    have h1 := own_blk_ hk
    have h2 := own_blk_ he.symm
    exact d.out a b rfl rfl (h1.symm.trans h2))
theorem atOf_ {α : Type} {d : Kd α} {ok : Nat → Prop} {v : Value} {xs : List α} (h : d.R e W w.heap.size ok v xs) : ∃ A c, v = .slice A xs.length c ∧ At d e w W A c xs ∧ LeI xs.length c ∧ ∀ k, (Value.slice A xs.length c).ownBlock = some k → ok k := by
  obtain ⟨A, c, rfl⟩ := Kd.R_slice h
  exact ⟨A, c, rfl, ⟨Kd.R_mono h (fun _ _ => trivial)⟩, ⟨(Kd.R_reads' h).2.1⟩, h.1⟩
theorem keepGr {α : Type} {d : Kd α} {e' : Nat} {w1 w2 : World} {A B : Option Addr} {c c' n : Nat} {xs : List α} {ys : List Int} (j : RowE d e' w1 w2 A c xs) [k : Keep w1 w2 W] (hg : W.grownBy W' (Value.slice B n c').ownBlock) [a : At (Kd.int .i64) e w w1 B c' ys] : Keep w1 w2 W' :=
  ⟨fun i h1 h2 => (hg.block i (keep_lt k h1 h2) (by
    rintro hb
    rcases B with _ | b
    · cases hb
    have h3 := own_blk_ hb.symm
    have h4 := Kd.R_lt a.out b.block rfl
    omega)).trans (k.out i h1 h2)⟩
theorem djGr {w1 w2 : World} {A B C : Option Addr} {c c' c7 n n7 : Nat} {xs ys : List Int} {e' : Nat} (j : RowE (Kd.int .i64) e' w1 w2 A c xs)
    (hat : (Value.slice C n7 c7).ownBlock = (Value.slice B n c').ownBlock ∨ ∃ b, (Value.slice C n7 c7).ownBlock = some b ∧ W.heap.size ≤ b) [s : Sz w2 W] [a : At (Kd.int .i64) e w w1 B c' ys] : Dj C A :=
  ⟨by
    rintro x y rfl rfl he
    have h1 := rowBlk_ j
    have h2 := s.out
    rcases hat with h | ⟨b, hb, hs⟩
    · rcases B with _ | z
      · cases h
      have h3 : x.block = z.block := by cases z; cases x; injection h
      have h4 := Kd.R_lt a.out z.block rfl
      omega
    · have h3 := own_blk_ hb
      omega⟩
end
end Go.Proofs.YtanhnhkcpbdfmaaGreat.V
namespace Go.Proofs.YtanhnhkcpbdfmaaGreat.P
set_option maxHeartbeats 8000000
set_option maxRecDepth 100000
set_option synthInstance.maxHeartbeats 400000
set_option synthInstance.maxSize 100000
open Go.RowKit Go.Proofs.YtanhnhkcpbdfmaaGreatW.PrintWords Go.Proofs.YtanhnhkcpbdfmaaGreatW.PrintLast Go.Proofs.YtanhnhkcpbdfmaaGreatW.PrintMore Go.Proofs.YtanhnhkcpbdfmaaGreat.V
attribute [local go_sem] cell_b frozen_b cellR_c cell_r frozen_r cell_r0 frozen_r0
attribute [local go_sem] max2_int min2_int max_two min_two max_three min_three max_four min_four
def spec_WrongSteps.l0 : Nat → List Int → Int → List (S112) → Int → List Int → Option (List Int)
 | 0, _, _, _, _, _ => none
 | k + 1, x3, x4, x127000, x127001, x127002 => if x4 < x127001 then (if 0 ≤ x4 then (if x4 < (x127000.length : Int) then (if 0 ≤ ((rd_T112 x127000 x4).f1) then (if ((rd_T112 x127000 x4).f1) < (x127002.length : Int) then (if 0 ≤ ((rd_T112 x127000 x4).f0) then (if ((rd_T112 x127000 x4).f0) < (x127002.length : Int) then ((spec_TunedPitch.f k (rd x127002 ((rd_T112 x127000 x4).f0)) ((rd_T112 x127000 x4).f2) ((rd_T112 x127000 x4).f3)).bind fun t135 => (if (rd x127002 ((rd_T112 x127000 x4).f1)) = t135 then (spec_WrongSteps.l0 k x3 (wrap64 (x4 + 1)) x127000 x127001 x127002) else (if x3.length < 17592186044416 then (spec_WrongSteps.l0 k (x3 ++ [x4]) (wrap64 (x4 + 1)) x127000 x127001 x127002) else (none)))) else (none)) else (none)) else (none)) else (none)) else (none)) else (none)) else (some x3)
def spec_WrongSteps.f (k : Nat) (l0_0 : List (S112)) (a0_1 : Int) (l0_2 : List Int) : Option (List Int) := (some (([] : List Int) : List Int)).bind fun y127 => ((spec_WorkOk.f k l0_0 a0_1 l0_2).bind fun t130 => (if t130 = true then (spec_WrongSteps.l0 k y127 0 l0_0 a0_1 l0_2) else (some y127)))
def spec_WrongSteps.T8 : Bool × List (List Nat × List Nat) := (true, [([], []), ([0], [0]), ([], []), ([2], [2]), ([1, 3], [1, 3]), ([4], [4]), ([], []), ([6], [6]), ([], []), ([8], [8]), ([7, 9], [7, 9]), ([10], [10]), ([], []), ([12], [12]), ([], []), ([14], [14]), ([11, 13, 15], [11, 13, 15]), ([5, 16], [5, 16])])
def spec_WrongSteps.B8 : List Nat := [0, 1, 0, 4, 15, 31, 0, 64, 0, 256, 960, 1984, 0, 4096, 0, 16384, 65472, 131071]
theorem spec_WrongSteps.tab8 : rtab .any (opsOf Tryz.f83 8) = spec_WrongSteps.T8 := by kernel_rfl
theorem spec_WrongSteps.bits8 : waitsOk spec_WrongSteps.T8.2 spec_WrongSteps.B8 = true := by kernel_rfl
theorem spec_WrongSteps.calls (k : Nat) (A0_0 : Option Addr) (c0_0 : Nat) (l0_0 : List (S112)) (a0_1 : Int) (A0_2 : Option Addr) (c0_2 : Nat) (l0_2 : List Int) (r : List Int) (w : World) (hr0_0 : Kd.C k112 w A0_0 l0_0.length l0_0) (hc0_0 : l0_0.length ≤ c0_0) (hr0_2 : Kd.C (Kd.int .i64) w A0_2 l0_2.length l0_2) (hc0_2 : l0_2.length ≤ c0_2) (h : spec_WrongSteps.f k l0_0 a0_1 l0_2 = some r) :
  Calls Tryz.prog 83 #[.agg #[.slice A0_0 l0_0.length c0_0, .int .i64 a0_1, .slice A0_2 l0_2.length c0_2]] w fun e w' => ∃ v0_ : Value, e = .returned (v0_) ∧ Kd.R (Kd.int .i64) 3 w' w.heap.size (fun _ => True) v0_ r ∧ Below w.heap.size w w' := by
 have ihr0_0 := RdE.mk hr0_0
 have ihc0_0 := LeI.mk hc0_0
 have ihr0_2 := RdE.mk hr0_2
 have ihc0_2 := LeI.mk hc0_2
 clear hr0_0 hc0_0 hr0_2 hc0_2
 have nn3_34 := NeN.mk (e := 3) (t := 34) (by decide)
 have nn3_112 := NeN.mk (e := 3) (t := 112) (by decide)
 unfold spec_WrongSteps.f at h
 (try simp only [Option.bind_some] at h)
 have hu34 := Tryz.underlying34
 have hu112 := Tryz.underlying112
 (repeat' first | ((with_reducible replace h := ite_some h); rcases h with ⟨hc, h⟩ | ⟨hc, h⟩ <;> first | exact (none_some h).elim | exact absurd hc (by decide) | subst hc | (replace hc := hF_ hc; subst hc) | (replace hc := hG_ hc; subst hc) | (replace hc := hH_ hc; subst hc) | (have hd : (_ == _) = true := hc) | (have hd : (_ == _) = false := hF_ hc) | (have hd := hI_ hc; have he := hJ_ hc; clear hc) | (have hd := hK_ hc; have he := hL_ hc) | (have hd := decide_eq_false hc) | (have hd := decide_eq_true hc; (try (have hn := Int.natCast_pos.mp hc; have hm := decide_eq_true hn; replace hn := eq_true hn)); first | (obtain ⟨g_, e_, i_⟩ := form_ (by assumption) (by first | assumption | decide) hc; cases e_) | (obtain ⟨a_, e_, c_⟩ := atI_ (by assumption) (by first | assumption | decide) hc; cases e_) | (obtain ⟨a_, e_, c0_, c1_, c2_, c3_⟩ := at_T112 (RdE.out (self := by assumption)) _ (by first | assumption | decide) hc; cases e_; replace c0_ := CelE.mk c0_; replace c1_ := CelE.mk c1_; replace c2_ := CelE.mk c2_; replace c3_ := CelE.mk c3_)) | (have hd := decide_eq_true hc) | skip) | ((with_reducible replace h := bind_set_ h); obtain ⟨hl_, h⟩ := h; replace hl_ := A_ hl_; (try dsimp only at h)))
 all_goals go_enter Tryz.func83, Tryz.ntmps83
 all_goals go_wp2_with ((first
  | ((with_reducible refine gate_dst (N := 1) rfl ?_); refine box_event rfl (N := 1) rfl (cs := #[.slice A0_0 l0_0.length c0_0, .int .i64 a0_1, .slice A0_2 l0_2.length c0_2]) (t := 34) (by first | (go_simp; done) | (go_simp; rfl)) ?_; intro g1 hg w1 hk hb; have j1 := Born.mk hg; have j2 := Bel.mk hb; have j3 := Blk.mk hk; clear hg hb hk)
  | ((with_reducible refine gate_dst (N := 5) rfl ?_); refine box_event rfl (N := 5) rfl (cs := #[.int .i64 0, .int .i64 0, .int .i64 0, .int .i64 0]) (t := 112) (by first | (go_simp; done) | (go_simp; rfl)) ?_; intro g5 hg w1 hk hb; have j1 := Born.mk hg; have j2 := Bel.mk hb; have j3 := Blk.mk hk; clear hg hb hk)
  | ((with_reducible refine gate_dst (N := 6) rfl ?_); refine Kd.R_lit (Kd.int .i64) _ 3 ?hg (N := 6) ?hd (xs := ([] : List Int)) (inner := []) (ok := fun _ => True) (okp := fun _ => True) ?hr ?hp (fun _ hk => hk) trivial (Below.refl _ _) (Nat.le_refl _) (by simp) ?_; (case hd => rfl); (case hg => rfl); (case hr => first | (go_simp; done) | (go_simp; rfl)); (case hp => exact (Reps.none _ _)); intro v5 w5 ho hb hg_ hn_; obtain ⟨A5, c5, rfl⟩ := Kd.R_slice ho; have j5 := RowE.mk ho; have q5 := LeI.mk (rowLe j5); have j6 := Bel.mk hb; clear hg_ hn_ ho hb)
  | (go_at_call 86; (try rw [hl_.out]); replace h := Option.bind_eq_some_iff.mp h; obtain ⟨t, A, h⟩ := h; (try dsimp only at h); refine (spec_WorkOk.calls _ _ _ _ _ _ _ _ _ _ Rd.out LeI.out Rd.out LeI.out A).mono ?_; rintro e w2 ⟨rfl, hb⟩; have jb := Bel.mk hb; clear A hb)
  | (refine qR (id := 8) (ds := []) (l := #[false, false, false, false, false, false, false, false, false, false, false, false, false, false, false, false, false, false]) spec_WrongSteps.tab8 spec_WrongSteps.bits8 ?_; intro HT_ HW_ w3 jw u0 iu hHeld; refine qA 0 (some 22) HT_ ?_; refine qA 2 (some 24) HT_ ?_; refine qA 6 (some 28) HT_ ?_; refine qA 8 (some 30) HT_ ?_; refine qA 12 (some 34) HT_ ?_; refine qA 14 (some 36) HT_ ?_; refine qT 1 (some 23) HT_ HW_ hHeld ?_; refine qT 3 (some 25) HT_ HW_ hHeld ?_; refine qA 4 (some 26) HT_ ?_; refine qT 5 (some 27) HT_ HW_ hHeld ?_; refine qT 7 (some 29) HT_ HW_ hHeld ?_; refine qT 9 (some 31) HT_ HW_ hHeld ?_; refine qA 10 (some 32) HT_ ?_; refine qT 11 (some 33) HT_ HW_ hHeld ?_; refine qT 13 (some 35) HT_ HW_ hHeld ?_; refine qT 15 (some 37) HT_ HW_ hHeld ?_; replace h := Option.bind_eq_some_iff.mp h; obtain ⟨t, A, h⟩ := h; (try dsimp only at h); refine qC 16 38 Tryz.func122 HT_ fun K hK => ?_; refine (spec_TunedPitch.calls _ _ _ _ _ _ A).mono ?_; rintro e w2 ⟨rfl, hb⟩; have jb := Bel.mk hb; clear A hb; refine ⟨_, rfl, hK _ _ From.out fun hHeld => ?_⟩; clear hK K; refine qN ?_; refine qA 17 (some 39) HT_ ?_; refine qD HT_ ?_)
  | ((with_reducible refine gate_builtin (b := .append) (xs := #[.tmp 40, .tmp 42]) rfl ?_); at_builtin; refine Kd.R_append (Kd.int .i64) (w0 := w) w.heap.size rfl (.tmp 40) (.tmp 42) 23 3 (.int .i64 0) 8 rfl Tryz.underlying23 info3 rfl (by decide) (by omega) (.slice A90 x3_1.length c90) x3_1 x4_1 [.int .i64 x4_1] (fun _ => True) (fun _ => False) rfl rfl ?aP (fun _ hk => hk.elim) ?aF ?aO ?aB ?aS ?aL ?_; (case aP => exact rfl); (case aO => exact rowFin); (case aB => exact From.out); (case aF => exact (fun _ _ => trivial)); (case aS => exact (From.out (w0 := w)).size); (case aL => omega); intro v7 w7 ho hb hg hat; have jg := grE (rowFin (w := w) (d := (Kd.int .i64))) hg; obtain ⟨A7, c7, rfl, j7⟩ := rowOf_ ho; have q7 := LeI.mk (rowLe j7); have jf : From w w7 := ⟨hb⟩; have js : Sz w w7 := ⟨hb.size⟩; clear ho hb hg hat)); (repeat' first | ((with_reducible replace h := ite_some h); rcases h with ⟨hc, h⟩ | ⟨hc, h⟩ <;> first | exact (none_some h).elim | exact absurd hc (by decide) | subst hc | (replace hc := hF_ hc; subst hc) | (replace hc := hG_ hc; subst hc) | (replace hc := hH_ hc; subst hc) | (have hd : (_ == _) = true := hc) | (have hd : (_ == _) = false := hF_ hc) | (have hd := hI_ hc; have he := hJ_ hc; clear hc) | (have hd := hK_ hc; have he := hL_ hc) | (have hd := decide_eq_false hc) | (have hd := decide_eq_true hc; (try (have hn := Int.natCast_pos.mp hc; have hm := decide_eq_true hn; replace hn := eq_true hn)); first | (obtain ⟨g_, e_, i_⟩ := form_ (by assumption) (by first | assumption | decide) hc; cases e_) | (obtain ⟨a_, e_, c_⟩ := atI_ (by assumption) (by first | assumption | decide) hc; cases e_) | (obtain ⟨a_, e_, c0_, c1_, c2_, c3_⟩ := at_T112 (RdE.out (self := by assumption)) _ (by first | assumption | decide) hc; cases e_; replace c0_ := CelE.mk c0_; replace c1_ := CelE.mk c1_; replace c2_ := CelE.mk c2_; replace c3_ := CelE.mk c3_)) | (have hd := decide_eq_true hc) | skip) | ((with_reducible replace h := bind_set_ h); obtain ⟨hl_, h⟩ := h; replace hl_ := A_ hl_; (try dsimp only at h))))
 all_goals first
  | ((try obtain rfl := Option.some.inj h); go_ret; exact ⟨(.slice _ _ _), rfl, (by first | exact rowFin | exact rowFin' rfl | exact rowFin' (by simp) | exact Kd.R_nil _ _ _ _ _ | exact atFin | exact irowFin' (by simp)), From.out⟩)
  | skip
 go_loopg [3, 4] k (fun kq v3 v4 w' => ∃ (x3_1 : List Int) (x4_1 : Int), v4 = .int .i64 x4_1 ∧ Aside0 (spec_WrongSteps.l0 kq x3_1 x4_1 l0_0 a0_1 l0_2 = some r) ∧ Aside0 (kq ≤ k) ∧ Aside0 (Kd.R (Kd.int .i64) 3 w' w.heap.size (fun _ => True) v3 x3_1) ∧ Aside0 (w'.heap[g1]? = some (.cells #[(.slice A0_0 l0_0.length c0_0), .int .i64 a0_1, (.slice A0_2 l0_2.length c0_2)] 34 (0, 0))) ∧ Aside0 (Below w.heap.size w w'))
 case atStart => exact ⟨_, _, (by first | rfl | (simp; done)), ⟨h⟩, ⟨Nat.le_refl _⟩, ⟨by first | exact rowFin | exact rowFin' rfl | exact rowFin' (by simp) | exact Kd.R_nil _ _ _ _ _⟩, ⟨Blk.out⟩, ⟨From.out⟩⟩
 case round =>
  clear h
  obtain ⟨x3_1, x4_1, rfl, HA, HK1, HO_3, BK126, HB⟩ := hrel
  rcases gk with _ | k1
  ·exact absurd HA.out (by simp [spec_WrongSteps.l0])
  have h := HA.out
  clear HA
  simp only [spec_WrongSteps.l0] at h
  obtain ⟨A90, c90, rfl, j90⟩ := rowOf_ HO_3.out; have q90 := LeI.mk (rowLe j90); clear HO_3
  have BK126_ := Blk.mk BK126.out; clear BK126
  have HB_ : From w wr := ⟨HB.out⟩; have HS_ : Sz w wr := ⟨HB.out.size⟩; clear HB
  (repeat' first | ((with_reducible replace h := ite_some h); rcases h with ⟨hc, h⟩ | ⟨hc, h⟩ <;> first | exact (none_some h).elim | exact absurd hc (by decide) | subst hc | (replace hc := hF_ hc; subst hc) | (replace hc := hG_ hc; subst hc) | (replace hc := hH_ hc; subst hc) | (have hd : (_ == _) = true := hc) | (have hd : (_ == _) = false := hF_ hc) | (have hd := hI_ hc; have he := hJ_ hc; clear hc) | (have hd := hK_ hc; have he := hL_ hc) | (have hd := decide_eq_false hc) | (have hd := decide_eq_true hc; (try (have hn := Int.natCast_pos.mp hc; have hm := decide_eq_true hn; replace hn := eq_true hn)); first | (obtain ⟨g_, e_, i_⟩ := form_ (by assumption) (by first | assumption | decide) hc; cases e_) | (obtain ⟨a_, e_, c_⟩ := atI_ (by assumption) (by first | assumption | decide) hc; cases e_) | (obtain ⟨a_, e_, c0_, c1_, c2_, c3_⟩ := at_T112 (RdE.out (self := by assumption)) _ (by first | assumption | decide) hc; cases e_; replace c0_ := CelE.mk c0_; replace c1_ := CelE.mk c1_; replace c2_ := CelE.mk c2_; replace c3_ := CelE.mk c3_)) | (have hd := decide_eq_true hc) | skip) | ((with_reducible replace h := bind_set_ h); obtain ⟨hl_, h⟩ := h; replace hl_ := A_ hl_; (try dsimp only at h)))
  all_goals go_wp2_with ((first
   | ((with_reducible refine gate_dst (N := 1) rfl ?_); refine box_event rfl (N := 1) rfl (cs := #[.slice A0_0 l0_0.length c0_0, .int .i64 a0_1, .slice A0_2 l0_2.length c0_2]) (t := 34) (by first | (go_simp; done) | (go_simp; rfl)) ?_; intro g1 hg w1 hk hb; have j1 := Born.mk hg; have j2 := Bel.mk hb; have j3 := Blk.mk hk; clear hg hb hk)
   | ((with_reducible refine gate_dst (N := 5) rfl ?_); refine box_event rfl (N := 5) rfl (cs := #[.int .i64 0, .int .i64 0, .int .i64 0, .int .i64 0]) (t := 112) (by first | (go_simp; done) | (go_simp; rfl)) ?_; intro g5 hg w1 hk hb; have j1 := Born.mk hg; have j2 := Bel.mk hb; have j3 := Blk.mk hk; clear hg hb hk)
   | ((with_reducible refine gate_dst (N := 6) rfl ?_); refine Kd.R_lit (Kd.int .i64) _ 3 ?hg (N := 6) ?hd (xs := ([] : List Int)) (inner := []) (ok := fun _ => True) (okp := fun _ => True) ?hr ?hp (fun _ hk => hk) trivial (Below.refl _ _) (Nat.le_refl _) (by simp) ?_; (case hd => rfl); (case hg => rfl); (case hr => first | (go_simp; done) | (go_simp; rfl)); (case hp => exact (Reps.none _ _)); intro v5 w5 ho hb hg_ hn_; obtain ⟨A5, c5, rfl⟩ := Kd.R_slice ho; have j5 := RowE.mk ho; have q5 := LeI.mk (rowLe j5); have j6 := Bel.mk hb; clear hg_ hn_ ho hb)
   | (go_at_call 86; (try rw [hl_.out]); replace h := Option.bind_eq_some_iff.mp h; obtain ⟨t, A, h⟩ := h; (try dsimp only at h); refine (spec_WorkOk.calls _ _ _ _ _ _ _ _ _ _ Rd.out LeI.out Rd.out LeI.out A).mono ?_; rintro e w2 ⟨rfl, hb⟩; have jb := Bel.mk hb; clear A hb)
   | (refine qR (id := 8) (ds := []) (l := #[false, false, false, false, false, false, false, false, false, false, false, false, false, false, false, false, false, false]) spec_WrongSteps.tab8 spec_WrongSteps.bits8 ?_; intro HT_ HW_ w3 jw u0 iu hHeld; refine qA 0 (some 22) HT_ ?_; refine qA 2 (some 24) HT_ ?_; refine qA 6 (some 28) HT_ ?_; refine qA 8 (some 30) HT_ ?_; refine qA 12 (some 34) HT_ ?_; refine qA 14 (some 36) HT_ ?_; refine qT 1 (some 23) HT_ HW_ hHeld ?_; refine qT 3 (some 25) HT_ HW_ hHeld ?_; refine qA 4 (some 26) HT_ ?_; refine qT 5 (some 27) HT_ HW_ hHeld ?_; refine qT 7 (some 29) HT_ HW_ hHeld ?_; refine qT 9 (some 31) HT_ HW_ hHeld ?_; refine qA 10 (some 32) HT_ ?_; refine qT 11 (some 33) HT_ HW_ hHeld ?_; refine qT 13 (some 35) HT_ HW_ hHeld ?_; refine qT 15 (some 37) HT_ HW_ hHeld ?_; replace h := Option.bind_eq_some_iff.mp h; obtain ⟨t, A, h⟩ := h; (try dsimp only at h); refine qC 16 38 Tryz.func122 HT_ fun K hK => ?_; refine (spec_TunedPitch.calls _ _ _ _ _ _ A).mono ?_; rintro e w2 ⟨rfl, hb⟩; have jb := Bel.mk hb; clear A hb; refine ⟨_, rfl, hK _ _ From.out fun hHeld => ?_⟩; clear hK K; refine qN ?_; refine qA 17 (some 39) HT_ ?_; refine qD HT_ ?_)
   | ((with_reducible refine gate_builtin (b := .append) (xs := #[.tmp 40, .tmp 42]) rfl ?_); at_builtin; refine Kd.R_append (Kd.int .i64) (w0 := w) w.heap.size rfl (.tmp 40) (.tmp 42) 23 3 (.int .i64 0) 8 rfl Tryz.underlying23 info3 rfl (by decide) (by omega) (.slice A90 x3_1.length c90) x3_1 x4_1 [.int .i64 x4_1] (fun _ => True) (fun _ => False) rfl rfl ?aP (fun _ hk => hk.elim) ?aF ?aO ?aB ?aS ?aL ?_; (case aP => exact rfl); (case aO => exact rowFin); (case aB => exact From.out); (case aF => exact (fun _ _ => trivial)); (case aS => exact (From.out (w0 := w)).size); (case aL => omega); intro v7 w7 ho hb hg hat; have jg := grE (rowFin (w := w) (d := (Kd.int .i64))) hg; obtain ⟨A7, c7, rfl, j7⟩ := rowOf_ ho; have q7 := LeI.mk (rowLe j7); have jf : From w w7 := ⟨hb⟩; have js : Sz w w7 := ⟨hb.size⟩; clear ho hb hg hat)); (repeat' first | ((with_reducible replace h := ite_some h); rcases h with ⟨hc, h⟩ | ⟨hc, h⟩ <;> first | exact (none_some h).elim | exact absurd hc (by decide) | subst hc | (replace hc := hF_ hc; subst hc) | (replace hc := hG_ hc; subst hc) | (replace hc := hH_ hc; subst hc) | (have hd : (_ == _) = true := hc) | (have hd : (_ == _) = false := hF_ hc) | (have hd := hI_ hc; have he := hJ_ hc; clear hc) | (have hd := hK_ hc; have he := hL_ hc) | (have hd := decide_eq_false hc) | (have hd := decide_eq_true hc; (try (have hn := Int.natCast_pos.mp hc; have hm := decide_eq_true hn; replace hn := eq_true hn)); first | (obtain ⟨g_, e_, i_⟩ := form_ (by assumption) (by first | assumption | decide) hc; cases e_) | (obtain ⟨a_, e_, c_⟩ := atI_ (by assumption) (by first | assumption | decide) hc; cases e_) | (obtain ⟨a_, e_, c0_, c1_, c2_, c3_⟩ := at_T112 (RdE.out (self := by assumption)) _ (by first | assumption | decide) hc; cases e_; replace c0_ := CelE.mk c0_; replace c1_ := CelE.mk c1_; replace c2_ := CelE.mk c2_; replace c3_ := CelE.mk c3_)) | (have hd := decide_eq_true hc) | skip) | ((with_reducible replace h := bind_set_ h); obtain ⟨hl_, h⟩ := h; replace hl_ := A_ hl_; (try dsimp only at h))))
  all_goals first
   | (go_roundg k1; (case measure => have := HK1.out; omega); (case rel => exact ⟨_, _, (by first | rfl | (simp; done)), ⟨h⟩, ⟨by have := HK1.out; omega⟩, ⟨by first | exact rowFin | exact rowFin' rfl | exact rowFin' (by simp) | exact Kd.R_nil _ _ _ _ _⟩, ⟨Blk.out⟩, ⟨From.out⟩⟩))
   | ((try obtain rfl := Option.some.inj h); go_ret; exact ⟨(.slice _ _ _), rfl, (by first | exact rowFin | exact rowFin' rfl | exact rowFin' (by simp) | exact Kd.R_nil _ _ _ _ _ | exact atFin | exact irowFin' (by simp)), From.out⟩)
def spec_ActOk.j0 : Nat → Int → Bool → Int → Int → Int → Int → Option (Bool)
 | 0, _, _, _, _, _, _ => none
 | k + 1, x4, x5, x183000, x183001, x183002, x183003 => if x5 = true then (if x183001 = 0 then (if x183002 = 0 then (some (x183003 == 0)) else (some false)) else (some false)) else (if x4 = 2 then ((spec_l01In.f x183001 (-10) 40).bind fun t183 => (if t183 = true then (if x183002 = 0 then (some (x183003 == 0)) else (some false)) else (some false))) else (if x4 = 3 then ((spec_l01In.f x183001 0 3).bind fun t184 => (if t184 = true then ((spec_l01In.f x183002 0 39).bind fun t185 => (if t185 = true then ((spec_l01In.f x183003 0 2).bind fun t186 => (some t186)) else (some false))) else (some false))) else (if x4 = 4 then ((spec_l01In.f x183001 0 11).bind fun t187 => (if t187 = true then ((spec_l01In.f x183002 (-100000) 100000).bind fun t188 => (if t188 = true then (some (x183003 == 0)) else (some false))) else (some false))) else (if x4 = 7 then ((spec_l01In.f x183001 0 11).bind fun t189 => (if t189 = true then (if x183002 = 0 then (some (x183003 == 0)) else (some false)) else (some false))) else (some false)))))
def spec_ActOk.f (k : Nat) (a0_0 : Int) (a0_1 : Int) (a0_2 : Int) (a0_3 : Int) : Option (Bool) := if a0_0 = 1 then (spec_ActOk.j0 k a0_0 (a0_0 == 1) a0_0 a0_1 a0_2 a0_3) else (if a0_0 = 5 then (spec_ActOk.j0 k a0_0 (a0_0 == 5) a0_0 a0_1 a0_2 a0_3) else (spec_ActOk.j0 k a0_0 (a0_0 == 6) a0_0 a0_1 a0_2 a0_3))
theorem spec_ActOk.calls (k : Nat) (a0_0 : Int) (a0_1 : Int) (a0_2 : Int) (a0_3 : Int) (r : Bool) (w : World) (h : spec_ActOk.f k a0_0 a0_1 a0_2 a0_3 = some r) :
  Calls Tryz.prog 46 #[.agg #[.int .i64 a0_0, .int .i64 a0_1, .int .i64 a0_2, .int .i64 a0_3]] w fun e w' => e = .returned (.bool r) ∧ Below w.heap.size w w' := by
 unfold spec_ActOk.f at h
 have hu41 := Tryz.underlying41
 (repeat' first | ((with_reducible replace h := ite_some h); rcases h with ⟨hc, h⟩ | ⟨hc, h⟩ <;> first | exact (none_some h).elim | exact absurd hc (by decide) | subst hc | (replace hc := hF_ hc; subst hc) | (replace hc := hG_ hc; subst hc) | (replace hc := hH_ hc; subst hc) | (have hd : (_ == _) = true := hc) | (have hd : (_ == _) = false := hF_ hc) | (have hd := hI_ hc; have he := hJ_ hc; clear hc) | (have hd := hK_ hc; have he := hL_ hc) | (have hd := decide_eq_false hc) | (have hd := decide_eq_true hc; (try (have hn := Int.natCast_pos.mp hc; have hm := decide_eq_true hn; replace hn := eq_true hn)); first | (obtain ⟨g_, e_, i_⟩ := form_ (by assumption) (by first | assumption | decide) hc; cases e_) | (obtain ⟨a_, e_, c_⟩ := atI_ (by assumption) (by first | assumption | decide) hc; cases e_)) | (have hd := decide_eq_true hc) | skip) | ((with_reducible have hj : spec_ActOk.j0 k _ _ _ _ _ _ = _ := h); clear hj; rcases k with _ | k <;> rw [spec_ActOk.j0] at h <;> first | exact (none_some h).elim | skip) | ((with_reducible replace h := bind_set_ h); obtain ⟨hl_, h⟩ := h; replace hl_ := A_ hl_; (try dsimp only at h)))
 all_goals go_enter Tryz.func46, Tryz.ntmps46
 all_goals go_wp2_with ((first
  | ((with_reducible refine gate_dst (N := 1) rfl ?_); refine box_event rfl (N := 1) rfl (cs := #[.int .i64 a0_0, .int .i64 a0_1, .int .i64 a0_2, .int .i64 a0_3]) (t := 41) (by first | (go_simp; done) | (go_simp; rfl)) ?_; intro g hg w1 hk hb; have j1 := Born.mk hg; have j2 := Bel.mk hb; have j3 := Blk.mk hk; clear hg hb hk)
  | (go_at_call 88; (try rw [hl_.out]); replace h := Option.bind_eq_some_iff.mp h; obtain ⟨t, A, h⟩ := h; (try dsimp only at h); refine (spec_l01In.calls _ _ _ _ _ A).mono ?_; rintro e w2 ⟨rfl, n, rfl⟩; clear A)); (repeat' first | ((with_reducible replace h := ite_some h); rcases h with ⟨hc, h⟩ | ⟨hc, h⟩ <;> first | exact (none_some h).elim | exact absurd hc (by decide) | subst hc | (replace hc := hF_ hc; subst hc) | (replace hc := hG_ hc; subst hc) | (replace hc := hH_ hc; subst hc) | (have hd : (_ == _) = true := hc) | (have hd : (_ == _) = false := hF_ hc) | (have hd := hI_ hc; have he := hJ_ hc; clear hc) | (have hd := hK_ hc; have he := hL_ hc) | (have hd := decide_eq_false hc) | (have hd := decide_eq_true hc; (try (have hn := Int.natCast_pos.mp hc; have hm := decide_eq_true hn; replace hn := eq_true hn)); first | (obtain ⟨g_, e_, i_⟩ := form_ (by assumption) (by first | assumption | decide) hc; cases e_) | (obtain ⟨a_, e_, c_⟩ := atI_ (by assumption) (by first | assumption | decide) hc; cases e_)) | (have hd := decide_eq_true hc) | skip) | ((with_reducible have hj : spec_ActOk.j0 k _ _ _ _ _ _ = _ := h); clear hj; rcases k with _ | k <;> rw [spec_ActOk.j0] at h <;> first | exact (none_some h).elim | skip) | ((with_reducible replace h := bind_set_ h); obtain ⟨hl_, h⟩ := h; replace hl_ := A_ hl_; (try dsimp only at h))))
 all_goals obtain rfl := Option.some.inj h
 all_goals go_ret
 all_goals exact ⟨(by first | rfl | (simp_all; done)), From.out⟩
def spec_MendStep.f (k : Nat) (l0_0 : List (S112)) (a0_1 : Int) (l0_2 : List Int) : Option ((List (S112)) × Int × List Int × Bool) := (spec_l36Copy.f l0_0 a0_1 l0_2).bind fun bt192 => ((spec_WrongSteps.f k l0_0 a0_1 l0_2).bind fun t200 => (if (t200.length : Int) = 0 then (some (bt192.1, bt192.2.1, bt192.2.2, false)) else (if 0 < (t200.length : Int) then (if 0 ≤ (rd t200 0) then (if (rd t200 0) < (l0_0.length : Int) then (if 0 ≤ ((rd_T112 l0_0 (rd t200 0)).f0) then (if ((rd_T112 l0_0 (rd t200 0)).f0) < (l0_2.length : Int) then ((spec_TunedPitch.f k (rd l0_2 ((rd_T112 l0_0 (rd t200 0)).f0)) ((rd_T112 l0_0 (rd t200 0)).f2) ((rd_T112 l0_0 (rd t200 0)).f3)).bind fun t207 => (if t207 = 0 then (some (bt192.1, bt192.2.1, bt192.2.2, false)) else (if 0 ≤ ((rd_T112 l0_0 (rd t200 0)).f1) then (if ((rd_T112 l0_0 (rd t200 0)).f1) < (bt192.2.2.length : Int) then (some (bt192.1, bt192.2.1, (bt192.2.2.set (((rd_T112 l0_0 (rd t200 0)).f1) : Int).toNat t207), true)) else (none)) else (none)))) else (none)) else (none)) else (none)) else (none)) else (none))))
def spec_MendStep.T5 : Bool × List (List Nat × List Nat) := (true, [([], []), ([0], [0]), ([], []), ([2], [2]), ([3], [3]), ([1, 4], [1, 4]), ([5], [5]), ([], []), ([7, 6, 0, 1, 2, 3, 4, 5, 6, 7], [6, 7])])
def spec_MendStep.B5 : List Nat := [0, 1, 0, 4, 12, 31, 63, 0, 255]
theorem spec_MendStep.tab5 : rtab .any (opsOf Tryz.f97 5) = spec_MendStep.T5 := by kernel_rfl
theorem spec_MendStep.bits5 : waitsOk spec_MendStep.T5.2 spec_MendStep.B5 = true := by kernel_rfl
def spec_MendStep.T6 : Bool × List (List Nat × List Nat) := (true, [([], []), ([0], [0]), ([], []), ([2], [2]), ([1, 3], [1, 3]), ([4], [4]), ([], []), ([6], [6]), ([], []), ([8], [8]), ([5, 7, 9], [5, 7, 9]), ([10, 10, 0, 1, 2, 3, 4, 5, 6, 7, 8, 9, 10], [10])])
def spec_MendStep.B6 : List Nat := [0, 1, 0, 4, 15, 31, 0, 64, 0, 256, 1023, 2047]
theorem spec_MendStep.tab6 : rtab .any (opsOf Tryz.f97 6) = spec_MendStep.T6 := by kernel_rfl
theorem spec_MendStep.bits6 : waitsOk spec_MendStep.T6.2 spec_MendStep.B6 = true := by kernel_rfl
theorem spec_MendStep.calls (k : Nat) (A0_0 : Option Addr) (c0_0 : Nat) (l0_0 : List (S112)) (a0_1 : Int) (A0_2 : Option Addr) (c0_2 : Nat) (l0_2 : List Int) (r1 : List (S112)) (r2 : Int) (r3 : List Int) (r4 : Bool) (w : World) (hr0_0 : Kd.C k112 w A0_0 l0_0.length l0_0) (hc0_0 : l0_0.length ≤ c0_0) (hr0_2 : Kd.C (Kd.int .i64) w A0_2 l0_2.length l0_2) (hc0_2 : l0_2.length ≤ c0_2) (h : spec_MendStep.f k l0_0 a0_1 l0_2 = some (r1, r2, r3, r4)) :
  Calls Tryz.prog 97 #[.agg #[.slice A0_0 l0_0.length c0_0, .int .i64 a0_1, .slice A0_2 l0_2.length c0_2]] w fun e w' => ∃ v0_ v2_ : Value, e = .returned (.tuple #[.agg #[v0_, .int .i64 r2, v2_], .bool r4]) ∧ Kd.R k112 112 w' w.heap.size (fun _ => True) v0_ r1 ∧ Kd.R (Kd.int .i64) 3 w' w.heap.size (fun _ => True) v2_ r3 ∧ Below w.heap.size w w' := by
 replace hr0_0 := RdE.mk hr0_0
 replace hc0_0 := LeI.mk hc0_0
 replace hr0_2 := RdE.mk hr0_2
 replace hc0_2 := LeI.mk hc0_2
 have nt112_3 := NeT.mk (d := k112) (e := 112) (t := 3) (by decide)
 have nt112_34 := NeT.mk (d := k112) (e := 112) (t := 34) (by decide)
 unfold spec_MendStep.f at h
 have hu34 := Tryz.underlying34
 have hu112 := Tryz.underlying112
 (repeat' first | ((with_reducible replace h := ite_some h); rcases h with ⟨hc, h⟩ | ⟨hc, h⟩ <;> first | exact (none_some h).elim | exact absurd hc (by decide) | subst hc | (replace hc := hF_ hc; subst hc) | (replace hc := hG_ hc; subst hc) | (replace hc := hH_ hc; subst hc) | (have hd : (_ == _) = true := hc) | (have hd : (_ == _) = false := hF_ hc) | (have hd := hI_ hc; have he := hJ_ hc; clear hc) | (have hd := hK_ hc; have he := hL_ hc) | (have hd := decide_eq_false hc) | (have hd := decide_eq_true hc; (try (have hn := Int.natCast_pos.mp hc; have hm := decide_eq_true hn; replace hn := eq_true hn)); first | (obtain ⟨g_, e_, i_⟩ := form_ (by assumption) (by first | assumption | decide) hc; cases e_) | (obtain ⟨a_, e_, c_⟩ := atI_ (by assumption) (by first | assumption | decide) hc; cases e_) | (obtain ⟨a_, e_, c0_, c1_, c2_, c3_⟩ := at_T112 (RdE.out (self := by assumption)) _ (by first | assumption | decide) hc; cases e_; replace c0_ := CelE.mk c0_; replace c1_ := CelE.mk c1_; replace c2_ := CelE.mk c2_; replace c3_ := CelE.mk c3_)) | (have hd := decide_eq_true hc) | skip) | ((with_reducible replace h := bind_set_ h); obtain ⟨hl_, h⟩ := h; replace hl_ := A_ hl_; (try dsimp only at h)))
 all_goals go_enter Tryz.func97, Tryz.ntmps97
 all_goals go_wp2_with ((first
  | ((with_reducible refine gate_dst (N := 1) rfl ?_); refine box_event rfl (N := 1) rfl (cs := #[.slice A0_0 l0_0.length c0_0, .int .i64 a0_1, .slice A0_2 l0_2.length c0_2]) (t := 34) (by first | (go_simp; done) | (go_simp; rfl)) ?_; intro g hg w1 hk hb; have j1 := Born.mk hg; have j2 := Bel.mk hb; have j3 := Blk.mk hk; clear hg hb hk)
  | ((with_reducible refine gate_dst (N := 2) rfl ?_); refine box_event rfl (N := 2) rfl (cs := #[.slice none 0 0, .int .i64 0, .slice none 0 0]) (t := 34) (by first | (go_simp; done) | (go_simp; rfl)) ?_; intro g hg w1 hk hb; have j1 := Born.mk hg; have j2 := Bel.mk hb; have j3 := Blk.mk hk; clear hg hb hk)
  | ((with_reducible refine gate_dst (N := 4) rfl ?_); refine box_event rfl (N := 4) rfl (cs := #[.slice none 0 0, .int .i64 0, .slice none 0 0]) (t := 34) (by first | (go_simp; done) | (go_simp; rfl)) ?_; intro g hg w1 hk hb; have j1 := Born.mk hg; have j2 := Bel.mk hb; have j3 := Blk.mk hk; clear hg hb hk)
  | (go_at_call 95; (try rw [hl_.out]); replace h := Option.bind_eq_some_iff.mp h; obtain ⟨⟨t1, t2, t3⟩, A, h⟩ := h; (try dsimp only at h); refine (spec_l36Copy.calls _ _ _ _ _ _ _ _ _ _ _ Rd.out LeI.out Rd.out LeI.out A).mono ?_; rintro e w2 ⟨v0, v1, rfl, ho0, ho1, hb⟩; obtain ⟨B0, b0, rfl⟩ := Kd.R_slice ho0; have j0 := RowE.mk ho0; have q0 := LeI.mk (rowLe j0); obtain ⟨B1, b1, rfl⟩ := Kd.R_slice ho1; have j1 := RowE.mk ho1; have q1 := LeI.mk (rowLe j1); have jb := Bel.mk hb; clear A ho0 ho1 hb)
  | (go_at_call 83; (try rw [hl_.out]); replace h := Option.bind_eq_some_iff.mp h; obtain ⟨t, A, h⟩ := h; (try dsimp only at h); refine (spec_WrongSteps.calls _ _ _ _ _ _ _ _ _ _ Rd.out LeI.out Rd.out LeI.out A).mono ?_; rintro e w2 ⟨v0, rfl, ho0, hb⟩; obtain ⟨B0, b0, rfl⟩ := Kd.R_slice ho0; have j0 := RowE.mk ho0; have q0 := LeI.mk (rowLe j0); have jb := Bel.mk hb; clear A ho0 hb)
  | (refine qR (id := 5) (ds := []) (l := #[false, false, false, false, false, false, false, false, false]) spec_MendStep.tab5 spec_MendStep.bits5 ?_; intro HT_ HW_ w3 jw u0 iu hHeld; refine qA 0 (some 16) HT_ ?_; refine qA 2 (some 18) HT_ ?_; refine qA 3 (some 19) HT_ ?_; refine qT 1 (some 17) HT_ HW_ hHeld ?_; refine qT 4 (some 20) HT_ HW_ hHeld ?_; refine qA 5 (some 21) HT_ ?_; refine qT 6 (some 22) HT_ HW_ hHeld ?_; refine qB 7 6 #[.int .i64 0, .int .i64 0, .int .i64 0, .int .i64 0] 112 HT_ hHeld fun gx jb1 wx jb2 jb3 hHeld => ?_; refine qS 8 HT_ fun hHeld => ?_; refine qD HT_ ?_)
  | (refine qR (id := 6) (ds := []) (l := #[false, false, false, false, false, false, false, false, false, false, false, false]) spec_MendStep.tab6 spec_MendStep.bits6 ?_; intro HT_ HW_ w3 jw u0 iu hHeld; refine qA 0 (some 23) HT_ ?_; refine qA 2 (some 25) HT_ ?_; refine qA 6 (some 29) HT_ ?_; refine qA 8 (some 31) HT_ ?_; refine qT 1 (some 24) HT_ HW_ hHeld ?_; refine qT 3 (some 26) HT_ HW_ hHeld ?_; refine qA 4 (some 27) HT_ ?_; refine qT 5 (some 28) HT_ HW_ hHeld ?_; refine qT 7 (some 30) HT_ HW_ hHeld ?_; refine qT 9 (some 32) HT_ HW_ hHeld ?_; replace h := Option.bind_eq_some_iff.mp h; obtain ⟨t, A, h⟩ := h; (try dsimp only at h); refine qC 10 33 Tryz.func122 HT_ fun K hK => ?_; refine (spec_TunedPitch.calls _ _ _ _ _ _ A).mono ?_; rintro e w2 ⟨rfl, hb⟩; have jb := Bel.mk hb; clear A hb; refine ⟨_, rfl, hK _ _ From.out fun hHeld => ?_⟩; clear hK K; refine qN ?_; refine qA 11 (some 7) HT_ ?_; refine qD HT_ ?_)); (repeat' first | ((with_reducible replace h := ite_some h); rcases h with ⟨hc, h⟩ | ⟨hc, h⟩ <;> first | exact (none_some h).elim | exact absurd hc (by decide) | subst hc | (replace hc := hF_ hc; subst hc) | (replace hc := hG_ hc; subst hc) | (replace hc := hH_ hc; subst hc) | (have hd : (_ == _) = true := hc) | (have hd : (_ == _) = false := hF_ hc) | (have hd := hI_ hc; have he := hJ_ hc; clear hc) | (have hd := hK_ hc; have he := hL_ hc) | (have hd := decide_eq_false hc) | (have hd := decide_eq_true hc; (try (have hn := Int.natCast_pos.mp hc; have hm := decide_eq_true hn; replace hn := eq_true hn)); first | (obtain ⟨g_, e_, i_⟩ := form_ (by assumption) (by first | assumption | decide) hc; cases e_) | (obtain ⟨a_, e_, c_⟩ := atI_ (by assumption) (by first | assumption | decide) hc; cases e_) | (obtain ⟨a_, e_, c0_, c1_, c2_, c3_⟩ := at_T112 (RdE.out (self := by assumption)) _ (by first | assumption | decide) hc; cases e_; replace c0_ := CelE.mk c0_; replace c1_ := CelE.mk c1_; replace c2_ := CelE.mk c2_; replace c3_ := CelE.mk c3_)) | (have hd := decide_eq_true hc) | skip) | ((with_reducible replace h := bind_set_ h); obtain ⟨hl_, h⟩ := h; replace hl_ := A_ hl_; (try dsimp only at h))); all_goals (try have hn : decide (0 < t.length) = true := decide_eq_true (by omega)); all_goals (try have hn : decide (0 < t.length) = false := decide_eq_false (by omega)))
 all_goals simp only [Option.some.injEq, Prod.mk.injEq] at h
 all_goals obtain ⟨rfl, rfl, rfl, rfl⟩ := h
 all_goals refine bodyPost_ret (results_ct rfl _ _ _ _ _ (0, 0) _ rfl Blk.out Tryz.underlying34 rfl (by kernel_rfl)) rfl ?_
 all_goals exact ⟨_, _, rfl, (by first | exact rowFin | exact Kd.R_nil _ _ _ _ _ | exact atFin | exact irowFin' (by simp)), (by first | exact rowFin | exact Kd.R_nil _ _ _ _ _ | exact atFin | exact irowFin' (by simp)), From.out⟩
def spec_WorkStep.j0 : Nat → Bool → List (S112) → Int → List Int → List (S112) → Int → List Int → Option ((List (S112)) × Int × List Int × Bool)
 | 0, _, _, _, _, _, _, _ => none
 | k + 1, x19, x210000, x210001, x210002, x219000, x219001, x219002 => if x19 = true then (some (x219000, x219001, x219002, false)) else (if 0 ≤ x210001 then (if x210001 < (x210000.length : Int) then (if 0 ≤ ((rd_T112 x210000 x210001).f0) then (if ((rd_T112 x210000 x210001).f0) < (x210002.length : Int) then ((spec_TunedPitch.f k (rd x210002 ((rd_T112 x210000 x210001).f0)) ((rd_T112 x210000 x210001).f2) ((rd_T112 x210000 x210001).f3)).bind fun t223 => (if t223 = 0 then (some (x219000, x219001, x219002, false)) else (if 0 ≤ ((rd_T112 x210000 x210001).f1) then (if ((rd_T112 x210000 x210001).f1) < (x219002.length : Int) then (some (x219000, wrap64 (x210001 + 1), (x219002.set (((rd_T112 x210000 x210001).f1) : Int).toNat t223), true)) else (none)) else (none)))) else (none)) else (none)) else (none)) else (none))
def spec_WorkStep.f (k : Nat) (l0_0 : List (S112)) (a0_1 : Int) (l0_2 : List Int) : Option ((List (S112)) × Int × List Int × Bool) := (spec_l36Copy.f l0_0 a0_1 l0_2).bind fun bt211 => ((spec_WorkOk.f k l0_0 a0_1 l0_2).bind fun t219 => (if t219 = true then (spec_WorkStep.j0 k (a0_1 == (l0_0.length : Int)) l0_0 a0_1 l0_2 bt211.1 bt211.2.1 bt211.2.2) else (spec_WorkStep.j0 k true l0_0 a0_1 l0_2 bt211.1 bt211.2.1 bt211.2.2)))
def spec_WorkStep.T5 : Bool × List (List Nat × List Nat) := (true, [([], []), ([0], [0]), ([], []), ([2], [2]), ([1, 3], [1, 3]), ([4], [4]), ([], []), ([6], [6]), ([], []), ([8], [8]), ([5, 7, 9], [5, 7, 9]), ([10, 10, 0, 1, 2, 3, 4, 5, 6, 7, 8, 9, 10], [10])])
def spec_WorkStep.B5 : List Nat := [0, 1, 0, 4, 15, 31, 0, 64, 0, 256, 1023, 2047]
theorem spec_WorkStep.tab5 : rtab .any (opsOf Tryz.f98 5) = spec_WorkStep.T5 := by kernel_rfl
theorem spec_WorkStep.bits5 : waitsOk spec_WorkStep.T5.2 spec_WorkStep.B5 = true := by kernel_rfl
theorem spec_WorkStep.calls (k : Nat) (A0_0 : Option Addr) (c0_0 : Nat) (l0_0 : List (S112)) (a0_1 : Int) (A0_2 : Option Addr) (c0_2 : Nat) (l0_2 : List Int) (r1 : List (S112)) (r2 : Int) (r3 : List Int) (r4 : Bool) (w : World) (hr0_0 : Kd.C k112 w A0_0 l0_0.length l0_0) (hc0_0 : l0_0.length ≤ c0_0) (hr0_2 : Kd.C (Kd.int .i64) w A0_2 l0_2.length l0_2) (hc0_2 : l0_2.length ≤ c0_2) (h : spec_WorkStep.f k l0_0 a0_1 l0_2 = some (r1, r2, r3, r4)) :
  Calls Tryz.prog 98 #[.agg #[.slice A0_0 l0_0.length c0_0, .int .i64 a0_1, .slice A0_2 l0_2.length c0_2]] w fun e w' => ∃ v0_ v2_ : Value, e = .returned (.tuple #[.agg #[v0_, .int .i64 r2, v2_], .bool r4]) ∧ Kd.R k112 112 w' w.heap.size (fun _ => True) v0_ r1 ∧ Kd.R (Kd.int .i64) 3 w' w.heap.size (fun _ => True) v2_ r3 ∧ Below w.heap.size w w' := by
 replace hr0_0 := RdE.mk hr0_0
 replace hc0_0 := LeI.mk hc0_0
 replace hr0_2 := RdE.mk hr0_2
 replace hc0_2 := LeI.mk hc0_2
 have nt112_3 := NeT.mk (d := k112) (e := 112) (t := 3) (by decide)
 have nt112_34 := NeT.mk (d := k112) (e := 112) (t := 34) (by decide)
 unfold spec_WorkStep.f at h
 have hu34 := Tryz.underlying34
 have hu112 := Tryz.underlying112
 (repeat' first | ((with_reducible replace h := ite_some h); rcases h with ⟨hc, h⟩ | ⟨hc, h⟩ <;> first | exact (none_some h).elim | exact absurd hc (by decide) | subst hc | (replace hc := hF_ hc; subst hc) | (replace hc := hG_ hc; subst hc) | (replace hc := hH_ hc; subst hc) | (have hd : (_ == _) = true := hc) | (have hd : (_ == _) = false := hF_ hc) | (have hd := hI_ hc; have he := hJ_ hc; clear hc) | (have hd := hK_ hc; have he := hL_ hc) | (have hd := decide_eq_false hc) | (have hd := decide_eq_true hc; (try (have hn := Int.natCast_pos.mp hc; have hm := decide_eq_true hn; replace hn := eq_true hn)); first | (obtain ⟨g_, e_, i_⟩ := form_ (by assumption) (by first | assumption | decide) hc; cases e_) | (obtain ⟨a_, e_, c_⟩ := atI_ (by assumption) (by first | assumption | decide) hc; cases e_) | (obtain ⟨a_, e_, c0_, c1_, c2_, c3_⟩ := at_T112 (RdE.out (self := by assumption)) _ (by first | assumption | decide) hc; cases e_; replace c0_ := CelE.mk c0_; replace c1_ := CelE.mk c1_; replace c2_ := CelE.mk c2_; replace c3_ := CelE.mk c3_)) | (have hd := decide_eq_true hc) | skip) | ((with_reducible have hj : spec_WorkStep.j0 k _ _ _ _ _ _ _ = _ := h); clear hj; rcases k with _ | k <;> rw [spec_WorkStep.j0] at h <;> first | exact (none_some h).elim | skip) | ((with_reducible replace h := bind_set_ h); obtain ⟨hl_, h⟩ := h; replace hl_ := A_ hl_; (try dsimp only at h)))
 all_goals go_enter Tryz.func98, Tryz.ntmps98
 all_goals go_wp2_with ((first
  | ((with_reducible refine gate_dst (N := 1) rfl ?_); refine box_event rfl (N := 1) rfl (cs := #[.slice A0_0 l0_0.length c0_0, .int .i64 a0_1, .slice A0_2 l0_2.length c0_2]) (t := 34) (by first | (go_simp; done) | (go_simp; rfl)) ?_; intro g hg w1 hk hb; have j1 := Born.mk hg; have j2 := Bel.mk hb; have j3 := Blk.mk hk; clear hg hb hk)
  | ((with_reducible refine gate_dst (N := 2) rfl ?_); refine box_event rfl (N := 2) rfl (cs := #[.slice none 0 0, .int .i64 0, .slice none 0 0]) (t := 34) (by first | (go_simp; done) | (go_simp; rfl)) ?_; intro g hg w1 hk hb; have j1 := Born.mk hg; have j2 := Bel.mk hb; have j3 := Blk.mk hk; clear hg hb hk)
  | ((with_reducible refine gate_dst (N := 4) rfl ?_); refine box_event rfl (N := 4) rfl (cs := #[.slice none 0 0, .int .i64 0, .slice none 0 0]) (t := 34) (by first | (go_simp; done) | (go_simp; rfl)) ?_; intro g hg w1 hk hb; have j1 := Born.mk hg; have j2 := Bel.mk hb; have j3 := Blk.mk hk; clear hg hb hk)
  | ((with_reducible refine gate_dst (N := 5) rfl ?_); refine box_event rfl (N := 5) rfl (cs := #[.int .i64 0, .int .i64 0, .int .i64 0, .int .i64 0]) (t := 112) (by first | (go_simp; done) | (go_simp; rfl)) ?_; intro g hg w1 hk hb; have j1 := Born.mk hg; have j2 := Bel.mk hb; have j3 := Blk.mk hk; clear hg hb hk)
  | (go_at_call 95; (try rw [hl_.out]); replace h := Option.bind_eq_some_iff.mp h; obtain ⟨⟨t1, t2, t3⟩, A, h⟩ := h; (try dsimp only at h); refine (spec_l36Copy.calls _ _ _ _ _ _ _ _ _ _ _ Rd.out LeI.out Rd.out LeI.out A).mono ?_; rintro e w2 ⟨v0, v1, rfl, ho0, ho1, hb⟩; obtain ⟨B0, b0, rfl⟩ := Kd.R_slice ho0; have j0 := RowE.mk ho0; have q0 := LeI.mk (rowLe j0); obtain ⟨B1, b1, rfl⟩ := Kd.R_slice ho1; have j1 := RowE.mk ho1; have q1 := LeI.mk (rowLe j1); have jb := Bel.mk hb; clear A ho0 ho1 hb)
  | (go_at_call 86; (try rw [hl_.out]); replace h := Option.bind_eq_some_iff.mp h; obtain ⟨t, A, h⟩ := h; (try dsimp only at h); refine (spec_WorkOk.calls _ _ _ _ _ _ _ _ _ _ Rd.out LeI.out Rd.out LeI.out A).mono ?_; rintro e w2 ⟨rfl, hb⟩; have jb := Bel.mk hb; clear A hb)
  | (refine qR (id := 5) (ds := []) (l := #[false, false, false, false, false, false, false, false, false, false, false, false]) spec_WorkStep.tab5 spec_WorkStep.bits5 ?_; intro HT_ HW_ w3 jw u0 iu hHeld; refine qA 0 (some 27) HT_ ?_; refine qA 2 (some 29) HT_ ?_; refine qA 6 (some 33) HT_ ?_; refine qA 8 (some 35) HT_ ?_; refine qT 1 (some 28) HT_ HW_ hHeld ?_; refine qT 3 (some 30) HT_ HW_ hHeld ?_; refine qA 4 (some 31) HT_ ?_; refine qT 5 (some 32) HT_ HW_ hHeld ?_; refine qT 7 (some 34) HT_ HW_ hHeld ?_; refine qT 9 (some 36) HT_ HW_ hHeld ?_; replace h := Option.bind_eq_some_iff.mp h; obtain ⟨t, A, h⟩ := h; (try dsimp only at h); refine qC 10 37 Tryz.func122 HT_ fun K hK => ?_; refine (spec_TunedPitch.calls _ _ _ _ _ _ A).mono ?_; rintro e w2 ⟨rfl, hb⟩; have jb := Bel.mk hb; clear A hb; refine ⟨_, rfl, hK _ _ From.out fun hHeld => ?_⟩; clear hK K; refine qN ?_; refine qA 11 (some 6) HT_ ?_; refine qD HT_ ?_)); (repeat' first | ((with_reducible replace h := ite_some h); rcases h with ⟨hc, h⟩ | ⟨hc, h⟩ <;> first | exact (none_some h).elim | exact absurd hc (by decide) | subst hc | (replace hc := hF_ hc; subst hc) | (replace hc := hG_ hc; subst hc) | (replace hc := hH_ hc; subst hc) | (have hd : (_ == _) = true := hc) | (have hd : (_ == _) = false := hF_ hc) | (have hd := hI_ hc; have he := hJ_ hc; clear hc) | (have hd := hK_ hc; have he := hL_ hc) | (have hd := decide_eq_false hc) | (have hd := decide_eq_true hc; (try (have hn := Int.natCast_pos.mp hc; have hm := decide_eq_true hn; replace hn := eq_true hn)); first | (obtain ⟨g_, e_, i_⟩ := form_ (by assumption) (by first | assumption | decide) hc; cases e_) | (obtain ⟨a_, e_, c_⟩ := atI_ (by assumption) (by first | assumption | decide) hc; cases e_) | (obtain ⟨a_, e_, c0_, c1_, c2_, c3_⟩ := at_T112 (RdE.out (self := by assumption)) _ (by first | assumption | decide) hc; cases e_; replace c0_ := CelE.mk c0_; replace c1_ := CelE.mk c1_; replace c2_ := CelE.mk c2_; replace c3_ := CelE.mk c3_)) | (have hd := decide_eq_true hc) | skip) | ((with_reducible have hj : spec_WorkStep.j0 k _ _ _ _ _ _ _ = _ := h); clear hj; rcases k with _ | k <;> rw [spec_WorkStep.j0] at h <;> first | exact (none_some h).elim | skip) | ((with_reducible replace h := bind_set_ h); obtain ⟨hl_, h⟩ := h; replace hl_ := A_ hl_; (try dsimp only at h))))
 all_goals simp only [Option.some.injEq, Prod.mk.injEq] at h
 all_goals obtain ⟨rfl, rfl, rfl, rfl⟩ := h
 all_goals refine bodyPost_ret (results_ct rfl _ _ _ _ _ (0, 0) _ rfl Blk.out Tryz.underlying34 rfl (by kernel_rfl)) rfl ?_
 all_goals exact ⟨_, _, rfl, (by first | exact rowFin | exact Kd.R_nil _ _ _ _ _ | exact atFin | exact irowFin' (by simp)), (by first | exact rowFin | exact Kd.R_nil _ _ _ _ _ | exact atFin | exact irowFin' (by simp)), From.out⟩
def spec_KnockKey.j0 : Nat → Int → Int → Bool → List (S112) → Int → List Int → List (S112) → Int → List Int → Option ((List (S112)) × Int × List Int × Bool)
 | 0, _, _, _, _, _, _, _, _, _ => none
 | k + 1, x1, x2, x31, x353000, x353001, x353002, x362000, x362001, x362002 => if x31 = true then (some (x362000, x362001, x362002, false)) else (if 0 ≤ x1 then (if x1 < (x362002.length : Int) then ((some (x362002.set (x1 : Int).toNat (wrap64 ((rd x362002 x1) + x2)) : List Int)).bind fun y367 => ((spec_WorkOk.f k x362000 x362001 y367).bind fun t368 => (if t368 = true then (some (x362000, x362001, y367, true)) else ((spec_l36Copy.f x353000 x353001 x353002).bind fun bt369 => (some (bt369.1, bt369.2.1, bt369.2.2, false)))))) else (none)) else (none))
def spec_KnockKey.f (k : Nat) (l0_0 : List (S112)) (a0_1 : Int) (l0_2 : List Int) (a1 : Int) (a2 : Int) : Option ((List (S112)) × Int × List Int × Bool) := (spec_l36Copy.f l0_0 a0_1 l0_2).bind fun bt354 => ((spec_WorkOk.f k l0_0 a0_1 l0_2).bind fun t362 => (if t362 = true then ((spec_l01In.f a1 0 11).bind fun t363 => (if t363 = true then ((spec_l01In.f a2 (-100000) 100000).bind fun t364 => (if t364 = true then (if 0 ≤ a1 then (if a1 < (l0_2.length : Int) then (spec_KnockKey.j0 k a1 a2 ((rd l0_2 a1) == 0) l0_0 a0_1 l0_2 bt354.1 bt354.2.1 bt354.2.2) else (none)) else (none)) else (spec_KnockKey.j0 k a1 a2 true l0_0 a0_1 l0_2 bt354.1 bt354.2.1 bt354.2.2))) else (spec_KnockKey.j0 k a1 a2 true l0_0 a0_1 l0_2 bt354.1 bt354.2.1 bt354.2.2))) else (spec_KnockKey.j0 k a1 a2 true l0_0 a0_1 l0_2 bt354.1 bt354.2.1 bt354.2.2)))
def spec_KnockKey.T4 : Bool × List (List Nat × List Nat) := (true, [([], []), ([0], [0]), ([], []), ([], []), ([3], [3]), ([], []), ([4, 5], [4, 5]), ([6], [6]), ([], []), ([7, 8], [7, 8]), ([1, 2, 0, 1, 2, 3, 4, 5, 6, 7, 8, 9], [1, 2]), ([10, 9, 0, 1, 2, 3, 4, 5, 6, 7, 8, 9], [9, 10])])
def spec_KnockKey.B4 : List Nat := [0, 1, 0, 0, 8, 0, 56, 120, 0, 504, 1023, 2047]
theorem spec_KnockKey.tab4 : rtab .any (opsOf Tryz.f100 4) = spec_KnockKey.T4 := by kernel_rfl
theorem spec_KnockKey.bits4 : waitsOk spec_KnockKey.T4.2 spec_KnockKey.B4 = true := by kernel_rfl
theorem spec_KnockKey.calls (k : Nat) (A0_0 : Option Addr) (c0_0 : Nat) (l0_0 : List (S112)) (a0_1 : Int) (A0_2 : Option Addr) (c0_2 : Nat) (l0_2 : List Int) (a1 : Int) (a2 : Int) (r1 : List (S112)) (r2 : Int) (r3 : List Int) (r4 : Bool) (w : World) (hr0_0 : Kd.C k112 w A0_0 l0_0.length l0_0) (hc0_0 : l0_0.length ≤ c0_0) (hr0_2 : Kd.C (Kd.int .i64) w A0_2 l0_2.length l0_2) (hc0_2 : l0_2.length ≤ c0_2) (h : spec_KnockKey.f k l0_0 a0_1 l0_2 a1 a2 = some (r1, r2, r3, r4)) :
  Calls Tryz.prog 100 #[.agg #[.slice A0_0 l0_0.length c0_0, .int .i64 a0_1, .slice A0_2 l0_2.length c0_2], .int .i64 a1, .int .i64 a2] w fun e w' => ∃ v0_ v2_ : Value, e = .returned (.tuple #[.agg #[v0_, .int .i64 r2, v2_], .bool r4]) ∧ Kd.R k112 112 w' w.heap.size (fun _ => True) v0_ r1 ∧ Kd.R (Kd.int .i64) 3 w' w.heap.size (fun _ => True) v2_ r3 ∧ Below w.heap.size w w' := by
 replace hr0_0 := RdE.mk hr0_0
 replace hc0_0 := LeI.mk hc0_0
 replace hr0_2 := RdE.mk hr0_2
 replace hc0_2 := LeI.mk hc0_2
 have nt112_3 := NeT.mk (d := k112) (e := 112) (t := 3) (by decide)
 have nt112_34 := NeT.mk (d := k112) (e := 112) (t := 34) (by decide)
 unfold spec_KnockKey.f at h
 have hu34 := Tryz.underlying34
 (repeat' first | ((with_reducible replace h := ite_some h); rcases h with ⟨hc, h⟩ | ⟨hc, h⟩ <;> first | exact (none_some h).elim | exact absurd hc (by decide) | subst hc | (replace hc := hF_ hc; subst hc) | (replace hc := hG_ hc; subst hc) | (replace hc := hH_ hc; subst hc) | (have hd : (_ == _) = true := hc) | (have hd : (_ == _) = false := hF_ hc) | (have hd := hI_ hc; have he := hJ_ hc; clear hc) | (have hd := hK_ hc; have he := hL_ hc) | (have hd := decide_eq_false hc) | (have hd := decide_eq_true hc; (try (have hn := Int.natCast_pos.mp hc; have hm := decide_eq_true hn; replace hn := eq_true hn)); first | (obtain ⟨g_, e_, i_⟩ := form_ (by assumption) (by first | assumption | decide) hc; cases e_) | (obtain ⟨a_, e_, c_⟩ := atI_ (by assumption) (by first | assumption | decide) hc; cases e_)) | (have hd := decide_eq_true hc) | skip) | ((with_reducible have hj : spec_KnockKey.j0 k _ _ _ _ _ _ _ _ _ = _ := h); clear hj; rcases k with _ | k <;> rw [spec_KnockKey.j0] at h <;> first | exact (none_some h).elim | skip) | ((with_reducible replace h := bind_set_ h); obtain ⟨hl_, h⟩ := h; replace hl_ := A_ hl_; (try dsimp only at h)))
 all_goals go_enter Tryz.func100, Tryz.ntmps100
 all_goals go_wp2_with ((first
  | ((with_reducible refine gate_dst (N := 3) rfl ?_); refine box_event rfl (N := 3) rfl (cs := #[.slice A0_0 l0_0.length c0_0, .int .i64 a0_1, .slice A0_2 l0_2.length c0_2]) (t := 34) (by first | (go_simp; done) | (go_simp; rfl)) ?_; intro g hg w1 hk hb; have j1 := Born.mk hg; have j2 := Bel.mk hb; have j3 := Blk.mk hk; clear hg hb hk)
  | ((with_reducible refine gate_dst (N := 6) rfl ?_); refine box_event rfl (N := 6) rfl (cs := #[.slice none 0 0, .int .i64 0, .slice none 0 0]) (t := 34) (by first | (go_simp; done) | (go_simp; rfl)) ?_; intro g hg w1 hk hb; have j1 := Born.mk hg; have j2 := Bel.mk hb; have j3 := Blk.mk hk; clear hg hb hk)
  | ((with_reducible refine gate_dst (N := 8) rfl ?_); refine box_event rfl (N := 8) rfl (cs := #[.slice none 0 0, .int .i64 0, .slice none 0 0]) (t := 34) (by first | (go_simp; done) | (go_simp; rfl)) ?_; intro g hg w1 hk hb; have j1 := Born.mk hg; have j2 := Bel.mk hb; have j3 := Blk.mk hk; clear hg hb hk)
  | (go_at_call 95; (try rw [hl_.out]); replace h := Option.bind_eq_some_iff.mp h; obtain ⟨⟨t1, t2, t3⟩, A, h⟩ := h; (try dsimp only at h); refine (spec_l36Copy.calls _ _ _ _ _ _ _ _ _ _ _ Rd.out LeI.out Rd.out LeI.out A).mono ?_; rintro e w2 ⟨v0, v1, rfl, ho0, ho1, hb⟩; obtain ⟨B0, b0, rfl⟩ := Kd.R_slice ho0; have j0 := RowE.mk ho0; have q0 := LeI.mk (rowLe j0); obtain ⟨B1, b1, rfl⟩ := Kd.R_slice ho1; have j1 := RowE.mk ho1; have q1 := LeI.mk (rowLe j1); have jb := Bel.mk hb; clear A ho0 ho1 hb)
  | (go_at_call 86; (try rw [hl_.out]); replace h := Option.bind_eq_some_iff.mp h; obtain ⟨t, A, h⟩ := h; (try dsimp only at h); refine (spec_WorkOk.calls _ _ _ _ _ _ _ _ _ _ Rd.out LeI.out Rd.out LeI.out A).mono ?_; rintro e w2 ⟨rfl, hb⟩; have jb := Bel.mk hb; clear A hb)
  | (go_at_call 88; (try rw [hl_.out]); replace h := Option.bind_eq_some_iff.mp h; obtain ⟨t, A, h⟩ := h; (try dsimp only at h); refine (spec_l01In.calls _ _ _ _ _ A).mono ?_; rintro e w2 ⟨rfl, n, rfl⟩; clear A)
  | (refine qR (id := 4) (ds := [11]) (l := #[false, false, false, false, false, false, false, false, false, false, false, false]) spec_KnockKey.tab4 spec_KnockKey.bits4 ?_; intro HT_ HW_ w3 jw u0 iu hHeld; refine qA 0 (some 33) HT_ ?_; refine qA 2 (some 35) HT_ ?_; refine qA 3 (some 36) HT_ ?_; refine qA 5 (some 38) HT_ ?_; refine qA 8 (some 41) HT_ ?_; refine qT 1 (some 34) HT_ HW_ hHeld ?_; refine qT 4 (some 37) HT_ HW_ hHeld ?_; refine qA 6 (some 39) HT_ ?_; refine qT 7 (some 40) HT_ HW_ hHeld ?_; refine qA 9 (some 42) HT_ ?_; refine qA 10 (some 43) HT_ ?_; refine qL 11 HT_ ?_; refine qD HT_ ?_)); (repeat' first | ((with_reducible replace h := ite_some h); rcases h with ⟨hc, h⟩ | ⟨hc, h⟩ <;> first | exact (none_some h).elim | exact absurd hc (by decide) | subst hc | (replace hc := hF_ hc; subst hc) | (replace hc := hG_ hc; subst hc) | (replace hc := hH_ hc; subst hc) | (have hd : (_ == _) = true := hc) | (have hd : (_ == _) = false := hF_ hc) | (have hd := hI_ hc; have he := hJ_ hc; clear hc) | (have hd := hK_ hc; have he := hL_ hc) | (have hd := decide_eq_false hc) | (have hd := decide_eq_true hc; (try (have hn := Int.natCast_pos.mp hc; have hm := decide_eq_true hn; replace hn := eq_true hn)); first | (obtain ⟨g_, e_, i_⟩ := form_ (by assumption) (by first | assumption | decide) hc; cases e_) | (obtain ⟨a_, e_, c_⟩ := atI_ (by assumption) (by first | assumption | decide) hc; cases e_)) | (have hd := decide_eq_true hc) | skip) | ((with_reducible have hj : spec_KnockKey.j0 k _ _ _ _ _ _ _ _ _ = _ := h); clear hj; rcases k with _ | k <;> rw [spec_KnockKey.j0] at h <;> first | exact (none_some h).elim | skip) | ((with_reducible replace h := bind_set_ h); obtain ⟨hl_, h⟩ := h; replace hl_ := A_ hl_; (try dsimp only at h))))
 all_goals simp only [Option.some.injEq, Prod.mk.injEq] at h
 all_goals obtain ⟨rfl, rfl, rfl, rfl⟩ := h
 all_goals refine bodyPost_ret (results_ct rfl _ _ _ _ _ (0, 0) _ rfl Blk.out Tryz.underlying34 rfl (by kernel_rfl)) rfl ?_
 all_goals exact ⟨_, _, rfl, (by first | exact rowFin | exact Kd.R_nil _ _ _ _ _ | exact atFin | exact irowFin' (by simp)), (by first | exact rowFin | exact Kd.R_nil _ _ _ _ _ | exact atFin | exact irowFin' (by simp)), From.out⟩
end Go.Proofs.YtanhnhkcpbdfmaaGreat.P
namespace Go.Proofs.YtanhnhkcpbdfmaaGreat.Q
open Go.RowKit Go.Proofs.YtanhnhkcpbdfmaaGreat.P
def entOk (e : S104) : Bool := decide (0 ≤ e.f0.f0 ∧ e.f0.f0 ≤ 3) && (decide (0 ≤ e.f0.f1 ∧ e.f0.f1 ≤ 39) && (decide (0 ≤ e.f1 ∧ e.f1 ≤ 2) && decide (0 ≤ e.f2 ∧ e.f2 ≤ 100000)))
def logGo : Int → List S104 → Bool
  | _, [] => true
  | p, e :: r => entOk e && (decide (p ≤ e.f2) && logGo e.f2 r)
def logOk (l : List S104) : Bool := logGo 0 l && decide (l.length ≤ 30)
def prevM (l : List S104) (i : Nat) : Int := if i = 0 then 0 else (l.getD (i - 1) z104).f2
theorem prevM_succ (l : List S104) (i : Nat) (h : i < l.length) : prevM l (i + 1) = l[i].f2 := by simp [prevM, List.getD_eq_getElem?_getD, h]
theorem prevM_pos (l : List S104) (i : Nat) (h0 : 0 < i) (h : i < l.length) : prevM l i = l[i - 1].f2 := by
  simp [prevM, List.getD_eq_getElem?_getD, show i ≠ 0 by omega, show i - 1 < l.length by omega]
theorem logGo_at (l : List S104) (i : Nat) (h : i < l.length) : logGo (prevM l i) (l.drop i) = (entOk l[i] && (decide (prevM l i ≤ l[i].f2) && logGo (prevM l (i + 1)) (l.drop (i + 1)))) := by
  rw [List.drop_eq_getElem_cons h, prevM_succ l i h]; rfl
end Go.Proofs.YtanhnhkcpbdfmaaGreat.Q
namespace Go.Proofs.YtanhnhkcpbdfmaaGreat.P
open Go.RowKit Go.Proofs.YtanhnhkcpbdfmaaGreatW.PrintWords
def stepOk (x : S112) (t : List Bool) : Bool :=
  (decide (x.f2 = 1) || decide (x.f2 = 2)) && (decide (0 ≤ x.f3 ∧ x.f3 ≤ 5000) && (decide (0 ≤ x.f0 ∧ x.f0 ≤ 11) && (decide (0 ≤ x.f1 ∧ x.f1 ≤ 11) && (decide (x.f1 = (x.f0 + 1) % 12) && (t.getD x.f0.toNat false && !t.getD x.f1.toNat false)))))
def planGo : List S112 → List Bool → Bool
  | [], _ => true
  | x :: r, t => stepOk x t && planGo r (t.set x.f1.toNat true)
def tuned0 : List Bool := true :: List.replicate 11 false
def planOk (l : List S112) : Bool := decide (l.length ≤ 11) && planGo l tuned0
def tunedBy (l : List S112) (t : List Bool) : List Bool := l.foldl (fun t x => t.set x.f1.toNat true) t
def keyGo : List Bool → List Int → Bool
  | b :: t, p :: q => (if b then decide (1 ≤ p ∧ p ≤ 10000000) else decide (p = 0)) && keyGo t q
  | _, _ => true
def workOk (p : List S112) (d : Int) (q : List Int) : Bool :=
  planOk p && (decide (0 ≤ d ∧ d ≤ p.length) && (decide (q.length = 12) && keyGo (tunedBy (p.take d.toNat) tuned0) q))
theorem planGo_keys : ∀ (l : List S112) (t : List Bool), planGo l t = true → ∀ x ∈ l, 0 ≤ x.f1 ∧ x.f1 ≤ 11
  | [], _, _, x, hx => by simp at hx
  | y :: r, t, h, x, hx => by
    simp only [planGo, Bool.and_eq_true] at h
    rcases List.mem_cons.1 hx with rfl | hx
    · have h1 := h.1; simp [stepOk] at h1; exact h1.2.2.2.1
    · exact planGo_keys r _ h.2 x hx
theorem tunedBy_len (l : List S112) : ∀ t : List Bool, (tunedBy l t).length = t.length := by
  induction l with
  | nil => intro t; rfl
  | cons x r ih => intro t; show (tunedBy r _).length = _; rw [ih, List.length_set]
theorem tunedBy_snoc (l : List S112) (x : S112) (t : List Bool) : tunedBy (l ++ [x]) t = (tunedBy l t).set x.f1.toNat true := by simp [tunedBy, List.foldl_append]
end Go.Proofs.YtanhnhkcpbdfmaaGreat.P
namespace Go.Proofs.YtanhnhkcpbdfmaaGreat.P
set_option maxHeartbeats 8000000
set_option maxRecDepth 100000
open Go.RowKit Go.Proofs.YtanhnhkcpbdfmaaGreatW.PrintWords Go.Proofs.YtanhnhkcpbdfmaaGreatW.PrintLast Go.Proofs.YtanhnhkcpbdfmaaGreatW.PrintMore
attribute [local go_sem] max2_int min2_int max_two min_two max_three min_three max_four min_four
def impl_PlanOk.f (l0 : List (S112)) : Option (Bool) := some (planOk l0)
theorem impl_PlanOk.calls (A0 : Option Addr) (c0 : Nat) (l0 : List (S112)) (r : Bool) (w : World) (hr0 : Kd.C k112 w A0 l0.length l0) (hc0 : l0.length ≤ c0) (h : impl_PlanOk.f l0 = some r) :
    Calls Tryz.prog 89 #[.slice A0 l0.length c0] w fun e w' => e = .returned (.bool r) ∧ Below w.heap.size w w' := by
  have H := Option.some.inj h
  clear h
  by_cases h11 : l0.length ≤ 11
  rotate_left
  · have hb : decide (11 < (l0.length : Int)) = true := decide_eq_true (by omega)
    have hb2 : decide (11 < l0.length) = true := decide_eq_true (by omega)
    obtain rfl : false = r := by rw [← H]; simp [planOk, h11]
    go_enter Tryz.func89, Tryz.ntmps89
    go_wp2
    go_ret
    exact ⟨rfl, Below.refl _ _⟩
  · have hb : decide (11 < (l0.length : Int)) = false := decide_eq_false (by omega)
    have hb2 : decide (11 < l0.length) = false := decide_eq_false (by omega)
    go_enter Tryz.func89, Tryz.ntmps89
    go_wp2
    go_loopg [12] (l0.length + 1) (fun kq v12 w' => ∃ (i : Nat) (tn : List Bool), v12 = .int .i64 (i : Int) ∧ Aside0 (i + kq = l0.length + 1) ∧ Aside0 (i ≤ l0.length) ∧ Aside0 (tn.length = 12) ∧ Aside0 (w'.heap[w.heap.size]? = some (.cells (tn.map Value.bool).toArray 136 (0, 0))) ∧ Aside0 (planGo (l0.drop i) tn = r) ∧ Aside0 (Below w.heap.size w w'))
    case atStart =>
      exact ⟨0, tuned0, rfl, ⟨by omega⟩, ⟨by omega⟩, ⟨rfl⟩, ⟨by rw [heap_alloc_new]; rfl⟩, ⟨by rw [← H]; simp [planOk, h11]⟩, ⟨below_alloc (Below.refl _ _) _⟩⟩
    case round =>
      obtain ⟨i, tn, rfl, HK, HI, HT, HA, HP, HB⟩ := hrel
      by_cases hlt : i < l0.length
      rotate_left
      · have hb3 : decide ((i : Int) < (l0.length : Int)) = false := decide_eq_false (by omega)
        have hb4 : decide (i < l0.length) = false := decide_eq_false (by omega)
        obtain rfl : true = r := by
          have h1 := HP.out
          rw [List.drop_eq_nil_of_le (by omega)] at h1
          exact h1
        go_wp2
        go_ret
        exact ⟨rfl, HB.out⟩
      · have hb3 : decide ((i : Int) < (l0.length : Int)) = true := decide_eq_true (by omega)
        have hb4 : decide (i < l0.length) = true := decide_eq_true (by omega)
        obtain ⟨ad, e, hx0, hx1, hx2, hx3⟩ := at_T112 hr0 (i : Int) (by omega) (by omega)
        cases e
        replace hx0 := (HB.out.cell (World.block_lt_of_cell? w _ hx0)).trans hx0
        replace hx1 := (HB.out.cell (World.block_lt_of_cell? w _ hx1)).trans hx1
        replace hx2 := (HB.out.cell (World.block_lt_of_cell? w _ hx2)).trans hx2
        replace hx3 := (HB.out.cell (World.block_lt_of_cell? w _ hx3)).trans hx3
        obtain ⟨x, hx⟩ : ∃ x, rd_T112 l0 (i : Int) = x := ⟨_, rfl⟩
        rw [hx] at hx0 hx1 hx2 hx3
        simp only [Int.toNat_natCast] at hx0 hx1 hx2 hx3
        have hd : planGo (l0.drop i) tn = (stepOk x tn && planGo (l0.drop (i + 1)) (tn.set x.f1.toNat true)) := by
          rw [List.drop_eq_getElem_cons hlt]
          have e0 : l0[i] = x := by rw [← hx]; simp [rd_T112, List.getD_eq_getElem?_getD, hlt]
          rw [e0]; rfl
        have HX := A_ hx
        clear hx
        have HD := A_ hd
        clear hd
        have win : ∀ (a b c : Int) (d : Bool) (W : World), decide (b ≤ a ∧ a ≤ c) = d → Calls Tryz.prog 79 #[.int .i64 a, .int .i64 b, .int .i64 c] W fun e w' => e = .returned (.bool d) ∧ Drawn0 W w' := fun a b c d W hd =>
          impl_within.calls a b c d W (by rw [← hd]; unfold impl_within.f; by_cases hh : b ≤ a <;> simp [hh])
        have tc : ∀ k, k < 12 → ∀ o : Obj, (wr.alloc o).cell? ⟨w.heap.size, k, none⟩ = some (.bool (tn.getD k false)) := fun k hk o => (blk_cell (blk_alloc HA.out o) k).trans (by have := HT.out; simp [List.getD_eq_getElem?_getD, show k < tn.length by omega])
        by_cases q1 : 0 ≤ x.f3 ∧ x.f3 ≤ 5000
        rotate_left
        · have W1 := A_ fun W => win x.f3 0 5000 false W (decide_eq_false q1)
          have Q1 := A_ q1
          clear q1 win tc
          go_wp2_with (first | (go_at_call 79; (with_reducible refine (W1.out _).mono ?_); rintro e w' ⟨rfl, ⟨nd, rfl⟩⟩))
          all_goals
            obtain rfl : false = r := by
              rw [← HP.out, HD.out]; simp [stepOk, Q1.out]
            go_ret
            exact ⟨rfl, by repeat (first | exact HB.out | apply below_alloc | apply pw_below_drewN | apply below_drew1)⟩
        have W1 := A_ fun W => win x.f3 0 5000 true W (decide_eq_true q1)
        by_cases q2 : 0 ≤ x.f0 ∧ x.f0 ≤ 11
        rotate_left
        · have W2 := A_ fun W => win x.f0 0 11 false W (decide_eq_false q2)
          have Q1 := A_ q2
          clear q1 q2 win tc
          go_wp2_with (first | (go_at_call 79; (with_reducible refine (W1.out _).mono ?_); rintro e w' ⟨rfl, ⟨nd, rfl⟩⟩) | (go_at_call 79; (with_reducible refine (W2.out _).mono ?_); rintro e w' ⟨rfl, ⟨nd, rfl⟩⟩))
          all_goals
            obtain rfl : false = r := by
              rw [← HP.out, HD.out]; simp [stepOk, Q1.out]
            go_ret
            exact ⟨rfl, by repeat (first | exact HB.out | apply below_alloc | apply pw_below_drewN | apply below_drew1)⟩
        have W2 := A_ fun W => win x.f0 0 11 true W (decide_eq_true q2)
        by_cases q3 : 0 ≤ x.f1 ∧ x.f1 ≤ 11
        rotate_left
        · have W3 := A_ fun W => win x.f1 0 11 false W (decide_eq_false q3)
          have Q1 := A_ q3
          clear q1 q2 q3 win tc
          go_wp2_with (first | (go_at_call 79; (with_reducible refine (W1.out _).mono ?_); rintro e w' ⟨rfl, ⟨nd, rfl⟩⟩) | (go_at_call 79; (with_reducible refine (W2.out _).mono ?_); rintro e w' ⟨rfl, ⟨nd, rfl⟩⟩) | (go_at_call 79; (with_reducible refine (W3.out _).mono ?_); rintro e w' ⟨rfl, ⟨nd, rfl⟩⟩))
          all_goals
            obtain rfl : false = r := by
              rw [← HP.out, HD.out]; simp [stepOk, Q1.out]
            go_ret
            exact ⟨rfl, by repeat (first | exact HB.out | apply below_alloc | apply pw_below_drewN | apply below_drew1)⟩
        have W3 := A_ fun W => win x.f1 0 11 true W (decide_eq_true q3)
        clear win
        obtain ⟨q2a, q2b⟩ := q2
        obtain ⟨q3a, q3b⟩ := q3
        have Q13 := A_ q1
        clear q1
        have hc0 := tc x.f0.toNat (by omega)
        have hc1 := tc x.f1.toNat (by omega)
        have hfz := fun o : Obj => blk_frozen (blk_alloc HA.out o) x.f1.toNat
        clear tc
        by_cases q4 : x.f1 = (x.f0 + 1) % 12
        rotate_left
        · have q4a : (x.f1 == (x.f0 + 1) % 12) = false := beq_eq_false_iff_ne.mpr q4
          have q4b : (x.f1 != (x.f0 + 1) % 12) = true := bne_iff_ne.mpr q4
          have Q4 := A_ q4
          clear q4 hc0 hc1 hfz
          go_wp2_with (first | (go_at_call 79; (with_reducible refine (W1.out _).mono ?_); rintro e w' ⟨rfl, ⟨nd, rfl⟩⟩) | (go_at_call 79; (with_reducible refine (W2.out _).mono ?_); rintro e w' ⟨rfl, ⟨nd, rfl⟩⟩) | (go_at_call 79; (with_reducible refine (W3.out _).mono ?_); rintro e w' ⟨rfl, ⟨nd, rfl⟩⟩))
          all_goals
            obtain rfl : false = r := by
              rw [← HP.out, HD.out]; simp [stepOk, Q4.out]
            go_ret
            exact ⟨rfl, by repeat (first | exact HB.out | apply below_alloc | apply pw_below_drewN | apply below_drew1)⟩
        have q4a : (x.f1 == (x.f0 + 1) % 12) = true := beq_iff_eq.mpr q4
        have q4b : (x.f1 != (x.f0 + 1) % 12) = false := bne_eq_false_iff_eq.mpr q4
        have Q4 := A_ q4
        clear q4
        obtain ⟨b0, hb0⟩ : ∃ b, tn.getD x.f0.toNat false = b := ⟨_, rfl⟩
        obtain ⟨b1, hb1⟩ : ∃ b, tn.getD x.f1.toNat false = b := ⟨_, rfl⟩
        rw [hb0] at hc0
        rw [hb1] at hc1
        have B0 := A_ hb0
        have B1 := A_ hb1
        clear hb0 hb1
        go_wp2_with (first | (go_at_call 79; (with_reducible refine (W1.out _).mono ?_); rintro e w' ⟨rfl, ⟨nd, rfl⟩⟩) | (go_at_call 79; (with_reducible refine (W2.out _).mono ?_); rintro e w' ⟨rfl, ⟨nd, rfl⟩⟩) | (go_at_call 79; (with_reducible refine (W3.out _).mono ?_); rintro e w' ⟨rfl, ⟨nd, rfl⟩⟩))
        all_goals first
          | (go_ret
             have e : false = r := by
               have h3 := B0.out; have h4 := B1.out
               rw [← HP.out, HD.out]; unfold stepOk; rw [h3, h4]; simp [*]
             subst e
             exact ⟨rfl, by repeat (first | exact HB.out | apply below_alloc | apply pw_below_drewN | apply below_drew1)⟩)
          | (go_roundg (gk - 1)
             case measure => have := HK.out; omega
             case rel =>
               refine ⟨i + 1, tn.set x.f1.toNat true, by go_num, ⟨by have := HK.out; omega⟩, ⟨by omega⟩, ⟨by rw [List.length_set]; exact HT.out⟩, ⟨?_⟩, ⟨?_⟩, ⟨?_⟩⟩
               · refine blk_put (cs := (tn.map Value.bool).toArray) ?_ x.f1.toNat (.bool true) ?_
                 · repeat (first | exact HA.out | refine blk_drewN ?_ _ | refine blk_drew ?_ | refine blk_alloc ?_ _)
                 · simp [List.map_set]
               · rw [← HP.out, HD.out]
                 have e : stepOk x tn = true := by
                   have h1 := Q4.out; have h2 := Q13.out; have h3 := B0.out; have h4 := B1.out
                   unfold stepOk; rw [h3, h4]; simp [*]; omega
                 rw [e, Bool.true_and]
               · refine below_set ?_ (Nat.le_refl _)
                 repeat (first | exact HB.out | apply below_alloc | apply pw_below_drewN | apply below_drew1))
def impl_WorkOk.f (l0_0 : List (S112)) (a0_1 : Int) (l0_2 : List Int) : Option (Bool) := some (workOk l0_0 a0_1 l0_2)
theorem impl_WorkOk.calls (A0_0 : Option Addr) (c0_0 : Nat) (l0_0 : List (S112)) (a0_1 : Int) (A0_2 : Option Addr) (c0_2 : Nat) (l0_2 : List Int) (r : Bool) (w : World) (hr0_0 : Kd.C k112 w A0_0 l0_0.length l0_0) (hc0_0 : l0_0.length ≤ c0_0) (hr0_2 : Kd.C (Kd.int .i64) w A0_2 l0_2.length l0_2) (hc0_2 : l0_2.length ≤ c0_2) (h : impl_WorkOk.f l0_0 a0_1 l0_2 = some r) :
  Calls Tryz.prog 76 #[.agg #[.slice A0_0 l0_0.length c0_0, .int .i64 a0_1, .slice A0_2 l0_2.length c0_2]] w fun e w' => e = .returned (.bool r) ∧ Below w.heap.size w w' := by
 have HH := A_ (Option.some.inj h)
 clear h
 have win : ∀ (a b c : Int) (d : Bool) (W : World), decide (b ≤ a ∧ a ≤ c) = d → Calls Tryz.prog 79 #[.int .i64 a, .int .i64 b, .int .i64 c] W fun e w' => e = .returned (.bool d) ∧ Drawn0 W w' := fun a b c d W hd =>
  impl_within.calls a b c d W (by rw [← hd]; unfold impl_within.f; by_cases hh : b ≤ a <;> simp [hh])
 have hpl : ∀ (b : Bool) (o : Obj), planOk l0_0 = b → Calls Tryz.prog 89 #[.slice A0_0 l0_0.length c0_0] (w.alloc o) fun e w' => e = .returned (.bool b) ∧ Below (w.alloc o).heap.size (w.alloc o) w' := fun b o hb =>
  impl_PlanOk.calls A0_0 c0_0 l0_0 b (w.alloc o) (Kd.C_alloc hr0_0 o) hc0_0 (by unfold impl_PlanOk.f; rw [hb])
 have hbx : ∀ (w1 : World) (o : Obj), Below (w.alloc o).heap.size (w.alloc o) w1 → w1.heap[w.heap.size]? = some o ∧ Below w.heap.size w w1 ∧ w.heap.size + 1 ≤ w1.heap.size := fun w1 o hb =>
  ⟨blk_below (blk_new w o) hb, below_step (below_alloc (Below.refl _ _) o) hb, by have := hb.size; simpa using this⟩
 by_cases p1 : planOk l0_0 = true
 rotate_left
 ·have P1 := A_ fun o => hpl false o (Bool.eq_false_iff.2 p1)
  obtain rfl : false = r := by rw [← HH.out]; simp [workOk, p1]
  clear hpl win p1
  go_enter Tryz.func76, Tryz.ntmps76
  go_wp2_with (first | (go_at_call 89; (with_reducible refine (P1.out _).mono ?_); rintro e w1 ⟨rfl, hb⟩; obtain ⟨hB1, hB2, hB3⟩ := hbx w1 _ hb; have HB := A_ hB2; clear hb hB1 hB2 hB3))
  go_ret
  exact ⟨rfl, by repeat (first | exact HB.out | apply below_alloc | apply pw_below_drewN | apply below_drew1)⟩
 have P1 := A_ fun o => hpl true o p1
 by_cases p2 : 0 ≤ a0_1 ∧ a0_1 ≤ (l0_0.length : Int)
 rotate_left
 ·have W1 := A_ fun W => win a0_1 0 l0_0.length false W (decide_eq_false p2)
  obtain rfl : false = r := by rw [← HH.out]; simp [workOk, p2]
  clear hpl win p1 p2
  go_enter Tryz.func76, Tryz.ntmps76
  go_wp2_with (first | (go_at_call 89; (with_reducible refine (P1.out _).mono ?_); rintro e w1 ⟨rfl, hb⟩; obtain ⟨hB1, hB2, hB3⟩ := hbx w1 _ hb; have HB := A_ hB2; have hcz0 := blk_cell hB1 0; have hcz1 := blk_cell hB1 1; have hcz2 := blk_cell hB1 2; clear hb hB1 hB2 hB3) | (go_at_call 79; (with_reducible refine (W1.out _).mono ?_); rintro e w' ⟨rfl, ⟨nd, rfl⟩⟩))
  go_ret
  exact ⟨rfl, by repeat (first | exact HB.out | apply below_alloc | apply pw_below_drewN | apply below_drew1)⟩
 have W1 := A_ fun W => win a0_1 0 l0_0.length true W (decide_eq_true p2)
 by_cases p3 : l0_2.length = 12
 rotate_left
 ·have p3a : ((l0_2.length : Int) != 12) = true := bne_iff_ne.mpr (by omega)
  have p3b : ((l0_2.length : Int) == 12) = false := beq_eq_false_iff_ne.mpr (by omega)
  obtain rfl : false = r := by rw [← HH.out]; simp [workOk, p3]
  have P3 := A_ p3
  clear hpl win p1 p2 p3
  go_enter Tryz.func76, Tryz.ntmps76
  go_wp2_with (first | (go_at_call 89; (with_reducible refine (P1.out _).mono ?_); rintro e w1 ⟨rfl, hb⟩; obtain ⟨hB1, hB2, hB3⟩ := hbx w1 _ hb; have HB := A_ hB2; have HX := A_ hB1; have HS := A_ hB3; have hcz0 := blk_cell hB1 0; have hcz1 := blk_cell hB1 1; clear hb hB1 hB2 hB3) | (go_at_call 79; (with_reducible refine (W1.out _).mono ?_); rintro e w2 ⟨rfl, hdr⟩; have n1 := A_ (below_step HB.out hdr.below); have hB1 := blk_below HX.out hdr.below; have n3 := A_ (Nat.le_trans HS.out hdr.below.size); clear HB HX HS hcz0 hcz1 hdr; have HB := n1; have HX := A_ hB1; have HS := n3; clear n1 n3; have hcz0 := blk_cell hB1 0; have hcz1 := blk_cell hB1 1; have hcz2 := blk_cell hB1 2; have hca0 := fun o : Obj => blk_cell (blk_alloc hB1 o) 0; have hca1 := fun o : Obj => blk_cell (blk_alloc hB1 o) 1; have hca2 := fun o : Obj => blk_cell (blk_alloc hB1 o) 2; clear hB1))
  go_ret
  exact ⟨rfl, by repeat (first | exact HB.out | apply below_alloc | apply pw_below_drewN | apply below_drew1)⟩
 have p3a : ((l0_2.length : Int) != 12) = false := bne_eq_false_iff_eq.mpr (by omega)
 have p3b : ((l0_2.length : Int) == 12) = true := beq_iff_eq.mpr (by omega)
 obtain ⟨d, rfl⟩ : ∃ d : Nat, a0_1 = (d : Int) := ⟨a0_1.toNat, by omega⟩
 have hd1 : d ≤ l0_0.length := by omega
 have hd2 : d ≤ c0_0 := by omega
 have hm : l0_0.length ≤ 9223372036854775807 := Kd.C_max hr0_0
 have HK := A_ (planGo_keys l0_0 tuned0 (by have := p1; simp [planOk] at this; exact this.2))
 have HQ : Aside0 (keyGo (tunedBy (l0_0.take d) tuned0) l0_2 = r) := ⟨by rw [← HH.out]; simp [workOk, p1, p3, hd1]⟩
 have P3 := A_ p3
 have HR0 := A_ hr0_0
 have HR2 := A_ hr0_2
 clear hpl p1 p2 p3 HH hr0_0 hr0_2
 go_enter Tryz.func76, Tryz.ntmps76
 go_wp2_with (first | (go_at_call 89; (with_reducible refine (P1.out _).mono ?_); rintro e w1 ⟨rfl, hb⟩; obtain ⟨hB1, hB2, hB3⟩ := hbx w1 _ hb; have HB := A_ hB2; have HX := A_ hB1; have HS := A_ hB3; have hcz0 := blk_cell hB1 0; have hcz1 := blk_cell hB1 1; clear hb hB1 hB2 hB3) | (go_at_call 79; (with_reducible refine (W1.out _).mono ?_); rintro e w2 ⟨rfl, hdr⟩; have n1 := A_ (below_step HB.out hdr.below); have hB1 := blk_below HX.out hdr.below; have n3 := A_ (Nat.le_trans HS.out hdr.below.size); clear HB HX HS hcz0 hcz1 hdr; have HB := n1; have HX := A_ hB1; have HS := n3; clear n1 n3; have hcz0 := blk_cell hB1 0; have hcz1 := blk_cell hB1 1; have hcz2 := blk_cell hB1 2; have hca0 := fun o : Obj => blk_cell (blk_alloc hB1 o) 0; have hca1 := fun o : Obj => blk_cell (blk_alloc hB1 o) 1; have hca2 := fun o : Obj => blk_cell (blk_alloc hB1 o) 2; clear hB1))
 have BX := A_ (rfl : #[Value.slice A0_0 l0_0.length c0_0, .int .i64 (d : Int), .slice A0_2 l0_2.length c0_2] = #[Value.slice A0_0 l0_0.length c0_0, .int .i64 (d : Int), .slice A0_2 l0_2.length c0_2])
 go_loopg [34] (d + 1) (fun kq v34 w' => ∃ (i : Nat), v34 = .int .i64 (i : Int) ∧ Aside0 (i + kq = d + 1) ∧ Aside0 (i ≤ d) ∧ Aside0 (w'.heap[w2.heap.size]? = some (.cells ((tunedBy (l0_0.take i) tuned0).map Value.bool).toArray 136 (0, 0))) ∧ Aside0 (w'.heap[w.heap.size]? = some (.cells #[.slice A0_0 l0_0.length c0_0, .int .i64 (d : Int), .slice A0_2 l0_2.length c0_2] 34 (0, 0))) ∧ Aside0 (Below w.heap.size w w'))
 case atStart =>
  exact ⟨0, rfl, ⟨by omega⟩, ⟨by omega⟩, ⟨by rw [heap_alloc_new]; rfl⟩, ⟨blk_alloc HX.out _⟩, ⟨below_alloc HB.out _⟩⟩
 case round =>
  clear hcz0 hcz1 hcz2 hca0 hca1 hca2 HB HX
  obtain ⟨i, rfl, HI1, HI2, HA, HX, HB⟩ := hrel
  have hTl : (tunedBy (l0_0.take i) tuned0).length = 12 := tunedBy_len _ _
  by_cases hlt : i < d
  ·have hb3 : decide ((i : Int) < (d : Int)) = true := decide_eq_true (by omega)
   have hb4 : decide (i < d) = true := decide_eq_true (by omega)
   obtain ⟨ad, e, hx0, hx1, hx2, hx3⟩ := at_T112 HR0.out (i : Int) (by omega) (by omega)
   cases e
   replace hx0 := (HB.out.cell (World.block_lt_of_cell? w _ hx0)).trans hx0
   replace hx1 := (HB.out.cell (World.block_lt_of_cell? w _ hx1)).trans hx1
   replace hx2 := (HB.out.cell (World.block_lt_of_cell? w _ hx2)).trans hx2
   replace hx3 := (HB.out.cell (World.block_lt_of_cell? w _ hx3)).trans hx3
   obtain ⟨x, hx⟩ : ∃ x, rd_T112 l0_0 (i : Int) = x := ⟨_, rfl⟩
   rw [hx] at hx0 hx1 hx2 hx3
   simp only [Int.toNat_natCast] at hx0 hx1 hx2 hx3
   have hil : i < l0_0.length := by omega
   have e0 : l0_0[i] = x := by rw [← hx]; simp [rd_T112, List.getD_eq_getElem?_getD, hil]
   obtain ⟨q1, q2⟩ := HK.out x (by rw [← e0]; exact List.getElem_mem hil)
   have HT : Aside0 (tunedBy (l0_0.take (i + 1)) tuned0 = (tunedBy (l0_0.take i) tuned0).set x.f1.toNat true) := ⟨by rw [List.take_succ_eq_append_getElem hil, e0, tunedBy_snoc]⟩
   obtain ⟨tn, htn⟩ : ∃ tn, tunedBy (l0_0.take i) tuned0 = tn := ⟨_, rfl⟩
   have HA' := A_ (show wr.heap[w2.heap.size]? = some (.cells (tn.map Value.bool).toArray 136 (0, 0)) by rw [← htn]; exact HA.out)
   rw [htn] at hTl HT
   have hc1 : ∀ o : Obj, (wr.alloc o).cell? ⟨w2.heap.size, x.f1.toNat, none⟩ = some (.bool (tn.getD x.f1.toNat false)) := fun o => (blk_cell (blk_alloc HA'.out o) _).trans (by simp [List.getD_eq_getElem?_getD, show x.f1.toNat < tn.length by omega])
   have hfz := fun o : Obj => blk_frozen (blk_alloc HA'.out o) x.f1.toNat
   clear hx e0 htn HA hTl
   go_wp2
   go_roundg (d - i)
   case measure => have := HI1.out; omega
   case rel =>
    refine ⟨i + 1, by go_num, ⟨by omega⟩, ⟨by omega⟩, ⟨?_⟩, ⟨?_⟩, ⟨?_⟩⟩
    ·rw [HT.out]
     refine blk_put (cs := (tn.map Value.bool).toArray) (blk_alloc HA'.out _) x.f1.toNat (.bool true) ?_
     simp [List.map_set]
    ·refine blk_far ?_ (by have := HS.out; show w.heap.size ≠ w2.heap.size; omega) _
     exact blk_alloc HX.out _
    ·refine below_set (below_alloc HB.out _) (by have := HS.out; omega)
  ·have hb3 : decide ((i : Int) < (d : Int)) = false := decide_eq_false (by omega)
   have hb4 : decide (i < d) = false := decide_eq_false (by omega)
   obtain rfl : i = d := by have := HI2.out; omega
   obtain ⟨tn, htn⟩ : ∃ tn, tunedBy (l0_0.take i) tuned0 = tn := ⟨_, rfl⟩
   have HA' := A_ (show wr.heap[w2.heap.size]? = some (.cells (tn.map Value.bool).toArray 136 (0, 0)) by rw [← htn]; exact HA.out)
   have HT := A_ (show tn.length = 12 by rw [← htn]; exact hTl)
   have HQ' := A_ (show keyGo tn l0_2 = r by rw [← htn]; exact HQ.out)
   have hcz0 := blk_cell HX.out 0
   have hcz1 := blk_cell HX.out 1
   have hcz2 := blk_cell HX.out 2
   clear HA HQ htn hTl
   go_wp2
   have H12 := P3.out
   go_loopg [45] 13 (fun kq v45 w' => ∃ (j : Nat), v45 = .int .i64 (j : Int) ∧ Aside0 (j + kq = 13) ∧ Aside0 (j ≤ 12) ∧ Aside0 (keyGo (tn.drop j) (l0_2.drop j) = r) ∧ Aside0 (w'.heap[w2.heap.size]? = some (.cells (tn.map Value.bool).toArray 136 (0, 0))) ∧ Aside0 (Below w.heap.size w w'))
   case atStart => exact ⟨0, rfl, ⟨by omega⟩, ⟨by omega⟩, ⟨HQ'.out⟩, ⟨HA'.out⟩, ⟨HB.out⟩⟩
   case round =>
    clear hcz0 hcz1 hcz2 HB HX HA' HQ'
    obtain ⟨j, rfl, HJ1, HJ2, HQ, HA, HB⟩ := hrel
    by_cases hlt2 : j < 12
    rotate_left
    ·have hb5 : decide ((j : Int) < (l0_2.length : Int)) = false := decide_eq_false (by omega)
     have hb6 : decide (j < l0_2.length) = false := decide_eq_false (by omega)
     obtain rfl : true = r := by
      have h1 := HQ.out
      rw [List.drop_eq_nil_of_le (by have := HT.out; omega)] at h1
      simpa [keyGo] using h1
     clear H12
     go_wp2
     go_ret
     exact ⟨rfl, HB.out⟩
    ·have hb5 : decide ((j : Int) < (l0_2.length : Int)) = true := decide_eq_true (by omega)
     have hb6 : decide (j < l0_2.length) = true := decide_eq_true (by omega)
     have hj : j < l0_2.length := by omega
     obtain ⟨ad, e, hy⟩ := Kd.at_int HR2.out (j : Int) (by omega) (by omega)
     cases e
     replace hy := (HB.out.cell (World.block_lt_of_cell? w _ hy)).trans hy
     obtain ⟨y, hyy⟩ : ∃ y, rd l0_2 (j : Int) = y := ⟨_, rfl⟩
     obtain ⟨b, hbb⟩ : ∃ b, tn.getD j false = b := ⟨_, rfl⟩
     rw [hyy] at hy
     simp only [Int.toNat_natCast] at hy
     have hT12 := HT.out
     have hct : wr.cell? ⟨w2.heap.size, j, none⟩ = some (.bool b) := (blk_cell HA.out j).trans (by rw [← hbb]; simp [List.getD_eq_getElem?_getD, show j < tn.length by omega])
     have HD : Aside0 (keyGo (tn.drop j) (l0_2.drop j) = ((if b then decide (1 ≤ y ∧ y ≤ 10000000) else decide (y = 0)) && keyGo (tn.drop (j + 1)) (l0_2.drop (j + 1)))) := ⟨by
      rw [List.drop_eq_getElem_cons (show j < tn.length by omega), List.drop_eq_getElem_cons (show j < l0_2.length by omega)]
      have e1 : tn[j] = b := by rw [← hbb]; simp [List.getD_eq_getElem?_getD, show j < tn.length by omega]
      have e2 : l0_2[j] = y := by rw [← hyy]; simp [rd, List.getD_eq_getElem?_getD, show j < l0_2.length by omega]
      rw [e1, e2]; rfl⟩
     have fine : ∀ (d : Bool) (W : World), decide (1 ≤ y ∧ y ≤ 10000000) = d → Calls Tryz.prog 90 #[.int .i64 y] W fun e w' => e = .returned (.bool d) ∧ Drawn0 W w' := fun d W hd =>
      impl_isFine.calls y d W (by rw [← hd]; unfold impl_isFine.f impl_within.f; by_cases hh : 1 ≤ y <;> simp [hh])
     clear hyy hbb hT12 H12
     cases b with
     | true =>
      by_cases q : 1 ≤ y ∧ y ≤ 10000000
      ·have F1 := A_ fun W => fine true W (decide_eq_true q)
       have Q := A_ q
       clear q fine
       go_wp2_with (first | (go_at_call 90; (with_reducible refine (F1.out _).mono ?_); rintro e w' ⟨rfl, ⟨nd, rfl⟩⟩))
       go_roundg (12 - j)
       case measure => have := HJ1.out; omega
       case rel =>
        refine ⟨j + 1, by go_num, ⟨by omega⟩, ⟨by omega⟩, ⟨?_⟩, ⟨?_⟩, ⟨?_⟩⟩
        ·rw [← HQ.out, HD.out]; simp [Q.out]
        ·repeat (first | exact HA.out | refine blk_drewN ?_ _ | refine blk_drew ?_)
        ·repeat (first | exact HB.out | apply below_alloc | apply pw_below_drewN | apply below_drew1)
      ·have F1 := A_ fun W => fine false W (decide_eq_false q)
       have Q := A_ q
       clear q fine
       obtain rfl : false = r := by rw [← HQ.out, HD.out]; simp [Q.out]
       go_wp2_with (first | (go_at_call 90; (with_reducible refine (F1.out _).mono ?_); rintro e w' ⟨rfl, ⟨nd, rfl⟩⟩))
       go_ret
       exact ⟨rfl, by repeat (first | exact HB.out | apply below_alloc | apply pw_below_drewN | apply below_drew1)⟩
     | false =>
      by_cases q : y = 0
      ·have q1 : (y != 0) = false := bne_eq_false_iff_eq.mpr q
       have q2 : (y == 0) = true := beq_iff_eq.mpr q
       have Q := A_ q
       clear q fine
       go_wp2
       go_roundg (12 - j)
       case measure => have := HJ1.out; omega
       case rel =>
        refine ⟨j + 1, by go_num, ⟨by omega⟩, ⟨by omega⟩, ⟨?_⟩, ⟨?_⟩, ⟨?_⟩⟩
        ·rw [← HQ.out, HD.out]; simp [Q.out]
        ·repeat (first | exact HA.out | refine blk_drewN ?_ _ | refine blk_drew ?_)
        ·repeat (first | exact HB.out | apply below_alloc | apply pw_below_drewN | apply below_drew1)
      ·have q1 : (y != 0) = true := bne_iff_ne.mpr q
       have q2 : (y == 0) = false := beq_eq_false_iff_ne.mpr q
       have Q := A_ q
       clear q fine
       obtain rfl : false = r := by rw [← HQ.out, HD.out]; simp [Q.out]
       go_wp2
       go_ret
       exact ⟨rfl, by repeat (first | exact HB.out | apply below_alloc | apply pw_below_drewN | apply below_drew1)⟩
def impl_WrongSteps.l0 : Nat → List Int → List (S112) → Int → Int → List (S112) → Int → List Int → Option (List Int)
 | 0, _, _, _, _, _, _, _ => none
 | k + 1, x3, x14, x15, x16, x607000, x607001, x607002 => if x16 < x15 then (if 0 ≤ x16 then (if x16 < (x14.length : Int) then (if 0 ≤ ((rd_T112 x14 x16).f1) then (if ((rd_T112 x14 x16).f1) < (x607002.length : Int) then ((impl_tunedBy.f k x607000 x607001 x607002 x16).bind fun t618 => (if (rd x607002 ((rd_T112 x14 x16).f1)) = t618 then (impl_WrongSteps.l0 k x3 x14 x15 (wrap64 (x16 + 1)) x607000 x607001 x607002) else (if x3.length < 17592186044416 then (impl_WrongSteps.l0 k (x3 ++ [x16]) x14 x15 (wrap64 (x16 + 1)) x607000 x607001 x607002) else (none)))) else (none)) else (none)) else (none)) else (none)) else (some x3)
def impl_WrongSteps.f (k : Nat) (l0_0 : List (S112)) (a0_1 : Int) (l0_2 : List Int) : Option (List Int) := (impl_WorkOk.f l0_0 a0_1 l0_2).bind fun t607 => (if t607 = true then (if 0 ≤ a0_1 then (if a0_1 ≤ (l0_0.length : Int) then ((some (l0_0.take (a0_1 : Int).toNat : List (S112))).bind fun y611 => (impl_WrongSteps.l0 k (([] : List Int)) y611 (y611.length : Int) 0 l0_0 a0_1 l0_2)) else (none)) else (none)) else (some ([] : List Int)))
def impl_WrongSteps.T7 : Bool × List (List Nat × List Nat) := (true, [([], []), ([0], [0]), ([], []), ([2], [2]), ([1, 3], [1, 3]), ([4], [4]), ([], []), ([], []), ([6, 7], [6, 7]), ([5, 8], [5, 8])])
def impl_WrongSteps.B7 : List Nat := [0, 1, 0, 4, 15, 31, 0, 0, 192, 511]
theorem impl_WrongSteps.tab7 : rtab .any (opsOf Tryz.f82 7) = impl_WrongSteps.T7 := by kernel_rfl
theorem impl_WrongSteps.bits7 : waitsOk impl_WrongSteps.T7.2 impl_WrongSteps.B7 = true := by kernel_rfl
theorem impl_WrongSteps.calls (k : Nat) (A0_0 : Option Addr) (c0_0 : Nat) (l0_0 : List (S112)) (a0_1 : Int) (A0_2 : Option Addr) (c0_2 : Nat) (l0_2 : List Int) (r : List Int) (w : World) (hr0_0 : Kd.C k112 w A0_0 l0_0.length l0_0) (hc0_0 : l0_0.length ≤ c0_0) (hr0_2 : Kd.C (Kd.int .i64) w A0_2 l0_2.length l0_2) (hc0_2 : l0_2.length ≤ c0_2) (h : impl_WrongSteps.f k l0_0 a0_1 l0_2 = some r) :
  Calls Tryz.prog 82 #[.agg #[.slice A0_0 l0_0.length c0_0, .int .i64 a0_1, .slice A0_2 l0_2.length c0_2]] w fun e w' => ∃ v0_ : Value, e = .returned (v0_) ∧ Kd.R (Kd.int .i64) 3 w' w.heap.size (fun _ => True) v0_ r ∧ Below w.heap.size w w' := by
 have hu34 := Tryz.underlying34
 have hu112 := Tryz.underlying112
 have HR0_0 := A_ hr0_0
 have HC0_0 := A_ hc0_0
 clear hr0_0 hc0_0
 have HR0_2 := A_ hr0_2
 have HC0_2 := A_ hc0_2
 clear hr0_2 hc0_2
 have HB := A_ (Below.refl w.heap.size w)
 have H : ((impl_WorkOk.f l0_0 a0_1 l0_2).bind fun t607 => (if t607 = true then (if 0 ≤ a0_1 then (if a0_1 ≤ (l0_0.length : Int) then ((some (l0_0.take (a0_1 : Int).toNat : List (S112))).bind fun y611 => (impl_WrongSteps.l0 k (([] : List Int)) y611 (y611.length : Int) 0 l0_0 a0_1 l0_2)) else (none)) else (none)) else (some ([] : List Int)))) = some r := h
 clear h
 replace H := Option.bind_eq_some_iff.mp H
 obtain ⟨t607, A20, H⟩ := H
 (try dsimp only at H)
 have A2 := A_ A20
 clear A20
 by_cases c3 : t607 = true
 ·subst c3
  rw [if_pos rfl] at H
  obtain ⟨y608, hy608⟩ : ∃ y_ : List Int, y_ = (([] : List Int)) := ⟨_, rfl⟩
  replace H : (if 0 ≤ a0_1 then (if a0_1 ≤ (l0_0.length : Int) then ((some (l0_0.take (a0_1 : Int).toNat : List (S112))).bind fun y611 => (impl_WrongSteps.l0 k y608 y611 (y611.length : Int) 0 l0_0 a0_1 l0_2)) else (none)) else (none)) = some r := by first | (rw [hy608]; with_reducible exact H) | (have H2_ := (Option.bind_some _ _).symm.trans H; rw [hy608]; with_reducible exact H2_) | (have H2_ := (Option.bind_some _ _).symm.trans H; with_reducible exact H2_) | with_reducible exact H | (rw [hy608]; exact H) | exact H
  have Ny608 := A_ hy608
  clear hy608
  by_cases c4 : 0 ≤ a0_1
  ·rw [if_pos c4] at H
   have c4b0 := eq_true c4
   have c4b1 : decide (0 ≤ a0_1) = true := decide_eq_true c4
   clear c4
   by_cases c5 : a0_1 ≤ (l0_0.length : Int)
   ·rw [if_pos c5] at H
    have c5b0 := eq_true c5
    have c5b1 : decide (a0_1 ≤ (l0_0.length : Int)) = true := decide_eq_true c5
    clear c5
    obtain ⟨y611, hy611⟩ : ∃ y_ : List (S112), y_ = (l0_0.take (a0_1 : Int).toNat) := ⟨_, rfl⟩
    replace H : (impl_WrongSteps.l0 k y608 y611 (y611.length : Int) 0 l0_0 a0_1 l0_2) = some r := by first | (rw [hy611]; with_reducible exact H) | (have H2_ := (Option.bind_some _ _).symm.trans H; rw [hy611]; with_reducible exact H2_) | (have H2_ := (Option.bind_some _ _).symm.trans H; with_reducible exact H2_) | with_reducible exact H | (rw [hy611]; exact H) | exact H
    have Ny611 := A_ hy611
    clear hy611
    have H' := A_ H
    clear H
    go_enter Tryz.func82, Tryz.ntmps82
    go_wp2_with (first | ((with_reducible refine gate_dst (N := 1) rfl ?_); refine bX (N := 1) (cs := #[.slice A0_0 l0_0.length c0_0, .int .i64 a0_1, .slice A0_2 l0_2.length c0_2]) (t := 34) ?_; intro gb606 hg w6 hbox hb; have n0_ := A_ (below_step (oB HB) hb); have n1_ := A_ (hbox); have n2_ := A_ ((by rw [hg]; exact (below_size (oB HB)) : w.heap.size ≤ gb606)); have n3_ := A_ ((by rw [hg]; exact (below_size (oB HB)) : w.heap.size ≤ gb606)); clear HB; have HB := n0_; have BK606 := n1_; have GW606 := n2_; have GE606 := n3_; clear n0_ n1_ n2_ n3_; clear hb hbox hg; have hcz7_0 := cz BK606 0; have hcz7_1 := cz BK606 1; have hcz7_2 := cz BK606 2; have hfz7_0 := blk_frozen BK606.out 0; have hfz7_1 := blk_frozen BK606.out 1; have hfz7_2 := blk_frozen BK606.out 2) | ((with_reducible refine gate_callee (f := 76) rfl ?_); refine gL (some 7) Tryz.func76 #[.agg #[.slice A0_0 l0_0.length c0_0, .int .i64 a0_1, .slice A0_2 l0_2.length c0_2]] ?_; (with_reducible refine (impl_WorkOk.calls _ _ l0_0 a0_1 _ _ l0_2 true _ ?side1 ?side2 ?side3 ?side4 A2.out).mono ?_); (case side1 => exact oc_ HR0_0.out); (case side2 => exact HC0_0.out); (case side3 => exact oc_ HR0_2.out); (case side4 => exact HC0_2.out); rintro e w8 ⟨rfl, hb⟩; refine ⟨_, rfl, ?_⟩; have n0_ := A_ (bb BK606 hb); have n1_ := A_ (below_step (oB HB) hb); clear BK606; clear HB; have BK606 := n0_; have HB := n1_; clear n0_ n1_; (try clear hb); (try clear hb2); (try clear hk); (try clear hi)) | ((with_reducible refine gate_dst (N := 9) rfl ?_); refine Kd.R_lit (Kd.int .i64) _ 3 ?hg (N := 9) ?hd (xs := ([] : List Int)) (inner := []) (ok := fun _ => True) (okp := fun _ => True) ?hr ?hp (fun _ hk => hk) trivial (Below.refl _ _) (Nat.le_refl _) (by simp) ?_; (case hd => rfl); (case hg => rfl); (case hr => first | (go_simp; done) | (go_simp; rfl)); (case hp => exact (Reps.none _ _)); intro v609 w9 ho10 hb hg_ hnew_; clear hg_ hnew_; (first | rw [← Ny608.out] at ho10 | (simp only [Int.reduceToNat] at ho10; rw [← Ny608.out] at ho10)); have n0_ := A_ (Kd.R_lower ho10 (below_size (oB HB))); have n1_ := A_ (bb BK606 hb); have n2_ := A_ (below_step (oB HB) hb); clear BK606; clear HB; have HO610 := n0_; have BK606 := n1_; have HB := n2_; clear n0_ n1_ n2_; clear hb ho10; have hcz11_0 := cz BK606 0; have hcz11_1 := cz BK606 1; have hcz11_2 := cz BK606 2; have hfz11_0 := blk_frozen BK606.out 0; have hfz11_1 := blk_frozen BK606.out 1; have hfz11_2 := blk_frozen BK606.out 2; have q12 : (a0_1 : Int) ≤ ((l0_0.length : Int) : Int) := of_decide_eq_true (by first | (with_reducible assumption) | assumption); obtain ⟨i012, hi012, _, hsz12, _⟩ := info_parts info112; have hroom12 : l0_0.length ≤ c0_0 := HC0_0.out; have hC12 : Kd.C k112 _ A0_0 l0_0.length l0_0 := HR0_0.out; have hcut12 := cut_to (P := Tryz.prog) 32 112 .i64 Tryz.underlying32 hi012 A0_0 l0_0.length c0_0 a0_1 (of_decide_eq_true (by first | (with_reducible assumption) | assumption)) q12 hroom12; have hr12 := Kd.C_take (m := (a0_1 : Int).toNat) hC12 (by omega); have hy12 : y611.length = (a0_1 : Int).toNat := (by rw [Ny611.out, List.length_take]; omega); rw [← Ny611.out] at hr12; rw [← hy12] at hcut12; have HR614 := A_ hr12; have HC614 := A_ (show y611.length ≤ c0_0 from by omega); clear hr12 hC12 hroom12 hi012 hsz12; have KY12 := A_ hy12; clear hy12; replace q12 := eq_true q12))
    go_loopg [3, 16] k (fun kq v3 v16 w' => ∃ (x3_1 : List Int) (x16_1 : Int), v16 = .int .i64 x16_1 ∧ Aside0 (impl_WrongSteps.l0 kq x3_1 y611 (y611.length : Int) x16_1 l0_0 a0_1 l0_2 = some r) ∧ Aside0 (kq ≤ k) ∧ Aside0 (Kd.R (Kd.int .i64) 3 w' w.heap.size (fun _ => True) v3 x3_1) ∧ Aside0 (w'.heap[gb606]? = some (.cells #[(.slice A0_0 l0_0.length c0_0), .int .i64 a0_1, (.slice A0_2 l0_2.length c0_2)] 34 (0, 0))) ∧ Aside0 (Below w.heap.size w w'))
    case atStart => exact ⟨(y608), (0), (by first | rfl | (simp; done) | (simp [*]; done)), H', ⟨Nat.le_refl _⟩, ⟨oR HO610⟩, ⟨oK BK606⟩, ⟨oB HB⟩⟩
    case round =>
     clear H'
     try clear q1
     try clear p2
     try clear c3
     try clear c4
     try clear c4b0
     try clear c4b1
     try clear c5
     try clear c5b0
     try clear c5b1
     try clear c7
     try clear c8
     try clear q12
     try clear hcz11_0
     try clear hcz11_1
     try clear hcz11_2
     try clear hcz7_0
     try clear hcz7_1
     try clear hcz7_2
     try clear hfz11_0
     try clear hfz11_1
     try clear hfz11_2
     try clear hfz7_0
     try clear hfz7_1
     try clear hfz7_2
     try clear q12
     obtain ⟨x3_1, x16_1, rfl, HA, HK1, HO_3, BK606, HB⟩ := hrel
     cases gk with
     | zero => exact absurd HA.out (by simp [impl_WrongSteps.l0])
     | succ k1 =>
      have H := HA.out
      clear HA
      simp only [impl_WrongSteps.l0] at H
      by_cases c13 : x16_1 < (y611.length : Int)
      ·rw [if_pos c13] at H
       have c13b0 : decide (x16_1 < (y611.length : Int)) = true := decide_eq_true c13
       clear c13
       by_cases c14 : 0 ≤ x16_1
       ·rw [if_pos c14] at H
        have c14b0 : decide (0 ≤ x16_1) = true := decide_eq_true c14
        clear c14
        by_cases c15 : x16_1 < (y611.length : Int)
        ·rw [if_pos c15] at H
         have c15b0 : decide (x16_1 < (y611.length : Int)) = true := decide_eq_true c15
         clear c15
         by_cases c16 : 0 ≤ ((rd_T112 y611 x16_1).f1)
         ·rw [if_pos c16] at H
          have c16b0 : decide (0 ≤ ((rd_T112 y611 x16_1).f1)) = true := decide_eq_true c16
          clear c16
          by_cases c17 : ((rd_T112 y611 x16_1).f1) < (l0_2.length : Int)
          ·rw [if_pos c17] at H
           have c17b0 : decide (((rd_T112 y611 x16_1).f1) < (l0_2.length : Int)) = true := decide_eq_true c17
           clear c17
           replace H := Option.bind_eq_some_iff.mp H
           obtain ⟨t618, A180, H⟩ := H
           (try dsimp only at H)
           have A18 := A_ A180
           clear A180
           by_cases c19 : (rd l0_2 ((rd_T112 y611 x16_1).f1)) = t618
           ·rw [if_pos c19] at H
            have c19b0 : ((rd l0_2 ((rd_T112 y611 x16_1).f1)) == t618) = true := beq_iff_eq.mpr c19
            have c19b1 : ((rd l0_2 ((rd_T112 y611 x16_1).f1)) != t618) = false := bne_eq_false_iff_eq.mpr c19
            clear c19
            have H' := A_ H
            clear H
            have p615 : 0 ≤ (x16_1 : Int) := of_decide_eq_true (by first | (with_reducible assumption) | assumption)
            have q615 : x16_1 < (y611.length : Int) := of_decide_eq_true (by first | (with_reducible assumption) | assumption)
            obtain ⟨ad615, e615, hx615_0, hx615_1, hx615_2, hx615_3⟩ := at_T112 HR614.out x16_1 p615 q615
            cases e615
            replace hx615_0 := (HB.out.cell (World.block_lt_of_cell? w _ hx615_0)).trans hx615_0
            replace hx615_1 := (HB.out.cell (World.block_lt_of_cell? w _ hx615_1)).trans hx615_1
            replace hx615_2 := (HB.out.cell (World.block_lt_of_cell? w _ hx615_2)).trans hx615_2
            replace hx615_3 := (HB.out.cell (World.block_lt_of_cell? w _ hx615_3)).trans hx615_3
            replace p615 := eq_true p615
            replace q615 := eq_true q615
            try go_wp2_with (first | ((with_reducible refine gate_dst (N := 5) rfl ?_); refine bX (N := 5) (cs := #[.int .i64 0, .int .i64 0, .int .i64 0, .int .i64 0]) (t := 112) ?_; intro gb616 hg w20 hbox hb; have n0_ := A_ (Kd.R_below (oR HO_3) hb); have n1_ := A_ (bb BK606 hb); have n2_ := A_ (below_step (oB HB) hb); have n3_ := A_ (hbox); have n4_ := A_ ((by rw [hg]; exact (below_size (oB HB)) : w.heap.size ≤ gb616)); have n5_ := A_ ((by rw [hg]; exact (below_size (oB HB)) : w.heap.size ≤ gb616)); have n6_ := A_ (nL BK606 hg); have n7_ := A_ (nG BK606 hg); clear HO_3; clear BK606; clear HB; have HO_3 := n0_; have BK606 := n1_; have HB := n2_; have BK616 := n3_; have GW616 := n4_; have GE616 := n5_; have NB606_616 := n6_; have NB616_606 := n7_; clear n0_ n1_ n2_ n3_ n4_ n5_ n6_ n7_; clear hb hbox hg; have hnb21 := NB616_606.out; have hnc21 := NB606_616.out; have hcz22_0 := cz BK616 0; have hcz22_1 := cz BK616 1; have hcz22_2 := cz BK616 2; have hcz22_3 := cz BK616 3; have hfz22_0 := blk_frozen BK616.out 0; have hfz22_1 := blk_frozen BK616.out 1; have hfz22_2 := blk_frozen BK616.out 2; have hfz22_3 := blk_frozen BK616.out 3))
            have n0_ : Aside0 (Kd.R (Kd.int .i64) 3 ((((w20.setCell ⟨gb616, 0, none⟩ (.int .i64 ((rd_T112 y611 x16_1).f0))).setCell ⟨gb616, 1, none⟩ (.int .i64 ((rd_T112 y611 x16_1).f1))).setCell ⟨gb616, 2, none⟩ (.int .i64 ((rd_T112 y611 x16_1).f2))).setCell ⟨gb616, 3, none⟩ (.int .i64 ((rd_T112 y611 x16_1).f3))) w.heap.size (fun _ => True) u3 x3_1) := ⟨by (with_reducible repeat (first | apply Kd.R_alloc | apply Kd.R_drewN | apply Kd.R_drew)); exact Kd.R_mono (Kd.R_far (p := ⟨gb616, 3, none⟩) (Kd.R_far (p := ⟨gb616, 2, none⟩) (Kd.R_far (p := ⟨gb616, 1, none⟩) (Kd.R_far (p := ⟨gb616, 0, none⟩) (Kd.R_types HO_3.out BK616.out (by decide)) (fun _ hk => hk.2) (.int .i64 ((rd_T112 y611 x16_1).f0))) (fun _ hk => hk.2) (.int .i64 ((rd_T112 y611 x16_1).f1))) (fun _ hk => hk.2) (.int .i64 ((rd_T112 y611 x16_1).f2))) (fun _ hk => hk.2) (.int .i64 ((rd_T112 y611 x16_1).f3))) (fun _ hk => trivial)⟩
            have n1_ : Aside0 (((((w20.setCell ⟨gb616, 0, none⟩ (.int .i64 ((rd_T112 y611 x16_1).f0))).setCell ⟨gb616, 1, none⟩ (.int .i64 ((rd_T112 y611 x16_1).f1))).setCell ⟨gb616, 2, none⟩ (.int .i64 ((rd_T112 y611 x16_1).f2))).setCell ⟨gb616, 3, none⟩ (.int .i64 ((rd_T112 y611 x16_1).f3))).heap[gb606]? = some (.cells #[.slice (some ad615) l0_0.length c0_0, .int .i64 a0_1, .slice A0_2 l0_2.length c0_2] 34 (0, 0))) := ⟨by (with_reducible repeat (first | refine blk_drewN ?_ _ | refine blk_drew ?_ | refine blk_alloc ?_ _)); refine blk_far ?_ NB606_616.out _; (with_reducible repeat (first | refine blk_drewN ?_ _ | refine blk_drew ?_ | refine blk_alloc ?_ _)); refine blk_far ?_ NB606_616.out _; (with_reducible repeat (first | refine blk_drewN ?_ _ | refine blk_drew ?_ | refine blk_alloc ?_ _)); refine blk_far ?_ NB606_616.out _; (with_reducible repeat (first | refine blk_drewN ?_ _ | refine blk_drew ?_ | refine blk_alloc ?_ _)); refine blk_far ?_ NB606_616.out _; (with_reducible repeat (first | refine blk_drewN ?_ _ | refine blk_drew ?_ | refine blk_alloc ?_ _)); exact BK606.out⟩
            have n2_ : Aside0 (((((w20.setCell ⟨gb616, 0, none⟩ (.int .i64 ((rd_T112 y611 x16_1).f0))).setCell ⟨gb616, 1, none⟩ (.int .i64 ((rd_T112 y611 x16_1).f1))).setCell ⟨gb616, 2, none⟩ (.int .i64 ((rd_T112 y611 x16_1).f2))).setCell ⟨gb616, 3, none⟩ (.int .i64 ((rd_T112 y611 x16_1).f3))).heap[gb616]? = some (.cells #[.int .i64 ((rd_T112 y611 x16_1).f0), .int .i64 ((rd_T112 y611 x16_1).f1), .int .i64 ((rd_T112 y611 x16_1).f2), .int .i64 ((rd_T112 y611 x16_1).f3)] 112 (0, 0))) := ⟨by (with_reducible repeat (first | refine blk_drewN ?_ _ | refine blk_drew ?_ | refine blk_alloc ?_ _)); refine blk_put (cs := #[.int .i64 ((rd_T112 y611 x16_1).f0), .int .i64 ((rd_T112 y611 x16_1).f1), .int .i64 ((rd_T112 y611 x16_1).f2), .int .i64 0]) ?_ 3 _ rfl; (with_reducible repeat (first | refine blk_drewN ?_ _ | refine blk_drew ?_ | refine blk_alloc ?_ _)); refine blk_put (cs := #[.int .i64 ((rd_T112 y611 x16_1).f0), .int .i64 ((rd_T112 y611 x16_1).f1), .int .i64 0, .int .i64 0]) ?_ 2 _ rfl; (with_reducible repeat (first | refine blk_drewN ?_ _ | refine blk_drew ?_ | refine blk_alloc ?_ _)); refine blk_put (cs := #[.int .i64 ((rd_T112 y611 x16_1).f0), .int .i64 0, .int .i64 0, .int .i64 0]) ?_ 1 _ rfl; (with_reducible repeat (first | refine blk_drewN ?_ _ | refine blk_drew ?_ | refine blk_alloc ?_ _)); refine blk_put (cs := #[.int .i64 0, .int .i64 0, .int .i64 0, .int .i64 0]) ?_ 0 _ rfl; (with_reducible repeat (first | refine blk_drewN ?_ _ | refine blk_drew ?_ | refine blk_alloc ?_ _)); exact BK616.out⟩
            have n3_ : Aside0 (Below w.heap.size w ((((w20.setCell ⟨gb616, 0, none⟩ (.int .i64 ((rd_T112 y611 x16_1).f0))).setCell ⟨gb616, 1, none⟩ (.int .i64 ((rd_T112 y611 x16_1).f1))).setCell ⟨gb616, 2, none⟩ (.int .i64 ((rd_T112 y611 x16_1).f2))).setCell ⟨gb616, 3, none⟩ (.int .i64 ((rd_T112 y611 x16_1).f3)))) := ⟨oB HB⟩
            (try clear HO_3)
            (try clear BK606)
            (try clear BK616)
            (try clear HB)
            generalize ((((w20.setCell ⟨gb616, 0, none⟩ (.int .i64 ((rd_T112 y611 x16_1).f0))).setCell ⟨gb616, 1, none⟩ (.int .i64 ((rd_T112 y611 x16_1).f1))).setCell ⟨gb616, 2, none⟩ (.int .i64 ((rd_T112 y611 x16_1).f2))).setCell ⟨gb616, 3, none⟩ (.int .i64 ((rd_T112 y611 x16_1).f3))) = w23 at n0_ n1_ n2_ n3_ ⊢
            have HO_3 := n0_
            have BK606 := n1_
            have BK616 := n2_
            have HB := n3_
            clear n0_ n1_ n2_ n3_
            have n0_ := A_ (Kd.R_drew HO_3.out)
            have n1_ := A_ (blk_drew BK606.out)
            have n2_ := A_ (blk_drew BK616.out)
            have n3_ := A_ (below_drew1 HB.out)
            clear HO_3
            clear BK606
            clear BK616
            clear HB
            have HO_3 := n0_
            have BK606 := n1_
            have BK616 := n2_
            have HB := n3_
            clear n0_ n1_ n2_ n3_
            have p617 : 0 ≤ (((rd_T112 y611 x16_1).f1) : Int) := of_decide_eq_true (by first | (with_reducible assumption) | assumption)
            have q617 : ((rd_T112 y611 x16_1).f1) < (l0_2.length : Int) := of_decide_eq_true (by first | (with_reducible assumption) | assumption)
            obtain ⟨ad617, e617, hx617_0⟩ := Kd.at_int HR0_2.out ((rd_T112 y611 x16_1).f1) p617 q617
            have hw617_0 := hx617_0
            cases e617
            replace hx617_0 := (HB.out.cell (World.block_lt_of_cell? w _ hx617_0)).trans hx617_0
            replace p617 := eq_true p617
            replace q617 := eq_true q617
            refine start_ (n := 10) (S := fun w' => w'.cell? ⟨gb606, 0, none⟩ = some (.slice (some ad615) l0_0.length c0_0) ∧ w'.cell? ⟨gb606, 1, none⟩ = some (.int .i64 a0_1) ∧ w'.cell? ⟨gb606, 2, none⟩ = some (.slice (some ad617) l0_2.length c0_2) ∧ w'.cell? ⟨gb616, 0, none⟩ = some (.int .i64 ((rd_T112 y611 x16_1).f0)) ∧ w'.cell? ⟨gb616, 1, none⟩ = some (.int .i64 ((rd_T112 y611 x16_1).f1)) ∧ w'.cell? ⟨gb616, 2, none⟩ = some (.int .i64 ((rd_T112 y611 x16_1).f2)) ∧ w'.cell? ⟨gb616, 3, none⟩ = some (.int .i64 ((rd_T112 y611 x16_1).f3)) ∧ w'.cell? (ad617.add (((rd_T112 y611 x16_1).f1)).toNat) = some (.int .i64 (rd l0_2 ((rd_T112 y611 x16_1).f1)))) (ds := []) #[false, false, false, false, false, false, false, false, false, false] (by kernel_rfl) rfl rfl ⟨cz BK606 0, cz BK606 1, cz BK606 2, cz BK616 0, cz BK616 1, cz BK616 2, cz BK616 3, ((HB.out.cell (World.block_lt_of_cell? w _ hw617_0)).trans hw617_0)⟩ (fun hHeld => ?_); refine with_tabW impl_WrongSteps.tab7 impl_WrongSteps.bits7 (fun HT_ HW_ => ?_)
            generalize w23.drew = w24 at HO_3 BK606 BK616 HB hx617_0 hHeld ⊢
            refine pA 0 (some 21) HT_.out ?_
            refine pA 2 (some 23) HT_.out ?_
            refine pA 7 (some 28) HT_.out ?_
            refine pT 1 (some 22) HT_.out HW_.out hHeld ?_
            refine pT 3 (some 24) HT_.out HW_.out hHeld ?_
            refine pA 4 (some 25) HT_.out ?_
            refine pT 5 (some 26) HT_.out HW_.out hHeld ?_
            refine pT 6 (some 27) HT_.out HW_.out hHeld ?_
            refine one_ (i := 8) (N := some 29) #[true, true, true, true, true, true, true, true, true, false] rfl rfl (one_of HT_.out (by kernel_rfl)) (by decide) (fun K hK => ?_)
            refine goes_ Tryz.func121 (by kernel_rfl) rfl #[.agg #[.slice (some ad615) l0_0.length c0_0, .int .i64 a0_1, .slice (some ad617) l0_2.length c0_2], .int .i64 x16_1] (by rfl) rfl rfl (by (try simp only [List.map_toArray, List.map_cons, List.map_nil]); first | done | rfl | (simp only [List.length_drop, List.length_take]; rfl)) ?_
            with_reducible refine (impl_tunedBy.calls k1 _ _ l0_0 a0_1 _ _ l0_2 x16_1 t618 _ ?side1 ?side2 ?side3 ?side4 A18.out).mono ?_
            (case side1 => exact oc_ HR0_0.out)
            (case side2 => exact HC0_0.out)
            (case side3 => exact oc_ HR0_2.out)
            (case side4 => exact HC0_2.out)
            rintro e w25 ⟨rfl, hb⟩
            refine ⟨_, rfl, ?_⟩
            have n0_ := A_ (Kd.R_below (oR HO_3) hb)
            have n1_ := A_ (bb BK606 hb)
            have n2_ := A_ (bb BK616 hb)
            have n3_ := A_ (below_step (oB HB) hb)
            clear HO_3
            clear BK606
            clear BK616
            clear HB
            have HO_3 := n0_
            have BK606 := n1_
            have BK616 := n2_
            have HB := n3_
            clear n0_ n1_ n2_ n3_
            (try clear hb)
            (try clear hb2)
            (try clear hk)
            (try clear hi)
            refine hK.out _ _ ⟨cz BK606 0, cz BK606 1, cz BK606 2, cz BK616 0, cz BK616 1, cz BK616 2, cz BK616 3, ((HB.out.cell (World.block_lt_of_cell? w _ hw617_0)).trans hw617_0)⟩ (fun hHeld => ?_)
            clear hK K
            refine norm_ (a' := ?_) ?_ ?_
            rotate_left
            ·show Act.put _ (some 29) _ = _
             simp only [Act.put, List.setIfInBounds_toArray, List.set_cons_zero, List.set_cons_succ, i64_w, i32_w]
             rfl
            refine pA 9 (some 30) HT_.out ?_
            refine done_ (done_of HT_.out (by kernel_rfl)) ?_
            try go_wp2
            go_roundg k1
            case measure => have := HK1.out; omega
            case rel => exact ⟨(x3_1), (wrap64 (x16_1 + 1)), (by first | rfl | (simp; done) | (simp [*]; done)), H', ⟨by have := HK1.out; omega⟩, ⟨oR HO_3⟩, ⟨oK BK606⟩, ⟨oB HB⟩⟩
           ·rw [if_neg c19] at H
            have c19b0 : ((rd l0_2 ((rd_T112 y611 x16_1).f1)) == t618) = false := beq_eq_false_iff_ne.mpr c19
            have c19b1 : ((rd l0_2 ((rd_T112 y611 x16_1).f1)) != t618) = true := bne_iff_ne.mpr c19
            by_cases c26 : x3_1.length < 17592186044416
            ·rw [if_pos c26] at H
             have LMc26 := A_ c26
             clear c26
             obtain ⟨y619, hy619⟩ : ∃ y_ : List Int, y_ = (x3_1 ++ [x16_1]) := ⟨_, rfl⟩
             replace H : (impl_WrongSteps.l0 k1 y619 y611 (y611.length : Int) (wrap64 (x16_1 + 1)) l0_0 a0_1 l0_2) = some r := by first | (rw [hy619]; with_reducible exact H) | (have H2_ := (Option.bind_some _ _).symm.trans H; rw [hy619]; with_reducible exact H2_) | (have H2_ := (Option.bind_some _ _).symm.trans H; with_reducible exact H2_) | with_reducible exact H | (rw [hy619]; exact H) | exact H
             have Ny619 := A_ hy619
             clear hy619
             have H' := A_ H
             clear H
             have p615 : 0 ≤ (x16_1 : Int) := of_decide_eq_true (by first | (with_reducible assumption) | assumption)
             have q615 : x16_1 < (y611.length : Int) := of_decide_eq_true (by first | (with_reducible assumption) | assumption)
             obtain ⟨ad615, e615, hx615_0, hx615_1, hx615_2, hx615_3⟩ := at_T112 HR614.out x16_1 p615 q615
             cases e615
             replace hx615_0 := (HB.out.cell (World.block_lt_of_cell? w _ hx615_0)).trans hx615_0
             replace hx615_1 := (HB.out.cell (World.block_lt_of_cell? w _ hx615_1)).trans hx615_1
             replace hx615_2 := (HB.out.cell (World.block_lt_of_cell? w _ hx615_2)).trans hx615_2
             replace hx615_3 := (HB.out.cell (World.block_lt_of_cell? w _ hx615_3)).trans hx615_3
             replace p615 := eq_true p615
             replace q615 := eq_true q615
             try go_wp2_with (first | ((with_reducible refine gate_dst (N := 5) rfl ?_); refine bX (N := 5) (cs := #[.int .i64 0, .int .i64 0, .int .i64 0, .int .i64 0]) (t := 112) ?_; intro gb616 hg w27 hbox hb; have n0_ := A_ (Kd.R_below (oR HO_3) hb); have n1_ := A_ (bb BK606 hb); have n2_ := A_ (below_step (oB HB) hb); have n3_ := A_ (hbox); have n4_ := A_ ((by rw [hg]; exact (below_size (oB HB)) : w.heap.size ≤ gb616)); have n5_ := A_ ((by rw [hg]; exact (below_size (oB HB)) : w.heap.size ≤ gb616)); have n6_ := A_ (nL BK606 hg); have n7_ := A_ (nG BK606 hg); clear HO_3; clear BK606; clear HB; have HO_3 := n0_; have BK606 := n1_; have HB := n2_; have BK616 := n3_; have GW616 := n4_; have GE616 := n5_; have NB606_616 := n6_; have NB616_606 := n7_; clear n0_ n1_ n2_ n3_ n4_ n5_ n6_ n7_; clear hb hbox hg; have hnb28 := NB616_606.out; have hnc28 := NB606_616.out; have hcz29_0 := cz BK616 0; have hcz29_1 := cz BK616 1; have hcz29_2 := cz BK616 2; have hcz29_3 := cz BK616 3; have hfz29_0 := blk_frozen BK616.out 0; have hfz29_1 := blk_frozen BK616.out 1; have hfz29_2 := blk_frozen BK616.out 2; have hfz29_3 := blk_frozen BK616.out 3))
             have n0_ : Aside0 (Kd.R (Kd.int .i64) 3 ((((w27.setCell ⟨gb616, 0, none⟩ (.int .i64 ((rd_T112 y611 x16_1).f0))).setCell ⟨gb616, 1, none⟩ (.int .i64 ((rd_T112 y611 x16_1).f1))).setCell ⟨gb616, 2, none⟩ (.int .i64 ((rd_T112 y611 x16_1).f2))).setCell ⟨gb616, 3, none⟩ (.int .i64 ((rd_T112 y611 x16_1).f3))) w.heap.size (fun _ => True) u3 x3_1) := ⟨by (with_reducible repeat (first | apply Kd.R_alloc | apply Kd.R_drewN | apply Kd.R_drew)); exact Kd.R_mono (Kd.R_far (p := ⟨gb616, 3, none⟩) (Kd.R_far (p := ⟨gb616, 2, none⟩) (Kd.R_far (p := ⟨gb616, 1, none⟩) (Kd.R_far (p := ⟨gb616, 0, none⟩) (Kd.R_types HO_3.out BK616.out (by decide)) (fun _ hk => hk.2) (.int .i64 ((rd_T112 y611 x16_1).f0))) (fun _ hk => hk.2) (.int .i64 ((rd_T112 y611 x16_1).f1))) (fun _ hk => hk.2) (.int .i64 ((rd_T112 y611 x16_1).f2))) (fun _ hk => hk.2) (.int .i64 ((rd_T112 y611 x16_1).f3))) (fun _ hk => trivial)⟩
             have n1_ : Aside0 (((((w27.setCell ⟨gb616, 0, none⟩ (.int .i64 ((rd_T112 y611 x16_1).f0))).setCell ⟨gb616, 1, none⟩ (.int .i64 ((rd_T112 y611 x16_1).f1))).setCell ⟨gb616, 2, none⟩ (.int .i64 ((rd_T112 y611 x16_1).f2))).setCell ⟨gb616, 3, none⟩ (.int .i64 ((rd_T112 y611 x16_1).f3))).heap[gb606]? = some (.cells #[.slice (some ad615) l0_0.length c0_0, .int .i64 a0_1, .slice A0_2 l0_2.length c0_2] 34 (0, 0))) := ⟨by (with_reducible repeat (first | refine blk_drewN ?_ _ | refine blk_drew ?_ | refine blk_alloc ?_ _)); refine blk_far ?_ NB606_616.out _; (with_reducible repeat (first | refine blk_drewN ?_ _ | refine blk_drew ?_ | refine blk_alloc ?_ _)); refine blk_far ?_ NB606_616.out _; (with_reducible repeat (first | refine blk_drewN ?_ _ | refine blk_drew ?_ | refine blk_alloc ?_ _)); refine blk_far ?_ NB606_616.out _; (with_reducible repeat (first | refine blk_drewN ?_ _ | refine blk_drew ?_ | refine blk_alloc ?_ _)); refine blk_far ?_ NB606_616.out _; (with_reducible repeat (first | refine blk_drewN ?_ _ | refine blk_drew ?_ | refine blk_alloc ?_ _)); exact BK606.out⟩
             have n2_ : Aside0 (((((w27.setCell ⟨gb616, 0, none⟩ (.int .i64 ((rd_T112 y611 x16_1).f0))).setCell ⟨gb616, 1, none⟩ (.int .i64 ((rd_T112 y611 x16_1).f1))).setCell ⟨gb616, 2, none⟩ (.int .i64 ((rd_T112 y611 x16_1).f2))).setCell ⟨gb616, 3, none⟩ (.int .i64 ((rd_T112 y611 x16_1).f3))).heap[gb616]? = some (.cells #[.int .i64 ((rd_T112 y611 x16_1).f0), .int .i64 ((rd_T112 y611 x16_1).f1), .int .i64 ((rd_T112 y611 x16_1).f2), .int .i64 ((rd_T112 y611 x16_1).f3)] 112 (0, 0))) := ⟨by (with_reducible repeat (first | refine blk_drewN ?_ _ | refine blk_drew ?_ | refine blk_alloc ?_ _)); refine blk_put (cs := #[.int .i64 ((rd_T112 y611 x16_1).f0), .int .i64 ((rd_T112 y611 x16_1).f1), .int .i64 ((rd_T112 y611 x16_1).f2), .int .i64 0]) ?_ 3 _ rfl; (with_reducible repeat (first | refine blk_drewN ?_ _ | refine blk_drew ?_ | refine blk_alloc ?_ _)); refine blk_put (cs := #[.int .i64 ((rd_T112 y611 x16_1).f0), .int .i64 ((rd_T112 y611 x16_1).f1), .int .i64 0, .int .i64 0]) ?_ 2 _ rfl; (with_reducible repeat (first | refine blk_drewN ?_ _ | refine blk_drew ?_ | refine blk_alloc ?_ _)); refine blk_put (cs := #[.int .i64 ((rd_T112 y611 x16_1).f0), .int .i64 0, .int .i64 0, .int .i64 0]) ?_ 1 _ rfl; (with_reducible repeat (first | refine blk_drewN ?_ _ | refine blk_drew ?_ | refine blk_alloc ?_ _)); refine blk_put (cs := #[.int .i64 0, .int .i64 0, .int .i64 0, .int .i64 0]) ?_ 0 _ rfl; (with_reducible repeat (first | refine blk_drewN ?_ _ | refine blk_drew ?_ | refine blk_alloc ?_ _)); exact BK616.out⟩
             have n3_ : Aside0 (Below w.heap.size w ((((w27.setCell ⟨gb616, 0, none⟩ (.int .i64 ((rd_T112 y611 x16_1).f0))).setCell ⟨gb616, 1, none⟩ (.int .i64 ((rd_T112 y611 x16_1).f1))).setCell ⟨gb616, 2, none⟩ (.int .i64 ((rd_T112 y611 x16_1).f2))).setCell ⟨gb616, 3, none⟩ (.int .i64 ((rd_T112 y611 x16_1).f3)))) := ⟨oB HB⟩
             (try clear HO_3)
             (try clear BK606)
             (try clear BK616)
             (try clear HB)
             generalize ((((w27.setCell ⟨gb616, 0, none⟩ (.int .i64 ((rd_T112 y611 x16_1).f0))).setCell ⟨gb616, 1, none⟩ (.int .i64 ((rd_T112 y611 x16_1).f1))).setCell ⟨gb616, 2, none⟩ (.int .i64 ((rd_T112 y611 x16_1).f2))).setCell ⟨gb616, 3, none⟩ (.int .i64 ((rd_T112 y611 x16_1).f3))) = w30 at n0_ n1_ n2_ n3_ ⊢
             have HO_3 := n0_
             have BK606 := n1_
             have BK616 := n2_
             have HB := n3_
             clear n0_ n1_ n2_ n3_
             have n0_ := A_ (Kd.R_drew HO_3.out)
             have n1_ := A_ (blk_drew BK606.out)
             have n2_ := A_ (blk_drew BK616.out)
             have n3_ := A_ (below_drew1 HB.out)
             clear HO_3
             clear BK606
             clear BK616
             clear HB
             have HO_3 := n0_
             have BK606 := n1_
             have BK616 := n2_
             have HB := n3_
             clear n0_ n1_ n2_ n3_
             have p617 : 0 ≤ (((rd_T112 y611 x16_1).f1) : Int) := of_decide_eq_true (by first | (with_reducible assumption) | assumption)
             have q617 : ((rd_T112 y611 x16_1).f1) < (l0_2.length : Int) := of_decide_eq_true (by first | (with_reducible assumption) | assumption)
             obtain ⟨ad617, e617, hx617_0⟩ := Kd.at_int HR0_2.out ((rd_T112 y611 x16_1).f1) p617 q617
             have hw617_0 := hx617_0
             cases e617
             replace hx617_0 := (HB.out.cell (World.block_lt_of_cell? w _ hx617_0)).trans hx617_0
             replace p617 := eq_true p617
             replace q617 := eq_true q617
             refine start_ (n := 10) (S := fun w' => w'.cell? ⟨gb606, 0, none⟩ = some (.slice (some ad615) l0_0.length c0_0) ∧ w'.cell? ⟨gb606, 1, none⟩ = some (.int .i64 a0_1) ∧ w'.cell? ⟨gb606, 2, none⟩ = some (.slice (some ad617) l0_2.length c0_2) ∧ w'.cell? ⟨gb616, 0, none⟩ = some (.int .i64 ((rd_T112 y611 x16_1).f0)) ∧ w'.cell? ⟨gb616, 1, none⟩ = some (.int .i64 ((rd_T112 y611 x16_1).f1)) ∧ w'.cell? ⟨gb616, 2, none⟩ = some (.int .i64 ((rd_T112 y611 x16_1).f2)) ∧ w'.cell? ⟨gb616, 3, none⟩ = some (.int .i64 ((rd_T112 y611 x16_1).f3)) ∧ w'.cell? (ad617.add (((rd_T112 y611 x16_1).f1)).toNat) = some (.int .i64 (rd l0_2 ((rd_T112 y611 x16_1).f1)))) (ds := []) #[false, false, false, false, false, false, false, false, false, false] (by kernel_rfl) rfl rfl ⟨cz BK606 0, cz BK606 1, cz BK606 2, cz BK616 0, cz BK616 1, cz BK616 2, cz BK616 3, ((HB.out.cell (World.block_lt_of_cell? w _ hw617_0)).trans hw617_0)⟩ (fun hHeld => ?_); refine with_tabW impl_WrongSteps.tab7 impl_WrongSteps.bits7 (fun HT_ HW_ => ?_)
             generalize w30.drew = w31 at HO_3 BK606 BK616 HB hx617_0 hHeld ⊢
             refine pA 0 (some 21) HT_.out ?_
             refine pA 2 (some 23) HT_.out ?_
             refine pA 7 (some 28) HT_.out ?_
             refine pT 1 (some 22) HT_.out HW_.out hHeld ?_
             refine pT 3 (some 24) HT_.out HW_.out hHeld ?_
             refine pA 4 (some 25) HT_.out ?_
             refine pT 5 (some 26) HT_.out HW_.out hHeld ?_
             refine pT 6 (some 27) HT_.out HW_.out hHeld ?_
             refine one_ (i := 8) (N := some 29) #[true, true, true, true, true, true, true, true, true, false] rfl rfl (one_of HT_.out (by kernel_rfl)) (by decide) (fun K hK => ?_)
             refine goes_ Tryz.func121 (by kernel_rfl) rfl #[.agg #[.slice (some ad615) l0_0.length c0_0, .int .i64 a0_1, .slice (some ad617) l0_2.length c0_2], .int .i64 x16_1] (by rfl) rfl rfl (by (try simp only [List.map_toArray, List.map_cons, List.map_nil]); first | done | rfl | (simp only [List.length_drop, List.length_take]; rfl)) ?_
             with_reducible refine (impl_tunedBy.calls k1 _ _ l0_0 a0_1 _ _ l0_2 x16_1 t618 _ ?side1 ?side2 ?side3 ?side4 A18.out).mono ?_
             (case side1 => exact oc_ HR0_0.out)
             (case side2 => exact HC0_0.out)
             (case side3 => exact oc_ HR0_2.out)
             (case side4 => exact HC0_2.out)
             rintro e w32 ⟨rfl, hb⟩
             refine ⟨_, rfl, ?_⟩
             have n0_ := A_ (Kd.R_below (oR HO_3) hb)
             have n1_ := A_ (bb BK606 hb)
             have n2_ := A_ (bb BK616 hb)
             have n3_ := A_ (below_step (oB HB) hb)
             clear HO_3
             clear BK606
             clear BK616
             clear HB
             have HO_3 := n0_
             have BK606 := n1_
             have BK616 := n2_
             have HB := n3_
             clear n0_ n1_ n2_ n3_
             (try clear hb)
             (try clear hb2)
             (try clear hk)
             (try clear hi)
             refine hK.out _ _ ⟨cz BK606 0, cz BK606 1, cz BK606 2, cz BK616 0, cz BK616 1, cz BK616 2, cz BK616 3, ((HB.out.cell (World.block_lt_of_cell? w _ hw617_0)).trans hw617_0)⟩ (fun hHeld => ?_)
             clear hK K
             refine norm_ (a' := ?_) ?_ ?_
             rotate_left
             ·show Act.put _ (some 29) _ = _
              simp only [Act.put, List.setIfInBounds_toArray, List.set_cons_zero, List.set_cons_succ, i64_w, i32_w]
              rfl
             refine pA 9 (some 30) HT_.out ?_
             refine done_ (done_of HT_.out (by kernel_rfl)) ?_
             try go_wp2_with (first | ((with_reducible refine gate_builtin (b := .append) (xs := #[.tmp 31, .tmp 33]) rfl ?_); at_builtin; refine Kd.R_append (Kd.int .i64) (w0 := w) w.heap.size rfl (.tmp 31) (.tmp 33) 23 3 (.int .i64 0) 8 rfl Tryz.underlying23 info3 rfl (by decide) (by omega) u3 x3_1 x16_1 [.int .i64 x16_1] (fun _ => True) (fun _ => False) rfl rfl ?aP (fun _ hk => hk.elim) ?aF ?aO ?aB ?aS ?aL ?_; (case aP => exact rfl); (case aB => exact (oB HB)); (case aF => exact (fun _ _ => trivial)); (case aO => exact (oR HO_3)); (case aS => exact (below_size (oB HB))); (case aL => have := LMc26.out; omega); intro v620 w33 ho hb hg hat; rw [← Ny619.out] at ho; have n0_ := A_ (bg BK606 hg (Kd.R_ne HO_3.out BK606.out (by decide))); have n1_ := A_ (bg BK616 hg (Kd.R_ne HO_3.out BK616.out (by decide))); have n2_ := A_ (hb); have n3_ := A_ (ho); clear BK606; clear BK616; clear HB; clear HO_3; have BK606 := n0_; have BK616 := n1_; have HB := n2_; have HO621 := n3_; clear n0_ n1_ n2_ n3_; clear ho hb hg hat))
             go_roundg k1
             case measure => have := HK1.out; omega
             case rel => exact ⟨(y619), (wrap64 (x16_1 + 1)), (by first | rfl | (simp; done) | (simp [*]; done)), H', ⟨by have := HK1.out; omega⟩, ⟨oR HO621⟩, ⟨oK BK606⟩, ⟨oB HB⟩⟩
            ·rw [if_neg c26] at H
             exact absurd H (by simp)
          ·rw [if_neg c17] at H
           exact absurd H (by simp)
         ·rw [if_neg c16] at H
          exact absurd H (by simp)
        ·rw [if_neg c15] at H
         exact absurd H (by simp)
       ·rw [if_neg c14] at H
        exact absurd H (by simp)
      ·rw [if_neg c13] at H
       have c13b0 : decide (x16_1 < (y611.length : Int)) = false := decide_eq_false c13
       clear c13
       obtain rfl := Option.some.inj H
       go_wp2
       go_ret
       exact ⟨_, eR, oR HO_3, oB HB⟩
   ·rw [if_neg c5] at H
    exact absurd H (by simp)
  ·rw [if_neg c4] at H
   exact absurd H (by simp)
 ·replace c3 := Bool.eq_false_iff.mpr c3
  subst c3
  rw [if_neg (show ¬ (false = true) by decide)] at H
  obtain rfl := Option.some.inj H
  go_enter Tryz.func82, Tryz.ntmps82
  go_wp2_with (first | ((with_reducible refine gate_dst (N := 1) rfl ?_); refine bX (N := 1) (cs := #[.slice A0_0 l0_0.length c0_0, .int .i64 a0_1, .slice A0_2 l0_2.length c0_2]) (t := 34) ?_; intro gb606 hg w34 hbox hb; have n0_ := A_ (below_step (oB HB) hb); have n1_ := A_ (hbox); have n2_ := A_ ((by rw [hg]; exact (below_size (oB HB)) : w.heap.size ≤ gb606)); have n3_ := A_ ((by rw [hg]; exact (below_size (oB HB)) : w.heap.size ≤ gb606)); clear HB; have HB := n0_; have BK606 := n1_; have GW606 := n2_; have GE606 := n3_; clear n0_ n1_ n2_ n3_; clear hb hbox hg; have hcz35_0 := cz BK606 0; have hcz35_1 := cz BK606 1; have hcz35_2 := cz BK606 2; have hfz35_0 := blk_frozen BK606.out 0; have hfz35_1 := blk_frozen BK606.out 1; have hfz35_2 := blk_frozen BK606.out 2) | ((with_reducible refine gate_callee (f := 76) rfl ?_); refine gL (some 7) Tryz.func76 #[.agg #[.slice A0_0 l0_0.length c0_0, .int .i64 a0_1, .slice A0_2 l0_2.length c0_2]] ?_; (with_reducible refine (impl_WorkOk.calls _ _ l0_0 a0_1 _ _ l0_2 false _ ?side1 ?side2 ?side3 ?side4 A2.out).mono ?_); (case side1 => exact oc_ HR0_0.out); (case side2 => exact HC0_0.out); (case side3 => exact oc_ HR0_2.out); (case side4 => exact HC0_2.out); rintro e w36 ⟨rfl, hb⟩; refine ⟨_, rfl, ?_⟩; have n0_ := A_ (bb BK606 hb); have n1_ := A_ (below_step (oB HB) hb); clear BK606; clear HB; have BK606 := n0_; have HB := n1_; clear n0_ n1_; (try clear hb); (try clear hb2); (try clear hk); (try clear hi)))
  go_ret
  exact ⟨_, eR, by first | exact Kd.R_nil _ _ _ _ _ | exact Kd.N_nil _ _ _ _ _ | exact Kd.V_nil _ _ _ _ _ | exact Kd.Q_nil _ _ _ _ _ | exact Kd.S_nil _ _ _ _ _, oB HB⟩
end Go.Proofs.YtanhnhkcpbdfmaaGreat.P
