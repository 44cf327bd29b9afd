/- What functions of the program come to (f), that their calls come to just this (calls), and the plain laws over lists and numbers. No condition but those of the given row. -/
import Derived.Test.YtbkkpllejgedcaaC1
namespace Go.Proofs.Ytbkkpllejgedcaa.P
open Go.RowKit Go.Proofs.YtbkkpllejgedcaaW.PrintWords Go.Proofs.YtbkkpllejgedcaaW.PrintLast Go.Proofs.YtbkkpllejgedcaaW.PrintMore Go.Proofs.Ytbkkpllejgedcaa.V
attribute [local go_sem] cell_b frozen_b
attribute [local go_sem] max2_int min2_int max_two min_two max_three min_three max_four min_four
set_option linter.unusedVariables false
set_option linter.unusedSimpArgs false
def impl_copyShop.f (l0_0 : List (S96)) (a0_1 : Int) (l0_2 : List Int) (a0_3 : Int) (a0_4 : Int) (l0_5 : List (S74)) : Option ((List (S96)) × Int × List Int × Int × Int × (List (S74))) := (impl_copyWork.f l0_0 a0_1 l0_2).bind fun bt816 => ((impl_copyLog.f l0_5).bind fun t823 => (some (bt816.1, bt816.2.1, bt816.2.2, a0_3, a0_4, t823)))
set_option maxHeartbeats 8000000 in
set_option maxRecDepth 100000 in
set_option synthInstance.maxHeartbeats 400000 in
set_option synthInstance.maxSize 100000 in
theorem impl_copyShop.calls (A0_0 : Option Addr) (c0_0 : Nat) (l0_0 : List (S96)) (a0_1 : Int) (A0_2 : Option Addr) (c0_2 : Nat) (l0_2 : List Int) (a0_3 : Int) (a0_4 : Int) (A0_5 : Option Addr) (c0_5 : Nat) (l0_5 : List (S74)) (r1 : List (S96)) (r2 : Int) (r3 : List Int) (r4 : Int) (r5 : Int) (r6 : List (S74)) (w : World) (hr0_0 : Kd.C k96 w A0_0 l0_0.length l0_0) (hc0_0 : l0_0.length ≤ c0_0) (hr0_2 : Kd.C (Kd.int .i64) w A0_2 l0_2.length l0_2) (hc0_2 : l0_2.length ≤ c0_2) (hr0_5 : Kd.C k74 w A0_5 l0_5.length l0_5) (hc0_5 : l0_5.length ≤ c0_5) (h : impl_copyShop.f l0_0 a0_1 l0_2 a0_3 a0_4 l0_5 = some (r1, r2, r3, r4, r5, r6)) :
  Calls Try.prog 84 #[.agg #[.slice A0_0 l0_0.length c0_0, .int .i64 a0_1, .slice A0_2 l0_2.length c0_2, .int .i64 a0_3, .int .i64 a0_4, .slice A0_5 l0_5.length c0_5]] w fun e w' => ∃ v0_ v2_ v5_ : Value, e = .returned (.agg #[v0_, .int .i64 r2, v2_, .int .i64 r4, .int .i64 r5, v5_]) ∧ Kd.R k96 96 w' w.heap.size (fun _ => True) v0_ r1 ∧ Kd.R (Kd.int .i64) 3 w' w.heap.size (fun _ => True) v2_ r3 ∧ Kd.R k74 74 w' w.heap.size (fun _ => True) v5_ r6 ∧ Below w.heap.size w w' := by
 have ihr0_0 := RdE.mk hr0_0
 have ihc0_0 := LeI.mk hc0_0
 have ihr0_2 := RdE.mk hr0_2
 have ihc0_2 := LeI.mk hc0_2
 have ihr0_5 := RdE.mk hr0_5
 have ihc0_5 := LeI.mk hc0_5
 clear hr0_0 hc0_0 hr0_2 hc0_2 hr0_5 hc0_5
 unfold impl_copyShop.f at h
 have hu36 := Try.underlying36
 (repeat' first | ((with_reducible replace h := ite_some h); rcases h with ⟨hc, h⟩ | ⟨hc, h⟩ <;> first | exact (none_some h).elim | exact absurd hc (by decide) | subst hc | (replace hc := Bool.eq_false_iff.mpr hc; subst hc) | (have hd := beq_iff_eq.mpr hc; have he := bne_eq_false_iff_eq.mpr hc; clear hc) | (have hd := beq_eq_false_iff_ne.mpr hc; have he := bne_iff_ne.mpr hc) | (have hd := decide_eq_false hc) | (have hd := decide_eq_true hc) | skip))
 all_goals go_enter Try.func84, Try.ntmps84
 all_goals go_wp2_with (first
  | ((with_reducible refine gate_dst (N := 1) rfl ?_); refine box_event rfl (N := 1) rfl (cs := #[.slice A0_0 l0_0.length c0_0, .int .i64 a0_1, .slice A0_2 l0_2.length c0_2, .int .i64 a0_3, .int .i64 a0_4, .slice A0_5 l0_5.length c0_5]) (t := 36) (by first | (go_simp; done) | (go_simp; rfl)) ?_; intro g hg w1 hk hb; have j1 := Born.mk hg; have j2 := Bel.mk hb; have j3 := Blk.mk hk; clear hg hb hk)
  | ((with_reducible refine gate_dst (N := 2) rfl ?_); refine box_event rfl (N := 2) rfl (cs := #[.slice none 0 0, .int .i64 0, .slice none 0 0, .int .i64 0, .int .i64 0, .slice none 0 0]) (t := 36) (by first | (go_simp; done) | (go_simp; rfl)) ?_; intro g hg w1 hk hb; have j1 := Born.mk hg; have j2 := Bel.mk hb; have j3 := Blk.mk hk; clear hg hb hk)
  | ((with_reducible refine region_at ?_); intro w3 jw; refine region_st 2 (by rfl) ?_; intro g hg w4 jv; subst hg; go_region_held3 (fun w' => SinB g w4 w') (first | exact ⟨FromB.out⟩ | skip) (first | (go_at_call 119; replace h := Option.bind_eq_some_iff.mp h; obtain ⟨⟨t1, t2, t3⟩, A, h⟩ := h; (try dsimp only at h); refine (impl_copyWork.calls _ _ _ _ _ _ _ _ _ _ _ Rd.out LeI.out Rd.out LeI.out A).mono ?_; rintro e w2 ⟨v0, v1, rfl, ho0, ho1, hb⟩; obtain ⟨B0, b0, rfl⟩ := Kd.R_slice ho0; have j0 := RowE.mk ho0; have q0 := LeI.mk (rowLe j0); obtain ⟨B1, b1, rfl⟩ := Kd.R_slice ho1; have j1 := RowE.mk ho1; have q1 := LeI.mk (rowLe j1); have jb := Bel.mk hb; clear A ho0 ho1 hb; (repeat' first | ((with_reducible replace h := ite_some h); rcases h with ⟨hc, h⟩ | ⟨hc, h⟩ <;> first | exact (none_some h).elim | exact absurd hc (by decide) | subst hc | (replace hc := Bool.eq_false_iff.mpr hc; subst hc) | (have hd := beq_iff_eq.mpr hc; have he := bne_eq_false_iff_eq.mpr hc; clear hc) | (have hd := beq_eq_false_iff_ne.mpr hc; have he := bne_iff_ne.mpr hc) | (have hd := decide_eq_false hc) | (have hd := decide_eq_true hc) | skip))) | (go_at_call 94; replace h := Option.bind_eq_some_iff.mp h; obtain ⟨t, A, h⟩ := h; (try dsimp only at h); refine (impl_copyLog.calls _ _ _ _ _ Rd.out LeI.out A).mono ?_; rintro e w2 ⟨v0, rfl, ho0, hb⟩; obtain ⟨B0, b0, rfl⟩ := Kd.R_slice ho0; have j0 := RowE.mk ho0; have q0 := LeI.mk (rowLe j0); have jb := Bel.mk hb; clear A ho0 hb; (repeat' first | ((with_reducible replace h := ite_some h); rcases h with ⟨hc, h⟩ | ⟨hc, h⟩ <;> first | exact (none_some h).elim | exact absurd hc (by decide) | subst hc | (replace hc := Bool.eq_false_iff.mpr hc; subst hc) | (have hd := beq_iff_eq.mpr hc; have he := bne_eq_false_iff_eq.mpr hc; clear hc) | (have hd := beq_eq_false_iff_ne.mpr hc; have he := bne_iff_ne.mpr hc) | (have hd := decide_eq_false hc) | (have hd := decide_eq_true hc) | skip)); (try have hn : decide (0 < t.length) = true := decide_eq_true (by omega)); (try have hn : decide (0 < t.length) = false := decide_eq_false (by omega))))))
 all_goals (repeat' first | ((with_reducible replace h := ite_some h); rcases h with ⟨hc, h⟩ | ⟨hc, h⟩ <;> first | exact (none_some h).elim | exact absurd hc (by decide) | subst hc | (replace hc := Bool.eq_false_iff.mpr hc; subst hc) | (have hd := beq_iff_eq.mpr hc; have he := bne_eq_false_iff_eq.mpr hc; clear hc) | (have hd := beq_eq_false_iff_ne.mpr hc; have he := bne_iff_ne.mpr hc) | (have hd := decide_eq_false hc) | (have hd := decide_eq_true hc) | skip))
 all_goals simp only [Option.some.injEq, Prod.mk.injEq] at h
 all_goals obtain ⟨rfl, rfl, rfl, rfl, rfl, rfl⟩ := h
 all_goals refine bodyPost_ret (results_cell_row rfl _ _ _ _ _ (0, 0) _ rfl Blk.out Try.underlying36 rfl (by kernel_rfl)) rfl ?_
 all_goals exact ⟨_, _, _, rfl, (by first | exact rowFin | exact Kd.R_nil _ _ _ _ _), (by first | exact rowFin | exact Kd.R_nil _ _ _ _ _), (by first | exact rowFin | exact Kd.R_nil _ _ _ _ _), From.out⟩
end Go.Proofs.Ytbkkpllejgedcaa.P


namespace Go.Proofs.Ytbkkpllejgedcaa.P
open Go.RowKit Go.Proofs.YtbkkpllejgedcaaW.PrintWords Go.Proofs.YtbkkpllejgedcaaW.PrintLast Go.Proofs.YtbkkpllejgedcaaW.PrintMore Go.Proofs.Ytbkkpllejgedcaa.V
attribute [local go_sem] cell_b frozen_b
attribute [local go_sem] max2_int min2_int max_two min_two max_three min_three max_four min_four
set_option linter.unusedVariables false
set_option linter.unusedSimpArgs false
def impl_ShopWarm.f (k : Nat) (l0_0 : List (S96)) (a0_1 : Int) (l0_2 : List Int) (a0_3 : Int) (a0_4 : Int) (l0_5 : List (S74)) (a1 : Int) : Option ((List (S96)) × Int × List Int × Int × Int × (List (S74)) × Bool) := (impl_copyShop.f l0_0 a0_1 l0_2 a0_3 a0_4 l0_5).bind fun bt828 => ((impl_ShopOk.f k l0_0 a0_1 l0_2 a0_3 a0_4 l0_5).bind fun t841 => (if t841 = true then ((impl_ShopOk.f k bt828.1 bt828.2.1 bt828.2.2.1 a1 (wrap64 (bt828.2.2.2.2.1 + 1)) bt828.2.2.2.2.2).bind fun t842 => (if t842 = true then (some (bt828.1, bt828.2.1, bt828.2.2.1, a1, wrap64 (bt828.2.2.2.2.1 + 1), bt828.2.2.2.2.2, true)) else ((impl_copyShop.f l0_0 a0_1 l0_2 a0_3 a0_4 l0_5).bind fun bt843 => (some (bt843.1, bt843.2.1, bt843.2.2.1, bt843.2.2.2.1, bt843.2.2.2.2.1, bt843.2.2.2.2.2, false))))) else ((impl_copyShop.f l0_0 a0_1 l0_2 a0_3 a0_4 l0_5).bind fun bt855 => (some (bt855.1, bt855.2.1, bt855.2.2.1, bt855.2.2.2.1, bt855.2.2.2.2.1, bt855.2.2.2.2.2, false)))))
set_option maxHeartbeats 8000000 in
set_option maxRecDepth 100000 in
set_option synthInstance.maxHeartbeats 400000 in
set_option synthInstance.maxSize 100000 in
theorem impl_ShopWarm.calls (k : Nat) (A0_0 : Option Addr) (c0_0 : Nat) (l0_0 : List (S96)) (a0_1 : Int) (A0_2 : Option Addr) (c0_2 : Nat) (l0_2 : List Int) (a0_3 : Int) (a0_4 : Int) (A0_5 : Option Addr) (c0_5 : Nat) (l0_5 : List (S74)) (a1 : Int) (r1 : List (S96)) (r2 : Int) (r3 : List Int) (r4 : Int) (r5 : Int) (r6 : List (S74)) (r7 : Bool) (w : World) (hr0_0 : Kd.C k96 w A0_0 l0_0.length l0_0) (hc0_0 : l0_0.length ≤ c0_0) (hr0_2 : Kd.C (Kd.int .i64) w A0_2 l0_2.length l0_2) (hc0_2 : l0_2.length ≤ c0_2) (hr0_5 : Kd.C k74 w A0_5 l0_5.length l0_5) (hc0_5 : l0_5.length ≤ c0_5) (h : impl_ShopWarm.f k l0_0 a0_1 l0_2 a0_3 a0_4 l0_5 a1 = some (r1, r2, r3, r4, r5, r6, r7)) :
  Calls Try.prog 35 #[.agg #[.slice A0_0 l0_0.length c0_0, .int .i64 a0_1, .slice A0_2 l0_2.length c0_2, .int .i64 a0_3, .int .i64 a0_4, .slice A0_5 l0_5.length c0_5], .int .i64 a1] w fun e w' => ∃ v0_ v2_ v5_ : Value, e = .returned (.tuple #[.agg #[v0_, .int .i64 r2, v2_, .int .i64 r4, .int .i64 r5, v5_], .bool r7]) ∧ Kd.R k96 96 w' w.heap.size (fun _ => True) v0_ r1 ∧ Kd.R (Kd.int .i64) 3 w' w.heap.size (fun _ => True) v2_ r3 ∧ Kd.R k74 74 w' w.heap.size (fun _ => True) v5_ r6 ∧ Below w.heap.size w w' := by
 have ihr0_0 := RdE.mk hr0_0
 have ihc0_0 := LeI.mk hc0_0
 have ihr0_2 := RdE.mk hr0_2
 have ihc0_2 := LeI.mk hc0_2
 have ihr0_5 := RdE.mk hr0_5
 have ihc0_5 := LeI.mk hc0_5
 clear hr0_0 hc0_0 hr0_2 hc0_2 hr0_5 hc0_5
 unfold impl_ShopWarm.f at h
 have hu36 := Try.underlying36
 (repeat' first | ((with_reducible replace h := ite_some h); rcases h with ⟨hc, h⟩ | ⟨hc, h⟩ <;> first | exact (none_some h).elim | exact absurd hc (by decide) | subst hc | (replace hc := Bool.eq_false_iff.mpr hc; subst hc) | (have hd := beq_iff_eq.mpr hc; have he := bne_eq_false_iff_eq.mpr hc; clear hc) | (have hd := beq_eq_false_iff_ne.mpr hc; have he := bne_iff_ne.mpr hc) | (have hd := decide_eq_false hc) | (have hd := decide_eq_true hc) | skip))
 all_goals go_enter Try.func35, Try.ntmps35
 all_goals go_wp2_with (first
  | ((with_reducible refine gate_dst (N := 2) rfl ?_); refine box_event rfl (N := 2) rfl (cs := #[.slice A0_0 l0_0.length c0_0, .int .i64 a0_1, .slice A0_2 l0_2.length c0_2, .int .i64 a0_3, .int .i64 a0_4, .slice A0_5 l0_5.length c0_5]) (t := 36) (by first | (go_simp; done) | (go_simp; rfl)) ?_; intro g hg w1 hk hb; have j1 := Born.mk hg; have j2 := Bel.mk hb; have j3 := Blk.mk hk; clear hg hb hk)
  | ((with_reducible refine gate_dst (N := 4) rfl ?_); refine box_event rfl (N := 4) rfl (cs := #[.slice none 0 0, .int .i64 0, .slice none 0 0, .int .i64 0, .int .i64 0, .slice none 0 0]) (t := 36) (by first | (go_simp; done) | (go_simp; rfl)) ?_; intro g hg w1 hk hb; have j1 := Born.mk hg; have j2 := Bel.mk hb; have j3 := Blk.mk hk; clear hg hb hk)
  | ((with_reducible refine gate_dst (N := 6) rfl ?_); refine box_event rfl (N := 6) rfl (cs := #[.slice none 0 0, .int .i64 0, .slice none 0 0, .int .i64 0, .int .i64 0, .slice none 0 0]) (t := 36) (by first | (go_simp; done) | (go_simp; rfl)) ?_; intro g hg w1 hk hb; have j1 := Born.mk hg; have j2 := Bel.mk hb; have j3 := Blk.mk hk; clear hg hb hk)
  | (go_at_call 84; replace h := Option.bind_eq_some_iff.mp h; obtain ⟨⟨t1, t2, t3, t4, t5, t6⟩, A, h⟩ := h; (try dsimp only at h); refine (impl_copyShop.calls _ _ _ _ _ _ _ _ _ _ _ _ _ _ _ _ _ _ _ Rd.out LeI.out Rd.out LeI.out Rd.out LeI.out A).mono ?_; rintro e w2 ⟨v0, v1, v2, rfl, ho0, ho1, ho2, hb⟩; obtain ⟨B0, b0, rfl⟩ := Kd.R_slice ho0; have j0 := RowE.mk ho0; have q0 := LeI.mk (rowLe j0); obtain ⟨B1, b1, rfl⟩ := Kd.R_slice ho1; have j1 := RowE.mk ho1; have q1 := LeI.mk (rowLe j1); obtain ⟨B2, b2, rfl⟩ := Kd.R_slice ho2; have j2 := RowE.mk ho2; have q2 := LeI.mk (rowLe j2); have jb := Bel.mk hb; clear A ho0 ho1 ho2 hb; (repeat' first | ((with_reducible replace h := ite_some h); rcases h with ⟨hc, h⟩ | ⟨hc, h⟩ <;> first | exact (none_some h).elim | exact absurd hc (by decide) | subst hc | (replace hc := Bool.eq_false_iff.mpr hc; subst hc) | (have hd := beq_iff_eq.mpr hc; have he := bne_eq_false_iff_eq.mpr hc; clear hc) | (have hd := beq_eq_false_iff_ne.mpr hc; have he := bne_iff_ne.mpr hc) | (have hd := decide_eq_false hc) | (have hd := decide_eq_true hc) | skip)))
  | (go_at_call 18; replace h := Option.bind_eq_some_iff.mp h; obtain ⟨t, A, h⟩ := h; (try dsimp only at h); refine (impl_ShopOk.calls _ _ _ _ _ _ _ _ _ _ _ _ _ _ _ Rd.out LeI.out Rd.out LeI.out Rd.out LeI.out A).mono ?_; rintro e w2 ⟨rfl, hb⟩; have jb := Bel.mk hb; clear A hb; (repeat' first | ((with_reducible replace h := ite_some h); rcases h with ⟨hc, h⟩ | ⟨hc, h⟩ <;> first | exact (none_some h).elim | exact absurd hc (by decide) | subst hc | (replace hc := Bool.eq_false_iff.mpr hc; subst hc) | (have hd := beq_iff_eq.mpr hc; have he := bne_eq_false_iff_eq.mpr hc; clear hc) | (have hd := beq_eq_false_iff_ne.mpr hc; have he := bne_iff_ne.mpr hc) | (have hd := decide_eq_false hc) | (have hd := decide_eq_true hc) | skip))))
 all_goals (repeat' first | ((with_reducible replace h := ite_some h); rcases h with ⟨hc, h⟩ | ⟨hc, h⟩ <;> first | exact (none_some h).elim | exact absurd hc (by decide) | subst hc | (replace hc := Bool.eq_false_iff.mpr hc; subst hc) | (have hd := beq_iff_eq.mpr hc; have he := bne_eq_false_iff_eq.mpr hc; clear hc) | (have hd := beq_eq_false_iff_ne.mpr hc; have he := bne_iff_ne.mpr hc) | (have hd := decide_eq_false hc) | (have hd := decide_eq_true hc) | skip))
 all_goals simp only [Option.some.injEq, Prod.mk.injEq] at h
 all_goals obtain ⟨rfl, rfl, rfl, rfl, rfl, rfl, rfl⟩ := h
 all_goals refine bodyPost_ret (results_ct rfl _ _ _ _ _ (0, 0) _ rfl Blk.out Try.underlying36 rfl (by kernel_rfl)) rfl ?_
 all_goals exact ⟨_, _, _, rfl, (by first | exact rowFin | exact Kd.R_nil _ _ _ _ _), (by first | exact rowFin | exact Kd.R_nil _ _ _ _ _), (by first | exact rowFin | exact Kd.R_nil _ _ _ _ _), From.out⟩
end Go.Proofs.Ytbkkpllejgedcaa.P


namespace Go.Proofs.Ytbkkpllejgedcaa.V
set_option linter.unusedVariables false
open Go.RowKit Go.Proofs.YtbkkpllejgedcaaW.PrintWords
class InR (w1 w2 : outParam World) (g : Nat) : Prop where out : w1.heap.size ≤ g ∧ g < w2.heap.size
class IRow (e : outParam Nat) (w1 : outParam World) (W : World) (g : Nat) (c : outParam Nat) (xs : outParam (List Int)) : Prop where out : (Kd.int .i64).R e W w1.heap.size (fun _ => True) (.slice (some ⟨g, 0, none⟩) xs.length c) xs
class At {α : Type} (d : Kd α) (e : outParam Nat) (w1 : outParam World) (W : World) (A : Option Addr) (c : outParam Nat) (xs : outParam (List α)) : Prop where out : d.R e W w1.heap.size (fun _ => True) (.slice A xs.length c) xs
class IxIn (i : Int) (xs : List Int) : Prop where out : 0 ≤ i ∧ i < xs.length
class CelE (w0 : outParam World) (a : Addr) (v : outParam Value) : Prop where out : w0.cell? a = some v
class NeT {α : Type} (d : Kd α) (e t : Nat) : Prop where out : ∀ q, q ∈ e :: d.E → q ≠ t
section
variable {w0 w1 w2 a b w W : World} {g g' e c i n t B : Nat} {A : Option Addr} {xs ys : List Int} {v : Int} {u : Value} {o : Obj} {cs : Array Value}
instance [h : RowE (Kd.int .i64) e w1 w2 (some ⟨g, 0, none⟩) c xs] : InR w1 w2 g := ⟨by
  have := (Kd.R_bound h.out).1 g (by simp [Value.ownBlock])
  exact ⟨this.2.1, this.2.2.1⟩⟩
instance [h : InR w1 w2 g] [k : Off w1 w2 g'] : NeB g' g := ⟨by have := h.out; have := k.out; omega⟩
instance [h : InR w1 w2 g] [k : Off w1 w2 g'] : NeB g g' := ⟨by have := h.out; have := k.out; omega⟩
instance [h : InR w1 w2 g] [k : Sz w0 w1] : Nw w0 g := ⟨Nat.le_trans k.out h.out.1⟩
instance [h : InR w1 w2 g] [k : Dis w1 w2 a b] : Off a b g := ⟨by have := h.out; have := k.out; omega⟩
instance [h : RowE (Kd.int .i64) e w1 w2 (some ⟨g, 0, none⟩) c xs] [k : Keep w1 w2 W] : IRow e w1 W g c xs := ⟨row_ (h := h) (k := k)⟩
instance [h : IRow e w1 W g c xs] : IRow e w1 (W.alloc o) g c xs := ⟨Kd.R_alloc h.out o⟩
instance [h : IRow e w1 W g c xs] : IRow e w1 W.drew g c xs := ⟨Kd.R_drew h.out⟩
instance [h : IRow e w1 W g c xs] : IRow e w1 (W.drewN n) g c xs := ⟨Kd.R_drewN h.out n⟩
instance [k : Bel w W] [h : IRow e w1 w g c xs] : IRow e w1 W g c xs := ⟨Kd.R_below h.out k.out⟩
instance [k : Sin w W] [h : IRow e w1 w g c xs] : IRow e w1 W g c xs := ⟨Kd.R_below h.out k.out⟩
instance [h : IRow e w1 W g c xs] : IRow e w1 (W.setCell ⟨g, i, none⟩ (.int .i64 v)) g c (xs.set i v) := ⟨by
  have := Kd.R_putn h.out (i : Int) v
  rw [List.length_set]
  exact this⟩
instance [h : IRow e w1 W g c xs] [k : NeB g g'] : IRow e w1 (W.setCell ⟨g', i, none⟩ u) g c xs := ⟨Kd.R_mono (Kd.R_far (p := ⟨g', i, none⟩) (ok := fun k => k = g) (Kd.R_of_own (Kd.own_of_R h.out) (fun k hk => by simp [Value.ownBlock] at hk; exact hk.symm)) (fun j hj => by rw [hj]; exact k.out) u) (fun _ _ => trivial)⟩
theorem cell_r (W : World) (g : Nat) (i : Int) [h : IRow e w1 W g c xs] [k : IxIn i xs] : W.cell? ⟨g, i.toNat, none⟩ = some (.int .i64 (rd xs i)) := (Kd.R_celln 0 h.out i k.out.1 k.out.2).1
theorem frozen_r (W : World) (g : Nat) (i : Int) [h : IRow e w1 W g c xs] [k : IxIn i xs] : W.frozen? ⟨g, i.toNat, none⟩ = false := (Kd.R_celln 0 h.out i k.out.1 k.out.2).2
theorem cell_r0 (W : World) (g : Nat) [h : IRow e w1 W g c xs] [k : IxIn 0 xs] : W.cell? ⟨g, 0, none⟩ = some (.int .i64 (rd xs 0)) := cell_r W g 0
theorem frozen_r0 (W : World) (g : Nat) [h : IRow e w1 W g c xs] [k : IxIn 0 xs] : W.frozen? ⟨g, 0, none⟩ = false := frozen_r W g 0
theorem form_ {i : Int} (j : RowE (Kd.int .i64) e w1 w2 A c xs) (h0 : 0 ≤ i) (h1 : i < (xs.length : Int)) : ∃ g, A = some ⟨g, 0, none⟩ ∧ IxIn i xs := by
  obtain ⟨g, c', h, _⟩ := Kd.R_form j.out (by omega)
  injection h with h _ _
  exact ⟨g, h, ⟨⟨h0, h1⟩⟩⟩
theorem atI_ {i : Int} (j : RdE (Kd.int .i64) w0 A xs) (h0 : 0 ≤ i) (h1 : i < (xs.length : Int)) : ∃ ad, A = some ad ∧ CelE w0 (ad.add i.toNat) (.int .i64 (rd xs i)) := by
  obtain ⟨ad, e, h⟩ := Kd.at_int j.out i h0 h1
  exact ⟨ad, e, ⟨h⟩⟩
instance {p : Addr} [h : CelE w0 p u] [k : From w0 W] : CelR W p u := ⟨(k.out.cell (World.block_lt_of_cell? w0 p h.out)).trans h.out⟩
theorem bind_set_ {β : Type} {i : Nat} {f : List Int → Option β} {r : β} (h : (some (xs.set i v)).bind f = some r) : xs.length = (xs.set i v).length ∧ f (xs.set i v) = some r := ⟨(List.length_set ..).symm, h⟩
instance [h : LeI xs.length c] : LeI (xs.set i v).length c := ⟨by rw [List.length_set]; exact h.out⟩
theorem irowFin [h : IRow e w1 W g c xs] [l : From w w1] : (Kd.int .i64).R e W w.heap.size (fun _ => True) (.slice (some ⟨g, 0, none⟩) xs.length c) xs := Kd.R_lower h.out l.out.size
theorem irowFin' {m : Nat} [h : IRow e w1 W g c xs] [l : From w w1] (hm : m = xs.length) : (Kd.int .i64).R e W w.heap.size (fun _ => True) (.slice (some ⟨g, 0, none⟩) m c) xs := by rw [hm]; exact irowFin
instance [h : IRow e w1 W g c xs] : Rd (Kd.int .i64) W (some ⟨g, 0, none⟩) xs := ⟨(Kd.R_reads' h.out).2.2⟩
section
variable {α : Type} {d : Kd α} {zs : List α} {c' : Nat}
instance [h : RowE d t w1 w2 A c zs] [k : Keep w1 w2 W] [l : IRow e w W g c' ys] [m : NeT d t e] : At d t w1 (W.setCell ⟨g, i, none⟩ (.int .i64 v)) A c zs := ⟨Kd.R_over' (v := .slice (some ⟨g, 0, none⟩) ys.length c') (row_ (h := h) (k := k)) (Kd.R_typed l.out) m.out (Kd.R_putg l.out (i : Int) v).2⟩
instance [h : At d t w1 W A c zs] [l : IRow e w W g c' ys] [m : NeT d t e] : At d t w1 (W.setCell ⟨g, i, none⟩ (.int .i64 v)) A c zs := ⟨Kd.R_over' (v := .slice (some ⟨g, 0, none⟩) ys.length c') h.out (Kd.R_typed l.out) m.out (Kd.R_putg l.out (i : Int) v).2⟩
instance [h : At d t w1 W A c zs] : At d t w1 (W.alloc o) A c zs := ⟨Kd.R_alloc h.out o⟩
instance [h : At d t w1 W A c zs] : At d t w1 W.drew A c zs := ⟨Kd.R_drew h.out⟩
instance [h : At d t w1 W A c zs] : At d t w1 (W.drewN n) A c zs := ⟨Kd.R_drewN h.out n⟩
instance [k : Bel w W] [h : At d t w1 w A c zs] : At d t w1 W A c zs := ⟨Kd.R_below h.out k.out⟩
instance [k : Sin w W] [h : At d t w1 w A c zs] : At d t w1 W A c zs := ⟨Kd.R_below h.out k.out⟩
instance [h : At d t w1 W A c zs] [k : Blk W g cs e] [m : NeT d t e] : At d t w1 (W.setCell ⟨g, i, none⟩ u) A c zs := ⟨Kd.R_mono (Kd.R_far (p := ⟨g, i, none⟩) (Kd.R_types h.out k.out m.out) (fun _ hk => hk.2) u) (fun _ _ => trivial)⟩
theorem atFin [h : At d t w1 W A c zs] [l : From w w1] : d.R t W w.heap.size (fun _ => True) (.slice A zs.length c) zs := Kd.R_lower h.out l.out.size
instance [h : At d t w1 W A c zs] : Rd d W A zs := ⟨(Kd.R_reads' h.out).2.2⟩
end
end
end Go.Proofs.Ytbkkpllejgedcaa.V


namespace Go.Proofs.Ytbkkpllejgedcaa.V
set_option linter.unusedVariables false
open Go.RowKit Go.Proofs.YtbkkpllejgedcaaW.PrintWords Go.Proofs.YtbkkpllejgedcaaW.PrintLast
section
variable {P : Program} {ops : Array Oper} {Q : Exit → Act → World → Prop} {T : Bool × List (List Nat × List Nat)} {B : List Nat} {oi : Oper} {v : Value} {fuel : Nat} {l l' : Array Bool} {ds : List Nat} {a a' : Act} {w w1 w3 : World}
abbrev Sb (w3 : World) : World → Prop := fun w' => Below w3.heap.size w3 w'
theorem qR {id n : Nat} (hT : rtab .any ops = T) (hB : waitsOk T.2 B = true) (h : Aside0 (rtab .any ops = T) → Aside0 (waitsOk T.2 B = true) → ∀ w3, Bel w w3 → ∀ u, Bel w3 u → Sb w3 u → wpAnyLast P .any ops Q (Sb w3) ds n l a u)
    (hn : ops.size = n := by rfl) (hl : Array.replicate n false = l := by rfl) (hm : P.follows .mixedOrders = true := by kernel_rfl) : (Code.region id ops true).wp P Q a w :=
  start_ (S := Sb w) (ds := ds) l hm hn hl (below_drew1 (Below.refl _ _)) fun hS => h ⟨hT⟩ ⟨hB⟩ w ⟨Below.refl _ _⟩ w.drew ⟨hS⟩ hS
theorem qA (i : Nat) (N : Option Tmp) (HT : Aside0 (rtab .any ops = T)) (h : wpAnyLast P .any ops Q (Sb w3) ds fuel l' a' w) (hi : ops[i]? = some oi := by rfl) (hN : oi.dst = N := by rfl)
    (hl : l.setIfInBounds i true = l' := by simp only [List.setIfInBounds_toArray, List.set_cons_zero, List.set_cons_succ]; rfl) (hc : anyT T l.toList l'.toList i = true := by kernel_rfl)
    (hQ : ∀ c a w, Q (.panic c) (a.put oi.dst v) w → Q (.panic c) a w := by exact fun _ _ _ h => h) (hw : Region.wanted oi (yielded ops a.tmps) = true := by rfl)
    (hy : ∀ w', (execOp a.eval oi).run P w' = .ok (.value v) w' := by intro w'; go_simp; with_reducible rfl) (ha : a.put N v = a' := by simp only [Act.put, List.setIfInBounds_toArray, List.set_cons_zero, List.set_cons_succ, i64_w, i32_w]; rfl) :
    wpAnyLast P .any ops Q (Sb w3) ds (fuel + 1) l a w := pure_ l' hi hN (any_of HT.out hc) hQ (Or.inl ⟨hw, hy⟩) ha h
theorem qT (i : Nat) (N : Option Tmp) (HT : Aside0 (rtab .any ops = T)) (HW : Aside0 (waitsOk T.2 B = true)) (hS : Sb w3 w) (h : wpAnyLast P .any ops Q (Sb w3) ds fuel l' a' w) (hi : ops[i]? = some oi := by rfl) (hN : oi.dst = N := by rfl)
    (hl : l.setIfInBounds i true = l' := by simp only [List.setIfInBounds_toArray, List.set_cons_zero, List.set_cons_succ]; rfl) (hc : takeW T B ds l.toList l'.toList i = true := by kernel_rfl)
    (hQ : ∀ c a w, Q (.panic c) (a.put oi.dst v) w → Q (.panic c) a w := by exact fun _ _ _ h => h) (hw : Region.wanted oi (yielded ops a.tmps) = true := by rfl)
    (hy : ∀ w', Sin w3 w' → (execOp a.eval oi).run P w' = .ok (.value v) w' := by intro w' jS; go_simp; with_reducible rfl) (ha : a.put N v = a' := by simp only [Act.put, List.setIfInBounds_toArray, List.set_cons_zero, List.set_cons_succ, i64_w, i32_w]; rfl) :
    wpAnyLast P .any ops Q (Sb w3) ds (fuel + 1) l a w := take_ l' hi hN (take_ofW HT.out HW.out hc) hQ (Or.inl ⟨hw, fun w' hS => hy w' ⟨hS⟩⟩) hS ha h
theorem qB {a' : Nat → Act} (i N : Nat) (cs : Array Value) (t : TypeId) (HT : Aside0 (rtab .any ops = T)) (hS : Sb w3 w) (h : ∀ g, Born w g → ∀ w1, Bel w w1 → Blk w1 g cs t → Sb w3 w1 → wpAnyLast P .any ops Q (Sb w3) ds fuel l' (a' g) w1) (hi : ops[i]? = some oi := by rfl) (hN : oi.dst = some N := by rfl)
    (hl : l.setIfInBounds i true = l' := by simp only [List.setIfInBounds_toArray, List.set_cons_zero, List.set_cons_succ]; rfl) (hc : (readyT T.2 l.toList == [i] && l.toList.set i true == l'.toList) = true := by kernel_rfl) (hd : i ∉ ds := by decide) (hw : Region.wanted oi (yielded ops a.tmps) = true := by rfl)
    (hr : (execOp a.eval oi).run P w = .ok (.value (.pointer (some ⟨w.heap.size, 0, none⟩))) (w.alloc (.cells cs t (0, 0))) := by first | (go_simp; done) | (go_simp; rfl))
    (ha : ∀ g, a.put (some N) (.pointer (some ⟨g, 0, none⟩)) = a' g := by intro g; simp only [Act.put, List.setIfInBounds_toArray, List.set_cons_zero, List.set_cons_succ, i64_w, i32_w]; rfl) :
    wpAnyLast P .any ops Q (Sb w3) ds (fuel + 1) l a w := one_ l' hi hN (one_of HT.out hc) hd fun K hK => by
  rw [← hN]
  refine box_step hw hN hr fun g hg w1 hb hk => ?_
  have h1 : Sb w3 w1 := below_step hS hk
  exact hK.out _ _ h1 fun _ => by rw [hN, ha]; exact h g ⟨hg⟩ w1 ⟨hk⟩ ⟨hb⟩ h1
theorem qS (i : Nat) (HT : Aside0 (rtab .any ops = T)) (h : Sb w3 w1 → wpAnyLast P .any ops Q (Sb w3) ds fuel l' a w1) (hi : ops[i]? = some oi := by rfl) (hN : oi.dst = none := by rfl)
    (hl : l.setIfInBounds i true = l' := by simp only [List.setIfInBounds_toArray, List.set_cons_zero, List.set_cons_succ]; rfl) (hc : (readyT T.2 l.toList == [i] && l.toList.set i true == l'.toList) = true := by kernel_rfl) (hd : i ∉ ds := by decide) (hw : Region.wanted oi (yielded ops a.tmps) = true := by rfl)
    (hr : (execOp a.eval oi).run P w = .ok .skip w1 := by go_simp; rfl) (hS : From w3 w1 := by infer_instance) :
    wpAnyLast P .any ops Q (Sb w3) ds (fuel + 1) l a w := one_ l' hi hN (one_of HT.out hc) hd fun K hK => skip_ hw hN hr (hK.out _ _ hS.out fun _ => h hS.out)
theorem qL (i : Nat) (HT : Aside0 (rtab .any ops = T)) (h : wpAnyLast P .any ops Q (Sb w3) ds fuel l' a w1) (hi : ops[i]? = some oi := by rfl) (hN : oi.dst = none := by rfl)
    (hl : l.setIfInBounds i true = l' := by simp only [List.setIfInBounds_toArray, List.set_cons_zero, List.set_cons_succ]; rfl) (hc : (readyT T.2 l.toList == [i] && l.toList.set i true == l'.toList) = true := by kernel_rfl) (hd : i ∈ ds := by decide) (hw : Region.wanted oi (yielded ops a.tmps) = true := by rfl)
    (hr : (execOp a.eval oi).run P w = .ok .skip w1 := by go_simp; rfl) :
    wpAnyLast P .any ops Q (Sb w3) ds (fuel + 1) l a w := last_ l' hi hN (one_of HT.out hc) hd fun K hK => skip_ hw hN hr (hK.out _ _ h)
theorem qC {f : FuncId} {args : Array Value} {xs : Array Operand} {ts : Array TypeId} (i N : Nat) {fn : Func} (hf : P.funcs[f]? = some fn) (HT : Aside0 (rtab .any ops = T)) (h : ∀ K : Act → World → Prop, (∀ a' w', Sb w3 w' → (Sb w3 w' → wpAnyLast P .any ops Q (Sb w3) ds fuel l' a' w') → K a' w') → Calls P f args w fun e w' => ∃ v, e = .returned v ∧ K (a.put (some N) v) w') (hi : ops[i]? = some oi := by rfl) (hN : oi.dst = some N := by rfl)
    (hl : l.setIfInBounds i true = l' := by simp only [List.setIfInBounds_toArray, List.set_cons_zero, List.set_cons_succ]; rfl) (hc : (readyT T.2 l.toList == [i] && l.toList.set i true == l'.toList) = true := by kernel_rfl) (hd : i ∉ ds := by decide) (hw : Region.wanted oi (yielded ops a.tmps) = true := by rfl)
    (hop : oi.op = .call { callee := .value (.func f), args := xs, argTypes := ts } := by rfl) (hname : (fn.name == "runtime.NumGoroutine") = false := by kernel_rfl) (hb : fn.body.isSome = true := by rfl)
    (hargs : xs.map a.eval = args := by (try simp only [List.map_toArray, List.map_cons, List.map_nil]); first | done | rfl) :
    wpAnyLast P .any ops Q (Sb w3) ds (fuel + 1) l a w := one_ l' hi hN (one_of HT.out hc) hd fun K hK => goes_ hf hname hb args hw hN hop hargs (h K (fun a' w' h1 h2 => hK.out a' w' h1 h2))
theorem qN (h : wpAnyLast P .any ops Q (Sb w3) ds fuel l a' w) (ha : a = a' := by show Act.put _ (some _) _ = _; simp only [Act.put, List.setIfInBounds_toArray, List.set_cons_zero, List.set_cons_succ, i64_w, i32_w]; rfl) : wpAnyLast P .any ops Q (Sb w3) ds fuel l a w := norm_ ha h
theorem qD (HT : Aside0 (rtab .any ops = T)) (h : Q .normal a w) (hr : (readyT T.2 l.toList == []) = true := by kernel_rfl) : wpAnyLast P .any ops Q (Sb w3) ds fuel l a w := done_ (done_of HT.out hr) h
theorem qO1 (i : Nat) (Ni : Option Tmp) (HT : Aside0 (rtab .any ops = T))
    (h : ∀ K : Act → World → Prop, Shut (∀ a' w', Sb w3 w' → (Sb w3 w' → wpAnyLast P .any ops Q (Sb w3) ds fuel l' a' w') → K a' w') → if Region.wanted oi (yielded ops a.tmps) = true then Oper.wp P oi a w K Q else K (a.put Ni undef) w)
    (hi : ops[i]? = some oi := by rfl) (hN : oi.dst = Ni := by rfl) (hl : l.setIfInBounds i true = l' := by simp only [List.setIfInBounds_toArray, List.set_cons_zero, List.set_cons_succ]; rfl) (hc : (readyT T.2 l.toList == [i] && l.toList.set i true == l'.toList) = true := by kernel_rfl) (hd : i ∉ ds := by decide) :
    wpAnyLast P .any ops Q (Sb w3) ds (fuel + 1) l a w := one_ l' hi hN (one_of HT.out hc) hd h
theorem qO3 {oj ok : Oper} {li lj lk : Array Bool} (i j k : Nat) (Ni Nj Nk : Option Tmp) (HT : Aside0 (rtab .any ops = T))
    (h1 : ∀ K : Act → World → Prop, Shut (∀ a' w', Sb w3 w' → (Sb w3 w' → wpAnyLast P .any ops Q (Sb w3) ds fuel li a' w') → K a' w') → if Region.wanted oi (yielded ops a.tmps) = true then Oper.wp P oi a w K Q else K (a.put Ni undef) w)
    (h2 : ∀ K : Act → World → Prop, Shut (∀ a' w', Sb w3 w' → (Sb w3 w' → wpAnyLast P .any ops Q (Sb w3) ds fuel lj a' w') → K a' w') → if Region.wanted oj (yielded ops a.tmps) = true then Oper.wp P oj a w K Q else K (a.put Nj undef) w)
    (h3 : ∀ K : Act → World → Prop, Shut (∀ a' w', Sb w3 w' → (Sb w3 w' → wpAnyLast P .any ops Q (Sb w3) ds fuel lk a' w') → K a' w') → if Region.wanted ok (yielded ops a.tmps) = true then Oper.wp P ok a w K Q else K (a.put Nk undef) w)
    (hi : ops[i]? = some oi := by rfl) (hj : ops[j]? = some oj := by rfl) (hk : ops[k]? = some ok := by rfl) (hNi : oi.dst = Ni := by rfl) (hNj : oj.dst = Nj := by rfl) (hNk : ok.dst = Nk := by rfl)
    (hli : l.setIfInBounds i true = li := by simp only [List.setIfInBounds_toArray, List.set_cons_zero, List.set_cons_succ]; rfl) (hlj : l.setIfInBounds j true = lj := by simp only [List.setIfInBounds_toArray, List.set_cons_zero, List.set_cons_succ]; rfl) (hlk : l.setIfInBounds k true = lk := by simp only [List.setIfInBounds_toArray, List.set_cons_zero, List.set_cons_succ]; rfl)
    (hc : (readyT T.2 l.toList == [i, j, k] && l.toList.set i true == li.toList && l.toList.set j true == lj.toList && l.toList.set k true == lk.toList) = true := by kernel_rfl) (hdi : i ∉ ds := by decide) (hdj : j ∉ ds := by decide) (hdk : k ∉ ds := by decide) :
    wpAnyLast P .any ops Q (Sb w3) ds (fuel + 1) l a w := three_ li lj lk hi hj hk hNi hNj hNk (three_of HT.out hc) hdi hdj hdk h1 h2 h3
theorem qX0 {K : Act → World → Prop} (N : Nat) (cs : Array Value) (t : TypeId) (h : ∀ g, Born w g → ∀ w1, Bel w w1 → Blk w1 g cs t → K (a.put (some N) (.pointer (some ⟨g, 0, none⟩))) w1) (hN : oi.dst = some N := by rfl) (hw : Region.wanted oi (yielded ops a.tmps) = true := by rfl)
    (hr : (execOp a.eval oi).run P w = .ok (.value (.pointer (some ⟨w.heap.size, 0, none⟩))) (w.alloc (.cells cs t (0, 0))) := by first | (go_simp; done) | (go_simp; rfl)) : if Region.wanted oi (yielded ops a.tmps) = true then Oper.wp P oi a w K Q else K (a.put (some N) undef) w := by
  rw [← hN]
  refine box_step hw hN hr fun g hg w1 hb hk => ?_
  rw [hN]
  exact h g ⟨hg⟩ w1 ⟨hk⟩ ⟨hb⟩
theorem qM0 {K : Act → World → Prop} (e N : Nat) (t : TypeId) (x y : Operand) (m : Nat) (bytes : Nat) (hu : P.underlying t = some (.slice e)) (hinfo : (P.info? e).map (fun i => (i.zero, i.size, i.bytes)) = some (some (.int .i64 0), 1, bytes)) (hb0 : 0 < bytes) (hl : m * bytes ≤ 281474976710656)
    (h : ∀ A c w1, RowE (Kd.int .i64) e w w1 A c (List.replicate m 0) → Bel w w1 → K (a.put (some N) (.slice A (List.replicate m (0 : Int)).length c)) w1) (hN : oi.dst = some N := by rfl) (hw : Region.wanted oi (yielded ops a.tmps) = true := by rfl)
    (ho : oi.op = .makeSlice t x y := by rfl) (hx : a.eval x = .int .i64 (m : Int) := by rfl) (hy : a.eval y = .int .i64 (m : Int) := by rfl) : if Region.wanted oi (yielded ops a.tmps) = true then Oper.wp P oi a w K Q else K (a.put (some N) undef) w := by
  rw [← hN]
  refine Kd.R_make_step (Kd.int .i64) w.heap.size e hw hN t x y ho (m : Int) hx hy hu (.int .i64 0) bytes hinfo rfl (by decide) hb0 0 (ok := fun _ => True) (okp := fun _ => True) rfl (fun _ h => h) trivial (by omega) (by simpa using hl) (Below.refl _ _) (Nat.le_refl _) ?_
  intro v1 w1 ho2 hb _ _
  obtain ⟨A, c, rfl⟩ := Kd.R_slice ho2
  rw [Int.toNat_natCast] at ho2 ⊢
  rw [hN]
  exact h A c w1 ⟨ho2⟩ ⟨hb⟩
theorem qO2 {oj : Oper} {li lj : Array Bool} (i j : Nat) (Ni Nj : Option Tmp) (HT : Aside0 (rtab .any ops = T))
    (h1 : ∀ K : Act → World → Prop, Shut (∀ a' w', Sb w3 w' → (Sb w3 w' → wpAnyLast P .any ops Q (Sb w3) ds fuel li a' w') → K a' w') → if Region.wanted oi (yielded ops a.tmps) = true then Oper.wp P oi a w K Q else K (a.put Ni undef) w)
    (h2 : ∀ K : Act → World → Prop, Shut (∀ a' w', Sb w3 w' → (Sb w3 w' → wpAnyLast P .any ops Q (Sb w3) ds fuel lj a' w') → K a' w') → if Region.wanted oj (yielded ops a.tmps) = true then Oper.wp P oj a w K Q else K (a.put Nj undef) w)
    (hi : ops[i]? = some oi := by rfl) (hj : ops[j]? = some oj := by rfl) (hNi : oi.dst = Ni := by rfl) (hNj : oj.dst = Nj := by rfl)
    (hli : l.setIfInBounds i true = li := by simp only [List.setIfInBounds_toArray, List.set_cons_zero, List.set_cons_succ]; rfl) (hlj : l.setIfInBounds j true = lj := by simp only [List.setIfInBounds_toArray, List.set_cons_zero, List.set_cons_succ]; rfl)
    (hc : (readyT T.2 l.toList == [i, j] && l.toList.set i true == li.toList && l.toList.set j true == lj.toList) = true := by kernel_rfl) (hdi : i ∉ ds := by decide) (hdj : j ∉ ds := by decide) :
    wpAnyLast P .any ops Q (Sb w3) ds (fuel + 1) l a w := two_ li lj hi hj hNi hNj (two_of HT.out hc) hdi hdj h1 h2
section
variable {α : Type} {xs ys : List α} {inner : List Value} {K : Act → World → Prop} {N : Nat}
theorem qI0 (d : Kd α) (e N : Nat) (xs : List α) (inner : List Value) (hp : Reps (d.M w w.heap.size (fun _ => True)) d.sz xs inner) (h : ∀ A c w1, RowE d e w w1 A c xs → Bel w w1 → K (a.put (some N) (.slice A xs.length c)) w1)
    (hN : oi.dst = some N := by rfl) (hw : Region.wanted oi (yielded ops a.tmps) = true := by rfl) (hr : (execOp a.eval oi).run P w = .ok (.value (.slice (some ⟨w.heap.size, 0, none⟩) xs.length xs.length)) (w.alloc (.cells inner.toArray e)) := by first | (go_simp; done) | (go_simp; rfl)) (hl : xs.length ≤ 9223372036854775807 := by simp) :
    if Region.wanted oi (yielded ops a.tmps) = true then Oper.wp P oi a w K Q else K (a.put (some N) undef) w := by
  rw [← hN]
  refine Kd.R_lit_step d w.heap.size e hw hN (xs := xs) (inner := inner) (ok := fun _ => True) (okp := fun _ => True) hr hp (fun _ h => h) trivial (Below.refl _ _) (Nat.le_refl _) hl ?_
  intro v1 w1 ho hb _ _
  obtain ⟨A, c, rfl⟩ := Kd.R_slice ho
  rw [hN]
  exact h A c w1 ⟨ho⟩ ⟨hb⟩
theorem qI {a' : Option Addr → Nat → Act} (d : Kd α) (i e N : Nat) (xs : List α) (inner : List Value) (HT : Aside0 (rtab .any ops = T)) (hS : Sb w3 w) (hp : Reps (d.M w w.heap.size (fun _ => True)) d.sz xs inner) (h : ∀ A c w1, RowE d e w w1 A c xs → Bel w w1 → Sb w3 w1 → wpAnyLast P .any ops Q (Sb w3) ds fuel l' (a' A c) w1) (hi : ops[i]? = some oi := by rfl)
    (hN : oi.dst = some N := by rfl) (hl' : l.setIfInBounds i true = l' := by simp only [List.setIfInBounds_toArray, List.set_cons_zero, List.set_cons_succ]; rfl) (hc : (readyT T.2 l.toList == [i] && l.toList.set i true == l'.toList) = true := by kernel_rfl) (hd : i ∉ ds := by decide) (hw : Region.wanted oi (yielded ops a.tmps) = true := by rfl)
    (hr : (execOp a.eval oi).run P w = .ok (.value (.slice (some ⟨w.heap.size, 0, none⟩) xs.length xs.length)) (w.alloc (.cells inner.toArray e)) := by first | (go_simp; done) | (go_simp; rfl)) (hl : xs.length ≤ 9223372036854775807 := by simp)
    (ha : ∀ A c, a.put (some N) (.slice A xs.length c) = a' A c := by intro A c; simp only [Act.put, List.setIfInBounds_toArray, List.set_cons_zero, List.set_cons_succ, i64_w, i32_w]; rfl) :
    wpAnyLast P .any ops Q (Sb w3) ds (fuel + 1) l a w := one_ l' hi hN (one_of HT.out hc) hd fun K hK => qI0 d e N xs inner hp (fun A c w1 j b => hK.out _ _ (below_step hS b.out) fun _ => by rw [ha]; exact h A c w1 j b (below_step hS b.out)) hN hw hr hl
theorem qP {a' : Option Addr → Nat → Act} {A A2 : Option Addr} {c c2 e : Nat} (d : Kd α) (xs ys : List α) (i N : Nat) (so xo : Operand) (t : TypeId) (z : Value) (bytes : Nat) (HT : Aside0 (rtab .any ops = T)) (hS : Sb w3 w)
    (hu : P.underlying t = some (.slice e)) (hinfo : (P.info? e).map (fun i => (i.zero, i.size, i.bytes)) = some (some z, d.sz, bytes)) (hz : z.cells.size = d.sz) (hs0 : 0 < d.sz) (hb0 : 0 < bytes) (hKM : ∀ x cs, d.K w x cs → d.M w w3.heap.size (fun _ => False) x cs) (hlen : (xs.length + ys.length) * bytes ≤ 140737488355328)
    (h : ∀ A' c' w1, RowE d e w3 w1 A' c' (xs ++ ys) → Bel w3 w1 → Sb w3 w1 → wpAnyLast P .any ops Q (Sb w3) ds fuel l' (a' A' c') w1)
    (hi : ops[i]? = some oi := by rfl) (hN : oi.dst = some N := by rfl) (ho : oi.op = .call { callee := .builtin .append, args := #[so, xo], argTypes := #[t, t] } := by rfl) (hs : a.eval so = .slice A xs.length c := by rfl) (hx : a.eval xo = .slice A2 ys.length c2 := by rfl)
    (hl' : l.setIfInBounds i true = l' := by simp only [List.setIfInBounds_toArray, List.set_cons_zero, List.set_cons_succ]; rfl) (hc : (readyT T.2 l.toList == [i] && l.toList.set i true == l'.toList) = true := by kernel_rfl) (hd : i ∉ ds := by decide) (hw : Region.wanted oi (yielded ops a.tmps) = true := by rfl)
    (hR : d.R e w w3.heap.size (fun _ => True) (.slice A xs.length c) xs := by exact rowFin) (hR2 : d.C w A2 ys.length ys := by exact rowRd)
    (ha : ∀ A c, a.put (some N) (.slice A (xs ++ ys).length c) = a' A c := by intro A c; simp only [Act.put, List.setIfInBounds_toArray, List.set_cons_zero, List.set_cons_succ, i64_w, i32_w]; rfl) :
    wpAnyLast P .any ops Q (Sb w3) ds (fuel + 1) l a w := one_ l' hi hN (one_of HT.out hc) hd fun K hK => by
  rw [← hN]
  refine Kd.R_append_rows_step d (w0 := w3) w3.heap.size hw so xo t e z bytes ho hu hinfo hz hs0 hb0 (.slice A xs.length c) xs ys A2 ys.length c2 (fun _ => True) (fun _ => False) hs hx hR hR2 hKM (fun _ h => h.elim) (fun _ _ => trivial) hS hS.size hlen ?_
  intro v1 w1 ho2 hb _ _
  obtain ⟨A', c', rfl⟩ := Kd.R_slice ho2
  rw [hN]
  exact hK.out _ _ hb fun _ => by rw [ha]; exact h A' c' w1 ⟨ho2⟩ ⟨hb⟩ hb
end
end
end Go.Proofs.Ytbkkpllejgedcaa.V


namespace Go.Proofs.Ytbkkpllejgedcaa.P
open Go.RowKit Go.Proofs.YtbkkpllejgedcaaW.PrintWords Go.Proofs.YtbkkpllejgedcaaW.PrintLast Go.Proofs.YtbkkpllejgedcaaW.PrintMore Go.Proofs.Ytbkkpllejgedcaa.V
attribute [local go_sem] cell_b frozen_b cellR_c cell_r frozen_r cell_r0 frozen_r0
attribute [local go_sem] max2_int min2_int max_two min_two max_three min_three max_four min_four
set_option linter.unusedVariables false
set_option linter.unusedSimpArgs false
def impl_AddEntry.f (k : Nat) (l0 : List (S74)) (a1_0 : Int) (a1_1 : Int) (a1_2 : Int) (a1_3 : Int) : Option ((List (S74)) × Bool) := (impl_copyLog.f l0).bind fun t1014 => ((some (([(⟨(⟨a1_0, a1_1⟩ : S56), a1_2, a1_3⟩ : S74)] : List (S74)) : List (S74))).bind fun y1017 => (if t1014.length + y1017.length < 4398046511104 then ((some (t1014 ++ y1017 : List (S74))).bind fun y1020 => ((impl_LogOk.f k l0).bind fun t1023 => (if t1023 = true then ((impl_LogOk.f k y1020).bind fun t1024 => (if t1024 = true then (some (y1020, true)) else ((impl_copyLog.f l0).bind fun t1025 => (some (t1025, false))))) else ((impl_copyLog.f l0).bind fun t1028 => (some (t1028, false)))))) else (none)))
noncomputable def impl_AddEntry.T1 : Bool × List (List Nat × List Nat) := rtab .any (opsOf Try.f51 1)
def impl_AddEntry.B1 : List Nat := [0, 1, 0, 4, 15, 31]
theorem impl_AddEntry.tab1 : rtab .any (opsOf Try.f51 1) = impl_AddEntry.T1 := rfl
theorem impl_AddEntry.bits1 : waitsOk impl_AddEntry.T1.2 impl_AddEntry.B1 = true := by kernel_rfl
set_option maxHeartbeats 8000000 in
set_option maxRecDepth 100000 in
set_option synthInstance.maxHeartbeats 400000 in
set_option synthInstance.maxSize 100000 in
theorem impl_AddEntry.calls (k : Nat) (A0 : Option Addr) (c0 : Nat) (l0 : List (S74)) (a1_0 : Int) (a1_1 : Int) (a1_2 : Int) (a1_3 : Int) (r1 : List (S74)) (r2 : Bool) (w : World) (hr0 : Kd.C k74 w A0 l0.length l0) (hc0 : l0.length ≤ c0) (h : impl_AddEntry.f k l0 a1_0 a1_1 a1_2 a1_3 = some (r1, r2)) :
  Calls Try.prog 51 #[.slice A0 l0.length c0, .agg #[.int .i64 a1_0, .int .i64 a1_1, .int .i64 a1_2, .int .i64 a1_3]] w fun e w' => ∃ v0_ : Value, e = .returned (.tuple #[v0_, .bool r2]) ∧ Kd.R k74 74 w' w.heap.size (fun _ => True) v0_ r1 ∧ Below w.heap.size w w' := by
 have ihr0 := RdE.mk hr0
 have ihc0 := LeI.mk hc0
 clear hr0 hc0
 unfold impl_AddEntry.f at h
 have hu74 := Try.underlying74
 (repeat' first | ((with_reducible replace h := ite_some h); rcases h with ⟨hc, h⟩ | ⟨hc, h⟩ <;> first | exact (none_some h).elim | exact absurd hc (by decide) | subst hc | (replace hc := Bool.eq_false_iff.mpr hc; subst hc) | (replace hc := (Bool.not_eq_true' _).mp hc; subst hc) | (replace hc := (Bool.not_eq_false' _).mp (Bool.eq_false_iff.mpr hc); subst hc) | (have hd : (_ == _) = true := hc) | (have hd : (_ == _) = false := Bool.eq_false_iff.mpr hc) | (have hd := beq_iff_eq.mpr hc; have he := bne_eq_false_iff_eq.mpr hc; clear hc) | (have hd := beq_eq_false_iff_ne.mpr hc; have he := bne_iff_ne.mpr hc) | (have hd := decide_eq_false hc) | (have hd := decide_eq_true hc; (try (have hn := Int.natCast_pos.mp hc; have hm := decide_eq_true hn; replace hn := eq_true hn)); first | (obtain ⟨g_, e_, i_⟩ := form_ (by assumption) (by first | assumption | decide) hc; cases e_) | (obtain ⟨a_, e_, c_⟩ := atI_ (by assumption) (by first | assumption | decide) hc; cases e_)) | (have hd := decide_eq_true hc) | skip) | ((with_reducible replace h := bind_set_ h); obtain ⟨hl_, h⟩ := h; replace hl_ := A_ hl_; (try dsimp only at h)))
 all_goals go_enter Try.func51, Try.ntmps51
 all_goals go_wp2_with (first
  | ((with_reducible refine gate_dst (N := 3) rfl ?_); refine box_event rfl (N := 3) rfl (cs := #[.int .i64 a1_0, .int .i64 a1_1, .int .i64 a1_2, .int .i64 a1_3]) (t := 74) (by first | (go_simp; done) | (go_simp; rfl)) ?_; intro g hg w1 hk hb; have j1 := Born.mk hg; have j2 := Bel.mk hb; have j3 := Blk.mk hk; clear hg hb hk)
  | (go_at_call 94; (try rw [hl_.out]); replace h := Option.bind_eq_some_iff.mp h; obtain ⟨t, A, h⟩ := h; (try dsimp only at h); refine (impl_copyLog.calls _ _ _ _ _ Rd.out LeI.out A).mono ?_; rintro e w2 ⟨v0, rfl, ho0, hb⟩; obtain ⟨B0, b0, rfl⟩ := Kd.R_slice ho0; have j0 := RowE.mk ho0; have q0 := LeI.mk (rowLe j0); have jb := Bel.mk hb; clear A ho0 hb; (repeat' first | ((with_reducible replace h := ite_some h); rcases h with ⟨hc, h⟩ | ⟨hc, h⟩ <;> first | exact (none_some h).elim | exact absurd hc (by decide) | subst hc | (replace hc := Bool.eq_false_iff.mpr hc; subst hc) | (replace hc := (Bool.not_eq_true' _).mp hc; subst hc) | (replace hc := (Bool.not_eq_false' _).mp (Bool.eq_false_iff.mpr hc); subst hc) | (have hd : (_ == _) = true := hc) | (have hd : (_ == _) = false := Bool.eq_false_iff.mpr hc) | (have hd := beq_iff_eq.mpr hc; have he := bne_eq_false_iff_eq.mpr hc; clear hc) | (have hd := beq_eq_false_iff_ne.mpr hc; have he := bne_iff_ne.mpr hc) | (have hd := decide_eq_false hc) | (have hd := decide_eq_true hc; (try (have hn := Int.natCast_pos.mp hc; have hm := decide_eq_true hn; replace hn := eq_true hn)); first | (obtain ⟨g_, e_, i_⟩ := form_ (by assumption) (by first | assumption | decide) hc; cases e_) | (obtain ⟨a_, e_, c_⟩ := atI_ (by assumption) (by first | assumption | decide) hc; cases e_)) | (have hd := decide_eq_true hc) | skip) | ((with_reducible replace h := bind_set_ h); obtain ⟨hl_, h⟩ := h; replace hl_ := A_ hl_; (try dsimp only at h))); (try have hn : decide (0 < t.length) = true := decide_eq_true (by omega)); (try have hn : decide (0 < t.length) = false := decide_eq_false (by omega)))
  | (go_at_call 65; (try rw [hl_.out]); replace h := Option.bind_eq_some_iff.mp h; obtain ⟨t, A, h⟩ := h; (try dsimp only at h); refine (impl_LogOk.calls _ _ _ _ _ _ Rd.out LeI.out A).mono ?_; rintro e w2 ⟨rfl, hb⟩; have jb := Bel.mk hb; clear A hb; (repeat' first | ((with_reducible replace h := ite_some h); rcases h with ⟨hc, h⟩ | ⟨hc, h⟩ <;> first | exact (none_some h).elim | exact absurd hc (by decide) | subst hc | (replace hc := Bool.eq_false_iff.mpr hc; subst hc) | (replace hc := (Bool.not_eq_true' _).mp hc; subst hc) | (replace hc := (Bool.not_eq_false' _).mp (Bool.eq_false_iff.mpr hc); subst hc) | (have hd : (_ == _) = true := hc) | (have hd : (_ == _) = false := Bool.eq_false_iff.mpr hc) | (have hd := beq_iff_eq.mpr hc; have he := bne_eq_false_iff_eq.mpr hc; clear hc) | (have hd := beq_eq_false_iff_ne.mpr hc; have he := bne_iff_ne.mpr hc) | (have hd := decide_eq_false hc) | (have hd := decide_eq_true hc; (try (have hn := Int.natCast_pos.mp hc; have hm := decide_eq_true hn; replace hn := eq_true hn)); first | (obtain ⟨g_, e_, i_⟩ := form_ (by assumption) (by first | assumption | decide) hc; cases e_) | (obtain ⟨a_, e_, c_⟩ := atI_ (by assumption) (by first | assumption | decide) hc; cases e_)) | (have hd := decide_eq_true hc) | skip) | ((with_reducible replace h := bind_set_ h); obtain ⟨hl_, h⟩ := h; replace hl_ := A_ hl_; (try dsimp only at h))))
  | (refine qR (id := 1) (ds := []) (l := #[false, false, false, false, false, false]) impl_AddEntry.tab1 impl_AddEntry.bits1 ?_; intro HT_ HW_ w3 jw u0 iu hHeld; refine qA 0 (some 7) HT_ ?_; refine qT 2 (some 9) HT_ HW_ hHeld ?_; replace h := Option.bind_eq_some_iff.mp h; obtain ⟨t, A, h⟩ := h; (try dsimp only at h); simp only [Option.bind_some] at h; (repeat' first | ((with_reducible replace h := ite_some h); rcases h with ⟨hc, h⟩ | ⟨hc, h⟩ <;> first | exact (none_some h).elim | exact absurd hc (by decide) | subst hc | (replace hc := Bool.eq_false_iff.mpr hc; subst hc) | (replace hc := (Bool.not_eq_true' _).mp hc; subst hc) | (replace hc := (Bool.not_eq_false' _).mp (Bool.eq_false_iff.mpr hc); subst hc) | (have hd : (_ == _) = true := hc) | (have hd : (_ == _) = false := Bool.eq_false_iff.mpr hc) | (have hd := beq_iff_eq.mpr hc; have he := bne_eq_false_iff_eq.mpr hc; clear hc) | (have hd := beq_eq_false_iff_ne.mpr hc; have he := bne_iff_ne.mpr hc) | (have hd := decide_eq_false hc) | (have hd := decide_eq_true hc; (try (have hn := Int.natCast_pos.mp hc; have hm := decide_eq_true hn; replace hn := eq_true hn)); first | (obtain ⟨g_, e_, i_⟩ := form_ (by assumption) (by first | assumption | decide) hc; cases e_) | (obtain ⟨a_, e_, c_⟩ := atI_ (by assumption) (by first | assumption | decide) hc; cases e_)) | (have hd := decide_eq_true hc) | skip) | ((with_reducible replace h := bind_set_ h); obtain ⟨hl_, h⟩ := h; replace hl_ := A_ hl_; (try dsimp only at h))); refine qO2 1 3 (some 8) (some 10) HT_ (fun K hK => ?_) (fun K hK => ?_); (focus (refine goes_ Try.func94 (by kernel_rfl) rfl _ (by rfl) rfl rfl (by (try simp only [List.map_toArray, List.map_cons, List.map_nil]); rfl) ?_; refine (impl_copyLog.calls _ _ _ _ _ Rd.out LeI.out A).mono ?_; rintro e u1 ⟨v0, rfl, ho0, hb⟩; obtain ⟨B0, b0, rfl⟩ := Kd.R_slice ho0; have j0 := RowE.mk ho0; have q0 := LeI.mk (rowLe j0); have jb := Bel.mk hb; (try clear ho0 hb); refine ⟨_, rfl, hK.out _ _ From.out fun hHeld => ?_⟩; clear hK K; refine qN ?_; refine qI k74 3 74 10 ([(⟨(⟨a1_0, a1_1⟩ : S56), a1_2, a1_3⟩ : S74)] : List (S74)) [.int .i64 a1_0, .int .i64 a1_1, .int .i64 a1_2, .int .i64 a1_3] HT_ hHeld (Reps.c4 (show Kd.M k74 _ _ _ (⟨(⟨a1_0, a1_1⟩ : S56), a1_2, a1_3⟩ : S74) [.int .i64 a1_0, .int .i64 a1_1, .int .i64 a1_2, .int .i64 a1_3] from (k74_mkM _ _ _ (⟨(⟨a1_0, a1_1⟩ : S56), a1_2, a1_3⟩ : S74) )) (Reps.none _ _)) ?_; intro B9 b9 u9 j9 jb9 hHeld)); rotate_left; (focus (refine qI0 k74 74 10 ([(⟨(⟨a1_0, a1_1⟩ : S56), a1_2, a1_3⟩ : S74)] : List (S74)) [.int .i64 a1_0, .int .i64 a1_1, .int .i64 a1_2, .int .i64 a1_3] (Reps.c4 (show Kd.M k74 _ _ _ (⟨(⟨a1_0, a1_1⟩ : S56), a1_2, a1_3⟩ : S74) [.int .i64 a1_0, .int .i64 a1_1, .int .i64 a1_2, .int .i64 a1_3] from (k74_mkM _ _ _ (⟨(⟨a1_0, a1_1⟩ : S56), a1_2, a1_3⟩ : S74) )) (Reps.none _ _)) ?_; intro B9 b9 u9 j9 jb9; refine hK.out _ _ From.out fun hHeld => ?_; clear hK K; refine qN ?_; refine qC 1 8 Try.func94 HT_ fun K hK => ?_; refine (impl_copyLog.calls _ _ _ _ _ Rd.out LeI.out A).mono ?_; rintro e u1 ⟨v0, rfl, ho0, hb⟩; obtain ⟨B0, b0, rfl⟩ := Kd.R_slice ho0; have j0 := RowE.mk ho0; have q0 := LeI.mk (rowLe j0); have jb := Bel.mk hb; (try clear ho0 hb); refine ⟨_, rfl, hK _ _ From.out fun hHeld => ?_⟩; clear hK K; refine qN ?_)); all_goals (refine qP k74 t ([(⟨(⟨a1_0, a1_1⟩ : S56), a1_2, a1_3⟩ : S74)] : List (S74)) 4 11 (.tmp 8) (.tmp 10) 34 (.agg #[(.int .i64 0), (.int .i64 0), (.int .i64 0), (.int .i64 0)]) 32 HT_ hHeld Try.underlying34 info74 rfl (by decide) (by omega) (fun _ _ h => h) (by simp at hc ⊢; omega) ?_; intro B8 b8 u8 j8 jb8 hHeld; have q8 := LeI.mk (rowLe j8); generalize t ++ ([(⟨(⟨a1_0, a1_1⟩ : S56), a1_2, a1_3⟩ : S74)] : List (S74)) = y8 at h j8 q8 ⊢; refine qA 5 (some 6) HT_ ?_; refine qD HT_ ?_)))
 all_goals (repeat' first | ((with_reducible replace h := ite_some h); rcases h with ⟨hc, h⟩ | ⟨hc, h⟩ <;> first | exact (none_some h).elim | exact absurd hc (by decide) | subst hc | (replace hc := Bool.eq_false_iff.mpr hc; subst hc) | (replace hc := (Bool.not_eq_true' _).mp hc; subst hc) | (replace hc := (Bool.not_eq_false' _).mp (Bool.eq_false_iff.mpr hc); subst hc) | (have hd : (_ == _) = true := hc) | (have hd : (_ == _) = false := Bool.eq_false_iff.mpr hc) | (have hd := beq_iff_eq.mpr hc; have he := bne_eq_false_iff_eq.mpr hc; clear hc) | (have hd := beq_eq_false_iff_ne.mpr hc; have he := bne_iff_ne.mpr hc) | (have hd := decide_eq_false hc) | (have hd := decide_eq_true hc; (try (have hn := Int.natCast_pos.mp hc; have hm := decide_eq_true hn; replace hn := eq_true hn)); first | (obtain ⟨g_, e_, i_⟩ := form_ (by assumption) (by first | assumption | decide) hc; cases e_) | (obtain ⟨a_, e_, c_⟩ := atI_ (by assumption) (by first | assumption | decide) hc; cases e_)) | (have hd := decide_eq_true hc) | skip) | ((with_reducible replace h := bind_set_ h); obtain ⟨hl_, h⟩ := h; replace hl_ := A_ hl_; (try dsimp only at h)))
 all_goals simp only [Option.some.injEq, Prod.mk.injEq] at h
 all_goals obtain ⟨rfl, rfl⟩ := h
 all_goals go_ret2
 all_goals exact ⟨_, rfl, (by first | exact rowFin | exact Kd.R_nil _ _ _ _ _ | exact atFin | exact irowFin' (by simp)), From.out⟩
end Go.Proofs.Ytbkkpllejgedcaa.P


namespace Go.Proofs.Ytbkkpllejgedcaa.P
open Go.RowKit Go.Proofs.YtbkkpllejgedcaaW.PrintWords Go.Proofs.YtbkkpllejgedcaaW.PrintLast Go.Proofs.YtbkkpllejgedcaaW.PrintMore Go.Proofs.Ytbkkpllejgedcaa.V
attribute [local go_sem] cell_b frozen_b
attribute [local go_sem] max2_int min2_int max_two min_two max_three min_three max_four min_four
set_option linter.unusedVariables false
set_option linter.unusedSimpArgs false
def impl_ShopFault.f (k : Nat) (l0_0 : List (S96)) (a0_1 : Int) (l0_2 : List Int) (a0_3 : Int) (a0_4 : Int) (l0_5 : List (S74)) (a1_0 : Int) (a1_1 : Int) (a2 : Int) : Option ((List (S96)) × Int × List Int × Int × Int × (List (S74)) × Bool) := (impl_copyShop.f l0_0 a0_1 l0_2 a0_3 a0_4 l0_5).bind fun bt1034 => ((impl_ShopOk.f k l0_0 a0_1 l0_2 a0_3 a0_4 l0_5).bind fun t1047 => (if t1047 = true then ((impl_AddEntry.f k l0_5 a1_0 a1_1 a2 a0_4).bind fun bt1048 => (if bt1048.2 = true then (some (bt1034.1, bt1034.2.1, bt1034.2.2.1, bt1034.2.2.2.1, bt1034.2.2.2.2.1, bt1048.1, true)) else (some (bt1034.1, bt1034.2.1, bt1034.2.2.1, bt1034.2.2.2.1, bt1034.2.2.2.2.1, bt1034.2.2.2.2.2, false)))) else (some (bt1034.1, bt1034.2.1, bt1034.2.2.1, bt1034.2.2.2.1, bt1034.2.2.2.2.1, bt1034.2.2.2.2.2, false))))
set_option maxHeartbeats 8000000 in
set_option maxRecDepth 100000 in
set_option synthInstance.maxHeartbeats 400000 in
set_option synthInstance.maxSize 100000 in
theorem impl_ShopFault.calls (k : Nat) (A0_0 : Option Addr) (c0_0 : Nat) (l0_0 : List (S96)) (a0_1 : Int) (A0_2 : Option Addr) (c0_2 : Nat) (l0_2 : List Int) (a0_3 : Int) (a0_4 : Int) (A0_5 : Option Addr) (c0_5 : Nat) (l0_5 : List (S74)) (a1_0 : Int) (a1_1 : Int) (a2 : Int) (r1 : List (S96)) (r2 : Int) (r3 : List Int) (r4 : Int) (r5 : Int) (r6 : List (S74)) (r7 : Bool) (w : World) (hr0_0 : Kd.C k96 w A0_0 l0_0.length l0_0) (hc0_0 : l0_0.length ≤ c0_0) (hr0_2 : Kd.C (Kd.int .i64) w A0_2 l0_2.length l0_2) (hc0_2 : l0_2.length ≤ c0_2) (hr0_5 : Kd.C k74 w A0_5 l0_5.length l0_5) (hc0_5 : l0_5.length ≤ c0_5) (h : impl_ShopFault.f k l0_0 a0_1 l0_2 a0_3 a0_4 l0_5 a1_0 a1_1 a2 = some (r1, r2, r3, r4, r5, r6, r7)) :
  Calls Try.prog 38 #[.agg #[.slice A0_0 l0_0.length c0_0, .int .i64 a0_1, .slice A0_2 l0_2.length c0_2, .int .i64 a0_3, .int .i64 a0_4, .slice A0_5 l0_5.length c0_5], .agg #[.int .i64 a1_0, .int .i64 a1_1], .int .i64 a2] w fun e w' => ∃ v0_ v2_ v5_ : Value, e = .returned (.tuple #[.agg #[v0_, .int .i64 r2, v2_, .int .i64 r4, .int .i64 r5, v5_], .bool r7]) ∧ Kd.R k96 96 w' w.heap.size (fun _ => True) v0_ r1 ∧ Kd.R (Kd.int .i64) 3 w' w.heap.size (fun _ => True) v2_ r3 ∧ Kd.R k74 74 w' w.heap.size (fun _ => True) v5_ r6 ∧ Below w.heap.size w w' := by
 have ihr0_0 := RdE.mk hr0_0
 have ihc0_0 := LeI.mk hc0_0
 have ihr0_2 := RdE.mk hr0_2
 have ihc0_2 := LeI.mk hc0_2
 have ihr0_5 := RdE.mk hr0_5
 have ihc0_5 := LeI.mk hc0_5
 clear hr0_0 hc0_0 hr0_2 hc0_2 hr0_5 hc0_5
 unfold impl_ShopFault.f at h
 have hu36 := Try.underlying36
 have hu56 := Try.underlying56
 (repeat' first | ((with_reducible replace h := ite_some h); rcases h with ⟨hc, h⟩ | ⟨hc, h⟩ <;> first | exact (none_some h).elim | exact absurd hc (by decide) | subst hc | (replace hc := Bool.eq_false_iff.mpr hc; subst hc) | (have hd := beq_iff_eq.mpr hc; have he := bne_eq_false_iff_eq.mpr hc; clear hc) | (have hd := beq_eq_false_iff_ne.mpr hc; have he := bne_iff_ne.mpr hc) | (have hd := decide_eq_false hc) | (have hd := decide_eq_true hc) | skip))
 all_goals go_enter Try.func38, Try.ntmps38
 all_goals go_wp2_with (first
  | ((with_reducible refine gate_dst (N := 3) rfl ?_); refine box_event rfl (N := 3) rfl (cs := #[.slice A0_0 l0_0.length c0_0, .int .i64 a0_1, .slice A0_2 l0_2.length c0_2, .int .i64 a0_3, .int .i64 a0_4, .slice A0_5 l0_5.length c0_5]) (t := 36) (by first | (go_simp; done) | (go_simp; rfl)) ?_; intro g hg w1 hk hb; have j1 := Born.mk hg; have j2 := Bel.mk hb; have j3 := Blk.mk hk; clear hg hb hk)
  | ((with_reducible refine gate_dst (N := 4) rfl ?_); refine box_event rfl (N := 4) rfl (cs := #[.int .i64 a1_0, .int .i64 a1_1]) (t := 56) (by first | (go_simp; done) | (go_simp; rfl)) ?_; intro g hg w1 hk hb; have j1 := Born.mk hg; have j2 := Bel.mk hb; have j3 := Blk.mk hk; clear hg hb hk)
  | ((with_reducible refine gate_dst (N := 6) rfl ?_); refine box_event rfl (N := 6) rfl (cs := #[.slice none 0 0, .int .i64 0, .slice none 0 0, .int .i64 0, .int .i64 0, .slice none 0 0]) (t := 36) (by first | (go_simp; done) | (go_simp; rfl)) ?_; intro g hg w1 hk hb; have j1 := Born.mk hg; have j2 := Bel.mk hb; have j3 := Blk.mk hk; clear hg hb hk)
  | ((with_reducible refine gate_dst (N := 8) rfl ?_); refine box_event rfl (N := 8) rfl (cs := #[.slice none 0 0, .int .i64 0, .slice none 0 0, .int .i64 0, .int .i64 0, .slice none 0 0]) (t := 36) (by first | (go_simp; done) | (go_simp; rfl)) ?_; intro g hg w1 hk hb; have j1 := Born.mk hg; have j2 := Bel.mk hb; have j3 := Blk.mk hk; clear hg hb hk)
  | (go_at_call 84; replace h := Option.bind_eq_some_iff.mp h; obtain ⟨⟨t1, t2, t3, t4, t5, t6⟩, A, h⟩ := h; (try dsimp only at h); refine (impl_copyShop.calls _ _ _ _ _ _ _ _ _ _ _ _ _ _ _ _ _ _ _ Rd.out LeI.out Rd.out LeI.out Rd.out LeI.out A).mono ?_; rintro e w2 ⟨v0, v1, v2, rfl, ho0, ho1, ho2, hb⟩; obtain ⟨B0, b0, rfl⟩ := Kd.R_slice ho0; have j0 := RowE.mk ho0; have q0 := LeI.mk (rowLe j0); obtain ⟨B1, b1, rfl⟩ := Kd.R_slice ho1; have j1 := RowE.mk ho1; have q1 := LeI.mk (rowLe j1); obtain ⟨B2, b2, rfl⟩ := Kd.R_slice ho2; have j2 := RowE.mk ho2; have q2 := LeI.mk (rowLe j2); have jb := Bel.mk hb; clear A ho0 ho1 ho2 hb; (repeat' first | ((with_reducible replace h := ite_some h); rcases h with ⟨hc, h⟩ | ⟨hc, h⟩ <;> first | exact (none_some h).elim | exact absurd hc (by decide) | subst hc | (replace hc := Bool.eq_false_iff.mpr hc; subst hc) | (have hd := beq_iff_eq.mpr hc; have he := bne_eq_false_iff_eq.mpr hc; clear hc) | (have hd := beq_eq_false_iff_ne.mpr hc; have he := bne_iff_ne.mpr hc) | (have hd := decide_eq_false hc) | (have hd := decide_eq_true hc) | skip)))
  | (go_at_call 18; replace h := Option.bind_eq_some_iff.mp h; obtain ⟨t, A, h⟩ := h; (try dsimp only at h); refine (impl_ShopOk.calls _ _ _ _ _ _ _ _ _ _ _ _ _ _ _ Rd.out LeI.out Rd.out LeI.out Rd.out LeI.out A).mono ?_; rintro e w2 ⟨rfl, hb⟩; have jb := Bel.mk hb; clear A hb; (repeat' first | ((with_reducible replace h := ite_some h); rcases h with ⟨hc, h⟩ | ⟨hc, h⟩ <;> first | exact (none_some h).elim | exact absurd hc (by decide) | subst hc | (replace hc := Bool.eq_false_iff.mpr hc; subst hc) | (have hd := beq_iff_eq.mpr hc; have he := bne_eq_false_iff_eq.mpr hc; clear hc) | (have hd := beq_eq_false_iff_ne.mpr hc; have he := bne_iff_ne.mpr hc) | (have hd := decide_eq_false hc) | (have hd := decide_eq_true hc) | skip)))
  | (go_at_call 51; replace h := Option.bind_eq_some_iff.mp h; obtain ⟨⟨t1, t2⟩, A, h⟩ := h; (try dsimp only at h); refine (impl_AddEntry.calls _ _ _ _ _ _ _ _ _ _ _ Rd.out LeI.out A).mono ?_; rintro e w2 ⟨v0, rfl, ho0, hb⟩; obtain ⟨B0, b0, rfl⟩ := Kd.R_slice ho0; have j0 := RowE.mk ho0; have q0 := LeI.mk (rowLe j0); have jb := Bel.mk hb; clear A ho0 hb; (repeat' first | ((with_reducible replace h := ite_some h); rcases h with ⟨hc, h⟩ | ⟨hc, h⟩ <;> first | exact (none_some h).elim | exact absurd hc (by decide) | subst hc | (replace hc := Bool.eq_false_iff.mpr hc; subst hc) | (have hd := beq_iff_eq.mpr hc; have he := bne_eq_false_iff_eq.mpr hc; clear hc) | (have hd := beq_eq_false_iff_ne.mpr hc; have he := bne_iff_ne.mpr hc) | (have hd := decide_eq_false hc) | (have hd := decide_eq_true hc) | skip))))
 all_goals (repeat' first | ((with_reducible replace h := ite_some h); rcases h with ⟨hc, h⟩ | ⟨hc, h⟩ <;> first | exact (none_some h).elim | exact absurd hc (by decide) | subst hc | (replace hc := Bool.eq_false_iff.mpr hc; subst hc) | (have hd := beq_iff_eq.mpr hc; have he := bne_eq_false_iff_eq.mpr hc; clear hc) | (have hd := beq_eq_false_iff_ne.mpr hc; have he := bne_iff_ne.mpr hc) | (have hd := decide_eq_false hc) | (have hd := decide_eq_true hc) | skip))
 all_goals simp only [Option.some.injEq, Prod.mk.injEq] at h
 all_goals obtain ⟨rfl, rfl, rfl, rfl, rfl, rfl, rfl⟩ := h
 all_goals refine bodyPost_ret (results_ct rfl _ _ _ _ _ (0, 0) _ rfl Blk.out Try.underlying36 rfl (by kernel_rfl)) rfl ?_
 all_goals exact ⟨_, _, _, rfl, (by first | exact rowFin | exact Kd.R_nil _ _ _ _ _), (by first | exact rowFin | exact Kd.R_nil _ _ _ _ _), (by first | exact rowFin | exact Kd.R_nil _ _ _ _ _), From.out⟩
end Go.Proofs.Ytbkkpllejgedcaa.P


namespace Go.Proofs.Ytbkkpllejgedcaa.P
open Go.RowKit Go.Proofs.YtbkkpllejgedcaaW.PrintWords Go.Proofs.YtbkkpllejgedcaaW.PrintLast Go.Proofs.YtbkkpllejgedcaaW.PrintMore Go.Proofs.Ytbkkpllejgedcaa.V
attribute [local go_sem] cell_b frozen_b cellR_c cell_r frozen_r cell_r0 frozen_r0
attribute [local go_sem] max2_int min2_int max_two min_two max_three min_three max_four min_four
set_option linter.unusedVariables false
set_option linter.unusedSimpArgs false
def impl_KnockKey.j0 : Nat → Int → Int → Bool → List (S96) → Int → List Int → List (S96) → Int → List Int → Option ((List (S96)) × Int × List Int × Bool)
 | 0, _, _, _, _, _, _, _, _, _ => none
 | k + 1, x1, x2, x31, x1216000, x1216001, x1216002, x1225000, x1225001, x1225002 => if x31 = true then (some (x1225000, x1225001, x1225002, false)) else (if 0 ≤ x1 then (if x1 < (x1225002.length : Int) then ((some (x1225002.set (x1 : Int).toNat (wrap64 ((rd x1225002 x1) + x2)) : List Int)).bind fun y1230 => ((impl_WorkOk.f x1225000 x1225001 y1230).bind fun t1231 => (if t1231 = true then (some (x1225000, x1225001, y1230, true)) else ((impl_copyWork.f x1216000 x1216001 x1216002).bind fun bt1232 => (some (bt1232.1, bt1232.2.1, bt1232.2.2, false)))))) else (none)) else (none))
def impl_KnockKey.f (k : Nat) (l0_0 : List (S96)) (a0_1 : Int) (l0_2 : List Int) (a1 : Int) (a2 : Int) : Option ((List (S96)) × Int × List Int × Bool) := (impl_copyWork.f l0_0 a0_1 l0_2).bind fun bt1217 => ((impl_WorkOk.f l0_0 a0_1 l0_2).bind fun t1225 => (if t1225 = true then ((impl_within.f a1 0 11).bind fun t1226 => (if t1226 = true then (if 0 ≤ a1 then (if a1 < (l0_2.length : Int) then (if (rd l0_2 a1) = 0 then (impl_KnockKey.j0 k a1 a2 true l0_0 a0_1 l0_2 bt1217.1 bt1217.2.1 bt1217.2.2) else ((impl_within.f a2 (-100000) 100000).bind fun t1228 => (impl_KnockKey.j0 k a1 a2 (!t1228) l0_0 a0_1 l0_2 bt1217.1 bt1217.2.1 bt1217.2.2))) else (none)) else (none)) else (impl_KnockKey.j0 k a1 a2 true l0_0 a0_1 l0_2 bt1217.1 bt1217.2.1 bt1217.2.2))) else (impl_KnockKey.j0 k a1 a2 true l0_0 a0_1 l0_2 bt1217.1 bt1217.2.1 bt1217.2.2)))
def impl_KnockKey.T4 : Bool × List (List Nat × List Nat) := (true, [([], []), ([0], [0]), ([], []), ([], []), ([3], [3]), ([], []), ([4, 5], [4, 5]), ([6], [6]), ([], []), ([7, 8], [7, 8]), ([1, 2, 0, 1, 2, 3, 4, 5, 6, 7, 8, 9], [1, 2]), ([10, 9, 0, 1, 2, 3, 4, 5, 6, 7, 8, 9], [9, 10])])
def impl_KnockKey.B4 : List Nat := [0, 1, 0, 0, 8, 0, 56, 120, 0, 504, 1023, 2047]
theorem impl_KnockKey.tab4 : rtab .any (opsOf Try.f86 4) = impl_KnockKey.T4 := by kernel_rfl
theorem impl_KnockKey.bits4 : waitsOk impl_KnockKey.T4.2 impl_KnockKey.B4 = true := by kernel_rfl
set_option maxHeartbeats 8000000 in
set_option maxRecDepth 100000 in
set_option synthInstance.maxHeartbeats 400000 in
set_option synthInstance.maxSize 100000 in
theorem impl_KnockKey.calls (k : Nat) (A0_0 : Option Addr) (c0_0 : Nat) (l0_0 : List (S96)) (a0_1 : Int) (A0_2 : Option Addr) (c0_2 : Nat) (l0_2 : List Int) (a1 : Int) (a2 : Int) (r1 : List (S96)) (r2 : Int) (r3 : List Int) (r4 : Bool) (w : World) (hr0_0 : Kd.C k96 w A0_0 l0_0.length l0_0) (hc0_0 : l0_0.length ≤ c0_0) (hr0_2 : Kd.C (Kd.int .i64) w A0_2 l0_2.length l0_2) (hc0_2 : l0_2.length ≤ c0_2) (h : impl_KnockKey.f k l0_0 a0_1 l0_2 a1 a2 = some (r1, r2, r3, r4)) :
  Calls Try.prog 86 #[.agg #[.slice A0_0 l0_0.length c0_0, .int .i64 a0_1, .slice A0_2 l0_2.length c0_2], .int .i64 a1, .int .i64 a2] w fun e w' => ∃ v0_ v2_ : Value, e = .returned (.tuple #[.agg #[v0_, .int .i64 r2, v2_], .bool r4]) ∧ Kd.R k96 96 w' w.heap.size (fun _ => True) v0_ r1 ∧ Kd.R (Kd.int .i64) 3 w' w.heap.size (fun _ => True) v2_ r3 ∧ Below w.heap.size w w' := by
 have ihr0_0 := RdE.mk hr0_0
 have ihc0_0 := LeI.mk hc0_0
 have ihr0_2 := RdE.mk hr0_2
 have ihc0_2 := LeI.mk hc0_2
 clear hr0_0 hc0_0 hr0_2 hc0_2
 have nt96_3 := NeT.mk (d := k96) (e := 96) (t := 3) (by decide)
 have nt96_33 := NeT.mk (d := k96) (e := 96) (t := 33) (by decide)
 unfold impl_KnockKey.f at h
 have hu33 := Try.underlying33
 (repeat' first | ((with_reducible replace h := ite_some h); rcases h with ⟨hc, h⟩ | ⟨hc, h⟩ <;> first | exact (none_some h).elim | exact absurd hc (by decide) | subst hc | (replace hc := Bool.eq_false_iff.mpr hc; subst hc) | (replace hc := (Bool.not_eq_true' _).mp hc; subst hc) | (replace hc := (Bool.not_eq_false' _).mp (Bool.eq_false_iff.mpr hc); subst hc) | (have hd : (_ == _) = true := hc) | (have hd : (_ == _) = false := Bool.eq_false_iff.mpr hc) | (have hd := beq_iff_eq.mpr hc; have he := bne_eq_false_iff_eq.mpr hc; clear hc) | (have hd := beq_eq_false_iff_ne.mpr hc; have he := bne_iff_ne.mpr hc) | (have hd := decide_eq_false hc) | (have hd := decide_eq_true hc; (try (have hn := Int.natCast_pos.mp hc; have hm := decide_eq_true hn; replace hn := eq_true hn)); first | (obtain ⟨g_, e_, i_⟩ := form_ (by assumption) (by first | assumption | decide) hc; cases e_) | (obtain ⟨a_, e_, c_⟩ := atI_ (by assumption) (by first | assumption | decide) hc; cases e_)) | (have hd := decide_eq_true hc) | skip) | ((with_reducible have hj : impl_KnockKey.j0 k _ _ _ _ _ _ _ _ _ = _ := h); clear hj; rcases k with _ | k <;> rw [impl_KnockKey.j0] at h <;> first | exact (none_some h).elim | skip) | ((with_reducible replace h := bind_set_ h); obtain ⟨hl_, h⟩ := h; replace hl_ := A_ hl_; (try dsimp only at h)))
 all_goals go_enter Try.func86, Try.ntmps86
 all_goals go_wp2_with (first
  | ((with_reducible refine gate_dst (N := 3) rfl ?_); refine box_event rfl (N := 3) rfl (cs := #[.slice A0_0 l0_0.length c0_0, .int .i64 a0_1, .slice A0_2 l0_2.length c0_2]) (t := 33) (by first | (go_simp; done) | (go_simp; rfl)) ?_; intro g hg w1 hk hb; have j1 := Born.mk hg; have j2 := Bel.mk hb; have j3 := Blk.mk hk; clear hg hb hk)
  | ((with_reducible refine gate_dst (N := 6) rfl ?_); refine box_event rfl (N := 6) rfl (cs := #[.slice none 0 0, .int .i64 0, .slice none 0 0]) (t := 33) (by first | (go_simp; done) | (go_simp; rfl)) ?_; intro g hg w1 hk hb; have j1 := Born.mk hg; have j2 := Bel.mk hb; have j3 := Blk.mk hk; clear hg hb hk)
  | ((with_reducible refine gate_dst (N := 8) rfl ?_); refine box_event rfl (N := 8) rfl (cs := #[.slice none 0 0, .int .i64 0, .slice none 0 0]) (t := 33) (by first | (go_simp; done) | (go_simp; rfl)) ?_; intro g hg w1 hk hb; have j1 := Born.mk hg; have j2 := Bel.mk hb; have j3 := Blk.mk hk; clear hg hb hk)
  | (go_at_call 119; (try rw [hl_.out]); replace h := Option.bind_eq_some_iff.mp h; obtain ⟨⟨t1, t2, t3⟩, A, h⟩ := h; (try dsimp only at h); refine (impl_copyWork.calls _ _ _ _ _ _ _ _ _ _ _ Rd.out LeI.out Rd.out LeI.out A).mono ?_; rintro e w2 ⟨v0, v1, rfl, ho0, ho1, hb⟩; obtain ⟨B0, b0, rfl⟩ := Kd.R_slice ho0; have j0 := RowE.mk ho0; have q0 := LeI.mk (rowLe j0); obtain ⟨B1, b1, rfl⟩ := Kd.R_slice ho1; have j1 := RowE.mk ho1; have q1 := LeI.mk (rowLe j1); have jb := Bel.mk hb; clear A ho0 ho1 hb; (repeat' first | ((with_reducible replace h := ite_some h); rcases h with ⟨hc, h⟩ | ⟨hc, h⟩ <;> first | exact (none_some h).elim | exact absurd hc (by decide) | subst hc | (replace hc := Bool.eq_false_iff.mpr hc; subst hc) | (replace hc := (Bool.not_eq_true' _).mp hc; subst hc) | (replace hc := (Bool.not_eq_false' _).mp (Bool.eq_false_iff.mpr hc); subst hc) | (have hd : (_ == _) = true := hc) | (have hd : (_ == _) = false := Bool.eq_false_iff.mpr hc) | (have hd := beq_iff_eq.mpr hc; have he := bne_eq_false_iff_eq.mpr hc; clear hc) | (have hd := beq_eq_false_iff_ne.mpr hc; have he := bne_iff_ne.mpr hc) | (have hd := decide_eq_false hc) | (have hd := decide_eq_true hc; (try (have hn := Int.natCast_pos.mp hc; have hm := decide_eq_true hn; replace hn := eq_true hn)); first | (obtain ⟨g_, e_, i_⟩ := form_ (by assumption) (by first | assumption | decide) hc; cases e_) | (obtain ⟨a_, e_, c_⟩ := atI_ (by assumption) (by first | assumption | decide) hc; cases e_)) | (have hd := decide_eq_true hc) | skip) | ((with_reducible have hj : impl_KnockKey.j0 k _ _ _ _ _ _ _ _ _ = _ := h); clear hj; rcases k with _ | k <;> rw [impl_KnockKey.j0] at h <;> first | exact (none_some h).elim | skip) | ((with_reducible replace h := bind_set_ h); obtain ⟨hl_, h⟩ := h; replace hl_ := A_ hl_; (try dsimp only at h))))
  | (go_at_call 64; (try rw [hl_.out]); replace h := Option.bind_eq_some_iff.mp h; obtain ⟨t, A, h⟩ := h; (try dsimp only at h); refine (impl_WorkOk.calls _ _ _ _ _ _ _ _ _ Rd.out LeI.out Rd.out LeI.out A).mono ?_; rintro e w2 ⟨rfl, hb⟩; have jb := Bel.mk hb; clear A hb; (repeat' first | ((with_reducible replace h := ite_some h); rcases h with ⟨hc, h⟩ | ⟨hc, h⟩ <;> first | exact (none_some h).elim | exact absurd hc (by decide) | subst hc | (replace hc := Bool.eq_false_iff.mpr hc; subst hc) | (replace hc := (Bool.not_eq_true' _).mp hc; subst hc) | (replace hc := (Bool.not_eq_false' _).mp (Bool.eq_false_iff.mpr hc); subst hc) | (have hd : (_ == _) = true := hc) | (have hd : (_ == _) = false := Bool.eq_false_iff.mpr hc) | (have hd := beq_iff_eq.mpr hc; have he := bne_eq_false_iff_eq.mpr hc; clear hc) | (have hd := beq_eq_false_iff_ne.mpr hc; have he := bne_iff_ne.mpr hc) | (have hd := decide_eq_false hc) | (have hd := decide_eq_true hc; (try (have hn := Int.natCast_pos.mp hc; have hm := decide_eq_true hn; replace hn := eq_true hn)); first | (obtain ⟨g_, e_, i_⟩ := form_ (by assumption) (by first | assumption | decide) hc; cases e_) | (obtain ⟨a_, e_, c_⟩ := atI_ (by assumption) (by first | assumption | decide) hc; cases e_)) | (have hd := decide_eq_true hc) | skip) | ((with_reducible have hj : impl_KnockKey.j0 k _ _ _ _ _ _ _ _ _ = _ := h); clear hj; rcases k with _ | k <;> rw [impl_KnockKey.j0] at h <;> first | exact (none_some h).elim | skip) | ((with_reducible replace h := bind_set_ h); obtain ⟨hl_, h⟩ := h; replace hl_ := A_ hl_; (try dsimp only at h))))
  | (go_at_call 67; (try rw [hl_.out]); replace h := Option.bind_eq_some_iff.mp h; obtain ⟨t, A, h⟩ := h; (try dsimp only at h); refine (impl_within.calls _ _ _ _ _ A).mono ?_; rintro e w2 ⟨rfl, n, rfl⟩; clear A; (repeat' first | ((with_reducible replace h := ite_some h); rcases h with ⟨hc, h⟩ | ⟨hc, h⟩ <;> first | exact (none_some h).elim | exact absurd hc (by decide) | subst hc | (replace hc := Bool.eq_false_iff.mpr hc; subst hc) | (replace hc := (Bool.not_eq_true' _).mp hc; subst hc) | (replace hc := (Bool.not_eq_false' _).mp (Bool.eq_false_iff.mpr hc); subst hc) | (have hd : (_ == _) = true := hc) | (have hd : (_ == _) = false := Bool.eq_false_iff.mpr hc) | (have hd := beq_iff_eq.mpr hc; have he := bne_eq_false_iff_eq.mpr hc; clear hc) | (have hd := beq_eq_false_iff_ne.mpr hc; have he := bne_iff_ne.mpr hc) | (have hd := decide_eq_false hc) | (have hd := decide_eq_true hc; (try (have hn := Int.natCast_pos.mp hc; have hm := decide_eq_true hn; replace hn := eq_true hn)); first | (obtain ⟨g_, e_, i_⟩ := form_ (by assumption) (by first | assumption | decide) hc; cases e_) | (obtain ⟨a_, e_, c_⟩ := atI_ (by assumption) (by first | assumption | decide) hc; cases e_)) | (have hd := decide_eq_true hc) | skip) | ((with_reducible have hj : impl_KnockKey.j0 k _ _ _ _ _ _ _ _ _ = _ := h); clear hj; rcases k with _ | k <;> rw [impl_KnockKey.j0] at h <;> first | exact (none_some h).elim | skip) | ((with_reducible replace h := bind_set_ h); obtain ⟨hl_, h⟩ := h; replace hl_ := A_ hl_; (try dsimp only at h))))
  | (refine qR (id := 4) (ds := [11]) (l := #[false, false, false, false, false, false, false, false, false, false, false, false]) impl_KnockKey.tab4 impl_KnockKey.bits4 ?_; intro HT_ HW_ w3 jw u0 iu hHeld; refine qA 0 (some 33) HT_ ?_; refine qA 2 (some 35) HT_ ?_; refine qA 3 (some 36) HT_ ?_; refine qA 5 (some 38) HT_ ?_; refine qA 8 (some 41) HT_ ?_; refine qT 1 (some 34) HT_ HW_ hHeld ?_; refine qT 4 (some 37) HT_ HW_ hHeld ?_; refine qA 6 (some 39) HT_ ?_; refine qT 7 (some 40) HT_ HW_ hHeld ?_; refine qA 9 (some 42) HT_ ?_; refine qA 10 (some 43) HT_ ?_; refine qL 11 HT_ ?_; refine qD HT_ ?_))
 all_goals (repeat' first | ((with_reducible replace h := ite_some h); rcases h with ⟨hc, h⟩ | ⟨hc, h⟩ <;> first | exact (none_some h).elim | exact absurd hc (by decide) | subst hc | (replace hc := Bool.eq_false_iff.mpr hc; subst hc) | (replace hc := (Bool.not_eq_true' _).mp hc; subst hc) | (replace hc := (Bool.not_eq_false' _).mp (Bool.eq_false_iff.mpr hc); subst hc) | (have hd : (_ == _) = true := hc) | (have hd : (_ == _) = false := Bool.eq_false_iff.mpr hc) | (have hd := beq_iff_eq.mpr hc; have he := bne_eq_false_iff_eq.mpr hc; clear hc) | (have hd := beq_eq_false_iff_ne.mpr hc; have he := bne_iff_ne.mpr hc) | (have hd := decide_eq_false hc) | (have hd := decide_eq_true hc; (try (have hn := Int.natCast_pos.mp hc; have hm := decide_eq_true hn; replace hn := eq_true hn)); first | (obtain ⟨g_, e_, i_⟩ := form_ (by assumption) (by first | assumption | decide) hc; cases e_) | (obtain ⟨a_, e_, c_⟩ := atI_ (by assumption) (by first | assumption | decide) hc; cases e_)) | (have hd := decide_eq_true hc) | skip) | ((with_reducible have hj : impl_KnockKey.j0 k _ _ _ _ _ _ _ _ _ = _ := h); clear hj; rcases k with _ | k <;> rw [impl_KnockKey.j0] at h <;> first | exact (none_some h).elim | skip) | ((with_reducible replace h := bind_set_ h); obtain ⟨hl_, h⟩ := h; replace hl_ := A_ hl_; (try dsimp only at h)))
 all_goals simp only [Option.some.injEq, Prod.mk.injEq] at h
 all_goals obtain ⟨rfl, rfl, rfl, rfl⟩ := h
 all_goals refine bodyPost_ret (results_ct rfl _ _ _ _ _ (0, 0) _ rfl Blk.out Try.underlying33 rfl (by kernel_rfl)) rfl ?_
 all_goals exact ⟨_, _, rfl, (by first | exact rowFin | exact Kd.R_nil _ _ _ _ _ | exact atFin | exact irowFin' (by simp)), (by first | exact rowFin | exact Kd.R_nil _ _ _ _ _ | exact atFin | exact irowFin' (by simp)), From.out⟩
end Go.Proofs.Ytbkkpllejgedcaa.P


namespace Go.Proofs.Ytbkkpllejgedcaa.P
open Go.RowKit Go.Proofs.YtbkkpllejgedcaaW.PrintWords Go.Proofs.YtbkkpllejgedcaaW.PrintLast Go.Proofs.YtbkkpllejgedcaaW.PrintMore Go.Proofs.Ytbkkpllejgedcaa.V
attribute [local go_sem] cell_b frozen_b
attribute [local go_sem] max2_int min2_int max_two min_two max_three min_three max_four min_four
set_option linter.unusedVariables false
set_option linter.unusedSimpArgs false
def impl_ShopKnock.f (k : Nat) (l0_0 : List (S96)) (a0_1 : Int) (l0_2 : List Int) (a0_3 : Int) (a0_4 : Int) (l0_5 : List (S74)) (a1 : Int) (a2 : Int) : Option ((List (S96)) × Int × List Int × Int × Int × (List (S74)) × Bool) := (impl_copyShop.f l0_0 a0_1 l0_2 a0_3 a0_4 l0_5).bind fun bt1241 => ((impl_ShopOk.f k l0_0 a0_1 l0_2 a0_3 a0_4 l0_5).bind fun t1254 => (if t1254 = true then ((impl_KnockKey.f k l0_0 a0_1 l0_2 a1 a2).bind fun bt1255 => (some (bt1255.1, bt1255.2.1, bt1255.2.2.1, bt1241.2.2.2.1, bt1241.2.2.2.2.1, bt1241.2.2.2.2.2, bt1255.2.2.2))) else (some (bt1241.1, bt1241.2.1, bt1241.2.2.1, bt1241.2.2.2.1, bt1241.2.2.2.2.1, bt1241.2.2.2.2.2, false))))
set_option maxHeartbeats 8000000 in
set_option maxRecDepth 100000 in
set_option synthInstance.maxHeartbeats 400000 in
set_option synthInstance.maxSize 100000 in
theorem impl_ShopKnock.calls (k : Nat) (A0_0 : Option Addr) (c0_0 : Nat) (l0_0 : List (S96)) (a0_1 : Int) (A0_2 : Option Addr) (c0_2 : Nat) (l0_2 : List Int) (a0_3 : Int) (a0_4 : Int) (A0_5 : Option Addr) (c0_5 : Nat) (l0_5 : List (S74)) (a1 : Int) (a2 : Int) (r1 : List (S96)) (r2 : Int) (r3 : List Int) (r4 : Int) (r5 : Int) (r6 : List (S74)) (r7 : Bool) (w : World) (hr0_0 : Kd.C k96 w A0_0 l0_0.length l0_0) (hc0_0 : l0_0.length ≤ c0_0) (hr0_2 : Kd.C (Kd.int .i64) w A0_2 l0_2.length l0_2) (hc0_2 : l0_2.length ≤ c0_2) (hr0_5 : Kd.C k74 w A0_5 l0_5.length l0_5) (hc0_5 : l0_5.length ≤ c0_5) (h : impl_ShopKnock.f k l0_0 a0_1 l0_2 a0_3 a0_4 l0_5 a1 a2 = some (r1, r2, r3, r4, r5, r6, r7)) :
  Calls Try.prog 40 #[.agg #[.slice A0_0 l0_0.length c0_0, .int .i64 a0_1, .slice A0_2 l0_2.length c0_2, .int .i64 a0_3, .int .i64 a0_4, .slice A0_5 l0_5.length c0_5], .int .i64 a1, .int .i64 a2] w fun e w' => ∃ v0_ v2_ v5_ : Value, e = .returned (.tuple #[.agg #[v0_, .int .i64 r2, v2_, .int .i64 r4, .int .i64 r5, v5_], .bool r7]) ∧ Kd.R k96 96 w' w.heap.size (fun _ => True) v0_ r1 ∧ Kd.R (Kd.int .i64) 3 w' w.heap.size (fun _ => True) v2_ r3 ∧ Kd.R k74 74 w' w.heap.size (fun _ => True) v5_ r6 ∧ Below w.heap.size w w' := by
 have ihr0_0 := RdE.mk hr0_0
 have ihc0_0 := LeI.mk hc0_0
 have ihr0_2 := RdE.mk hr0_2
 have ihc0_2 := LeI.mk hc0_2
 have ihr0_5 := RdE.mk hr0_5
 have ihc0_5 := LeI.mk hc0_5
 clear hr0_0 hc0_0 hr0_2 hc0_2 hr0_5 hc0_5
 unfold impl_ShopKnock.f at h
 have hu33 := Try.underlying33
 have hu36 := Try.underlying36
 (repeat' first | ((with_reducible replace h := ite_some h); rcases h with ⟨hc, h⟩ | ⟨hc, h⟩ <;> first | exact (none_some h).elim | exact absurd hc (by decide) | subst hc | (replace hc := Bool.eq_false_iff.mpr hc; subst hc) | (have hd := beq_iff_eq.mpr hc; have he := bne_eq_false_iff_eq.mpr hc; clear hc) | (have hd := beq_eq_false_iff_ne.mpr hc; have he := bne_iff_ne.mpr hc) | (have hd := decide_eq_false hc) | (have hd := decide_eq_true hc) | skip))
 all_goals go_enter Try.func40, Try.ntmps40
 all_goals go_wp2_with (first
  | ((with_reducible refine gate_dst (N := 3) rfl ?_); refine box_event rfl (N := 3) rfl (cs := #[.slice A0_0 l0_0.length c0_0, .int .i64 a0_1, .slice A0_2 l0_2.length c0_2, .int .i64 a0_3, .int .i64 a0_4, .slice A0_5 l0_5.length c0_5]) (t := 36) (by first | (go_simp; done) | (go_simp; rfl)) ?_; intro g hg w1 hk hb; have j1 := Born.mk hg; have j2 := Bel.mk hb; have j3 := Blk.mk hk; clear hg hb hk)
  | ((with_reducible refine gate_dst (N := 6) rfl ?_); refine box_event rfl (N := 6) rfl (cs := #[.slice none 0 0, .int .i64 0, .slice none 0 0, .int .i64 0, .int .i64 0, .slice none 0 0]) (t := 36) (by first | (go_simp; done) | (go_simp; rfl)) ?_; intro g hg w1 hk hb; have j1 := Born.mk hg; have j2 := Bel.mk hb; have j3 := Blk.mk hk; clear hg hb hk)
  | ((with_reducible refine gate_dst (N := 8) rfl ?_); refine box_event rfl (N := 8) rfl (cs := #[.slice none 0 0, .int .i64 0, .slice none 0 0, .int .i64 0, .int .i64 0, .slice none 0 0]) (t := 36) (by first | (go_simp; done) | (go_simp; rfl)) ?_; intro g hg w1 hk hb; have j1 := Born.mk hg; have j2 := Bel.mk hb; have j3 := Blk.mk hk; clear hg hb hk)
  | ((with_reducible refine gate_dst (N := 9) rfl ?_); refine box_event rfl (N := 9) rfl (cs := #[.slice none 0 0, .int .i64 0, .slice none 0 0]) (t := 33) (by first | (go_simp; done) | (go_simp; rfl)) ?_; intro g hg w1 hk hb; have j1 := Born.mk hg; have j2 := Bel.mk hb; have j3 := Blk.mk hk; clear hg hb hk)
  | (go_at_call 84; replace h := Option.bind_eq_some_iff.mp h; obtain ⟨⟨t1, t2, t3, t4, t5, t6⟩, A, h⟩ := h; (try dsimp only at h); refine (impl_copyShop.calls _ _ _ _ _ _ _ _ _ _ _ _ _ _ _ _ _ _ _ Rd.out LeI.out Rd.out LeI.out Rd.out LeI.out A).mono ?_; rintro e w2 ⟨v0, v1, v2, rfl, ho0, ho1, ho2, hb⟩; obtain ⟨B0, b0, rfl⟩ := Kd.R_slice ho0; have j0 := RowE.mk ho0; have q0 := LeI.mk (rowLe j0); obtain ⟨B1, b1, rfl⟩ := Kd.R_slice ho1; have j1 := RowE.mk ho1; have q1 := LeI.mk (rowLe j1); obtain ⟨B2, b2, rfl⟩ := Kd.R_slice ho2; have j2 := RowE.mk ho2; have q2 := LeI.mk (rowLe j2); have jb := Bel.mk hb; clear A ho0 ho1 ho2 hb; (repeat' first | ((with_reducible replace h := ite_some h); rcases h with ⟨hc, h⟩ | ⟨hc, h⟩ <;> first | exact (none_some h).elim | exact absurd hc (by decide) | subst hc | (replace hc := Bool.eq_false_iff.mpr hc; subst hc) | (have hd := beq_iff_eq.mpr hc; have he := bne_eq_false_iff_eq.mpr hc; clear hc) | (have hd := beq_eq_false_iff_ne.mpr hc; have he := bne_iff_ne.mpr hc) | (have hd := decide_eq_false hc) | (have hd := decide_eq_true hc) | skip)))
  | (go_at_call 18; replace h := Option.bind_eq_some_iff.mp h; obtain ⟨t, A, h⟩ := h; (try dsimp only at h); refine (impl_ShopOk.calls _ _ _ _ _ _ _ _ _ _ _ _ _ _ _ Rd.out LeI.out Rd.out LeI.out Rd.out LeI.out A).mono ?_; rintro e w2 ⟨rfl, hb⟩; have jb := Bel.mk hb; clear A hb; (repeat' first | ((with_reducible replace h := ite_some h); rcases h with ⟨hc, h⟩ | ⟨hc, h⟩ <;> first | exact (none_some h).elim | exact absurd hc (by decide) | subst hc | (replace hc := Bool.eq_false_iff.mpr hc; subst hc) | (have hd := beq_iff_eq.mpr hc; have he := bne_eq_false_iff_eq.mpr hc; clear hc) | (have hd := beq_eq_false_iff_ne.mpr hc; have he := bne_iff_ne.mpr hc) | (have hd := decide_eq_false hc) | (have hd := decide_eq_true hc) | skip)))
  | (go_at_call 86; replace h := Option.bind_eq_some_iff.mp h; obtain ⟨⟨t1, t2, t3, t4⟩, A, h⟩ := h; (try dsimp only at h); refine (impl_KnockKey.calls _ _ _ _ _ _ _ _ _ _ _ _ _ _ _ Rd.out LeI.out Rd.out LeI.out A).mono ?_; rintro e w2 ⟨v0, v1, rfl, ho0, ho1, hb⟩; obtain ⟨B0, b0, rfl⟩ := Kd.R_slice ho0; have j0 := RowE.mk ho0; have q0 := LeI.mk (rowLe j0); obtain ⟨B1, b1, rfl⟩ := Kd.R_slice ho1; have j1 := RowE.mk ho1; have q1 := LeI.mk (rowLe j1); have jb := Bel.mk hb; clear A ho0 ho1 hb; (repeat' first | ((with_reducible replace h := ite_some h); rcases h with ⟨hc, h⟩ | ⟨hc, h⟩ <;> first | exact (none_some h).elim | exact absurd hc (by decide) | subst hc | (replace hc := Bool.eq_false_iff.mpr hc; subst hc) | (have hd := beq_iff_eq.mpr hc; have he := bne_eq_false_iff_eq.mpr hc; clear hc) | (have hd := beq_eq_false_iff_ne.mpr hc; have he := bne_iff_ne.mpr hc) | (have hd := decide_eq_false hc) | (have hd := decide_eq_true hc) | skip))))
 all_goals (repeat' first | ((with_reducible replace h := ite_some h); rcases h with ⟨hc, h⟩ | ⟨hc, h⟩ <;> first | exact (none_some h).elim | exact absurd hc (by decide) | subst hc | (replace hc := Bool.eq_false_iff.mpr hc; subst hc) | (have hd := beq_iff_eq.mpr hc; have he := bne_eq_false_iff_eq.mpr hc; clear hc) | (have hd := beq_eq_false_iff_ne.mpr hc; have he := bne_iff_ne.mpr hc) | (have hd := decide_eq_false hc) | (have hd := decide_eq_true hc) | skip))
 all_goals simp only [Option.some.injEq, Prod.mk.injEq] at h
 all_goals obtain ⟨rfl, rfl, rfl, rfl, rfl, rfl, rfl⟩ := h
 all_goals refine bodyPost_ret (results_ct rfl _ _ _ _ _ (0, 0) _ rfl Blk.out Try.underlying36 rfl (by kernel_rfl)) rfl ?_
 all_goals exact ⟨_, _, _, rfl, (by first | exact rowFin | exact Kd.R_nil _ _ _ _ _), (by first | exact rowFin | exact Kd.R_nil _ _ _ _ _), (by first | exact rowFin | exact Kd.R_nil _ _ _ _ _), From.out⟩
end Go.Proofs.Ytbkkpllejgedcaa.P


namespace Go.Proofs.Ytbkkpllejgedcaa.P
open Go.RowKit Go.Proofs.YtbkkpllejgedcaaW.PrintWords Go.Proofs.YtbkkpllejgedcaaW.PrintLast Go.Proofs.YtbkkpllejgedcaaW.PrintMore
attribute [local go_sem] max2_int min2_int max_two min_two max_three min_three max_four min_four
set_option linter.unusedVariables false
set_option linter.unusedSimpArgs false
def laws_big.f (l0 : List Int) : Option (Bool) := some (decide ((l0.length : Int) > 1048576))
set_option maxHeartbeats 8000000 in
set_option maxRecDepth 100000 in
theorem laws_big.calls (A0 : Option Addr) (c0 : Nat) (l0 : List Int) (r : Bool) (w : World) (hr0 : Kd.C (Kd.int .u8) w A0 l0.length l0) (hc0 : l0.length ≤ c0) (h : laws_big.f l0 = some r) :
  Calls Try.prog 43 #[.slice A0 l0.length c0] w fun e w' => e = .returned (.bool r) ∧ Drawn0 w w' := by
 have HR0 := A_ hr0
 have HC0 := A_ hc0
 clear hr0 hc0
 have H : (some (decide ((l0.length : Int) > 1048576))) = some r := h
 clear h
 obtain rfl := Option.some.inj H
 go_enter Try.func43, Try.ntmps43
 go_wp2
 go_ret
 exact ⟨by first | rfl | (simp; done) | (simp [*]; done), by repeat (first | exact Drawn0.refl _ | apply Drawn0.step)⟩
end Go.Proofs.Ytbkkpllejgedcaa.P


namespace Go.Proofs.Ytbkkpllejgedcaa.P
open Go.RowKit Go.Proofs.YtbkkpllejgedcaaW.PrintWords Go.Proofs.YtbkkpllejgedcaaW.PrintLast Go.Proofs.YtbkkpllejgedcaaW.PrintMore
attribute [local go_sem] max2_int min2_int max_two min_two max_three min_three max_four min_four
set_option linter.unusedVariables false
set_option linter.unusedSimpArgs false
def IsS129 (w0 W : World) (g : Nat) (f0 : List Int) (f1 : Int) (f2 : Int) : Prop := ∃ A0 c0, W.heap[g]? = some (.cells #[.slice A0 f0.length c0, .int .i64 f1, .int .i64 f2] 129 (0, 0)) ∧ w0.heap.size ≤ g ∧ Kd.C (Kd.int .u8) w0 A0 f0.length f0
theorem IsS129.grown {w0 W : World} {g : Nat} {f0 : List Int} {f1 : Int} {f2 : Int} {W1 : World} {row : Option Nat} (h : IsS129 w0 W g f0 f1 f2) (hw : W.grownBy W1 row) (hne : some g ≠ row) : IsS129 w0 W1 g f0 f1 f2 := by
 obtain ⟨A0, c0, hb, hg, hr0⟩ := h
 exact ⟨A0, c0, blk_grown hb hw hne, hg, hr0⟩
theorem IsS129.below {w0 W : World} {g : Nat} {f0 : List Int} {f1 : Int} {f2 : Int} {W1 : World} (h : IsS129 w0 W g f0 f1 f2) (hw : Below W.heap.size W W1) : IsS129 w0 W1 g f0 f1 f2 := h.grown (grown_of_below hw none) (by simp)
theorem IsS129.alloc {w0 W : World} {g : Nat} {f0 : List Int} {f1 : Int} {f2 : Int} (h : IsS129 w0 W g f0 f1 f2) (o : Obj) : IsS129 w0 (W.alloc o) g f0 f1 f2 := h.below (below_alloc (Below.refl _ _) o)
theorem IsS129.drewN {w0 W : World} {g : Nat} {f0 : List Int} {f1 : Int} {f2 : Int} (h : IsS129 w0 W g f0 f1 f2) (m : Nat) : IsS129 w0 (W.drewN m) g f0 f1 f2 := h
theorem IsS129.drew {w0 W : World} {g : Nat} {f0 : List Int} {f1 : Int} {f2 : Int} (h : IsS129 w0 W g f0 f1 f2) : IsS129 w0 W.drew g f0 f1 f2 := h
theorem IsS129.at_ {w0 W : World} {g : Nat} {f0 : List Int} {f1 : Int} {f2 : Int} {w' : World} {m : Nat} (hq : W.drewN m = w') (h : IsS129 w0 W g f0 f1 f2) : IsS129 w0 w' g f0 f1 f2 := by subst hq; exact IsS129.drewN h m
theorem IsS129.apart {w0 W : World} {g : Nat} {f0 : List Int} {f1 : Int} {f2 : Int} {α : Type} {d : Kd α} {e : Nat} {base : Nat} {ok : Nat → Prop} {v : Value} {xs : List α} (h : IsS129 w0 W g f0 f1 f2) (ho : d.R e W base ok v xs) (ht : ∀ q, q ∈ e :: d.E → q ≠ 129) : d.R e W base (fun k => ok k ∧ k ≠ g) v xs := by
 obtain ⟨A0, c0, hb, hg, hr0⟩ := h
 exact Kd.R_types ho hb ht
theorem IsS129.own_ne {w0 W : World} {g : Nat} {f0 : List Int} {f1 : Int} {f2 : Int} {α : Type} {d : Kd α} {e : Nat} {base : Nat} {ok : Nat → Prop} {v : Value} {xs : List α} (h : IsS129 w0 W g f0 f1 f2) (ho : d.R e W base ok v xs) (ht : e ≠ 129) : some g ≠ v.ownBlock := by
 obtain ⟨A0, c0, hb, hg, hr0⟩ := h
 exact Kd.R_ne ho hb ht
theorem IsS129.lt {w0 W : World} {g : Nat} {f0 : List Int} {f1 : Int} {f2 : Int} (h : IsS129 w0 W g f0 f1 f2) : g < W.heap.size := by
 obtain ⟨A0, c0, hb, hg, hr0⟩ := h
 exact blk_lt hb
theorem IsS129.ge {w0 W : World} {g : Nat} {f0 : List Int} {f1 : Int} {f2 : Int} (h : IsS129 w0 W g f0 f1 f2) : w0.heap.size ≤ g := by
 obtain ⟨A0, c0, hb, hg, hr0⟩ := h
 exact hg
theorem IsS129.ne_blk {w0 W : World} {g : Nat} {f0 : List Int} {f1 : Int} {f2 : Int} {a : Nat} {cs : Array Value} {t : TypeId} {fr : Nat × Nat} (h : IsS129 w0 W g f0 f1 f2) (hb2 : W.heap[a]? = some (.cells cs t fr)) (ht : t ≠ 129) : g ≠ a := by
 obtain ⟨A0, c0, hb, hg, hr0⟩ := h
 rintro rfl
 rw [hb] at hb2
 injection hb2 with hb2
 injection hb2 with _ ht2
 exact ht ht2.symm
theorem IsS129.far {w0 W : World} {g : Nat} {f0 : List Int} {f1 : Int} {f2 : Int} {p : Addr} (h : IsS129 w0 W g f0 f1 f2) (hne : g ≠ p.block) (u : Value) : IsS129 w0 (W.setCell p u) g f0 f1 f2 := by
 obtain ⟨A0, c0, hb, hg, hr0⟩ := h
 exact ⟨A0, c0, blk_far hb hne u, hg, hr0⟩
theorem cellS129_0 {W : World} {g : Nat} {A0 : Option Addr} {c0 : Nat} {f0 : List Int} {f1 : Int} {f2 : Int} (h : W.heap[g]? = some (.cells #[.slice A0 f0.length c0, .int .i64 f1, .int .i64 f2] 129 (0, 0))) : W.cell? ⟨g, 0, none⟩ = some (.slice A0 f0.length c0) := (blk_cell h 0).trans rfl
theorem cellS129_1 {W : World} {g : Nat} {A0 : Option Addr} {c0 : Nat} {f0 : List Int} {f1 : Int} {f2 : Int} (h : W.heap[g]? = some (.cells #[.slice A0 f0.length c0, .int .i64 f1, .int .i64 f2] 129 (0, 0))) : W.cell? ⟨g, 1, none⟩ = some (.int .i64 f1) := (blk_cell h 1).trans rfl
theorem IsS129.set_1 {w0 W : World} {g : Nat} {f0 : List Int} {f1 : Int} {f2 : Int} (h : IsS129 w0 W g f0 f1 f2) (x : Int) : IsS129 w0 (W.setCell ⟨g, 1, none⟩ (.int .i64 x)) g f0 x f2 := by
 obtain ⟨A0, c0, hb, hg, hr0⟩ := h
 exact ⟨A0, c0, by simpa using blk_set hb 1 (.int .i64 x), hg, hr0⟩
theorem cellS129_2 {W : World} {g : Nat} {A0 : Option Addr} {c0 : Nat} {f0 : List Int} {f1 : Int} {f2 : Int} (h : W.heap[g]? = some (.cells #[.slice A0 f0.length c0, .int .i64 f1, .int .i64 f2] 129 (0, 0))) : W.cell? ⟨g, 2, none⟩ = some (.int .i64 f2) := (blk_cell h 2).trans rfl
theorem IsS129.set_2 {w0 W : World} {g : Nat} {f0 : List Int} {f1 : Int} {f2 : Int} (h : IsS129 w0 W g f0 f1 f2) (x : Int) : IsS129 w0 (W.setCell ⟨g, 2, none⟩ (.int .i64 x)) g f0 f1 x := by
 obtain ⟨A0, c0, hb, hg, hr0⟩ := h
 exact ⟨A0, c0, by simpa using blk_set hb 2 (.int .i64 x), hg, hr0⟩
theorem oI129 {p q : Prop} (h : Aside0 p) (k : p → q := by intro h_; repeat (first | (with_reducible first | exact h_ | apply IsS129.alloc | apply IsS129.drewN | apply IsS129.drew | apply IsS129.set_1 | apply IsS129.set_2 | refine IsS129.far ?_ (Aside0.out (self := by assumption)) _) | exact h_)) : q := k h.out
theorem oB129 {p q : Prop} (h : Aside0 p) (k : p → q := by intro h_; repeat (first | (with_reducible first | exact h_ | apply below_alloc | apply pw_below_drewN | apply below_drew1 | refine below_set ?_ (Aside0.out (self := by assumption)) | refine below_set ?_ (by (try dsimp only); exact IsS129.ge (Aside0.out (self := by assumption)))) | exact h_)) : q := k h.out
def spec_l01Byte.f (s0_0 : List Int) (s0_1 : Int) (s0_2 : Int) : Option (Int × Int × Int) := if s0_1 < (s0_0.length : Int) then (if 0 ≤ s0_1 then (some (Go.bits .and .i64 (wrap64 ((Go.bits .and .i64 (Go.bits .xor .i64 ((wrap64 ((wrap64 (s0_2 * 6364136223846793005)) + 1442695040888963407)) / 8589934592) ((wrap64 ((wrap64 (s0_2 * 6364136223846793005)) + 1442695040888963407)) / 35184372088832)) 255) + (wrap64 (rd s0_0 s0_1)))) 255, wrap64 (s0_1 + 1), wrap64 ((wrap64 (s0_2 * 6364136223846793005)) + 1442695040888963407))) else (none)) else (some (Go.bits .and .i64 (Go.bits .xor .i64 ((wrap64 ((wrap64 (s0_2 * 6364136223846793005)) + 1442695040888963407)) / 8589934592) ((wrap64 ((wrap64 (s0_2 * 6364136223846793005)) + 1442695040888963407)) / 35184372088832)) 255, s0_1, wrap64 ((wrap64 (s0_2 * 6364136223846793005)) + 1442695040888963407)))
set_option maxHeartbeats 8000000 in
set_option maxRecDepth 100000 in
theorem spec_l01Byte.calls (g : Nat) (s0_0 : List Int) (s0_1 : Int) (s0_2 : Int) (r1 : Int) (r2 : Int) (r3 : Int) (w0 w : World) (hI : IsS129 w0 w g s0_0 s0_1 s0_2) (hB : Below w0.heap.size w0 w) (h : spec_l01Byte.f s0_0 s0_1 s0_2 = some (r1, r2, r3)) :
  Calls Try.prog 127 #[.pointer (some ⟨g, 0, none⟩)] w fun e w' => e = .returned (.int .i64 r1) ∧ IsS129 w0 w' g s0_0 r2 r3 ∧ Below w0.heap.size w0 w' ∧ KeepBut w w' g none := by
 have HI0 := A_ hI
 have HK := A_ (KeepBut.refl w g none)
 have HL := A_ hB.size
 clear hI
 have HW0 := A_ hB.size
 have HB := A_ hB
 clear hB
 have H : (if s0_1 < (s0_0.length : Int) then (if 0 ≤ s0_1 then (some (Go.bits .and .i64 (wrap64 ((Go.bits .and .i64 (Go.bits .xor .i64 ((wrap64 ((wrap64 (s0_2 * 6364136223846793005)) + 1442695040888963407)) / 8589934592) ((wrap64 ((wrap64 (s0_2 * 6364136223846793005)) + 1442695040888963407)) / 35184372088832)) 255) + (wrap64 (rd s0_0 s0_1)))) 255, wrap64 (s0_1 + 1), wrap64 ((wrap64 (s0_2 * 6364136223846793005)) + 1442695040888963407))) else (none)) else (some (Go.bits .and .i64 (Go.bits .xor .i64 ((wrap64 ((wrap64 (s0_2 * 6364136223846793005)) + 1442695040888963407)) / 8589934592) ((wrap64 ((wrap64 (s0_2 * 6364136223846793005)) + 1442695040888963407)) / 35184372088832)) 255, s0_1, wrap64 ((wrap64 (s0_2 * 6364136223846793005)) + 1442695040888963407)))) = some (r1, r2, r3) := h
 clear h
 by_cases c2 : s0_1 < (s0_0.length : Int)
 ·rw [if_pos c2] at H
  have c2b0 : decide (s0_1 < (s0_0.length : Int)) = true := decide_eq_true c2
  clear c2
  by_cases c3 : 0 ≤ s0_1
  ·rw [if_pos c3] at H
   have c3b0 : decide (0 ≤ s0_1) = true := decide_eq_true c3
   clear c3
   simp only [Option.some.injEq, Prod.mk.injEq] at H
   obtain ⟨rfl, rfl, rfl⟩ := H
   obtain ⟨ASz4_0, cSz4_0, HGz4, hgz4, HSz4_0⟩ := HI0.out
   have hcz4_0 := cellS129_0 HGz4
   have hcz4_1 := cellS129_1 HGz4
   have hcz4_2 := cellS129_2 HGz4
   have hfz4_1 := blk_frozen HGz4 1
   have hfz4_2 := blk_frozen HGz4 2
   clear HGz4 hgz4
   have p1616 : 0 ≤ (s0_1 : Int) := of_decide_eq_true (by first | (with_reducible assumption) | assumption)
   have q1616 : s0_1 < (s0_0.length : Int) := of_decide_eq_true (by first | (with_reducible assumption) | assumption)
   obtain ⟨ad1616, e1616, hx1616_0⟩ := Kd.at_int HSz4_0 s0_1 p1616 q1616
   cases e1616
   have hn1616_0 : ad1616.block ≠ g := Nat.ne_of_lt (Nat.lt_of_lt_of_le (by have := World.block_lt_of_cell? _ _ hx1616_0; first | rwa [add_block] at this | exact this) (IsS129.ge HI0.out))
   replace hx1616_0 := pw_cell_below HB.out hx1616_0
   replace hx1616_0 := (cell_far (p := ⟨g, 2, none⟩) (by first | (rw [add_block]; exact hn1616_0) | (show (Addr.add _ _).block ≠ _; rw [add_block]; exact hn1616_0) | exact hn1616_0) (.int .i64 (wrap64 ((wrap64 (s0_2 * 6364136223846793005)) + 1442695040888963407)))).trans hx1616_0
   (try have hy1616_0 := fun (n_ : Nat) => (show (((w.drewN n_).setCell ⟨g, 2, none⟩ (.int .i64 (wrap64 ((wrap64 (s0_2 * 6364136223846793005)) + 1442695040888963407))))).cell? _ = some _ from hx1616_0))
   clear hn1616_0
   replace p1616 := eq_true p1616
   replace q1616 := eq_true q1616
   go_enter Try.func127, Try.ntmps127
   go_wp2
   repeat (go_quiet (fail); try go_wp2)
   go_ret
   exact ⟨eR, oI129 HI0, oB129 HB, oKe HK⟩
  ·rw [if_neg c3] at H
   exact absurd H (by simp)
 ·rw [if_neg c2] at H
  have c2b0 : decide (s0_1 < (s0_0.length : Int)) = false := decide_eq_false c2
  clear c2
  simp only [Option.some.injEq, Prod.mk.injEq] at H
  obtain ⟨rfl, rfl, rfl⟩ := H
  obtain ⟨ASz5_0, cSz5_0, HGz5, hgz5, HSz5_0⟩ := HI0.out
  have hcz5_0 := cellS129_0 HGz5
  have hcz5_1 := cellS129_1 HGz5
  have hcz5_2 := cellS129_2 HGz5
  have hfz5_1 := blk_frozen HGz5 1
  have hfz5_2 := blk_frozen HGz5 2
  clear HGz5 hgz5
  go_enter Try.func127, Try.ntmps127
  go_wp2
  repeat (go_quiet (fail); try go_wp2)
  go_ret
  exact ⟨eR, oI129 HI0, oB129 HB, oKe HK⟩
end Go.Proofs.Ytbkkpllejgedcaa.P


namespace Go.Proofs.Ytbkkpllejgedcaa.P
open Go.RowKit Go.Proofs.YtbkkpllejgedcaaW.PrintWords Go.Proofs.YtbkkpllejgedcaaW.PrintLast Go.Proofs.YtbkkpllejgedcaaW.PrintMore
attribute [local go_sem] max2_int min2_int max_two min_two max_three min_three max_four min_four
set_option linter.unusedVariables false
set_option linter.unusedSimpArgs false
def stepOkS (x : S96) (t : List Bool) : Bool :=
  (decide (x.f2 = 1) || decide (x.f2 = 2)) && (decide (0 ≤ x.f3 ∧ x.f3 ≤ 5000) && (decide (0 ≤ x.f0 ∧ x.f0 ≤ 11) && (decide (0 ≤ x.f1 ∧ x.f1 ≤ 11) && (decide (x.f1 = (x.f0 + 1) % 12) && (t.getD x.f0.toNat false && !t.getD x.f1.toNat false)))))
def planGoS : List S96 → List Bool → Bool
  | [], _ => true
  | x :: r, t => stepOkS x t && planGoS r (t.set x.f1.toNat true)
def planOkS (l : List S96) : Bool := planGoS l (true :: List.replicate 11 false) && decide (l.length ≤ 11)
theorem count_put {t : List Bool} {k : Nat} (hk : k < t.length) (h : t.getD k false = false) : (t.set k true).count true = t.count true + 1 := by
  rw [List.count_set hk]
  simp [List.getD_eq_getElem?_getD, hk] at h
  simp [h]
def spec_PlanOk.f (l0 : List (S96)) : Option (Bool) := some (planOkS l0)
set_option maxHeartbeats 8000000 in
set_option maxRecDepth 100000 in
theorem spec_PlanOk.calls (A0 : Option Addr) (c0 : Nat) (l0 : List (S96)) (r : Bool) (w : World) (hr0 : Kd.C k96 w A0 l0.length l0) (hc0 : l0.length ≤ c0) (h : spec_PlanOk.f l0 = some r) :
    Calls Try.prog 101 #[.slice A0 l0.length c0] w fun e w' => e = .returned (.bool r) ∧ Below w.heap.size w w' := by
  have hu67 := Try.underlying96
  have H := Option.some.inj h
  clear h
  go_enter Try.func101, Try.ntmps101
  go_wp2_with (first | ((with_reducible refine gate_dst (N := 6) rfl ?_); refine Kd.R_make Kd.bool _ 4 rfl (N := 6) rfl 132 _ _ rfl 12 rfl rfl Try.underlying132 (.bool false) 1 info4 rfl (by decide) (by omega) false (ok := fun _ => True) (okp := fun _ => True) rfl (fun _ hk => hk) trivial (by omega) (by omega) (Below.refl _ _) (Nat.le_refl _) ?_; intro v105 w5 ho6 hb hg_ hnew_; clear hg_ hnew_; have HB := A_ hb; obtain ⟨go4, co4, eo4, gb4, gl4, cl4, HG4⟩ := Kd.R_form ho6 (by decide); subst eo4; have HO := A_ ho6; have GB := A_ gb4; clear ho6 gl4 cl4 HG4 hb gb4; have qi4 : (0 < (List.replicate (Int.toNat 12) false).length) = True := eq_true (by decide); obtain ⟨hx4, hf4⟩ := Kd.R_celln false HO.out (0 : Int) (by omega) (by decide); simp only [Int.toNat_zero] at hx4 hf4))
  go_loopg [4] (l0.length + 1) (fun kq v4 w' => ∃ (i : Nat) (tn : List Bool), v4 = .int .i64 (i : Int) ∧ Aside0 (i + kq = l0.length + 1) ∧ Aside0 (i ≤ l0.length) ∧ Aside0 (tn.length = 12) ∧ Aside0 (tn.count true = i + 1) ∧ Aside0 (Kd.R Kd.bool 4 w' w.heap.size (fun _ => True) (.slice (some ⟨go4, 0, none⟩) 12 co4) tn) ∧ Aside0 ((planGoS (l0.drop i) tn && decide (l0.length ≤ 11)) = r) ∧ Aside0 (Below w.heap.size w w'))
  case atStart =>
    exact ⟨0, true :: List.replicate 11 false, rfl, ⟨by omega⟩, ⟨by omega⟩, ⟨rfl⟩, ⟨by decide⟩, ⟨(Kd.R_putg HO.out (0 : Int) true).1⟩, ⟨by rw [← H]; rfl⟩, ⟨below_set HB.out GB.out⟩⟩
  case round =>
    obtain ⟨i, tn, rfl, HK, HI, HT, HN, HA, HP, HB⟩ := hrel
    clear HO qi4 hx4 hf4
    by_cases hlt : i < l0.length
    rotate_left
    · have hb3 : decide ((i : Int) < (l0.length : Int)) = false := decide_eq_false (by omega)
      have hb4 : decide (i < l0.length) = false := decide_eq_false (by omega)
      have h1 := HP.out
      rw [List.drop_eq_nil_of_le (by omega)] at h1
      by_cases h11 : l0.length ≤ 11
      · obtain rfl : true = r := by rw [← h1]; simp [planGoS, h11]
        have hb5 : decide ((l0.length : Int) ≤ 11) = true := decide_eq_true (by omega)
        have hb6 : decide (l0.length ≤ 11) = true := decide_eq_true (by omega)
        clear h1
        go_wp2
        go_ret
        exact ⟨rfl, HB.out⟩
      · obtain rfl : false = r := by rw [← h1]; simp [planGoS, h11]
        have hb5 : decide ((l0.length : Int) ≤ 11) = false := decide_eq_false (by omega)
        have hb6 : decide (l0.length ≤ 11) = false := decide_eq_false (by omega)
        clear h1
        go_wp2
        go_ret
        exact ⟨rfl, HB.out⟩
    · have hb3 : decide ((i : Int) < (l0.length : Int)) = true := decide_eq_true (by omega)
      have hb4 : decide (i < l0.length) = true := decide_eq_true (by omega)
      obtain ⟨ad, e, hx0, hx1, hx2, hx3⟩ := at_T96 hr0 (i : Int) (by omega) (by omega)
      cases e
      replace hx0 := (HB.out.cell (World.block_lt_of_cell? w _ hx0)).trans hx0
      replace hx1 := (HB.out.cell (World.block_lt_of_cell? w _ hx1)).trans hx1
      replace hx2 := (HB.out.cell (World.block_lt_of_cell? w _ hx2)).trans hx2
      replace hx3 := (HB.out.cell (World.block_lt_of_cell? w _ hx3)).trans hx3
      obtain ⟨x, hx⟩ : ∃ x, rd_T96 l0 (i : Int) = x := ⟨_, rfl⟩
      rw [hx] at hx0 hx1 hx2 hx3
      simp only [Int.toNat_natCast] at hx0 hx1 hx2 hx3
      have hd : (planGoS (l0.drop i) tn && decide (l0.length ≤ 11)) = (stepOkS x tn && (planGoS (l0.drop (i + 1)) (tn.set x.f1.toNat true) && decide (l0.length ≤ 11))) := by
        rw [List.drop_eq_getElem_cons hlt]
        have e0 : l0[i] = x := by rw [← hx]; simp [rd_T96, List.getD_eq_getElem?_getD, hlt]
        rw [e0]; show (stepOkS x tn && planGoS _ _ && _) = _; rw [Bool.and_assoc]
      have HX := A_ hx
      clear hx
      have HD := A_ hd
      clear hd
      have win : ∀ (a b c : Int) (d : Bool) (W : World), decide (b ≤ a ∧ a ≤ c) = d → Calls Try.prog 62 #[.int .i64 a, .int .i64 b, .int .i64 c] W fun e w' => e = .returned (.bool d) ∧ Drawn0 W w' := fun a b c d W hd =>
        spec_l01In.calls a b c d W (by rw [← hd]; unfold spec_l01In.f; by_cases hh : b ≤ a <;> simp [hh])
      have tc : ∀ k, k < 12 → ∀ o : Obj, (wr.alloc o).cell? ⟨go4, k, none⟩ = some (.bool (tn.getD k false)) := fun k hk o => by
        have h9 := (Kd.R_celln false (Kd.R_alloc HA.out o) (k : Int) (by omega) (by omega)).1
        simpa [rdOf] using h9
      have tf : ∀ k, k < 12 → ∀ o : Obj, (wr.alloc o).frozen? ⟨go4, k, none⟩ = false := fun k hk o => by
        have h9 := (Kd.R_celln false (Kd.R_alloc HA.out o) (k : Int) (by omega) (by omega)).2
        simpa using h9
      by_cases q0 : x.f2 = 1 ∨ x.f2 = 2
      rotate_left
      · have W0 := A_ fun W => win x.f2 1 2 false W (decide_eq_false (by omega))
        have Q1 := A_ q0
        clear q0 win tc tf
        go_wp2_with (first | (go_at_call 62; (with_reducible refine (W0.out _).mono ?_); rintro e w' ⟨rfl, ⟨nd, rfl⟩⟩))
        all_goals
          obtain rfl : false = r := by
            rw [← HP.out, HD.out]; have := Q1.out; simp only [not_or] at this; simp [stepOkS, this.1, this.2]
          go_ret
          exact ⟨rfl, by repeat (first | exact HB.out | apply below_alloc | apply pw_below_drewN | apply below_drew1)⟩
      have W0 := A_ fun W => win x.f2 1 2 true W (decide_eq_true (by omega))
      have Q0 := A_ q0
      clear q0
      by_cases q1 : 0 ≤ x.f3 ∧ x.f3 ≤ 5000
      rotate_left
      · have W1 := A_ fun W => win x.f3 0 5000 false W (decide_eq_false q1)
        have Q1 := A_ q1
        clear q1 win tc tf
        go_wp2_with (first | (go_at_call 62; (with_reducible refine (W0.out _).mono ?_); rintro e w' ⟨rfl, ⟨nd, rfl⟩⟩) | (go_at_call 62; (with_reducible refine (W1.out _).mono ?_); rintro e w' ⟨rfl, ⟨nd, rfl⟩⟩))
        all_goals
          obtain rfl : false = r := by
            rw [← HP.out, HD.out]; simp [stepOkS, Q1.out]
          go_ret
          exact ⟨rfl, by repeat (first | exact HB.out | apply below_alloc | apply pw_below_drewN | apply below_drew1)⟩
      have W1 := A_ fun W => win x.f3 0 5000 true W (decide_eq_true q1)
      by_cases q2 : 0 ≤ x.f0 ∧ x.f0 ≤ 11
      rotate_left
      · have W2 := A_ fun W => win x.f0 0 11 false W (decide_eq_false q2)
        have Q1 := A_ q2
        clear q1 q2 win tc tf
        go_wp2_with (first | (go_at_call 62; (with_reducible refine (W0.out _).mono ?_); rintro e w' ⟨rfl, ⟨nd, rfl⟩⟩) | (go_at_call 62; (with_reducible refine (W1.out _).mono ?_); rintro e w' ⟨rfl, ⟨nd, rfl⟩⟩) | (go_at_call 62; (with_reducible refine (W2.out _).mono ?_); rintro e w' ⟨rfl, ⟨nd, rfl⟩⟩))
        all_goals
          obtain rfl : false = r := by
            rw [← HP.out, HD.out]; simp [stepOkS, Q1.out]
          go_ret
          exact ⟨rfl, by repeat (first | exact HB.out | apply below_alloc | apply pw_below_drewN | apply below_drew1)⟩
      have W2 := A_ fun W => win x.f0 0 11 true W (decide_eq_true q2)
      clear win
      obtain ⟨q2a, q2b⟩ := q2
      have Q13 := A_ q1
      clear q1
      by_cases q4 : x.f1 = (x.f0 + 1) % 12
      rotate_left
      · have q4a : (x.f1 == (x.f0 + 1) % 12) = false := beq_eq_false_iff_ne.mpr q4
        have q4b : (x.f1 != (x.f0 + 1) % 12) = true := bne_iff_ne.mpr q4
        have Q4 := A_ q4
        clear q4 tc tf
        go_wp2_with (first | (go_at_call 62; (with_reducible refine (W0.out _).mono ?_); rintro e w' ⟨rfl, ⟨nd, rfl⟩⟩) | (go_at_call 62; (with_reducible refine (W1.out _).mono ?_); rintro e w' ⟨rfl, ⟨nd, rfl⟩⟩) | (go_at_call 62; (with_reducible refine (W2.out _).mono ?_); rintro e w' ⟨rfl, ⟨nd, rfl⟩⟩))
        all_goals
          obtain rfl : false = r := by
            rw [← HP.out, HD.out]; simp [stepOkS, Q4.out]
          go_ret
          exact ⟨rfl, by repeat (first | exact HB.out | apply below_alloc | apply pw_below_drewN | apply below_drew1)⟩
      have q4a : (x.f1 == (x.f0 + 1) % 12) = true := beq_iff_eq.mpr q4
      have q4b : (x.f1 != (x.f0 + 1) % 12) = false := bne_eq_false_iff_eq.mpr q4
      have q3a : 0 ≤ x.f1 := by omega
      have q3b : x.f1 ≤ 11 := by omega
      have Q4 := A_ q4
      clear q4
      have hc0 := tc x.f0.toNat (by omega)
      have hc1 := tc x.f1.toNat (by omega)
      have hfz := tf x.f1.toNat (by omega)
      clear tc tf
      obtain ⟨b0, hb0⟩ : ∃ b, tn.getD x.f0.toNat false = b := ⟨_, rfl⟩
      obtain ⟨b1, hb1⟩ : ∃ b, tn.getD x.f1.toNat false = b := ⟨_, rfl⟩
      rw [hb0] at hc0
      rw [hb1] at hc1
      have B0 := A_ hb0
      have B1 := A_ hb1
      clear hb0 hb1
      have qa := decide_eq_true q2a
      have qb : decide (x.f0 < 12) = true := decide_eq_true (by omega)
      have qc := decide_eq_true q3a
      have qd : decide (x.f1 < 12) = true := decide_eq_true (by omega)
      go_wp2_with (first | (go_at_call 62; (with_reducible refine (W0.out _).mono ?_); rintro e w' ⟨rfl, ⟨nd, rfl⟩⟩) | (go_at_call 62; (with_reducible refine (W1.out _).mono ?_); rintro e w' ⟨rfl, ⟨nd, rfl⟩⟩) | (go_at_call 62; (with_reducible refine (W2.out _).mono ?_); rintro e w' ⟨rfl, ⟨nd, rfl⟩⟩))
      all_goals first
        | (go_ret
           have e : false = r := by
             have h3 := B0.out; have h4 := B1.out
             rw [← HP.out, HD.out]; unfold stepOkS; rw [h3, h4]; simp [*]
           subst e
           exact ⟨rfl, by repeat (first | exact HB.out | apply below_alloc | apply pw_below_drewN | apply below_drew1)⟩)
        | (go_roundg (gk - 1)
           case measure => have := HK.out; omega
           case rel =>
             have hi : i ≤ 11 := by have h1 := HN.out; have h2 := HT.out; have h3 := @List.count_le_length _ _ true tn; omega
             have hn : (tn.set x.f1.toNat true).count true = i + 1 + 1 := by rw [count_put (by have := HT.out; omega) (by rw [B1.out]; first | assumption | simp [*]), HN.out]
             refine ⟨i + 1, tn.set x.f1.toNat true, by rw [show wrap64 ((i : Int) + 1) = ((i + 1 : Nat) : Int) by unfold wrap64; omega], ⟨by have := HK.out; omega⟩, ⟨by omega⟩, ⟨by rw [List.length_set]; exact HT.out⟩, ⟨hn⟩, ⟨?_⟩, ⟨?_⟩, ⟨?_⟩⟩
             · refine (Kd.R_putg ?_ x.f1 true).1
               with_reducible repeat (first | apply Kd.R_alloc | apply Kd.R_drewN | apply Kd.R_drew)
               exact HA.out
             · rw [← HP.out, HD.out]
               have e : stepOkS x tn = true := by
                 have h0 := Q0.out; have h1 := Q4.out; have h2 := Q13.out; have h3 := B0.out; have h4 := B1.out
                 unfold stepOkS; rw [h3, h4]; simp [*]; omega
               rw [e, Bool.true_and]
             · refine below_set ?_ GB.out
               repeat (first | exact HB.out | apply below_alloc | apply pw_below_drewN | apply below_drew1))
end Go.Proofs.Ytbkkpllejgedcaa.P


namespace Go.Proofs.Ytbkkpllejgedcaa.P
open Go.RowKit Go.Proofs.YtbkkpllejgedcaaW.PrintWords Go.Proofs.YtbkkpllejgedcaaW.PrintLast Go.Proofs.YtbkkpllejgedcaaW.PrintMore
attribute [local go_sem] max2_int min2_int max_two min_two max_three min_three max_four min_four
set_option linter.unusedVariables false
set_option linter.unusedSimpArgs false
def spec_l18Pitch.f (a0 : Int) : Option (Bool) := (spec_l01In.f a0 1 10000000).bind fun t108 => (some t108)
set_option maxHeartbeats 8000000 in
set_option maxRecDepth 100000 in
theorem spec_l18Pitch.calls (a0 : Int) (r : Bool) (w : World) (h : spec_l18Pitch.f a0 = some r) :
  Calls Try.prog 103 #[.int .i64 a0] w fun e w' => e = .returned (.bool r) ∧ Drawn0 w w' := by
 have H : ((spec_l01In.f a0 1 10000000).bind fun t108 => (some t108)) = some r := h
 clear h
 replace H := Option.bind_eq_some_iff.mp H
 obtain ⟨t108, A20, H⟩ := H
 (try dsimp only at H)
 have A2 := A_ A20
 clear A20
 obtain rfl := Option.some.inj H
 go_enter Try.func103, Try.ntmps103
 go_wp2_with (first | ((with_reducible refine gate_callee (f := 62) rfl ?_); refine gL (some 4) Try.func62 #[.int .i64 a0, .int .i64 1, .int .i64 10000000] ?_; (with_reducible refine (spec_l01In.calls a0 1 10000000 t108 _ A2.out).mono ?_); rintro e w' ⟨rfl, ⟨nd, rfl⟩⟩; refine ⟨_, rfl, ?_⟩))
 go_ret
 exact ⟨by first | rfl | (simp; done) | (simp [*]; done), by repeat (first | exact Drawn0.refl _ | apply Drawn0.step)⟩
end Go.Proofs.Ytbkkpllejgedcaa.P


namespace Go.Proofs.Ytbkkpllejgedcaa.P
open Go.RowKit Go.Proofs.YtbkkpllejgedcaaW.PrintWords Go.Proofs.YtbkkpllejgedcaaW.PrintLast Go.Proofs.YtbkkpllejgedcaaW.PrintMore
attribute [local go_sem] max2_int min2_int max_two min_two max_three min_three max_four min_four
set_option linter.unusedVariables false
set_option linter.unusedSimpArgs false
mutual
def spec_TunedPitch.j0 : Nat → Int → Int → Int → Bool → Option (Int)
 | 0, _, _, _, _ => none
 | k + 1, x0, x1, x2, x15 => if x15 = true then (some 0) else (if x1 = 1 then ((spec_l18Pitch.f (wrap64 (Int.tdiv (mx 0 (wrap64 ((wrap64 (3 * x0)) - x2))) 2))).bind fun t307 => (if t307 = true then (some (wrap64 (Int.tdiv (mx 0 (wrap64 ((wrap64 (3 * x0)) - x2))) 2))) else (some 0))) else (if x1 = 2 then ((spec_l18Pitch.f (wrap64 (Int.tdiv (mx 0 (wrap64 ((wrap64 (3 * x0)) - x2))) 4))).bind fun t308 => (if t308 = true then (some (wrap64 (Int.tdiv (mx 0 (wrap64 ((wrap64 (3 * x0)) - x2))) 4))) else (some 0))) else (if x1 = 3 then (spec_TunedPitch.j1 k x0 x1 x2 0 (x2 == 0)) else (spec_TunedPitch.j1 k x0 x1 x2 0 false))))
def spec_TunedPitch.j1 : Nat → Int → Int → Int → Int → Bool → Option (Int)
 | 0, _, _, _, _, _ => none
 | k + 1, x0, x1, x2, x7, x34 => if x34 = true then ((spec_l18Pitch.f (wrap64 (2 * x0))).bind fun t309 => (if t309 = true then (some (wrap64 (2 * x0))) else (some 0))) else (if x1 = 4 then (spec_TunedPitch.j2 k x0 x7 (x2 == 0)) else (spec_TunedPitch.j2 k x0 x7 false))
def spec_TunedPitch.j2 : Nat → Int → Int → Bool → Option (Int)
 | 0, _, _, _ => none
 | k + 1, x0, x7, x43 => if x43 = true then ((spec_l18Pitch.f (wrap64 (Int.tdiv x0 2))).bind fun t310 => (if t310 = true then (some (wrap64 (Int.tdiv x0 2))) else (some 0))) else ((spec_l18Pitch.f x7).bind fun t311 => (if t311 = true then (some x7) else (some 0)))
end
def spec_TunedPitch.f (k : Nat) (a0 : Int) (a1 : Int) (a2 : Int) : Option (Int) := (spec_l18Pitch.f a0).bind fun t305 => (if t305 = true then ((spec_l01In.f a2 0 100000).bind fun t306 => (spec_TunedPitch.j0 k a0 a1 a2 (!t306))) else (spec_TunedPitch.j0 k a0 a1 a2 true))
set_option maxHeartbeats 8000000 in
set_option maxRecDepth 100000 in
theorem spec_TunedPitch.calls (k : Nat) (a0 : Int) (a1 : Int) (a2 : Int) (r : Int) (w : World) (h : spec_TunedPitch.f k a0 a1 a2 = some r) :
  Calls Try.prog 116 #[.int .i64 a0, .int .i64 a1, .int .i64 a2] w fun e w' => e = .returned (.int .i64 r) ∧ Below w.heap.size w w' := by
 have HB := A_ (Below.refl w.heap.size w)
 have H : ((spec_l18Pitch.f a0).bind fun t305 => (if t305 = true then ((spec_l01In.f a2 0 100000).bind fun t306 => (spec_TunedPitch.j0 k a0 a1 a2 (!t306))) else (spec_TunedPitch.j0 k a0 a1 a2 true))) = some r := h
 clear h
 have HC4 := A_ H
 clear H
 go_enter Try.func116, Try.ntmps116
 go_upto_region 1 with (fail)
 go_cut [15] (fun v15 wc => ∃ (kq : Nat) (x15_3 : Bool), v15 = .bool x15_3 ∧ Aside0 (spec_TunedPitch.j0 kq a0 a1 a2 x15_3 = some r) ∧ Aside0 (kq ≤ k) ∧ Aside0 (Below w.heap.size w wc))
 case first =>
  have H := HC4.out
  clear HC4
  replace H := Option.bind_eq_some_iff.mp H
  obtain ⟨t305, A50, H⟩ := H
  (try dsimp only at H)
  have A5 := A_ A50
  clear A50
  by_cases c6 : t305 = true
  ·subst c6
   rw [if_pos rfl] at H
   replace H := Option.bind_eq_some_iff.mp H
   obtain ⟨t306, A70, H⟩ := H
   (try dsimp only at H)
   have A7 := A_ A70
   clear A70
   have H' := A_ H
   clear H
   go_wp2_with (first | ((with_reducible refine gate_callee (f := 103) rfl ?_); refine gL (some 9) Try.func103 #[.int .i64 a0] ?_; (with_reducible refine (spec_l18Pitch.calls a0 true _ A5.out).mono ?_); rintro e w' ⟨rfl, ⟨nd, rfl⟩⟩; refine ⟨_, rfl, ?_⟩) | (go_at_call 62; (with_reducible refine (spec_l01In.calls a2 0 100000 t306 _ A7.out).mono ?_); rintro e w' ⟨rfl, ⟨nd, rfl⟩⟩))
   go_meet
   case rel => exact ⟨_, (!t306), (by first | rfl | (simp; done) | (simp [*]; done)), H', ⟨by first | omega | exact Nat.le_refl _⟩, ⟨oB HB⟩⟩
  ·replace c6 := Bool.eq_false_iff.mpr c6
   subst c6
   rw [if_neg (show ¬ (false = true) by decide)] at H
   have H' := A_ H
   clear H
   go_wp2_with (first | ((with_reducible refine gate_callee (f := 103) rfl ?_); refine gL (some 9) Try.func103 #[.int .i64 a0] ?_; (with_reducible refine (spec_l18Pitch.calls a0 false _ A5.out).mono ?_); rintro e w' ⟨rfl, ⟨nd, rfl⟩⟩; refine ⟨_, rfl, ?_⟩))
   go_meet
   case rel => exact ⟨_, (true), (by first | rfl | (simp; done) | (simp [*]; done)), H', ⟨by first | omega | exact Nat.le_refl _⟩, ⟨oB HB⟩⟩
 case rest =>
  clear HC4
  try clear c1
  try clear p2
  try clear c6
  obtain ⟨kq, x15_3, rfl, HA, HJ3, HB⟩ := hcut
  cases kq with
  | zero => exact absurd HA.out (by simp [spec_TunedPitch.j0])
  | succ kj3 =>
   have H := HA.out
   clear HA
   simp only [spec_TunedPitch.j0] at H
   by_cases c8 : x15_3 = true
   ·subst c8
    rw [if_pos rfl] at H
    obtain rfl := Option.some.inj H
    go_wp2
    go_ret
    exact ⟨eR, oB HB⟩
   ·replace c8 := Bool.eq_false_iff.mpr c8
    subst c8
    rw [if_neg (show ¬ (false = true) by decide)] at H
    by_cases c9 : a1 = 1
    ·rw [if_pos c9] at H
     have c9b0 : (a1 == 1) = true := beq_iff_eq.mpr c9
     have c9b1 : (a1 != 1) = false := bne_eq_false_iff_eq.mpr c9
     clear c9
     obtain ⟨ji10, hji10⟩ : ∃ j_ : Int, (mx 0 (wrap64 ((wrap64 (3 * a0)) - a2))) = j_ := ⟨_, rfl⟩
     replace H : ((spec_l18Pitch.f (wrap64 (Int.tdiv (ji10) 2))).bind fun t307 => (if t307 = true then (some (wrap64 (Int.tdiv (ji10) 2))) else (some 0))) = some r := by first | (rw [hji10] at H; exact H) | (simp only [hji10] at H ⊢; exact H)
     have hji10_ : (if 0 < (wrap64 ((wrap64 (3 * a0)) - a2)) then (wrap64 ((wrap64 (3 * a0)) - a2)) else 0) = ji10 := hji10
     replace H := Option.bind_eq_some_iff.mp H
     obtain ⟨t307, A110, H⟩ := H
     (try dsimp only at H)
     have A11 := A_ A110
     clear A110
     by_cases c12 : t307 = true
     ·subst c12
      rw [if_pos rfl] at H
      obtain rfl := Option.some.inj H
      go_wp2_with (first | ((with_reducible refine gate_callee (f := 103) rfl ?_); refine goesL_ (some 53) rfl rfl Try.func103 (by kernel_rfl) rfl #[.int .i64 (wrap64 (Int.tdiv (ji10) 2))] rfl (by (try simp only [List.map_toArray, List.map_cons, List.map_nil]); first | done | (simp only [hji10]; rfl) | rfl | (simp only [List.length_drop, List.length_take]; rfl)) ?_; (with_reducible refine (spec_l18Pitch.calls (wrap64 (Int.tdiv (ji10) 2)) true _ A11.out).mono ?_); rintro e w' ⟨rfl, ⟨nd, rfl⟩⟩; refine ⟨_, rfl, ?_⟩))
      go_ret
      exact ⟨by first | rfl | (simp [errW_none, errW_some] <;> rfl) | (simp only [← hji10]; first | rfl | (simp [errW_none, errW_some] <;> rfl)) | (simp [*, errW_none, errW_some] <;> rfl), oB HB⟩
     ·replace c12 := Bool.eq_false_iff.mpr c12
      subst c12
      rw [if_neg (show ¬ (false = true) by decide)] at H
      obtain rfl := Option.some.inj H
      go_wp2_with (first | ((with_reducible refine gate_callee (f := 103) rfl ?_); refine goesL_ (some 53) rfl rfl Try.func103 (by kernel_rfl) rfl #[.int .i64 (wrap64 (Int.tdiv (ji10) 2))] rfl (by (try simp only [List.map_toArray, List.map_cons, List.map_nil]); first | done | (simp only [hji10]; rfl) | rfl | (simp only [List.length_drop, List.length_take]; rfl)) ?_; (with_reducible refine (spec_l18Pitch.calls (wrap64 (Int.tdiv (ji10) 2)) false _ A11.out).mono ?_); rintro e w' ⟨rfl, ⟨nd, rfl⟩⟩; refine ⟨_, rfl, ?_⟩))
      go_ret
      exact ⟨by first | rfl | (simp [errW_none, errW_some] <;> rfl) | (simp only [← hji10]; first | rfl | (simp [errW_none, errW_some] <;> rfl)) | (simp [*, errW_none, errW_some] <;> rfl), oB HB⟩
    ·rw [if_neg c9] at H
     have c9b0 : (a1 == 1) = false := beq_eq_false_iff_ne.mpr c9
     have c9b1 : (a1 != 1) = true := bne_iff_ne.mpr c9
     by_cases c13 : a1 = 2
     ·rw [if_pos c13] at H
      have c13b0 : (a1 == 2) = true := beq_iff_eq.mpr c13
      have c13b1 : (a1 != 2) = false := bne_eq_false_iff_eq.mpr c13
      clear c13
      obtain ⟨ji14, hji14⟩ : ∃ j_ : Int, (mx 0 (wrap64 ((wrap64 (3 * a0)) - a2))) = j_ := ⟨_, rfl⟩
      replace H : ((spec_l18Pitch.f (wrap64 (Int.tdiv (ji14) 4))).bind fun t308 => (if t308 = true then (some (wrap64 (Int.tdiv (ji14) 4))) else (some 0))) = some r := by first | (rw [hji14] at H; exact H) | (simp only [hji14] at H ⊢; exact H)
      have hji14_ : (if 0 < (wrap64 ((wrap64 (3 * a0)) - a2)) then (wrap64 ((wrap64 (3 * a0)) - a2)) else 0) = ji14 := hji14
      replace H := Option.bind_eq_some_iff.mp H
      obtain ⟨t308, A150, H⟩ := H
      (try dsimp only at H)
      have A15 := A_ A150
      clear A150
      by_cases c16 : t308 = true
      ·subst c16
       rw [if_pos rfl] at H
       obtain rfl := Option.some.inj H
       go_wp2_with (first | ((with_reducible refine gate_callee (f := 103) rfl ?_); refine goesL_ (some 53) rfl rfl Try.func103 (by kernel_rfl) rfl #[.int .i64 (wrap64 (Int.tdiv (ji14) 4))] rfl (by (try simp only [List.map_toArray, List.map_cons, List.map_nil]); first | done | (simp only [hji14]; rfl) | rfl | (simp only [List.length_drop, List.length_take]; rfl)) ?_; (with_reducible refine (spec_l18Pitch.calls (wrap64 (Int.tdiv (ji14) 4)) true _ A15.out).mono ?_); rintro e w' ⟨rfl, ⟨nd, rfl⟩⟩; refine ⟨_, rfl, ?_⟩))
       go_ret
       exact ⟨by first | rfl | (simp [errW_none, errW_some] <;> rfl) | (simp only [← hji14]; first | rfl | (simp [errW_none, errW_some] <;> rfl)) | (simp [*, errW_none, errW_some] <;> rfl), oB HB⟩
      ·replace c16 := Bool.eq_false_iff.mpr c16
       subst c16
       rw [if_neg (show ¬ (false = true) by decide)] at H
       obtain rfl := Option.some.inj H
       go_wp2_with (first | ((with_reducible refine gate_callee (f := 103) rfl ?_); refine goesL_ (some 53) rfl rfl Try.func103 (by kernel_rfl) rfl #[.int .i64 (wrap64 (Int.tdiv (ji14) 4))] rfl (by (try simp only [List.map_toArray, List.map_cons, List.map_nil]); first | done | (simp only [hji14]; rfl) | rfl | (simp only [List.length_drop, List.length_take]; rfl)) ?_; (with_reducible refine (spec_l18Pitch.calls (wrap64 (Int.tdiv (ji14) 4)) false _ A15.out).mono ?_); rintro e w' ⟨rfl, ⟨nd, rfl⟩⟩; refine ⟨_, rfl, ?_⟩))
       go_ret
       exact ⟨by first | rfl | (simp [errW_none, errW_some] <;> rfl) | (simp only [← hji14]; first | rfl | (simp [errW_none, errW_some] <;> rfl)) | (simp [*, errW_none, errW_some] <;> rfl), oB HB⟩
     ·rw [if_neg c13] at H
      have c13b0 : (a1 == 2) = false := beq_eq_false_iff_ne.mpr c13
      have c13b1 : (a1 != 2) = true := bne_iff_ne.mpr c13
      have HC17 := A_ H
      clear H
      go_upto_region 8 with (fail)
      go_cut [34] (fun v34 wc => ∃ (kq : Nat) (x34_16 : Bool), v34 = .bool x34_16 ∧ Aside0 (spec_TunedPitch.j1 kq a0 a1 a2 0 x34_16 = some r) ∧ Aside0 (kq ≤ kj3) ∧ Aside0 (Below w.heap.size w wc))
      case first =>
       have H := HC17.out
       clear HC17
       by_cases c18 : a1 = 3
       ·rw [if_pos c18] at H
        have c18b0 : (a1 == 3) = true := beq_iff_eq.mpr c18
        have c18b1 : (a1 != 3) = false := bne_eq_false_iff_eq.mpr c18
        clear c18
        (first | rw [c18b0] | (simp only [i64_w, i32_w]; rw [c18b0]) | skip)
        have H' := A_ H
        clear H
        go_wp2
        go_meet
        case rel => exact ⟨_, ((a2 == 0)), (by first | rfl | (simp; done) | (simp [*]; done)), H', ⟨by have := HJ3.out; first | omega | exact Nat.le_refl _⟩, ⟨oB HB⟩⟩
       ·rw [if_neg c18] at H
        have c18b0 : (a1 == 3) = false := beq_eq_false_iff_ne.mpr c18
        have c18b1 : (a1 != 3) = true := bne_iff_ne.mpr c18
        (first | rw [c18b0] | (simp only [i64_w, i32_w]; rw [c18b0]) | skip)
        have H' := A_ H
        clear H
        go_wp2
        go_meet
        case rel => exact ⟨_, (false), (by first | rfl | (simp; done) | (simp [*]; done)), H', ⟨by have := HJ3.out; first | omega | exact Nat.le_refl _⟩, ⟨oB HB⟩⟩
      case rest =>
       clear HC17
       try clear c1
       try clear p2
       try clear c6
       try clear p6
       try clear c8
       try clear c9
       try clear c9b0
       try clear c9b1
       try clear c10
       try clear c11
       try clear c12
       try clear c13
       try clear c13b0
       try clear c13b1
       try clear c16
       try clear c18
       try clear c18b0
       try clear c18b1
       try clear p2
       obtain ⟨kq, x34_16, rfl, HA, HJ16, HB⟩ := hcut
       cases kq with
       | zero => exact absurd HA.out (by simp [spec_TunedPitch.j1])
       | succ kj16 =>
        have H := HA.out
        clear HA
        simp only [spec_TunedPitch.j1] at H
        by_cases c19 : x34_16 = true
        ·subst c19
         rw [if_pos rfl] at H
         replace H := Option.bind_eq_some_iff.mp H
         obtain ⟨t309, A200, H⟩ := H
         (try dsimp only at H)
         have A20 := A_ A200
         clear A200
         by_cases c21 : t309 = true
         ·subst c21
          rw [if_pos rfl] at H
          obtain rfl := Option.some.inj H
          go_wp2_with (first | ((with_reducible refine gate_callee (f := 103) rfl ?_); refine gL (some 53) Try.func103 #[.int .i64 (wrap64 (2 * a0))] ?_; (with_reducible refine (spec_l18Pitch.calls (wrap64 (2 * a0)) true _ A20.out).mono ?_); rintro e w' ⟨rfl, ⟨nd, rfl⟩⟩; refine ⟨_, rfl, ?_⟩))
          go_ret
          exact ⟨eR, oB HB⟩
         ·replace c21 := Bool.eq_false_iff.mpr c21
          subst c21
          rw [if_neg (show ¬ (false = true) by decide)] at H
          obtain rfl := Option.some.inj H
          go_wp2_with (first | ((with_reducible refine gate_callee (f := 103) rfl ?_); refine gL (some 53) Try.func103 #[.int .i64 (wrap64 (2 * a0))] ?_; (with_reducible refine (spec_l18Pitch.calls (wrap64 (2 * a0)) false _ A20.out).mono ?_); rintro e w' ⟨rfl, ⟨nd, rfl⟩⟩; refine ⟨_, rfl, ?_⟩))
          go_ret
          exact ⟨eR, oB HB⟩
        ·replace c19 := Bool.eq_false_iff.mpr c19
         subst c19
         rw [if_neg (show ¬ (false = true) by decide)] at H
         have HC22 := A_ H
         clear H
         go_upto_region 10 with (fail)
         go_cut [43] (fun v43 wc => ∃ (kq : Nat) (x43_21 : Bool), v43 = .bool x43_21 ∧ Aside0 (spec_TunedPitch.j2 kq a0 0 x43_21 = some r) ∧ Aside0 (kq ≤ kj16) ∧ Aside0 (Below w.heap.size w wc))
         case first =>
          have H := HC22.out
          clear HC22
          by_cases c23 : a1 = 4
          ·rw [if_pos c23] at H
           have c23b0 : (a1 == 4) = true := beq_iff_eq.mpr c23
           have c23b1 : (a1 != 4) = false := bne_eq_false_iff_eq.mpr c23
           clear c23
           (first | rw [c23b0] | (simp only [i64_w, i32_w]; rw [c23b0]) | skip)
           have H' := A_ H
           clear H
           go_wp2
           go_meet
           case rel => exact ⟨_, ((a2 == 0)), (by first | rfl | (simp; done) | (simp [*]; done)), H', ⟨by have := HJ3.out; have := HJ16.out; first | omega | exact Nat.le_refl _⟩, ⟨oB HB⟩⟩
          ·rw [if_neg c23] at H
           have c23b0 : (a1 == 4) = false := beq_eq_false_iff_ne.mpr c23
           have c23b1 : (a1 != 4) = true := bne_iff_ne.mpr c23
           (first | rw [c23b0] | (simp only [i64_w, i32_w]; rw [c23b0]) | skip)
           have H' := A_ H
           clear H
           go_wp2
           go_meet
           case rel => exact ⟨_, (false), (by first | rfl | (simp; done) | (simp [*]; done)), H', ⟨by have := HJ3.out; have := HJ16.out; first | omega | exact Nat.le_refl _⟩, ⟨oB HB⟩⟩
         case rest =>
          clear HC22
          try clear c1
          try clear c2
          try clear p2
          try clear c6
          try clear p6
          try clear c8
          try clear c9
          try clear c9b0
          try clear c9b1
          try clear c10
          try clear c11
          try clear c12
          try clear c13
          try clear c13b0
          try clear c13b1
          try clear c16
          try clear c18
          try clear c18b0
          try clear c18b1
          try clear c19
          try clear c21
          try clear c23
          try clear c23b0
          try clear c23b1
          try clear p2
          try clear p6
          obtain ⟨kq, x43_21, rfl, HA, HJ21, HB⟩ := hcut
          cases kq with
          | zero => exact absurd HA.out (by simp [spec_TunedPitch.j2])
          | succ kj21 =>
           have H := HA.out
           clear HA
           simp only [spec_TunedPitch.j2] at H
           by_cases c24 : x43_21 = true
           ·subst c24
            rw [if_pos rfl] at H
            replace H := Option.bind_eq_some_iff.mp H
            obtain ⟨t310, A250, H⟩ := H
            (try dsimp only at H)
            have A25 := A_ A250
            clear A250
            by_cases c26 : t310 = true
            ·subst c26
             rw [if_pos rfl] at H
             obtain rfl := Option.some.inj H
             go_wp2_with (first | ((with_reducible refine gate_callee (f := 103) rfl ?_); refine gL (some 53) Try.func103 #[.int .i64 (wrap64 (Int.tdiv a0 2))] ?_; (with_reducible refine (spec_l18Pitch.calls (wrap64 (Int.tdiv a0 2)) true _ A25.out).mono ?_); rintro e w' ⟨rfl, ⟨nd, rfl⟩⟩; refine ⟨_, rfl, ?_⟩))
             go_ret
             exact ⟨eR, oB HB⟩
            ·replace c26 := Bool.eq_false_iff.mpr c26
             subst c26
             rw [if_neg (show ¬ (false = true) by decide)] at H
             obtain rfl := Option.some.inj H
             go_wp2_with (first | ((with_reducible refine gate_callee (f := 103) rfl ?_); refine gL (some 53) Try.func103 #[.int .i64 (wrap64 (Int.tdiv a0 2))] ?_; (with_reducible refine (spec_l18Pitch.calls (wrap64 (Int.tdiv a0 2)) false _ A25.out).mono ?_); rintro e w' ⟨rfl, ⟨nd, rfl⟩⟩; refine ⟨_, rfl, ?_⟩))
             go_ret
             exact ⟨eR, oB HB⟩
           ·replace c24 := Bool.eq_false_iff.mpr c24
            subst c24
            rw [if_neg (show ¬ (false = true) by decide)] at H
            replace H := Option.bind_eq_some_iff.mp H
            obtain ⟨t311, A270, H⟩ := H
            (try dsimp only at H)
            have A27 := A_ A270
            clear A270
            by_cases c28 : t311 = true
            ·subst c28
             rw [if_pos rfl] at H
             obtain rfl := Option.some.inj H
             go_wp2_with (first | ((with_reducible refine gate_callee (f := 103) rfl ?_); refine gL (some 53) Try.func103 #[.int .i64 0] ?_; (with_reducible refine (spec_l18Pitch.calls 0 true _ A27.out).mono ?_); rintro e w' ⟨rfl, ⟨nd, rfl⟩⟩; refine ⟨_, rfl, ?_⟩))
             go_ret
             exact ⟨eR, oB HB⟩
            ·replace c28 := Bool.eq_false_iff.mpr c28
             subst c28
             rw [if_neg (show ¬ (false = true) by decide)] at H
             obtain rfl := Option.some.inj H
             go_wp2_with (first | ((with_reducible refine gate_callee (f := 103) rfl ?_); refine gL (some 53) Try.func103 #[.int .i64 0] ?_; (with_reducible refine (spec_l18Pitch.calls 0 false _ A27.out).mono ?_); rintro e w' ⟨rfl, ⟨nd, rfl⟩⟩; refine ⟨_, rfl, ?_⟩))
             go_ret
             exact ⟨eR, oB HB⟩
end Go.Proofs.Ytbkkpllejgedcaa.P


namespace Go.Proofs.Ytbkkpllejgedcaa.P
open Go.RowKit Go.Proofs.YtbkkpllejgedcaaW.PrintWords Go.Proofs.YtbkkpllejgedcaaW.PrintLast Go.Proofs.YtbkkpllejgedcaaW.PrintMore
attribute [local go_sem] max2_int min2_int max_two min_two max_three min_three max_four min_four
set_option linter.unusedVariables false
set_option linter.unusedSimpArgs false
mutual
def spec_RunPlan.j0 : Nat → Int → List (S96) → Bool → Option (List Int × Bool)
 | 0, _, _, _ => none
 | k + 1, x0, x1, x16 => if x16 = true then (some ((([] : List Int)), false)) else (if 12 ≤ 35184372088832 then ((some (List.replicate 12 0 : List Int)).bind fun y317 => (if 0 < (y317.length : Int) then (spec_RunPlan.l0 k x1 (y317.set (0 : Int).toNat x0) 0) else (none))) else (none))
def spec_RunPlan.l0 : Nat → List (S96) → List Int → Int → Option (List Int × Bool)
 | 0, _, _, _ => none
 | k + 1, x1, x6, x7 => if x7 < (x1.length : Int) then (if 0 ≤ x7 then (if 0 ≤ ((rd_T96 x1 x7).f0) then (if ((rd_T96 x1 x7).f0) < (x6.length : Int) then ((spec_TunedPitch.f k (rd x6 ((rd_T96 x1 x7).f0)) ((rd_T96 x1 x7).f2) ((rd_T96 x1 x7).f3)).bind fun t325 => (if t325 = 0 then (some ((([] : List Int)), false)) else (if 0 ≤ ((rd_T96 x1 x7).f1) then (if ((rd_T96 x1 x7).f1) < (x6.length : Int) then (spec_RunPlan.l0 k x1 (x6.set (((rd_T96 x1 x7).f1) : Int).toNat t325) (wrap64 (x7 + 1))) else (none)) else (none)))) else (none)) else (none)) else (none)) else (some (x6, true))
end
def spec_RunPlan.f (k : Nat) (a0 : Int) (l1 : List (S96)) : Option (List Int × Bool) := (spec_PlanOk.f l1).bind fun t312 => (if t312 = true then ((spec_l18Pitch.f a0).bind fun t313 => (spec_RunPlan.j0 k a0 l1 (!t313))) else (spec_RunPlan.j0 k a0 l1 true))
def spec_RunPlan.T8 : Bool × List (List Nat × List Nat) := (true, [([], []), ([], []), ([], []), ([1, 2], [1, 2]), ([3], [3]), ([4], [4]), ([0, 5], [0, 5]), ([6], [6]), ([], []), ([], []), ([8, 9], [8, 9]), ([10], [10]), ([11], [11]), ([], []), ([], []), ([13, 14], [13, 14]), ([15], [15]), ([16], [16]), ([7, 12, 17], [7, 12, 17]), ([18, 18, 0, 1, 2, 3, 4, 5, 6, 7, 8, 9, 10, 11, 12, 13, 14, 15, 16, 17, 18], [18])])
def spec_RunPlan.B8 : List Nat := [0, 0, 0, 6, 14, 30, 63, 127, 0, 0, 768, 1792, 3840, 0, 0, 24576, 57344, 122880, 262143, 524287]
theorem spec_RunPlan.tab8 : rtab .any (opsOf Try.f109 8) = spec_RunPlan.T8 := by kernel_rfl
theorem spec_RunPlan.bits8 : waitsOk spec_RunPlan.T8.2 spec_RunPlan.B8 = true := by kernel_rfl
set_option maxHeartbeats 8000000 in
set_option maxRecDepth 100000 in
theorem spec_RunPlan.calls (k : Nat) (a0 : Int) (A1 : Option Addr) (c1 : Nat) (l1 : List (S96)) (r1 : List Int) (r2 : Bool) (w : World) (hr1 : Kd.C k96 w A1 l1.length l1) (hc1 : l1.length ≤ c1) (h : spec_RunPlan.f k a0 l1 = some (r1, r2)) :
  Calls Try.prog 109 #[.int .i64 a0, .slice A1 l1.length c1] w fun e w' => ∃ v0_ : Value, e = .returned (.tuple #[v0_, .bool r2]) ∧ Kd.R (Kd.int .i64) 3 w' w.heap.size (fun _ => True) v0_ r1 ∧ Below w.heap.size w w' := by
 have HR1 := A_ hr1
 have HC1 := A_ hc1
 clear hr1 hc1
 have HB := A_ (Below.refl w.heap.size w)
 have H : ((spec_PlanOk.f l1).bind fun t312 => (if t312 = true then ((spec_l18Pitch.f a0).bind fun t313 => (spec_RunPlan.j0 k a0 l1 (!t313))) else (spec_RunPlan.j0 k a0 l1 true))) = some (r1, r2) := h
 clear h
 have HC3 := A_ H
 clear H
 go_enter Try.func109, Try.ntmps109
 go_upto_region 1 with (fail)
 go_cut [16] (fun v16 wc => ∃ (kq : Nat) (x16_2 : Bool), v16 = .bool x16_2 ∧ Aside0 (spec_RunPlan.j0 kq a0 l1 x16_2 = some (r1, r2)) ∧ Aside0 (kq ≤ k) ∧ Aside0 (Below w.heap.size w wc))
 case first =>
  have H := HC3.out
  clear HC3
  replace H := Option.bind_eq_some_iff.mp H
  obtain ⟨t312, A40, H⟩ := H
  (try dsimp only at H)
  have A4 := A_ A40
  clear A40
  by_cases c5 : t312 = true
  ·subst c5
   rw [if_pos rfl] at H
   replace H := Option.bind_eq_some_iff.mp H
   obtain ⟨t313, A60, H⟩ := H
   (try dsimp only at H)
   have A6 := A_ A60
   clear A60
   have H' := A_ H
   clear H
   go_wp2_with (first | ((with_reducible refine gate_callee (f := 101) rfl ?_); refine gL (some 10) Try.func101 #[.slice A1 l1.length c1] ?_; (with_reducible refine (spec_PlanOk.calls _ _ l1 true _ ?side1 ?side2 A4.out).mono ?_); (case side1 => exact oc_ HR1.out); (case side2 => exact HC1.out); rintro e w7 ⟨rfl, hb⟩; refine ⟨_, rfl, ?_⟩; have n0_ := A_ (below_step (oB HB) hb); clear HB; have HB := n0_; clear n0_; (try clear hb); (try clear hb2); (try clear hk); (try clear hi)) | (go_at_call 103; (with_reducible refine (spec_l18Pitch.calls a0 t313 _ A6.out).mono ?_); rintro e w' ⟨rfl, ⟨nd, rfl⟩⟩))
   go_meet
   case rel => exact ⟨_, (!t313), (by first | rfl | (simp; done) | (simp [*]; done)), H', ⟨by first | omega | exact Nat.le_refl _⟩, ⟨oB HB⟩⟩
  ·replace c5 := Bool.eq_false_iff.mpr c5
   subst c5
   rw [if_neg (show ¬ (false = true) by decide)] at H
   have H' := A_ H
   clear H
   go_wp2_with (first | ((with_reducible refine gate_callee (f := 101) rfl ?_); refine gL (some 10) Try.func101 #[.slice A1 l1.length c1] ?_; (with_reducible refine (spec_PlanOk.calls _ _ l1 false _ ?side1 ?side2 A4.out).mono ?_); (case side1 => exact oc_ HR1.out); (case side2 => exact HC1.out); rintro e w8 ⟨rfl, hb⟩; refine ⟨_, rfl, ?_⟩; have n0_ := A_ (below_step (oB HB) hb); clear HB; have HB := n0_; clear n0_; (try clear hb); (try clear hb2); (try clear hk); (try clear hi)))
   go_meet
   case rel => exact ⟨_, (true), (by first | rfl | (simp; done) | (simp [*]; done)), H', ⟨by first | omega | exact Nat.le_refl _⟩, ⟨oB HB⟩⟩
 case rest =>
  clear HC3
  try clear c1
  try clear p2
  try clear c5
  obtain ⟨kq, x16_2, rfl, HA, HJ2, HB⟩ := hcut
  cases kq with
  | zero => exact absurd HA.out (by simp [spec_RunPlan.j0])
  | succ kj2 =>
   have H := HA.out
   clear HA
   simp only [spec_RunPlan.j0] at H
   by_cases c9 : x16_2 = true
   ·subst c9
    rw [if_pos rfl] at H
    obtain ⟨y314, hy314⟩ : ∃ y_ : List Int, y_ = (([] : List Int)) := ⟨_, rfl⟩
    replace H : (some (y314, false)) = some (r1, r2) := by first | (rw [hy314]; with_reducible exact H) | (have H2_ := (Option.bind_some _ _).symm.trans H; rw [hy314]; with_reducible exact H2_) | (have H2_ := (Option.bind_some _ _).symm.trans H; with_reducible exact H2_) | with_reducible exact H | (rw [hy314]; exact H) | exact H
    have Ny314 := A_ hy314
    clear hy314
    simp only [Option.some.injEq, Prod.mk.injEq] at H
    obtain ⟨rfl, rfl⟩ := H
    go_wp2_with (first | ((with_reducible refine gate_dst (N := 17) rfl ?_); refine Kd.R_lit (Kd.int .i64) _ 3 ?hg (N := 17) ?hd (xs := ([] : List Int)) (inner := []) (ok := fun _ => True) (okp := fun _ => True) ?hr ?hp (fun _ hk => hk) trivial (Below.refl _ _) (Nat.le_refl _) (by simp) ?_; (case hd => rfl); (case hg => rfl); (case hr => first | (go_simp; done) | (go_simp; rfl)); (case hp => exact (Reps.none _ _)); intro v315 w10 ho11 hb hg_ hnew_; clear hg_ hnew_; (first | rw [← Ny314.out] at ho11 | (simp only [Int.reduceToNat] at ho11; rw [← Ny314.out] at ho11)); have n0_ := A_ (Kd.R_lower ho11 (below_size (oB HB))); have n1_ := A_ (below_step (oB HB) hb); clear HB; have HO316 := n0_; have HB := n1_; clear n0_ n1_; clear hb ho11))
    go_ret2
    exact ⟨_, eR, oR HO316, oB HB⟩
   ·replace c9 := Bool.eq_false_iff.mpr c9
    subst c9
    rw [if_neg (show ¬ (false = true) by decide)] at H
    by_cases c12 : 12 ≤ 35184372088832
    ·rw [if_pos c12] at H
     have c12b0 := eq_true c12
     have c12b1 : decide (12 ≤ 35184372088832) = true := decide_eq_true c12
     clear c12
     obtain ⟨y317, hy317⟩ : ∃ y_ : List Int, y_ = (List.replicate 12 0) := ⟨_, rfl⟩
     replace H : (if 0 < (y317.length : Int) then (spec_RunPlan.l0 kj2 l1 (y317.set (0 : Int).toNat a0) 0) else (none)) = some (r1, r2) := by first | (rw [hy317]; with_reducible exact H) | (have H2_ := (Option.bind_some _ _).symm.trans H; rw [hy317]; with_reducible exact H2_) | (have H2_ := (Option.bind_some _ _).symm.trans H; with_reducible exact H2_) | with_reducible exact H | (rw [hy317]; exact H) | exact H
     have Ny317 := A_ hy317
     clear hy317
     by_cases c13 : 0 < (y317.length : Int)
     ·rw [if_pos c13] at H
      have c13b0 : decide (0 < (y317.length : Int)) = true := decide_eq_true c13
      have c13b1 : decide (0 < y317.length) = true := decide_eq_true (by omega)
      clear c13
      obtain ⟨y320, hy320⟩ : ∃ y_ : List Int, y_ = (y317.set (0 : Int).toNat a0) := ⟨_, rfl⟩
      replace H : (spec_RunPlan.l0 kj2 l1 y320 0) = some (r1, r2) := by first | (rw [hy320]; with_reducible exact H) | (have H2_ := (Option.bind_some _ _).symm.trans H; rw [hy320]; with_reducible exact H2_) | (have H2_ := (Option.bind_some _ _).symm.trans H; with_reducible exact H2_) | with_reducible exact H | (rw [hy320]; exact H) | exact H
      have Ny320 := A_ hy320
      clear hy320
      have H' := A_ H
      clear H
      go_wp2_with (first | ((with_reducible refine gate_dst (N := 18) rfl ?_); refine Kd.R_make (Kd.int .i64) _ 3 rfl (N := 18) rfl 23 _ _ rfl 12 rfl rfl Try.underlying23 (.int .i64 0) 8 info3 rfl (by decide) (by omega) 0 (ok := fun _ => True) (okp := fun _ => True) rfl (fun _ hk => hk) trivial (by omega) (by omega) (Below.refl _ _) (Nat.le_refl _) ?_; intro v318 w15 ho16 hb hg_ hnew_; clear hg_ hnew_; (first | rw [← Ny317.out] at ho16 | (simp only [Int.reduceToNat] at ho16; rw [← Ny317.out] at ho16)); have n0_ := A_ (Kd.R_lower ho16 (below_size (oB HB))); have n1_ := A_ (below_step (oB HB) hb); clear HB; have HO319 := n0_; have HB := n1_; clear n0_ n1_; clear hb ho16; have p14 : 0 ≤ (0 : Int) := (by omega); have q14 : (0 : Int) < ((y317.length : Int) : Int) := of_decide_eq_true (by first | (with_reducible assumption) | assumption); have qi14 : (0 < y317.length) = True := eq_true (by omega); obtain ⟨go14, co14, eo14, gb14, gl14, cl14, HG14⟩ := Kd.R_form HO319.out (by omega); (first | cases eo14 | (injection eo14 with ea_ en_ ec_; (first | subst ea_ | (injection ea_ with ea_; subst ea_)); subst ec_; clear en_)); have GB14 := A_ gb14; have GG14 := A_ HG14; clear gb14 gl14 HG14; obtain ⟨hx14_0, hf14_0⟩ := Kd.R_celln 0 HO319.out (0 : Int) p14 q14; (try rw [show ((0 : Int)).toNat = 0 from rfl] at hx14_0); (try simp only [Nat.reduceMul, Nat.zero_mul, Nat.zero_add, Nat.reduceAdd] at hx14_0); (try rw [show ((0 : Int)).toNat = 0 from rfl] at hf14_0); (try simp only [Nat.reduceMul, Nat.zero_mul, Nat.zero_add, Nat.reduceAdd] at hf14_0); replace p14 := eq_true p14; replace q14 := eq_true q14; obtain ⟨hy17_, hz17_⟩ := Kd.R_celln 0 HO319.out (0 : Int) (by omega) (of_decide_eq_true (by first | (with_reducible assumption) | assumption)); (try simp only [Int.reduceToNat, Int.toNat_zero, Int.toNat_ofNat, Nat.reduceMul, Nat.zero_mul, Nat.zero_add] at hy17_ hz17_); (try rw [show ((0 : Int)).toNat = 0 from rfl] at hy17_); (try rw [show ((0 : Int)).toNat = 0 from rfl] at hz17_); have HP17 := Kd.R_putg HO319.out (0 : Int) a0) | ((with_reducible refine gate_store (t := 3) (p := 21) rfl ?_); refine store_event (t := 3) (p := 21) (v := ?vo_w18) (w1 := (w15.setCell ⟨go14, (0 : Int).toNat, none⟩ (.int .i64 a0))) ?hg ?ho ?hn ?hr ?_; (case ho => rfl); (case hg => rfl); (case hn => rfl); (case hr => first | (go_simp; done) | (go_simp; rfl)); intro w18 hw; have hg : w15.grownBy w18 (some go14) := (by rw [hw]; exact HP17.2); have hp_ : Kd.R (Kd.int .i64) 3 w18 w.heap.size (fun _ => True) (.slice (some ⟨go14, 0, none⟩) y317.length co14) y320 := (by rw [hw, Ny320.out]; exact HP17.1); clear HP17; have n0_ := A_ (hp_); have n1_ := A_ ((by rw [hw]; exact below_set (HB.out) GB14.out : Below w.heap.size w w18)); clear HO319; clear HB; have HO319 := n0_; have HB := n1_; clear n0_ n1_; clear hg hw hp_))
      go_loopg [7] kj2 (fun kq v7 w' => ∃ (x6_2 : List Int) (x7_2 : Int), v7 = .int .i64 x7_2 ∧ Aside0 (spec_RunPlan.l0 kq l1 x6_2 x7_2 = some (r1, r2)) ∧ Aside0 (kq ≤ kj2) ∧ Aside0 (Kd.R (Kd.int .i64) 3 w' w.heap.size (fun _ => True) (.slice (some ⟨go14, 0, none⟩) y317.length co14) x6_2) ∧ Aside0 (Below w.heap.size w w'))
      case atStart => exact ⟨(y320), (0), (by first | rfl | (simp; done) | (simp [*]; done)), H', ⟨Nat.le_refl _⟩, ⟨oR HO319⟩, ⟨oB HB⟩⟩
      case round =>
       clear H'
       try clear c1
       try clear p1
       try clear q1
       try clear hx1
       try clear qi1
       try clear p2
       try clear c5
       try clear c9
       try clear c10
       try clear c12
       try clear c12b0
       try clear c12b1
       try clear c13
       try clear c13b0
       try clear c13b1
       try clear p14
       try clear q14
       try clear hx14
       try clear qi14
       try clear hf14
       try clear hx14_0
       try clear p14
       try clear p2
       try clear q14
       obtain ⟨x6_2, x7_2, rfl, HA, HK2, HO_6, HB⟩ := hrel
       have hl6_2 := (Kd.R_reads' HO_6.out).1
       rw [hl6_2] at HO_6
       (try simp only [hl6_2])
       cases gk with
       | zero => exact absurd HA.out (by simp [spec_RunPlan.l0])
       | succ k2 =>
        have H := HA.out
        clear HA
        simp only [spec_RunPlan.l0] at H
        by_cases c19 : x7_2 < (l1.length : Int)
        ·rw [if_pos c19] at H
         have c19b0 : decide (x7_2 < (l1.length : Int)) = true := decide_eq_true c19
         clear c19
         by_cases c20 : 0 ≤ x7_2
         ·rw [if_pos c20] at H
          have c20b0 : decide (0 ≤ x7_2) = true := decide_eq_true c20
          clear c20
          by_cases c21 : 0 ≤ ((rd_T96 l1 x7_2).f0)
          ·rw [if_pos c21] at H
           have c21b0 : decide (0 ≤ ((rd_T96 l1 x7_2).f0)) = true := decide_eq_true c21
           clear c21
           by_cases c22 : ((rd_T96 l1 x7_2).f0) < (x6_2.length : Int)
           ·rw [if_pos c22] at H
            have c22b0 : decide (((rd_T96 l1 x7_2).f0) < (x6_2.length : Int)) = true := decide_eq_true c22
            clear c22
            replace H := Option.bind_eq_some_iff.mp H
            obtain ⟨t325, A230, H⟩ := H
            (try dsimp only at H)
            have A23 := A_ A230
            clear A230
            by_cases c24 : t325 = 0
            ·rw [if_pos c24] at H
             have c24b0 : (t325 == 0) = true := beq_iff_eq.mpr c24
             have c24b1 : (t325 != 0) = false := bne_eq_false_iff_eq.mpr c24
             clear c24
             obtain ⟨y326, hy326⟩ : ∃ y_ : List Int, y_ = (([] : List Int)) := ⟨_, rfl⟩
             replace H : (some (y326, false)) = some (r1, r2) := by first | (rw [hy326]; with_reducible exact H) | (have H2_ := (Option.bind_some _ _).symm.trans H; rw [hy326]; with_reducible exact H2_) | (have H2_ := (Option.bind_some _ _).symm.trans H; with_reducible exact H2_) | with_reducible exact H | (rw [hy326]; exact H) | exact H
             have Ny326 := A_ hy326
             clear hy326
             simp only [Option.some.injEq, Prod.mk.injEq] at H
             obtain ⟨rfl, rfl⟩ := H
             try go_wp2
             have n0_ := A_ (Kd.R_drew HO_6.out)
             have n1_ := A_ (below_drew1 HB.out)
             clear HO_6
             clear HB
             have HO_6 := n0_
             have HB := n1_
             clear n0_ n1_
             have p321 : 0 ≤ (x7_2 : Int) := of_decide_eq_true (by first | (with_reducible assumption) | assumption)
             have q321 : x7_2 < (l1.length : Int) := of_decide_eq_true (by first | (with_reducible assumption) | assumption)
             obtain ⟨ad321, e321, hx321_0, hx321_1, hx321_2, hx321_3⟩ := at_T96 HR1.out x7_2 p321 q321
             have hw321_3 := hx321_3
             have hw321_2 := hx321_2
             have hw321_1 := hx321_1
             have hw321_0 := hx321_0
             cases e321
             replace hx321_0 := (HB.out.cell (World.block_lt_of_cell? w _ hx321_0)).trans hx321_0
             replace hx321_1 := (HB.out.cell (World.block_lt_of_cell? w _ hx321_1)).trans hx321_1
             replace hx321_2 := (HB.out.cell (World.block_lt_of_cell? w _ hx321_2)).trans hx321_2
             replace hx321_3 := (HB.out.cell (World.block_lt_of_cell? w _ hx321_3)).trans hx321_3
             replace p321 := eq_true p321
             replace q321 := eq_true q321
             have p322 : 0 ≤ (((rd_T96 l1 x7_2).f0) : Int) := of_decide_eq_true (by first | (with_reducible assumption) | assumption)
             have q322 : ((rd_T96 l1 x7_2).f0) < (x6_2.length : Int) := of_decide_eq_true (by first | (with_reducible assumption) | assumption)
             obtain ⟨ad322, e322, hx322_0⟩ := Kd.at_int (Kd.R_reads' HO_6.out).2.2 ((rd_T96 l1 x7_2).f0) p322 q322
             obtain rfl : (⟨go14, 0, none⟩ : Addr) = ad322 := (by injection e322)
             (first | simp only [add_plain] at hx322_0 | simp only [add_at] at hx322_0 | simp only [Addr.add, Nat.zero_add] at hx322_0 | skip)
             replace p322 := eq_true p322
             replace q322 := eq_true q322
             have p323 : 0 ≤ (x7_2 : Int) := of_decide_eq_true (by first | (with_reducible assumption) | assumption)
             have q323 : x7_2 < (l1.length : Int) := of_decide_eq_true (by first | (with_reducible assumption) | assumption)
             obtain ⟨ad323, e323, hx323_0, hx323_1, hx323_2, hx323_3⟩ := at_T96 HR1.out x7_2 p323 q323
             have hw323_3 := hx323_3
             have hw323_2 := hx323_2
             have hw323_1 := hx323_1
             have hw323_0 := hx323_0
             obtain rfl : ad321 = ad323 := (by injection e323)
             replace hx323_0 := (HB.out.cell (World.block_lt_of_cell? w _ hx323_0)).trans hx323_0
             replace hx323_1 := (HB.out.cell (World.block_lt_of_cell? w _ hx323_1)).trans hx323_1
             replace hx323_2 := (HB.out.cell (World.block_lt_of_cell? w _ hx323_2)).trans hx323_2
             replace hx323_3 := (HB.out.cell (World.block_lt_of_cell? w _ hx323_3)).trans hx323_3
             replace p323 := eq_true p323
             replace q323 := eq_true q323
             have p324 : 0 ≤ (x7_2 : Int) := of_decide_eq_true (by first | (with_reducible assumption) | assumption)
             have q324 : x7_2 < (l1.length : Int) := of_decide_eq_true (by first | (with_reducible assumption) | assumption)
             obtain ⟨ad324, e324, hx324_0, hx324_1, hx324_2, hx324_3⟩ := at_T96 HR1.out x7_2 p324 q324
             have hw324_3 := hx324_3
             have hw324_2 := hx324_2
             have hw324_1 := hx324_1
             have hw324_0 := hx324_0
             obtain rfl : ad321 = ad324 := (by injection e324)
             replace hx324_0 := (HB.out.cell (World.block_lt_of_cell? w _ hx324_0)).trans hx324_0
             replace hx324_1 := (HB.out.cell (World.block_lt_of_cell? w _ hx324_1)).trans hx324_1
             replace hx324_2 := (HB.out.cell (World.block_lt_of_cell? w _ hx324_2)).trans hx324_2
             replace hx324_3 := (HB.out.cell (World.block_lt_of_cell? w _ hx324_3)).trans hx324_3
             replace p324 := eq_true p324
             replace q324 := eq_true q324
             refine start_ (n := 20) (S := fun w' => w'.cell? (ad321.add ((x7_2).toNat * 4)) = some (.int .i64 ((rd_T96 l1 x7_2).f0)) ∧ w'.cell? ⟨(ad321.add ((x7_2).toNat * 4)).block, (ad321.add ((x7_2).toNat * 4)).off + 1, none⟩ = some (.int .i64 ((rd_T96 l1 x7_2).f1)) ∧ w'.cell? ⟨(ad321.add ((x7_2).toNat * 4)).block, (ad321.add ((x7_2).toNat * 4)).off + 2, none⟩ = some (.int .i64 ((rd_T96 l1 x7_2).f2)) ∧ w'.cell? ⟨(ad321.add ((x7_2).toNat * 4)).block, (ad321.add ((x7_2).toNat * 4)).off + 3, none⟩ = some (.int .i64 ((rd_T96 l1 x7_2).f3)) ∧ w'.cell? ⟨go14, (((rd_T96 l1 x7_2).f0)).toNat, none⟩ = some (.int .i64 (rd x6_2 ((rd_T96 l1 x7_2).f0))) ∧ w'.cell? (ad321.add ((x7_2).toNat * 4)) = some (.int .i64 ((rd_T96 l1 x7_2).f0)) ∧ w'.cell? ⟨(ad321.add ((x7_2).toNat * 4)).block, (ad321.add ((x7_2).toNat * 4)).off + 1, none⟩ = some (.int .i64 ((rd_T96 l1 x7_2).f1)) ∧ w'.cell? ⟨(ad321.add ((x7_2).toNat * 4)).block, (ad321.add ((x7_2).toNat * 4)).off + 2, none⟩ = some (.int .i64 ((rd_T96 l1 x7_2).f2)) ∧ w'.cell? ⟨(ad321.add ((x7_2).toNat * 4)).block, (ad321.add ((x7_2).toNat * 4)).off + 3, none⟩ = some (.int .i64 ((rd_T96 l1 x7_2).f3)) ∧ w'.cell? (ad321.add ((x7_2).toNat * 4)) = some (.int .i64 ((rd_T96 l1 x7_2).f0)) ∧ w'.cell? ⟨(ad321.add ((x7_2).toNat * 4)).block, (ad321.add ((x7_2).toNat * 4)).off + 1, none⟩ = some (.int .i64 ((rd_T96 l1 x7_2).f1)) ∧ w'.cell? ⟨(ad321.add ((x7_2).toNat * 4)).block, (ad321.add ((x7_2).toNat * 4)).off + 2, none⟩ = some (.int .i64 ((rd_T96 l1 x7_2).f2)) ∧ w'.cell? ⟨(ad321.add ((x7_2).toNat * 4)).block, (ad321.add ((x7_2).toNat * 4)).off + 3, none⟩ = some (.int .i64 ((rd_T96 l1 x7_2).f3))) (ds := []) #[false, false, false, false, false, false, false, false, false, false, false, false, false, false, false, false, false, false, false, false] (by kernel_rfl) rfl rfl ⟨((HB.out.cell (World.block_lt_of_cell? w _ hw321_0)).trans hw321_0), ((HB.out.cell (World.block_lt_of_cell? w _ hw321_1)).trans hw321_1), ((HB.out.cell (World.block_lt_of_cell? w _ hw321_2)).trans hw321_2), ((HB.out.cell (World.block_lt_of_cell? w _ hw321_3)).trans hw321_3), hx322_0, ((HB.out.cell (World.block_lt_of_cell? w _ hw323_0)).trans hw323_0), ((HB.out.cell (World.block_lt_of_cell? w _ hw323_1)).trans hw323_1), ((HB.out.cell (World.block_lt_of_cell? w _ hw323_2)).trans hw323_2), ((HB.out.cell (World.block_lt_of_cell? w _ hw323_3)).trans hw323_3), ((HB.out.cell (World.block_lt_of_cell? w _ hw324_0)).trans hw324_0), ((HB.out.cell (World.block_lt_of_cell? w _ hw324_1)).trans hw324_1), ((HB.out.cell (World.block_lt_of_cell? w _ hw324_2)).trans hw324_2), ((HB.out.cell (World.block_lt_of_cell? w _ hw324_3)).trans hw324_3)⟩ (fun hHeld => ?_); refine with_tabW spec_RunPlan.tab8 spec_RunPlan.bits8 (fun HT_ HW_ => ?_)
             generalize wr.drew = w25 at HO_6 HB hx321_0 hx321_1 hx321_2 hx321_3 hx322_0 hx323_0 hx323_1 hx323_2 hx323_3 hx324_0 hx324_1 hx324_2 hx324_3 hHeld ⊢
             refine pA 0 (some 28) HT_.out ?_
             refine pA 1 (some 29) HT_.out ?_
             refine pA 2 (some 30) HT_.out ?_
             refine pA 3 (some 31) HT_.out ?_
             refine pA 4 (some 32) HT_.out ?_
             refine pA 8 (some 36) HT_.out ?_
             refine pA 9 (some 37) HT_.out ?_
             refine pA 10 (some 38) HT_.out ?_
             refine pA 11 (some 39) HT_.out ?_
             refine pA 13 (some 41) HT_.out ?_
             refine pA 14 (some 42) HT_.out ?_
             refine pA 15 (some 43) HT_.out ?_
             refine pA 16 (some 44) HT_.out ?_
             refine pT 5 (some 33) HT_.out HW_.out hHeld ?_
             refine pA 6 (some 34) HT_.out ?_
             refine pT 7 (some 35) HT_.out HW_.out hHeld ?_
             refine pT 12 (some 40) HT_.out HW_.out hHeld ?_
             refine pT 17 (some 45) HT_.out HW_.out hHeld ?_
             refine one_ (i := 18) (N := some 46) #[true, true, true, true, true, true, true, true, true, true, true, true, true, true, true, true, true, true, true, false] rfl rfl (one_of HT_.out (by kernel_rfl)) (by decide) (fun K hK => ?_)
             refine goes_ Try.func116 (by kernel_rfl) rfl #[.int .i64 (rd x6_2 ((rd_T96 l1 x7_2).f0)), .int .i64 ((rd_T96 l1 x7_2).f2), .int .i64 ((rd_T96 l1 x7_2).f3)] (by rfl) rfl rfl (by (try simp only [List.map_toArray, List.map_cons, List.map_nil]); first | done | rfl | (simp only [List.length_drop, List.length_take]; rfl)) ?_
             with_reducible refine (spec_TunedPitch.calls k2 (rd x6_2 ((rd_T96 l1 x7_2).f0)) ((rd_T96 l1 x7_2).f2) ((rd_T96 l1 x7_2).f3) t325 _ A23.out).mono ?_
             rintro e w26 ⟨rfl, hb⟩
             have HS4_ := (hb.cell (World.block_lt_of_cell? _ _ (hHeld.2.2.2.2.1))).trans (hHeld.2.2.2.2.1)
             refine ⟨_, rfl, ?_⟩
             have n0_ := A_ (Kd.R_below (oR HO_6) hb)
             have n1_ := A_ (below_step (oB HB) hb)
             clear HO_6
             clear HB
             have HO_6 := n0_
             have HB := n1_
             clear n0_ n1_
             (try clear hb)
             (try clear hb2)
             (try clear hk)
             (try clear hi)
             refine hK.out _ _ ⟨((HB.out.cell (World.block_lt_of_cell? w _ hw321_0)).trans hw321_0), ((HB.out.cell (World.block_lt_of_cell? w _ hw321_1)).trans hw321_1), ((HB.out.cell (World.block_lt_of_cell? w _ hw321_2)).trans hw321_2), ((HB.out.cell (World.block_lt_of_cell? w _ hw321_3)).trans hw321_3), HS4_, ((HB.out.cell (World.block_lt_of_cell? w _ hw323_0)).trans hw323_0), ((HB.out.cell (World.block_lt_of_cell? w _ hw323_1)).trans hw323_1), ((HB.out.cell (World.block_lt_of_cell? w _ hw323_2)).trans hw323_2), ((HB.out.cell (World.block_lt_of_cell? w _ hw323_3)).trans hw323_3), ((HB.out.cell (World.block_lt_of_cell? w _ hw324_0)).trans hw324_0), ((HB.out.cell (World.block_lt_of_cell? w _ hw324_1)).trans hw324_1), ((HB.out.cell (World.block_lt_of_cell? w _ hw324_2)).trans hw324_2), ((HB.out.cell (World.block_lt_of_cell? w _ hw324_3)).trans hw324_3)⟩ (fun hHeld => ?_)
             clear hK K
             refine norm_ (a' := ?_) ?_ ?_
             rotate_left
             ·show Act.put _ (some 46) _ = _
              simp only [Act.put, List.setIfInBounds_toArray, List.set_cons_zero, List.set_cons_succ, i64_w, i32_w]
              rfl
             refine pA 19 (some 8) HT_.out ?_
             refine done_ (done_of HT_.out (by kernel_rfl)) ?_
             try go_wp2_with (first | ((with_reducible refine gate_dst (N := 49) rfl ?_); refine Kd.R_lit (Kd.int .i64) _ 3 ?hg (N := 49) ?hd (xs := ([] : List Int)) (inner := []) (ok := fun _ => True) (okp := fun _ => True) ?hr ?hp (fun _ hk => hk) trivial (Below.refl _ _) (Nat.le_refl _) (by simp) ?_; (case hd => rfl); (case hg => rfl); (case hr => first | (go_simp; done) | (go_simp; rfl)); (case hp => exact (Reps.none _ _)); intro v327 w27 ho28 hb hg_ hnew_; clear hg_ hnew_; (first | rw [← Ny326.out] at ho28 | (simp only [Int.reduceToNat] at ho28; rw [← Ny326.out] at ho28)); have n0_ := A_ (Kd.R_elder' (oR HO_6) (Kd.R_base ho28) hb); have n1_ := A_ (Kd.R_lower (Kd.R_new' ho28 (Kd.R_lt (oR HO_6))) (below_size (oB HB))); have n2_ := A_ (below_step (oB HB) hb); clear HO_6; clear HB; have HO_6 := n0_; have HO328 := n1_; have HB := n2_; clear n0_ n1_ n2_; clear hb ho28))
             go_ret2
             exact ⟨_, eR, by (with_reducible repeat (first | apply Kd.R_alloc | apply Kd.R_drewN | apply Kd.R_drew)); exact Kd.R_mono HO328.out (fun _ hk => trivial), oB HB⟩
            ·rw [if_neg c24] at H
             have c24b0 : (t325 == 0) = false := beq_eq_false_iff_ne.mpr c24
             have c24b1 : (t325 != 0) = true := bne_iff_ne.mpr c24
             by_cases c29 : 0 ≤ ((rd_T96 l1 x7_2).f1)
             ·rw [if_pos c29] at H
              have c29b0 : decide (0 ≤ ((rd_T96 l1 x7_2).f1)) = true := decide_eq_true c29
              clear c29
              by_cases c30 : ((rd_T96 l1 x7_2).f1) < (x6_2.length : Int)
              ·rw [if_pos c30] at H
               have c30b0 : decide (((rd_T96 l1 x7_2).f1) < (x6_2.length : Int)) = true := decide_eq_true c30
               clear c30
               obtain ⟨y330, hy330⟩ : ∃ y_ : List Int, y_ = (x6_2.set (((rd_T96 l1 x7_2).f1) : Int).toNat t325) := ⟨_, rfl⟩
               replace H : (spec_RunPlan.l0 k2 l1 y330 (wrap64 (x7_2 + 1))) = some (r1, r2) := by first | (rw [hy330]; with_reducible exact H) | (have H2_ := (Option.bind_some _ _).symm.trans H; rw [hy330]; with_reducible exact H2_) | (have H2_ := (Option.bind_some _ _).symm.trans H; with_reducible exact H2_) | with_reducible exact H | (rw [hy330]; exact H) | exact H
               have Ny330 := A_ hy330
               clear hy330
               have H' := A_ H
               clear H
               try go_wp2
               have n0_ := A_ (Kd.R_drew HO_6.out)
               have n1_ := A_ (below_drew1 HB.out)
               clear HO_6
               clear HB
               have HO_6 := n0_
               have HB := n1_
               clear n0_ n1_
               have p321 : 0 ≤ (x7_2 : Int) := of_decide_eq_true (by first | (with_reducible assumption) | assumption)
               have q321 : x7_2 < (l1.length : Int) := of_decide_eq_true (by first | (with_reducible assumption) | assumption)
               obtain ⟨ad321, e321, hx321_0, hx321_1, hx321_2, hx321_3⟩ := at_T96 HR1.out x7_2 p321 q321
               have hw321_3 := hx321_3
               have hw321_2 := hx321_2
               have hw321_1 := hx321_1
               have hw321_0 := hx321_0
               cases e321
               replace hx321_0 := (HB.out.cell (World.block_lt_of_cell? w _ hx321_0)).trans hx321_0
               replace hx321_1 := (HB.out.cell (World.block_lt_of_cell? w _ hx321_1)).trans hx321_1
               replace hx321_2 := (HB.out.cell (World.block_lt_of_cell? w _ hx321_2)).trans hx321_2
               replace hx321_3 := (HB.out.cell (World.block_lt_of_cell? w _ hx321_3)).trans hx321_3
               replace p321 := eq_true p321
               replace q321 := eq_true q321
               have p322 : 0 ≤ (((rd_T96 l1 x7_2).f0) : Int) := of_decide_eq_true (by first | (with_reducible assumption) | assumption)
               have q322 : ((rd_T96 l1 x7_2).f0) < (x6_2.length : Int) := of_decide_eq_true (by first | (with_reducible assumption) | assumption)
               obtain ⟨ad322, e322, hx322_0⟩ := Kd.at_int (Kd.R_reads' HO_6.out).2.2 ((rd_T96 l1 x7_2).f0) p322 q322
               obtain rfl : (⟨go14, 0, none⟩ : Addr) = ad322 := (by injection e322)
               (first | simp only [add_plain] at hx322_0 | simp only [add_at] at hx322_0 | simp only [Addr.add, Nat.zero_add] at hx322_0 | skip)
               replace p322 := eq_true p322
               replace q322 := eq_true q322
               have p323 : 0 ≤ (x7_2 : Int) := of_decide_eq_true (by first | (with_reducible assumption) | assumption)
               have q323 : x7_2 < (l1.length : Int) := of_decide_eq_true (by first | (with_reducible assumption) | assumption)
               obtain ⟨ad323, e323, hx323_0, hx323_1, hx323_2, hx323_3⟩ := at_T96 HR1.out x7_2 p323 q323
               have hw323_3 := hx323_3
               have hw323_2 := hx323_2
               have hw323_1 := hx323_1
               have hw323_0 := hx323_0
               obtain rfl : ad321 = ad323 := (by injection e323)
               replace hx323_0 := (HB.out.cell (World.block_lt_of_cell? w _ hx323_0)).trans hx323_0
               replace hx323_1 := (HB.out.cell (World.block_lt_of_cell? w _ hx323_1)).trans hx323_1
               replace hx323_2 := (HB.out.cell (World.block_lt_of_cell? w _ hx323_2)).trans hx323_2
               replace hx323_3 := (HB.out.cell (World.block_lt_of_cell? w _ hx323_3)).trans hx323_3
               replace p323 := eq_true p323
               replace q323 := eq_true q323
               have p324 : 0 ≤ (x7_2 : Int) := of_decide_eq_true (by first | (with_reducible assumption) | assumption)
               have q324 : x7_2 < (l1.length : Int) := of_decide_eq_true (by first | (with_reducible assumption) | assumption)
               obtain ⟨ad324, e324, hx324_0, hx324_1, hx324_2, hx324_3⟩ := at_T96 HR1.out x7_2 p324 q324
               have hw324_3 := hx324_3
               have hw324_2 := hx324_2
               have hw324_1 := hx324_1
               have hw324_0 := hx324_0
               obtain rfl : ad321 = ad324 := (by injection e324)
               replace hx324_0 := (HB.out.cell (World.block_lt_of_cell? w _ hx324_0)).trans hx324_0
               replace hx324_1 := (HB.out.cell (World.block_lt_of_cell? w _ hx324_1)).trans hx324_1
               replace hx324_2 := (HB.out.cell (World.block_lt_of_cell? w _ hx324_2)).trans hx324_2
               replace hx324_3 := (HB.out.cell (World.block_lt_of_cell? w _ hx324_3)).trans hx324_3
               replace p324 := eq_true p324
               replace q324 := eq_true q324
               refine start_ (n := 20) (S := fun w' => w'.cell? (ad321.add ((x7_2).toNat * 4)) = some (.int .i64 ((rd_T96 l1 x7_2).f0)) ∧ w'.cell? ⟨(ad321.add ((x7_2).toNat * 4)).block, (ad321.add ((x7_2).toNat * 4)).off + 1, none⟩ = some (.int .i64 ((rd_T96 l1 x7_2).f1)) ∧ w'.cell? ⟨(ad321.add ((x7_2).toNat * 4)).block, (ad321.add ((x7_2).toNat * 4)).off + 2, none⟩ = some (.int .i64 ((rd_T96 l1 x7_2).f2)) ∧ w'.cell? ⟨(ad321.add ((x7_2).toNat * 4)).block, (ad321.add ((x7_2).toNat * 4)).off + 3, none⟩ = some (.int .i64 ((rd_T96 l1 x7_2).f3)) ∧ w'.cell? ⟨go14, (((rd_T96 l1 x7_2).f0)).toNat, none⟩ = some (.int .i64 (rd x6_2 ((rd_T96 l1 x7_2).f0))) ∧ w'.cell? (ad321.add ((x7_2).toNat * 4)) = some (.int .i64 ((rd_T96 l1 x7_2).f0)) ∧ w'.cell? ⟨(ad321.add ((x7_2).toNat * 4)).block, (ad321.add ((x7_2).toNat * 4)).off + 1, none⟩ = some (.int .i64 ((rd_T96 l1 x7_2).f1)) ∧ w'.cell? ⟨(ad321.add ((x7_2).toNat * 4)).block, (ad321.add ((x7_2).toNat * 4)).off + 2, none⟩ = some (.int .i64 ((rd_T96 l1 x7_2).f2)) ∧ w'.cell? ⟨(ad321.add ((x7_2).toNat * 4)).block, (ad321.add ((x7_2).toNat * 4)).off + 3, none⟩ = some (.int .i64 ((rd_T96 l1 x7_2).f3)) ∧ w'.cell? (ad321.add ((x7_2).toNat * 4)) = some (.int .i64 ((rd_T96 l1 x7_2).f0)) ∧ w'.cell? ⟨(ad321.add ((x7_2).toNat * 4)).block, (ad321.add ((x7_2).toNat * 4)).off + 1, none⟩ = some (.int .i64 ((rd_T96 l1 x7_2).f1)) ∧ w'.cell? ⟨(ad321.add ((x7_2).toNat * 4)).block, (ad321.add ((x7_2).toNat * 4)).off + 2, none⟩ = some (.int .i64 ((rd_T96 l1 x7_2).f2)) ∧ w'.cell? ⟨(ad321.add ((x7_2).toNat * 4)).block, (ad321.add ((x7_2).toNat * 4)).off + 3, none⟩ = some (.int .i64 ((rd_T96 l1 x7_2).f3))) (ds := []) #[false, false, false, false, false, false, false, false, false, false, false, false, false, false, false, false, false, false, false, false] (by kernel_rfl) rfl rfl ⟨((HB.out.cell (World.block_lt_of_cell? w _ hw321_0)).trans hw321_0), ((HB.out.cell (World.block_lt_of_cell? w _ hw321_1)).trans hw321_1), ((HB.out.cell (World.block_lt_of_cell? w _ hw321_2)).trans hw321_2), ((HB.out.cell (World.block_lt_of_cell? w _ hw321_3)).trans hw321_3), hx322_0, ((HB.out.cell (World.block_lt_of_cell? w _ hw323_0)).trans hw323_0), ((HB.out.cell (World.block_lt_of_cell? w _ hw323_1)).trans hw323_1), ((HB.out.cell (World.block_lt_of_cell? w _ hw323_2)).trans hw323_2), ((HB.out.cell (World.block_lt_of_cell? w _ hw323_3)).trans hw323_3), ((HB.out.cell (World.block_lt_of_cell? w _ hw324_0)).trans hw324_0), ((HB.out.cell (World.block_lt_of_cell? w _ hw324_1)).trans hw324_1), ((HB.out.cell (World.block_lt_of_cell? w _ hw324_2)).trans hw324_2), ((HB.out.cell (World.block_lt_of_cell? w _ hw324_3)).trans hw324_3)⟩ (fun hHeld => ?_); refine with_tabW spec_RunPlan.tab8 spec_RunPlan.bits8 (fun HT_ HW_ => ?_)
               generalize wr.drew = w32 at HO_6 HB hx321_0 hx321_1 hx321_2 hx321_3 hx322_0 hx323_0 hx323_1 hx323_2 hx323_3 hx324_0 hx324_1 hx324_2 hx324_3 hHeld ⊢
               refine pA 0 (some 28) HT_.out ?_
               refine pA 1 (some 29) HT_.out ?_
               refine pA 2 (some 30) HT_.out ?_
               refine pA 3 (some 31) HT_.out ?_
               refine pA 4 (some 32) HT_.out ?_
               refine pA 8 (some 36) HT_.out ?_
               refine pA 9 (some 37) HT_.out ?_
               refine pA 10 (some 38) HT_.out ?_
               refine pA 11 (some 39) HT_.out ?_
               refine pA 13 (some 41) HT_.out ?_
               refine pA 14 (some 42) HT_.out ?_
               refine pA 15 (some 43) HT_.out ?_
               refine pA 16 (some 44) HT_.out ?_
               refine pT 5 (some 33) HT_.out HW_.out hHeld ?_
               refine pA 6 (some 34) HT_.out ?_
               refine pT 7 (some 35) HT_.out HW_.out hHeld ?_
               refine pT 12 (some 40) HT_.out HW_.out hHeld ?_
               refine pT 17 (some 45) HT_.out HW_.out hHeld ?_
               refine one_ (i := 18) (N := some 46) #[true, true, true, true, true, true, true, true, true, true, true, true, true, true, true, true, true, true, true, false] rfl rfl (one_of HT_.out (by kernel_rfl)) (by decide) (fun K hK => ?_)
               refine goes_ Try.func116 (by kernel_rfl) rfl #[.int .i64 (rd x6_2 ((rd_T96 l1 x7_2).f0)), .int .i64 ((rd_T96 l1 x7_2).f2), .int .i64 ((rd_T96 l1 x7_2).f3)] (by rfl) rfl rfl (by (try simp only [List.map_toArray, List.map_cons, List.map_nil]); first | done | rfl | (simp only [List.length_drop, List.length_take]; rfl)) ?_
               with_reducible refine (spec_TunedPitch.calls k2 (rd x6_2 ((rd_T96 l1 x7_2).f0)) ((rd_T96 l1 x7_2).f2) ((rd_T96 l1 x7_2).f3) t325 _ A23.out).mono ?_
               rintro e w33 ⟨rfl, hb⟩
               have HS4_ := (hb.cell (World.block_lt_of_cell? _ _ (hHeld.2.2.2.2.1))).trans (hHeld.2.2.2.2.1)
               refine ⟨_, rfl, ?_⟩
               have n0_ := A_ (Kd.R_below (oR HO_6) hb)
               have n1_ := A_ (below_step (oB HB) hb)
               clear HO_6
               clear HB
               have HO_6 := n0_
               have HB := n1_
               clear n0_ n1_
               (try clear hb)
               (try clear hb2)
               (try clear hk)
               (try clear hi)
               refine hK.out _ _ ⟨((HB.out.cell (World.block_lt_of_cell? w _ hw321_0)).trans hw321_0), ((HB.out.cell (World.block_lt_of_cell? w _ hw321_1)).trans hw321_1), ((HB.out.cell (World.block_lt_of_cell? w _ hw321_2)).trans hw321_2), ((HB.out.cell (World.block_lt_of_cell? w _ hw321_3)).trans hw321_3), HS4_, ((HB.out.cell (World.block_lt_of_cell? w _ hw323_0)).trans hw323_0), ((HB.out.cell (World.block_lt_of_cell? w _ hw323_1)).trans hw323_1), ((HB.out.cell (World.block_lt_of_cell? w _ hw323_2)).trans hw323_2), ((HB.out.cell (World.block_lt_of_cell? w _ hw323_3)).trans hw323_3), ((HB.out.cell (World.block_lt_of_cell? w _ hw324_0)).trans hw324_0), ((HB.out.cell (World.block_lt_of_cell? w _ hw324_1)).trans hw324_1), ((HB.out.cell (World.block_lt_of_cell? w _ hw324_2)).trans hw324_2), ((HB.out.cell (World.block_lt_of_cell? w _ hw324_3)).trans hw324_3)⟩ (fun hHeld => ?_)
               clear hK K
               refine norm_ (a' := ?_) ?_ ?_
               rotate_left
               ·show Act.put _ (some 46) _ = _
                simp only [Act.put, List.setIfInBounds_toArray, List.set_cons_zero, List.set_cons_succ, i64_w, i32_w]
                rfl
               refine pA 19 (some 8) HT_.out ?_
               refine done_ (done_of HT_.out (by kernel_rfl)) ?_
               have p329 : 0 ≤ (x7_2 : Int) := of_decide_eq_true (by first | (with_reducible assumption) | assumption)
               have q329 : x7_2 < (l1.length : Int) := of_decide_eq_true (by first | (with_reducible assumption) | assumption)
               obtain ⟨ad329, e329, hx329_0, hx329_1, hx329_2, hx329_3⟩ := at_T96 HR1.out x7_2 p329 q329
               obtain rfl : ad321 = ad329 := (by injection e329)
               replace hx329_0 := (HB.out.cell (World.block_lt_of_cell? w _ hx329_0)).trans hx329_0
               replace hx329_1 := (HB.out.cell (World.block_lt_of_cell? w _ hx329_1)).trans hx329_1
               replace hx329_2 := (HB.out.cell (World.block_lt_of_cell? w _ hx329_2)).trans hx329_2
               replace hx329_3 := (HB.out.cell (World.block_lt_of_cell? w _ hx329_3)).trans hx329_3
               replace p329 := eq_true p329
               replace q329 := eq_true q329
               have p31 : 0 ≤ (((rd_T96 l1 x7_2).f1) : Int) := of_decide_eq_true (by first | (with_reducible assumption) | assumption)
               have q31 : (((rd_T96 l1 x7_2).f1) : Int) < ((x6_2.length : Int) : Int) := of_decide_eq_true (by first | (with_reducible assumption) | assumption)
               obtain ⟨hx31_0, hf31_0⟩ := Kd.R_celln 0 HO_6.out (((rd_T96 l1 x7_2).f1) : Int) p31 q31
               replace p31 := eq_true p31
               replace q31 := eq_true q31
               obtain ⟨hy34_, hz34_⟩ := Kd.R_celln 0 HO_6.out (((rd_T96 l1 x7_2).f1) : Int) (of_decide_eq_true (by first | (with_reducible assumption) | assumption)) (of_decide_eq_true (by first | (with_reducible assumption) | assumption))
               have HP34 := Kd.R_putg HO_6.out (((rd_T96 l1 x7_2).f1) : Int) t325
               try go_wp2_with (first | ((with_reducible refine gate_store (t := 3) (p := 57) rfl ?_); refine store_event (t := 3) (p := 57) (v := ?vo_w35) (w1 := (w33.setCell ⟨go14, (((rd_T96 l1 x7_2).f1) : Int).toNat, none⟩ (.int .i64 t325))) ?hg ?ho ?hn ?hr ?_; (case ho => rfl); (case hg => rfl); (case hn => rfl); (case hr => first | (go_simp; done) | (go_simp; rfl)); intro w35 hw; have hg : w33.grownBy w35 (some go14) := (by rw [hw]; exact HP34.2); have hp_ : Kd.R (Kd.int .i64) 3 w35 w.heap.size (fun _ => True) (.slice (some ⟨go14, 0, none⟩) x6_2.length co14) y330 := (by rw [hw, Ny330.out]; exact HP34.1); clear HP34; have n0_ := A_ (hp_); have n1_ := A_ ((by rw [hw]; exact below_set (HB.out) GB14.out : Below w.heap.size w w35)); clear HO_6; clear HB; have HO_6 := n0_; have HB := n1_; clear n0_ n1_; clear hg hw hp_))
               (try simp only [← hl6_2])
               go_roundg k2
               case measure => have := HJ2.out; have := HK2.out; omega
               case rel => exact ⟨(y330), (wrap64 (x7_2 + 1)), (by first | rfl | (simp; done) | (simp [*]; done)), H', ⟨by have := HJ2.out; have := HK2.out; omega⟩, ⟨by (try simp only [hl6_2]); (with_reducible repeat (first | apply Kd.R_alloc | apply Kd.R_drewN | apply Kd.R_drew)); exact HO_6.out⟩, ⟨oB HB⟩⟩
              ·rw [if_neg c30] at H
               exact absurd H (by simp)
             ·rw [if_neg c29] at H
              exact absurd H (by simp)
           ·rw [if_neg c22] at H
            exact absurd H (by simp)
          ·rw [if_neg c21] at H
           exact absurd H (by simp)
         ·rw [if_neg c20] at H
          exact absurd H (by simp)
        ·rw [if_neg c19] at H
         have c19b0 : decide (x7_2 < (l1.length : Int)) = false := decide_eq_false c19
         clear c19
         simp only [Option.some.injEq, Prod.mk.injEq] at H
         obtain ⟨rfl, rfl⟩ := H
         go_wp2
         go_ret2
         exact ⟨_, eR, oR HO_6, oB HB⟩
     ·rw [if_neg c13] at H
      exact absurd H (by simp)
    ·rw [if_neg c12] at H
     exact absurd H (by simp)
end Go.Proofs.Ytbkkpllejgedcaa.P


namespace Go.Proofs.Ytbkkpllejgedcaa.P
open Go.RowKit Go.Proofs.YtbkkpllejgedcaaW.PrintWords Go.Proofs.YtbkkpllejgedcaaW.PrintLast Go.Proofs.YtbkkpllejgedcaaW.PrintMore
attribute [local go_sem] max2_int min2_int max_two min_two max_three min_three max_four min_four
set_option linter.unusedVariables false
set_option linter.unusedSimpArgs false
def spec_l19Copy.f (l0 : List (S96)) : Option ((List (S96))) := (some (([] : List (S96)) : List (S96))).bind fun y331 => (if y331.length + l0.length < 4398046511104 then (some (y331 ++ l0)) else (none))
set_option maxHeartbeats 8000000 in
set_option maxRecDepth 100000 in
theorem spec_l19Copy.calls (A0 : Option Addr) (c0 : Nat) (l0 : List (S96)) (r : List (S96)) (w : World) (hr0 : Kd.C k96 w A0 l0.length l0) (hc0 : l0.length ≤ c0) (h : spec_l19Copy.f l0 = some r) :
  Calls Try.prog 110 #[.slice A0 l0.length c0] w fun e w' => ∃ v0_ : Value, e = .returned (v0_) ∧ Kd.R k96 96 w' w.heap.size (fun _ => True) v0_ r ∧ Below w.heap.size w w' := by
 have HR0 := A_ hr0
 have HC0 := A_ hc0
 clear hr0 hc0
 have HB := A_ (Below.refl w.heap.size w)
 have H : ((some (([] : List (S96)) : List (S96))).bind fun y331 => (if y331.length + l0.length < 4398046511104 then (some (y331 ++ l0)) else (none))) = some r := h
 clear h
 obtain ⟨y331, hy331⟩ : ∃ y_ : List (S96), y_ = (([] : List (S96))) := ⟨_, rfl⟩
 replace H : (if y331.length + l0.length < 4398046511104 then (some (y331 ++ l0)) else (none)) = some r := by first | (rw [hy331]; with_reducible exact H) | (have H2_ := (Option.bind_some _ _).symm.trans H; rw [hy331]; with_reducible exact H2_) | (have H2_ := (Option.bind_some _ _).symm.trans H; with_reducible exact H2_) | with_reducible exact H | (rw [hy331]; exact H) | exact H
 have Ny331 := A_ hy331
 clear hy331
 by_cases c2 : y331.length + l0.length < 4398046511104
 ·rw [if_pos c2] at H
  have LMc2 := A_ c2
  clear c2
  obtain ⟨y334, hy334⟩ : ∃ y_ : List (S96), y_ = (y331 ++ l0) := ⟨_, rfl⟩
  replace H : (some y334) = some r := by first | (rw [hy334]; with_reducible exact H) | (have H2_ := (Option.bind_some _ _).symm.trans H; rw [hy334]; with_reducible exact H2_) | (have H2_ := (Option.bind_some _ _).symm.trans H; with_reducible exact H2_) | with_reducible exact H | (rw [hy334]; exact H) | exact H
  have Ny334 := A_ hy334
  clear hy334
  obtain rfl := Option.some.inj H
  go_enter Try.func110, Try.ntmps110
  go_wp2_with (first | ((with_reducible refine gate_dst (N := 3) rfl ?_); refine Kd.R_lit k96 _ 96 ?hg (N := 3) ?hd (xs := ([] : List (S96))) (inner := []) (ok := fun _ => True) (okp := fun _ => True) ?hr ?hp (fun _ hk => hk) trivial (Below.refl _ _) (Nat.le_refl _) (by simp) ?_; (case hd => rfl); (case hg => rfl); (case hr => first | (go_simp; done) | (go_simp; rfl)); (case hp => exact (Reps.none _ _)); intro v332 w3 ho4 hb hg_ hnew_; clear hg_ hnew_; (first | rw [← Ny331.out] at ho4 | (simp only [Int.reduceToNat] at ho4; rw [← Ny331.out] at ho4)); have n0_ := A_ (Kd.R_lower ho4 (below_size (oB HB))); have n1_ := A_ (below_step (oB HB) hb); clear HB; have HO333 := n0_; have HB := n1_; clear n0_ n1_; clear hb ho4) | ((with_reducible refine gate_builtin (b := .append) (xs := #[.tmp 3, .tmp 4]) rfl ?_); at_builtin; refine Kd.R_append_rows k96 (w0 := w) w.heap.size rfl (.tmp 3) (.tmp 4) 31 96 (.agg #[(.int .i64 0), (.int .i64 0), (.int .i64 0), (.int .i64 0)]) 32 rfl Try.underlying31 info96 rfl (by decide) (by omega) v332 y331 l0 _ _ _ (fun _ => True) (fun _ => False) rfl rfl ?aO ?aR (fun _ _ h => h) (fun _ h => h.elim) ?aF ?aB ?aS ?aL ?_; (case aR => exact oc_ HR0.out); (case aB => exact (oB HB)); (case aF => exact (fun _ _ => trivial)); (case aO => exact (oR HO333)); (case aS => exact (below_size (oB HB))); (case aL => have := LMc2.out; omega); intro v335 w5 ho hb hg hat; rw [← Ny334.out] at ho; have n0_ := A_ (hb); have n1_ := A_ (ho); clear HB; clear HO333; have HB := n0_; have HO336 := n1_; clear n0_ n1_; clear ho hb hg hat))
  go_ret
  exact ⟨_, eR, oR HO336, oB HB⟩
 ·rw [if_neg c2] at H
  exact absurd H (by simp)
end Go.Proofs.Ytbkkpllejgedcaa.P


namespace Go.Proofs.Ytbkkpllejgedcaa.P
open Go.RowKit Go.Proofs.YtbkkpllejgedcaaW.PrintWords Go.Proofs.YtbkkpllejgedcaaW.PrintLast Go.Proofs.YtbkkpllejgedcaaW.PrintMore Go.Proofs.Ytbkkpllejgedcaa.V
attribute [local go_sem] cell_b frozen_b cellR_c cell_r frozen_r cell_r0 frozen_r0
attribute [local go_sem] max2_int min2_int max_two min_two max_three min_three max_four min_four
set_option linter.unusedVariables false
set_option linter.unusedSimpArgs false
def spec_NewWork.f (k : Nat) (a0 : Int) (l1 : List (S96)) : Option ((List (S96)) × Int × List Int × Bool) := (spec_RunPlan.f k a0 l1).bind fun bt338 => (if bt338.2 = true then ((spec_l19Copy.f l1).bind fun t342 => (if 12 ≤ 35184372088832 then ((some (List.replicate 12 0 : List Int)).bind fun y345 => (if 0 < (y345.length : Int) then (some (t342, 0, (y345.set (0 : Int).toNat a0), true)) else (none))) else (none))) else (some (([] : List (S96)), 0, ([] : List Int), false)))
noncomputable def spec_NewWork.T4 : Bool × List (List Nat × List Nat) := rtab .any (opsOf Try.f73 4)
def spec_NewWork.B4 : List Nat := [0, 1, 0, 7, 0, 31]
theorem spec_NewWork.tab4 : rtab .any (opsOf Try.f73 4) = spec_NewWork.T4 := rfl
theorem spec_NewWork.bits4 : waitsOk spec_NewWork.T4.2 spec_NewWork.B4 = true := by kernel_rfl
set_option maxHeartbeats 8000000 in
set_option maxRecDepth 100000 in
set_option synthInstance.maxHeartbeats 400000 in
set_option synthInstance.maxSize 100000 in
theorem spec_NewWork.calls (k : Nat) (a0 : Int) (A1 : Option Addr) (c1 : Nat) (l1 : List (S96)) (r1 : List (S96)) (r2 : Int) (r3 : List Int) (r4 : Bool) (w : World) (hr1 : Kd.C k96 w A1 l1.length l1) (hc1 : l1.length ≤ c1) (h : spec_NewWork.f k a0 l1 = some (r1, r2, r3, r4)) :
  Calls Try.prog 73 #[.int .i64 a0, .slice A1 l1.length c1] w fun e w' => ∃ v0_ v2_ : Value, e = .returned (.tuple #[.agg #[v0_, .int .i64 r2, v2_], .bool r4]) ∧ Kd.R k96 96 w' w.heap.size (fun _ => True) v0_ r1 ∧ Kd.R (Kd.int .i64) 3 w' w.heap.size (fun _ => True) v2_ r3 ∧ Below w.heap.size w w' := by
 have ihr1 := RdE.mk hr1
 have ihc1 := LeI.mk hc1
 clear hr1 hc1
 have nt96_3 := NeT.mk (d := k96) (e := 96) (t := 3) (by decide)
 have nt96_33 := NeT.mk (d := k96) (e := 96) (t := 33) (by decide)
 unfold spec_NewWork.f at h
 have hu33 := Try.underlying33
 (repeat' first | ((with_reducible replace h := ite_some h); rcases h with ⟨hc, h⟩ | ⟨hc, h⟩ <;> first | exact (none_some h).elim | exact absurd hc (by decide) | subst hc | (replace hc := Bool.eq_false_iff.mpr hc; subst hc) | (replace hc := (Bool.not_eq_true' _).mp hc; subst hc) | (replace hc := (Bool.not_eq_false' _).mp (Bool.eq_false_iff.mpr hc); subst hc) | (have hd : (_ == _) = true := hc) | (have hd : (_ == _) = false := Bool.eq_false_iff.mpr hc) | (have hd := beq_iff_eq.mpr hc; have he := bne_eq_false_iff_eq.mpr hc; clear hc) | (have hd := beq_eq_false_iff_ne.mpr hc; have he := bne_iff_ne.mpr hc) | (have hd := decide_eq_false hc) | (have hd := decide_eq_true hc; (try (have hn := Int.natCast_pos.mp hc; have hm := decide_eq_true hn; replace hn := eq_true hn)); first | (obtain ⟨g_, e_, i_⟩ := form_ (by assumption) (by first | assumption | decide) hc; cases e_) | (obtain ⟨a_, e_, c_⟩ := atI_ (by assumption) (by first | assumption | decide) hc; cases e_)) | (have hd := decide_eq_true hc) | skip) | ((with_reducible replace h := bind_set_ h); obtain ⟨hl_, h⟩ := h; replace hl_ := A_ hl_; (try dsimp only at h)))
 all_goals go_enter Try.func73, Try.ntmps73
 all_goals go_wp2_with (first
  | ((with_reducible refine gate_dst (N := 4) rfl ?_); refine box_event rfl (N := 4) rfl (cs := #[.slice none 0 0, .int .i64 0, .slice none 0 0]) (t := 33) (by first | (go_simp; done) | (go_simp; rfl)) ?_; intro g hg w1 hk hb; have j1 := Born.mk hg; have j2 := Bel.mk hb; have j3 := Blk.mk hk; clear hg hb hk)
  | (go_at_call 109; (try rw [hl_.out]); replace h := Option.bind_eq_some_iff.mp h; obtain ⟨⟨t1, t2⟩, A, h⟩ := h; (try dsimp only at h); refine (spec_RunPlan.calls _ _ _ _ _ _ _ _ Rd.out LeI.out A).mono ?_; rintro e w2 ⟨v0, rfl, ho0, hb⟩; obtain ⟨B0, b0, rfl⟩ := Kd.R_slice ho0; have j0 := RowE.mk ho0; have q0 := LeI.mk (rowLe j0); have jb := Bel.mk hb; clear A ho0 hb; (repeat' first | ((with_reducible replace h := ite_some h); rcases h with ⟨hc, h⟩ | ⟨hc, h⟩ <;> first | exact (none_some h).elim | exact absurd hc (by decide) | subst hc | (replace hc := Bool.eq_false_iff.mpr hc; subst hc) | (replace hc := (Bool.not_eq_true' _).mp hc; subst hc) | (replace hc := (Bool.not_eq_false' _).mp (Bool.eq_false_iff.mpr hc); subst hc) | (have hd : (_ == _) = true := hc) | (have hd : (_ == _) = false := Bool.eq_false_iff.mpr hc) | (have hd := beq_iff_eq.mpr hc; have he := bne_eq_false_iff_eq.mpr hc; clear hc) | (have hd := beq_eq_false_iff_ne.mpr hc; have he := bne_iff_ne.mpr hc) | (have hd := decide_eq_false hc) | (have hd := decide_eq_true hc; (try (have hn := Int.natCast_pos.mp hc; have hm := decide_eq_true hn; replace hn := eq_true hn)); first | (obtain ⟨g_, e_, i_⟩ := form_ (by assumption) (by first | assumption | decide) hc; cases e_) | (obtain ⟨a_, e_, c_⟩ := atI_ (by assumption) (by first | assumption | decide) hc; cases e_)) | (have hd := decide_eq_true hc) | skip) | ((with_reducible replace h := bind_set_ h); obtain ⟨hl_, h⟩ := h; replace hl_ := A_ hl_; (try dsimp only at h))))
  | (refine qR (id := 4) (ds := []) (l := #[false, false, false, false, false, false]) spec_NewWork.tab4 spec_NewWork.bits4 ?_; intro HT_ HW_ w3 jw u0 iu hHeld; replace h := Option.bind_eq_some_iff.mp h; obtain ⟨r1t, A1, h⟩ := h; (try dsimp only at h); refine qA 0 (some 18) HT_ ?_; refine qO3 1 2 4 (some 19) (some 20) (some 8) HT_ (fun K hK => ?_) (fun K hK => ?_) (fun K hK => ?_); (focus (refine goes_ Try.func110 (by kernel_rfl) rfl _ (by rfl) rfl rfl (by (try simp only [List.map_toArray, List.map_cons, List.map_nil]); rfl) ?_; refine (spec_l19Copy.calls _ _ _ _ _ Rd.out LeI.out A1).mono ?_; rintro e u1 ⟨v0, rfl, ho0, hb⟩; obtain ⟨B0, b0, rfl⟩ := Kd.R_slice ho0; have j0 := RowE.mk ho0; have q0 := LeI.mk (rowLe j0); have jb := Bel.mk hb; (try clear ho0 hb); refine ⟨_, rfl, hK.out _ _ From.out fun hHeld => ?_⟩; clear hK K; refine qN ?_; refine qO2 2 4 (some 20) (some 8) HT_ (fun K hK => ?_) (fun K hK => ?_); (focus (refine qM0 3 20 23 _ _ 12 8 Try.underlying23 info3 (by decide) (by decide) ?_; intro B2 b2 u2 j2 jb2; generalize List.replicate 12 (0 : Int) = y2 at h j2 ⊢; refine hK.out _ _ From.out fun hHeld => ?_; clear hK K; refine qN ?_; refine qA 3 (some 21) HT_ ?_; refine qO1 4 (some 8) HT_ fun K hK => ?_; refine qX0 8 #[.slice none 0 0, .int .i64 0, .slice none 0 0] 33 ?_; intro g4 ja4 u4 jb4 jc4; refine hK.out _ _ From.out fun hHeld => ?_; clear hK K; refine qN ?_; refine qS 5 HT_ fun hHeld => ?_; refine qD HT_ ?_)); rotate_left 1; (focus (refine qX0 8 #[.slice none 0 0, .int .i64 0, .slice none 0 0] 33 ?_; intro g4 ja4 u4 jb4 jc4; refine hK.out _ _ From.out fun hHeld => ?_; clear hK K; refine qN ?_; refine qO1 2 (some 20) HT_ fun K hK => ?_; refine qM0 3 20 23 _ _ 12 8 Try.underlying23 info3 (by decide) (by decide) ?_; intro B2 b2 u2 j2 jb2; generalize List.replicate 12 (0 : Int) = y2 at h j2 ⊢; refine hK.out _ _ From.out fun hHeld => ?_; clear hK K; refine qN ?_; refine qA 3 (some 21) HT_ ?_; refine qS 5 HT_ fun hHeld => ?_; refine qD HT_ ?_)))); rotate_left 2; (focus (refine qM0 3 20 23 _ _ 12 8 Try.underlying23 info3 (by decide) (by decide) ?_; intro B2 b2 u2 j2 jb2; generalize List.replicate 12 (0 : Int) = y2 at h j2 ⊢; refine hK.out _ _ From.out fun hHeld => ?_; clear hK K; refine qN ?_; refine qO2 1 4 (some 19) (some 8) HT_ (fun K hK => ?_) (fun K hK => ?_); (focus (refine goes_ Try.func110 (by kernel_rfl) rfl _ (by rfl) rfl rfl (by (try simp only [List.map_toArray, List.map_cons, List.map_nil]); rfl) ?_; refine (spec_l19Copy.calls _ _ _ _ _ Rd.out LeI.out A1).mono ?_; rintro e u1 ⟨v0, rfl, ho0, hb⟩; obtain ⟨B0, b0, rfl⟩ := Kd.R_slice ho0; have j0 := RowE.mk ho0; have q0 := LeI.mk (rowLe j0); have jb := Bel.mk hb; (try clear ho0 hb); refine ⟨_, rfl, hK.out _ _ From.out fun hHeld => ?_⟩; clear hK K; refine qN ?_; refine qA 3 (some 21) HT_ ?_; refine qO1 4 (some 8) HT_ fun K hK => ?_; refine qX0 8 #[.slice none 0 0, .int .i64 0, .slice none 0 0] 33 ?_; intro g4 ja4 u4 jb4 jc4; refine hK.out _ _ From.out fun hHeld => ?_; clear hK K; refine qN ?_; refine qS 5 HT_ fun hHeld => ?_; refine qD HT_ ?_)); rotate_left 1; (focus (refine qX0 8 #[.slice none 0 0, .int .i64 0, .slice none 0 0] 33 ?_; intro g4 ja4 u4 jb4 jc4; refine hK.out _ _ From.out fun hHeld => ?_; clear hK K; refine qN ?_; refine qO1 1 (some 19) HT_ fun K hK => ?_; refine goes_ Try.func110 (by kernel_rfl) rfl _ (by rfl) rfl rfl (by (try simp only [List.map_toArray, List.map_cons, List.map_nil]); rfl) ?_; refine (spec_l19Copy.calls _ _ _ _ _ Rd.out LeI.out A1).mono ?_; rintro e u1 ⟨v0, rfl, ho0, hb⟩; obtain ⟨B0, b0, rfl⟩ := Kd.R_slice ho0; have j0 := RowE.mk ho0; have q0 := LeI.mk (rowLe j0); have jb := Bel.mk hb; (try clear ho0 hb); refine ⟨_, rfl, hK.out _ _ From.out fun hHeld => ?_⟩; clear hK K; refine qN ?_; refine qA 3 (some 21) HT_ ?_; refine qS 5 HT_ fun hHeld => ?_; refine qD HT_ ?_)))); rotate_left 2; (focus (refine qX0 8 #[.slice none 0 0, .int .i64 0, .slice none 0 0] 33 ?_; intro g4 ja4 u4 jb4 jc4; refine hK.out _ _ From.out fun hHeld => ?_; clear hK K; refine qN ?_; refine qO2 1 2 (some 19) (some 20) HT_ (fun K hK => ?_) (fun K hK => ?_); (focus (refine goes_ Try.func110 (by kernel_rfl) rfl _ (by rfl) rfl rfl (by (try simp only [List.map_toArray, List.map_cons, List.map_nil]); rfl) ?_; refine (spec_l19Copy.calls _ _ _ _ _ Rd.out LeI.out A1).mono ?_; rintro e u1 ⟨v0, rfl, ho0, hb⟩; obtain ⟨B0, b0, rfl⟩ := Kd.R_slice ho0; have j0 := RowE.mk ho0; have q0 := LeI.mk (rowLe j0); have jb := Bel.mk hb; (try clear ho0 hb); refine ⟨_, rfl, hK.out _ _ From.out fun hHeld => ?_⟩; clear hK K; refine qN ?_; refine qO1 2 (some 20) HT_ fun K hK => ?_; refine qM0 3 20 23 _ _ 12 8 Try.underlying23 info3 (by decide) (by decide) ?_; intro B2 b2 u2 j2 jb2; generalize List.replicate 12 (0 : Int) = y2 at h j2 ⊢; refine hK.out _ _ From.out fun hHeld => ?_; clear hK K; refine qN ?_; refine qA 3 (some 21) HT_ ?_; refine qS 5 HT_ fun hHeld => ?_; refine qD HT_ ?_)); rotate_left 1; (focus (refine qM0 3 20 23 _ _ 12 8 Try.underlying23 info3 (by decide) (by decide) ?_; intro B2 b2 u2 j2 jb2; generalize List.replicate 12 (0 : Int) = y2 at h j2 ⊢; refine hK.out _ _ From.out fun hHeld => ?_; clear hK K; refine qN ?_; refine qO1 1 (some 19) HT_ fun K hK => ?_; refine goes_ Try.func110 (by kernel_rfl) rfl _ (by rfl) rfl rfl (by (try simp only [List.map_toArray, List.map_cons, List.map_nil]); rfl) ?_; refine (spec_l19Copy.calls _ _ _ _ _ Rd.out LeI.out A1).mono ?_; rintro e u1 ⟨v0, rfl, ho0, hb⟩; obtain ⟨B0, b0, rfl⟩ := Kd.R_slice ho0; have j0 := RowE.mk ho0; have q0 := LeI.mk (rowLe j0); have jb := Bel.mk hb; (try clear ho0 hb); refine ⟨_, rfl, hK.out _ _ From.out fun hHeld => ?_⟩; clear hK K; refine qN ?_; refine qA 3 (some 21) HT_ ?_; refine qS 5 HT_ fun hHeld => ?_; refine qD HT_ ?_)))); all_goals ((try simp only [Option.bind_some] at h); (repeat' first | ((with_reducible replace h := ite_some h); rcases h with ⟨hc, h⟩ | ⟨hc, h⟩ <;> first | exact (none_some h).elim | exact absurd hc (by decide) | subst hc | (replace hc := Bool.eq_false_iff.mpr hc; subst hc) | (replace hc := (Bool.not_eq_true' _).mp hc; subst hc) | (replace hc := (Bool.not_eq_false' _).mp (Bool.eq_false_iff.mpr hc); subst hc) | (have hd : (_ == _) = true := hc) | (have hd : (_ == _) = false := Bool.eq_false_iff.mpr hc) | (have hd := beq_iff_eq.mpr hc; have he := bne_eq_false_iff_eq.mpr hc; clear hc) | (have hd := beq_eq_false_iff_ne.mpr hc; have he := bne_iff_ne.mpr hc) | (have hd := decide_eq_false hc) | (have hd := decide_eq_true hc; (try (have hn := Int.natCast_pos.mp hc; have hm := decide_eq_true hn; replace hn := eq_true hn)); first | (obtain ⟨g_, e_, i_⟩ := form_ (by assumption) (by first | assumption | decide) hc; cases e_) | (obtain ⟨a_, e_, c_⟩ := atI_ (by assumption) (by first | assumption | decide) hc; cases e_)) | (have hd := decide_eq_true hc) | skip) | ((with_reducible replace h := bind_set_ h); obtain ⟨hl_, h⟩ := h; replace hl_ := A_ hl_; (try dsimp only at h))))))
 all_goals (repeat' first | ((with_reducible replace h := ite_some h); rcases h with ⟨hc, h⟩ | ⟨hc, h⟩ <;> first | exact (none_some h).elim | exact absurd hc (by decide) | subst hc | (replace hc := Bool.eq_false_iff.mpr hc; subst hc) | (replace hc := (Bool.not_eq_true' _).mp hc; subst hc) | (replace hc := (Bool.not_eq_false' _).mp (Bool.eq_false_iff.mpr hc); subst hc) | (have hd : (_ == _) = true := hc) | (have hd : (_ == _) = false := Bool.eq_false_iff.mpr hc) | (have hd := beq_iff_eq.mpr hc; have he := bne_eq_false_iff_eq.mpr hc; clear hc) | (have hd := beq_eq_false_iff_ne.mpr hc; have he := bne_iff_ne.mpr hc) | (have hd := decide_eq_false hc) | (have hd := decide_eq_true hc; (try (have hn := Int.natCast_pos.mp hc; have hm := decide_eq_true hn; replace hn := eq_true hn)); first | (obtain ⟨g_, e_, i_⟩ := form_ (by assumption) (by first | assumption | decide) hc; cases e_) | (obtain ⟨a_, e_, c_⟩ := atI_ (by assumption) (by first | assumption | decide) hc; cases e_)) | (have hd := decide_eq_true hc) | skip) | ((with_reducible replace h := bind_set_ h); obtain ⟨hl_, h⟩ := h; replace hl_ := A_ hl_; (try dsimp only at h)))
 all_goals simp only [Option.some.injEq, Prod.mk.injEq] at h
 all_goals obtain ⟨rfl, rfl, rfl, rfl⟩ := h
 all_goals refine bodyPost_ret (results_ct rfl _ _ _ _ _ (0, 0) _ rfl Blk.out Try.underlying33 rfl (by kernel_rfl)) rfl ?_
 all_goals exact ⟨_, _, rfl, (by first | exact rowFin | exact Kd.R_nil _ _ _ _ _ | exact atFin | exact irowFin' (by simp)), (by first | exact rowFin | exact Kd.R_nil _ _ _ _ _ | exact atFin | exact irowFin' (by simp)), From.out⟩
end Go.Proofs.Ytbkkpllejgedcaa.P


namespace Go.Proofs.Ytbkkpllejgedcaa.P
open Go.RowKit Go.Proofs.YtbkkpllejgedcaaW.PrintWords Go.Proofs.YtbkkpllejgedcaaW.PrintLast Go.Proofs.YtbkkpllejgedcaaW.PrintMore Go.Proofs.Ytbkkpllejgedcaa.V
attribute [local go_sem] cell_b frozen_b
attribute [local go_sem] max2_int min2_int max_two min_two max_three min_three max_four min_four
set_option linter.unusedVariables false
set_option linter.unusedSimpArgs false
def spec_NewShop.f (k : Nat) (a0 : Int) (l1 : List (S96)) : Option ((List (S96)) × Int × List Int × Int × Int × (List (S74)) × Bool) := (spec_NewWork.f k a0 l1).bind fun bt351 => (if bt351.2.2.2 = true then (some (bt351.1, bt351.2.1, bt351.2.2.1, 15, 0, ([] : List (S74)), true)) else (some (([] : List (S96)), 0, ([] : List Int), 0, 0, ([] : List (S74)), false)))
set_option maxHeartbeats 8000000 in
set_option maxRecDepth 100000 in
set_option synthInstance.maxHeartbeats 400000 in
set_option synthInstance.maxSize 100000 in
theorem spec_NewShop.calls (k : Nat) (a0 : Int) (A1 : Option Addr) (c1 : Nat) (l1 : List (S96)) (r1 : List (S96)) (r2 : Int) (r3 : List Int) (r4 : Int) (r5 : Int) (r6 : List (S74)) (r7 : Bool) (w : World) (hr1 : Kd.C k96 w A1 l1.length l1) (hc1 : l1.length ≤ c1) (h : spec_NewShop.f k a0 l1 = some (r1, r2, r3, r4, r5, r6, r7)) :
  Calls Try.prog 23 #[.int .i64 a0, .slice A1 l1.length c1] w fun e w' => ∃ v0_ v2_ v5_ : Value, e = .returned (.tuple #[.agg #[v0_, .int .i64 r2, v2_, .int .i64 r4, .int .i64 r5, v5_], .bool r7]) ∧ Kd.R k96 96 w' w.heap.size (fun _ => True) v0_ r1 ∧ Kd.R (Kd.int .i64) 3 w' w.heap.size (fun _ => True) v2_ r3 ∧ Kd.R k74 74 w' w.heap.size (fun _ => True) v5_ r6 ∧ Below w.heap.size w w' := by
 have ihr1 := RdE.mk hr1
 have ihc1 := LeI.mk hc1
 clear hr1 hc1
 unfold spec_NewShop.f at h
 have hu33 := Try.underlying33
 have hu36 := Try.underlying36
 (repeat' first | ((with_reducible replace h := ite_some h); rcases h with ⟨hc, h⟩ | ⟨hc, h⟩ <;> first | exact (none_some h).elim | exact absurd hc (by decide) | subst hc | (replace hc := Bool.eq_false_iff.mpr hc; subst hc) | (have hd := beq_iff_eq.mpr hc; have he := bne_eq_false_iff_eq.mpr hc; clear hc) | (have hd := beq_eq_false_iff_ne.mpr hc; have he := bne_iff_ne.mpr hc) | (have hd := decide_eq_false hc) | (have hd := decide_eq_true hc) | skip))
 all_goals go_enter Try.func23, Try.ntmps23
 all_goals go_wp2_with (first
  | ((with_reducible refine gate_dst (N := 4) rfl ?_); refine box_event rfl (N := 4) rfl (cs := #[.slice none 0 0, .int .i64 0, .slice none 0 0, .int .i64 0, .int .i64 0, .slice none 0 0]) (t := 36) (by first | (go_simp; done) | (go_simp; rfl)) ?_; intro g hg w1 hk hb; have j1 := Born.mk hg; have j2 := Bel.mk hb; have j3 := Blk.mk hk; clear hg hb hk)
  | ((with_reducible refine gate_dst (N := 6) rfl ?_); refine box_event rfl (N := 6) rfl (cs := #[.slice none 0 0, .int .i64 0, .slice none 0 0]) (t := 33) (by first | (go_simp; done) | (go_simp; rfl)) ?_; intro g hg w1 hk hb; have j1 := Born.mk hg; have j2 := Bel.mk hb; have j3 := Blk.mk hk; clear hg hb hk)
  | (go_at_call 73; replace h := Option.bind_eq_some_iff.mp h; obtain ⟨⟨t1, t2, t3, t4⟩, A, h⟩ := h; (try dsimp only at h); refine (spec_NewWork.calls _ _ _ _ _ _ _ _ _ _ Rd.out LeI.out A).mono ?_; rintro e w2 ⟨v0, v1, rfl, ho0, ho1, hb⟩; obtain ⟨B0, b0, rfl⟩ := Kd.R_slice ho0; have j0 := RowE.mk ho0; have q0 := LeI.mk (rowLe j0); obtain ⟨B1, b1, rfl⟩ := Kd.R_slice ho1; have j1 := RowE.mk ho1; have q1 := LeI.mk (rowLe j1); have jb := Bel.mk hb; clear A ho0 ho1 hb; (repeat' first | ((with_reducible replace h := ite_some h); rcases h with ⟨hc, h⟩ | ⟨hc, h⟩ <;> first | exact (none_some h).elim | exact absurd hc (by decide) | subst hc | (replace hc := Bool.eq_false_iff.mpr hc; subst hc) | (have hd := beq_iff_eq.mpr hc; have he := bne_eq_false_iff_eq.mpr hc; clear hc) | (have hd := beq_eq_false_iff_ne.mpr hc; have he := bne_iff_ne.mpr hc) | (have hd := decide_eq_false hc) | (have hd := decide_eq_true hc) | skip))))
 all_goals (repeat' first | ((with_reducible replace h := ite_some h); rcases h with ⟨hc, h⟩ | ⟨hc, h⟩ <;> first | exact (none_some h).elim | exact absurd hc (by decide) | subst hc | (replace hc := Bool.eq_false_iff.mpr hc; subst hc) | (have hd := beq_iff_eq.mpr hc; have he := bne_eq_false_iff_eq.mpr hc; clear hc) | (have hd := beq_eq_false_iff_ne.mpr hc; have he := bne_iff_ne.mpr hc) | (have hd := decide_eq_false hc) | (have hd := decide_eq_true hc) | skip))
 all_goals simp only [Option.some.injEq, Prod.mk.injEq] at h
 all_goals obtain ⟨rfl, rfl, rfl, rfl, rfl, rfl, rfl⟩ := h
 all_goals refine bodyPost_ret (results_ct rfl _ _ _ _ _ (0, 0) _ rfl Blk.out Try.underlying36 rfl (by kernel_rfl)) rfl ?_
 all_goals exact ⟨_, _, _, rfl, (by first | exact rowFin | exact Kd.R_nil _ _ _ _ _), (by first | exact rowFin | exact Kd.R_nil _ _ _ _ _), (by first | exact rowFin | exact Kd.R_nil _ _ _ _ _), From.out⟩
end Go.Proofs.Ytbkkpllejgedcaa.P


namespace Go.Proofs.Ytbkkpllejgedcaa.P
open Go.RowKit Go.Proofs.YtbkkpllejgedcaaW.PrintWords Go.Proofs.YtbkkpllejgedcaaW.PrintLast Go.Proofs.YtbkkpllejgedcaaW.PrintMore
attribute [local go_sem] max2_int min2_int max_two min_two max_three min_three max_four min_four
set_option linter.unusedVariables false
set_option linter.unusedSimpArgs false
def spec_l20Step.l0 : Nat → List (S96) → Int → Int → Option (Int)
 | 0, _, _, _ => none
 | k + 1, x0, x1, x5 => if x5 < (x0.length : Int) then (if 0 ≤ x5 then (if ((rd_T96 x0 x5).f1) = x1 then (some x5) else (spec_l20Step.l0 k x0 x1 (wrap64 (x5 + 1)))) else (none)) else (some (-1))
def spec_l20Step.f (k : Nat) (l0 : List (S96)) (a1 : Int) : Option (Int) := spec_l20Step.l0 k l0 a1 0
set_option maxHeartbeats 8000000 in
set_option maxRecDepth 100000 in
theorem spec_l20Step.calls (k : Nat) (A0 : Option Addr) (c0 : Nat) (l0 : List (S96)) (a1 : Int) (r : Int) (w : World) (hr0 : Kd.C k96 w A0 l0.length l0) (hc0 : l0.length ≤ c0) (h : spec_l20Step.f k l0 a1 = some r) :
  Calls Try.prog 102 #[.slice A0 l0.length c0, .int .i64 a1] w fun e w' => e = .returned (.int .i64 r) ∧ Drawn0 w w' := by
 have HR0 := A_ hr0
 have HC0 := A_ hc0
 clear hr0 hc0
 have H : (spec_l20Step.l0 k l0 a1 0) = some r := h
 clear h
 have H' := A_ H
 clear H
 go_enter Try.func102, Try.ntmps102
 go_wp2
 go_loopg [5] k (fun kq v5 w' => ∃ (x5_1 : Int), v5 = .int .i64 x5_1 ∧ Aside0 (spec_l20Step.l0 kq l0 a1 x5_1 = some r) ∧ Aside0 (kq ≤ k) ∧ Drawn0 w w')
 case atStart => exact ⟨(0), (by first | rfl | (simp; done) | (simp [*]; done)), H', ⟨Nat.le_refl _⟩, by repeat (first | exact Drawn0.refl _ | apply Drawn0.step)⟩
 case round =>
  clear H'
  try clear c1
  try clear p2
  obtain ⟨x5_1, rfl, HA, HK1, ⟨m1, rfl⟩⟩ := hrel
  cases gk with
  | zero => exact absurd HA.out (by simp [spec_l20Step.l0])
  | succ k1 =>
   have H := HA.out
   clear HA
   simp only [spec_l20Step.l0] at H
   by_cases c3 : x5_1 < (l0.length : Int)
   ·rw [if_pos c3] at H
    have c3b0 : decide (x5_1 < (l0.length : Int)) = true := decide_eq_true c3
    clear c3
    by_cases c4 : 0 ≤ x5_1
    ·rw [if_pos c4] at H
     have c4b0 : decide (0 ≤ x5_1) = true := decide_eq_true c4
     clear c4
     by_cases c5 : ((rd_T96 l0 x5_1).f1) = a1
     ·rw [if_pos c5] at H
      have c5b0 : (((rd_T96 l0 x5_1).f1) == a1) = true := beq_iff_eq.mpr c5
      have c5b1 : (((rd_T96 l0 x5_1).f1) != a1) = false := bne_eq_false_iff_eq.mpr c5
      clear c5
      obtain rfl := Option.some.inj H
      have p107 : 0 ≤ (x5_1 : Int) := of_decide_eq_true (by first | (with_reducible assumption) | assumption)
      have q107 : x5_1 < (l0.length : Int) := of_decide_eq_true (by first | (with_reducible assumption) | assumption)
      obtain ⟨ad107, e107, hx107_0, hx107_1, hx107_2, hx107_3⟩ := at_T96 HR0.out x5_1 p107 q107
      cases e107
      replace p107 := eq_true p107
      replace q107 := eq_true q107
      go_wp2
      go_ret
      exact ⟨by first | rfl | (simp; done) | (simp [*]; done), by repeat (first | exact Drawn0.refl _ | apply Drawn0.step)⟩
     ·rw [if_neg c5] at H
      have c5b0 : (((rd_T96 l0 x5_1).f1) == a1) = false := beq_eq_false_iff_ne.mpr c5
      have c5b1 : (((rd_T96 l0 x5_1).f1) != a1) = true := bne_iff_ne.mpr c5
      have H' := A_ H
      clear H
      have p107 : 0 ≤ (x5_1 : Int) := of_decide_eq_true (by first | (with_reducible assumption) | assumption)
      have q107 : x5_1 < (l0.length : Int) := of_decide_eq_true (by first | (with_reducible assumption) | assumption)
      obtain ⟨ad107, e107, hx107_0, hx107_1, hx107_2, hx107_3⟩ := at_T96 HR0.out x5_1 p107 q107
      cases e107
      replace p107 := eq_true p107
      replace q107 := eq_true q107
      go_wp2
      go_roundg k1
      case measure => have := HK1.out; omega
      case rel => exact ⟨(wrap64 (x5_1 + 1)), (by first | rfl | (simp; done) | (simp [*]; done)), H', ⟨by have := HK1.out; omega⟩, by repeat (first | exact Drawn0.refl _ | apply Drawn0.step)⟩
    ·rw [if_neg c4] at H
     exact absurd H (by simp)
   ·rw [if_neg c3] at H
    have c3b0 : decide (x5_1 < (l0.length : Int)) = false := decide_eq_false c3
    clear c3
    obtain rfl := Option.some.inj H
    go_wp2
    go_ret
    exact ⟨by first | rfl | (simp; done) | (simp [*]; done), by repeat (first | exact Drawn0.refl _ | apply Drawn0.step)⟩
end Go.Proofs.Ytbkkpllejgedcaa.P


namespace Go.Proofs.Ytbkkpllejgedcaa.P
open Go.RowKit Go.Proofs.YtbkkpllejgedcaaW.PrintWords Go.Proofs.YtbkkpllejgedcaaW.PrintLast Go.Proofs.YtbkkpllejgedcaaW.PrintMore
attribute [local go_sem] max2_int min2_int max_two min_two max_three min_three max_four min_four
set_option linter.unusedVariables false
set_option linter.unusedSimpArgs false
mutual
def spec_WorkOk.j0 : Nat → Bool → List (S96) → Int → List Int → Option (Bool)
 | 0, _, _, _, _ => none
 | k + 1, x24, x110000, x110001, x110002 => if x24 = true then (some false) else (spec_WorkOk.l0 k 0 x110000 x110001 x110002)
def spec_WorkOk.l0 : Nat → Int → List (S96) → Int → List Int → Option (Bool)
 | 0, _, _, _, _ => none
 | k + 1, x3, x110000, x110001, x110002 => if x3 < 12 then ((spec_l20Step.f k x110000 x3).bind fun t112 => (if x3 = 0 then (if 0 ≤ x3 then (if x3 < (x110002.length : Int) then ((spec_l18Pitch.f (rd x110002 x3)).bind fun t114 => (if t114 = true then (spec_WorkOk.l0 k (wrap64 (x3 + 1)) x110000 x110001 x110002) else (some false))) else (none)) else (none)) else (if t112 ≥ 0 then (if t112 < x110001 then (if 0 ≤ x3 then (if x3 < (x110002.length : Int) then ((spec_l18Pitch.f (rd x110002 x3)).bind fun t116 => (if t116 = true then (spec_WorkOk.l0 k (wrap64 (x3 + 1)) x110000 x110001 x110002) else (some false))) else (none)) else (none)) else (if 0 ≤ x3 then (if x3 < (x110002.length : Int) then (if (rd x110002 x3) = 0 then (spec_WorkOk.l0 k (wrap64 (x3 + 1)) x110000 x110001 x110002) else (some false)) else (none)) else (none))) else (if 0 ≤ x3 then (if x3 < (x110002.length : Int) then (if (rd x110002 x3) = 0 then (spec_WorkOk.l0 k (wrap64 (x3 + 1)) x110000 x110001 x110002) else (some false)) else (none)) else (none))))) else (some true)
end
def spec_WorkOk.f (k : Nat) (l0_0 : List (S96)) (a0_1 : Int) (l0_2 : List Int) : Option (Bool) := (spec_PlanOk.f l0_0).bind fun t110 => (if t110 = true then ((spec_l01In.f a0_1 0 (l0_0.length : Int)).bind fun t111 => (if t111 = true then (spec_WorkOk.j0 k ((l0_2.length : Int) != 12) l0_0 a0_1 l0_2) else (spec_WorkOk.j0 k true l0_0 a0_1 l0_2))) else (spec_WorkOk.j0 k true l0_0 a0_1 l0_2))
set_option maxHeartbeats 8000000 in
set_option maxRecDepth 100000 in
theorem spec_WorkOk.calls (k : Nat) (A0_0 : Option Addr) (c0_0 : Nat) (l0_0 : List (S96)) (a0_1 : Int) (A0_2 : Option Addr) (c0_2 : Nat) (l0_2 : List Int) (r : Bool) (w : World) (hr0_0 : Kd.C k96 w A0_0 l0_0.length l0_0) (hc0_0 : l0_0.length ≤ c0_0) (hr0_2 : Kd.C (Kd.int .i64) w A0_2 l0_2.length l0_2) (hc0_2 : l0_2.length ≤ c0_2) (h : spec_WorkOk.f k l0_0 a0_1 l0_2 = some r) :
  Calls Try.prog 60 #[.agg #[.slice A0_0 l0_0.length c0_0, .int .i64 a0_1, .slice A0_2 l0_2.length c0_2]] w fun e w' => e = .returned (.bool r) ∧ Below w.heap.size w w' := by
 have hu33 := Try.underlying33
 have HR0_0 := A_ hr0_0
 have HC0_0 := A_ hc0_0
 clear hr0_0 hc0_0
 have HR0_2 := A_ hr0_2
 have HC0_2 := A_ hc0_2
 clear hr0_2 hc0_2
 have HB := A_ (Below.refl w.heap.size w)
 have H : ((spec_PlanOk.f l0_0).bind fun t110 => (if t110 = true then ((spec_l01In.f a0_1 0 (l0_0.length : Int)).bind fun t111 => (if t111 = true then (spec_WorkOk.j0 k ((l0_2.length : Int) != 12) l0_0 a0_1 l0_2) else (spec_WorkOk.j0 k true l0_0 a0_1 l0_2))) else (spec_WorkOk.j0 k true l0_0 a0_1 l0_2))) = some r := h
 clear h
 have HC2 := A_ H
 clear H
 go_enter Try.func60, Try.ntmps60
 go_upto_region 1 with (first | ((with_reducible refine gate_dst (N := 1) rfl ?_); (try (refine gate_guard (by rfl) ?_; dsimp only)); refine bX (N := 1) (cs := #[.slice A0_0 l0_0.length c0_0, .int .i64 a0_1, .slice A0_2 l0_2.length c0_2]) (t := 33) ?_; intro gb109 hg w3 hbox hb; have n0_ := A_ (below_step (oB HB) hb); have n1_ := A_ (hbox); have n2_ := A_ ((by rw [hg]; exact (below_size (oB HB)) : w.heap.size ≤ gb109)); have n3_ := A_ ((by rw [hg]; exact (below_size (oB HB)) : w.heap.size ≤ gb109)); clear HB; have HB := n0_; have BK109 := n1_; have GW109 := n2_; have GE109 := n3_; clear n0_ n1_ n2_ n3_; clear hb hbox hg))
 (try simp only [Act.put, List.setIfInBounds_toArray, List.set_cons_zero, List.set_cons_succ])
 go_cut [24] (fun v24 wc => ∃ (kq : Nat) (x24_1 : Bool), v24 = .bool x24_1 ∧ Aside0 (spec_WorkOk.j0 kq x24_1 l0_0 a0_1 l0_2 = some r) ∧ Aside0 (kq ≤ k) ∧ Aside0 (wc.heap[gb109]? = some (.cells #[(.slice A0_0 l0_0.length c0_0), .int .i64 a0_1, (.slice A0_2 l0_2.length c0_2)] 33 (0, 0))) ∧ Aside0 (Below w.heap.size w wc))
 case first =>
  have H := HC2.out
  clear HC2
  replace H := Option.bind_eq_some_iff.mp H
  obtain ⟨t110, A40, H⟩ := H
  (try dsimp only at H)
  have A4 := A_ A40
  clear A40
  by_cases c5 : t110 = true
  ·subst c5
   rw [if_pos rfl] at H
   replace H := Option.bind_eq_some_iff.mp H
   obtain ⟨t111, A60, H⟩ := H
   (try dsimp only at H)
   have A6 := A_ A60
   clear A60
   by_cases c7 : t111 = true
   ·subst c7
    rw [if_pos rfl] at H
    have H' := A_ H
    clear H
    have hcz8_0 := cz BK109 0
    have hcz8_1 := cz BK109 1
    have hcz8_2 := cz BK109 2
    have hfz8_0 := blk_frozen BK109.out 0
    have hfz8_1 := blk_frozen BK109.out 1
    have hfz8_2 := blk_frozen BK109.out 2
    go_wp2_with (first | ((with_reducible refine gate_callee (f := 101) rfl ?_); refine gL (some 8) Try.func101 #[.slice A0_0 l0_0.length c0_0] ?_; (with_reducible refine (spec_PlanOk.calls _ _ l0_0 true _ ?side1 ?side2 A4.out).mono ?_); (case side1 => exact oc_ HR0_0.out); (case side2 => exact HC0_0.out); rintro e w9 ⟨rfl, hb⟩; refine ⟨_, rfl, ?_⟩; have n0_ := A_ (bb BK109 hb); have n1_ := A_ (below_step (oB HB) hb); clear BK109; clear HB; have BK109 := n0_; have HB := n1_; clear n0_ n1_; (try clear hb); (try clear hb2); (try clear hk); (try clear hi); have hcz10_0 := cz BK109 0; have hcz10_1 := cz BK109 1; have hcz10_2 := cz BK109 2; have hfz10_0 := blk_frozen BK109.out 0; have hfz10_1 := blk_frozen BK109.out 1; have hfz10_2 := blk_frozen BK109.out 2) | (go_at_call 62; (with_reducible refine (spec_l01In.calls a0_1 0 (l0_0.length : Int) true _ A6.out).mono ?_); rintro e w' ⟨rfl, ⟨nd, rfl⟩⟩))
    go_meet
    case rel => exact ⟨_, (((l0_2.length : Int) != 12)), (by first | rfl | (simp; done) | (simp [*]; done)), H', ⟨by first | omega | exact Nat.le_refl _⟩, ⟨oK BK109⟩, ⟨oB HB⟩⟩
   ·replace c7 := Bool.eq_false_iff.mpr c7
    subst c7
    rw [if_neg (show ¬ (false = true) by decide)] at H
    have H' := A_ H
    clear H
    have hcz11_0 := cz BK109 0
    have hcz11_1 := cz BK109 1
    have hcz11_2 := cz BK109 2
    have hfz11_0 := blk_frozen BK109.out 0
    have hfz11_1 := blk_frozen BK109.out 1
    have hfz11_2 := blk_frozen BK109.out 2
    go_wp2_with (first | ((with_reducible refine gate_callee (f := 101) rfl ?_); refine gL (some 8) Try.func101 #[.slice A0_0 l0_0.length c0_0] ?_; (with_reducible refine (spec_PlanOk.calls _ _ l0_0 true _ ?side1 ?side2 A4.out).mono ?_); (case side1 => exact oc_ HR0_0.out); (case side2 => exact HC0_0.out); rintro e w12 ⟨rfl, hb⟩; refine ⟨_, rfl, ?_⟩; have n0_ := A_ (bb BK109 hb); have n1_ := A_ (below_step (oB HB) hb); clear BK109; clear HB; have BK109 := n0_; have HB := n1_; clear n0_ n1_; (try clear hb); (try clear hb2); (try clear hk); (try clear hi); have hcz13_0 := cz BK109 0; have hcz13_1 := cz BK109 1; have hcz13_2 := cz BK109 2; have hfz13_0 := blk_frozen BK109.out 0; have hfz13_1 := blk_frozen BK109.out 1; have hfz13_2 := blk_frozen BK109.out 2) | (go_at_call 62; (with_reducible refine (spec_l01In.calls a0_1 0 (l0_0.length : Int) false _ A6.out).mono ?_); rintro e w' ⟨rfl, ⟨nd, rfl⟩⟩))
    go_meet
    case rel => exact ⟨_, (true), (by first | rfl | (simp; done) | (simp [*]; done)), H', ⟨by first | omega | exact Nat.le_refl _⟩, ⟨oK BK109⟩, ⟨oB HB⟩⟩
  ·replace c5 := Bool.eq_false_iff.mpr c5
   subst c5
   rw [if_neg (show ¬ (false = true) by decide)] at H
   have H' := A_ H
   clear H
   have hcz14_0 := cz BK109 0
   have hcz14_1 := cz BK109 1
   have hcz14_2 := cz BK109 2
   have hfz14_0 := blk_frozen BK109.out 0
   have hfz14_1 := blk_frozen BK109.out 1
   have hfz14_2 := blk_frozen BK109.out 2
   go_wp2_with (first | ((with_reducible refine gate_callee (f := 101) rfl ?_); refine gL (some 8) Try.func101 #[.slice A0_0 l0_0.length c0_0] ?_; (with_reducible refine (spec_PlanOk.calls _ _ l0_0 false _ ?side1 ?side2 A4.out).mono ?_); (case side1 => exact oc_ HR0_0.out); (case side2 => exact HC0_0.out); rintro e w15 ⟨rfl, hb⟩; refine ⟨_, rfl, ?_⟩; have n0_ := A_ (bb BK109 hb); have n1_ := A_ (below_step (oB HB) hb); clear BK109; clear HB; have BK109 := n0_; have HB := n1_; clear n0_ n1_; (try clear hb); (try clear hb2); (try clear hk); (try clear hi)))
   go_meet
   case rel => exact ⟨_, (true), (by first | rfl | (simp; done) | (simp [*]; done)), H', ⟨by first | omega | exact Nat.le_refl _⟩, ⟨oK BK109⟩, ⟨oB HB⟩⟩
 case rest =>
  clear HC2
  try clear c1
  try clear p2
  try clear c5
  try clear c6
  try clear c7
  try clear c10
  try clear hcz10_0
  try clear hcz10_1
  try clear hcz10_2
  try clear hcz11_0
  try clear hcz11_1
  try clear hcz11_2
  try clear hcz13_0
  try clear hcz13_1
  try clear hcz13_2
  try clear hcz14_0
  try clear hcz14_1
  try clear hcz14_2
  try clear hcz8_0
  try clear hcz8_1
  try clear hcz8_2
  try clear hfz10_0
  try clear hfz10_1
  try clear hfz10_2
  try clear hfz11_0
  try clear hfz11_1
  try clear hfz11_2
  try clear hfz13_0
  try clear hfz13_1
  try clear hfz13_2
  try clear hfz14_0
  try clear hfz14_1
  try clear hfz14_2
  try clear hfz8_0
  try clear hfz8_1
  try clear hfz8_2
  obtain ⟨kq, x24_1, rfl, HA, HJ1, BK109, HB⟩ := hcut
  cases kq with
  | zero => exact absurd HA.out (by simp [spec_WorkOk.j0])
  | succ kj1 =>
   have H := HA.out
   clear HA
   simp only [spec_WorkOk.j0] at H
   by_cases c16 : x24_1 = true
   ·subst c16
    rw [if_pos rfl] at H
    obtain rfl := Option.some.inj H
    go_wp2
    go_ret
    exact ⟨eR, oB HB⟩
   ·replace c16 := Bool.eq_false_iff.mpr c16
    subst c16
    rw [if_neg (show ¬ (false = true) by decide)] at H
    have H' := A_ H
    clear H
    go_wp2
    go_loopg [3] kj1 (fun kq v3 w' => ∃ (x3_2 : Int), v3 = .int .i64 x3_2 ∧ Aside0 (spec_WorkOk.l0 kq x3_2 l0_0 a0_1 l0_2 = some r) ∧ Aside0 (kq ≤ kj1) ∧ Aside0 (w'.heap[gb109]? = some (.cells #[(.slice A0_0 l0_0.length c0_0), .int .i64 a0_1, (.slice A0_2 l0_2.length c0_2)] 33 (0, 0))) ∧ Aside0 (Below w.heap.size w w'))
    case atStart => exact ⟨(0), (by first | rfl | (simp; done) | (simp [*]; done)), H', ⟨Nat.le_refl _⟩, ⟨oK BK109⟩, ⟨oB HB⟩⟩
    case round =>
     clear H'
     try clear c1
     try clear p2
     try clear c5
     try clear c6
     try clear c7
     try clear c10
     try clear c16
     try clear hcz10_0
     try clear hcz10_1
     try clear hcz10_2
     try clear hcz11_0
     try clear hcz11_1
     try clear hcz11_2
     try clear hcz13_0
     try clear hcz13_1
     try clear hcz13_2
     try clear hcz14_0
     try clear hcz14_1
     try clear hcz14_2
     try clear hcz8_0
     try clear hcz8_1
     try clear hcz8_2
     try clear hfz10_0
     try clear hfz10_1
     try clear hfz10_2
     try clear hfz11_0
     try clear hfz11_1
     try clear hfz11_2
     try clear hfz13_0
     try clear hfz13_1
     try clear hfz13_2
     try clear hfz14_0
     try clear hfz14_1
     try clear hfz14_2
     try clear hfz8_0
     try clear hfz8_1
     try clear hfz8_2
     try clear p2
     obtain ⟨x3_2, rfl, HA, HK2, BK109, HB⟩ := hrel
     cases gk with
     | zero => exact absurd HA.out (by simp [spec_WorkOk.l0])
     | succ k2 =>
      have H := HA.out
      clear HA
      simp only [spec_WorkOk.l0] at H
      by_cases c17 : x3_2 < 12
      ·rw [if_pos c17] at H
       have c17b0 : decide (x3_2 < 12) = true := decide_eq_true c17
       clear c17
       replace H := Option.bind_eq_some_iff.mp H
       obtain ⟨t112, A180, H⟩ := H
       (try dsimp only at H)
       have A18 := A_ A180
       clear A180
       by_cases c19 : x3_2 = 0
       ·rw [if_pos c19] at H
        have c19b0 : (x3_2 == 0) = true := beq_iff_eq.mpr c19
        have c19b1 : (x3_2 != 0) = false := bne_eq_false_iff_eq.mpr c19
        clear c19
        by_cases c20 : 0 ≤ x3_2
        ·rw [if_pos c20] at H
         have c20b0 : decide (0 ≤ x3_2) = true := decide_eq_true c20
         clear c20
         by_cases c21 : x3_2 < (l0_2.length : Int)
         ·rw [if_pos c21] at H
          have c21b0 : decide (x3_2 < (l0_2.length : Int)) = true := decide_eq_true c21
          clear c21
          replace H := Option.bind_eq_some_iff.mp H
          obtain ⟨t114, A220, H⟩ := H
          (try dsimp only at H)
          have A22 := A_ A220
          clear A220
          by_cases c23 : t114 = true
          ·subst c23
           rw [if_pos rfl] at H
           have H' := A_ H
           clear H
           have hcz24_0 := cz BK109 0
           have hcz24_1 := cz BK109 1
           have hcz24_2 := cz BK109 2
           have hfz24_0 := blk_frozen BK109.out 0
           have hfz24_1 := blk_frozen BK109.out 1
           have hfz24_2 := blk_frozen BK109.out 2
           go_wp2_with (first | ((with_reducible refine gate_callee (f := 102) rfl ?_); refine gL (some 32) Try.func102 #[.slice A0_0 l0_0.length c0_0, .int .i64 x3_2] ?_; (with_reducible refine (spec_l20Step.calls k2 _ _ l0_0 x3_2 t112 _ ?side1 ?side2 A18.out).mono ?_); (case side1 => exact oc_ HR0_0.out); (case side2 => exact HC0_0.out); rintro e w' ⟨rfl, ⟨nd, rfl⟩⟩; refine ⟨_, rfl, ?_⟩; have p113 : 0 ≤ (x3_2 : Int) := of_decide_eq_true (by first | (with_reducible assumption) | assumption); have q113 : x3_2 < (l0_2.length : Int) := of_decide_eq_true (by first | (with_reducible assumption) | assumption); obtain ⟨ad113, e113, hx113_0⟩ := Kd.at_int HR0_2.out x3_2 p113 q113; cases e113; replace hx113_0 := (HB.out.cell (World.block_lt_of_cell? w _ hx113_0)).trans hx113_0; replace p113 := eq_true p113; replace q113 := eq_true q113) | (go_at_call 103; (with_reducible refine (spec_l18Pitch.calls (rd l0_2 x3_2) true _ A22.out).mono ?_); rintro e w' ⟨rfl, ⟨nd, rfl⟩⟩))
           go_roundg k2
           case measure => have := HJ1.out; have := HK2.out; omega
           case rel => exact ⟨(wrap64 (x3_2 + 1)), (by first | rfl | (simp; done) | (simp [*]; done)), H', ⟨by have := HJ1.out; have := HK2.out; omega⟩, ⟨oK BK109⟩, ⟨oB HB⟩⟩
          ·replace c23 := Bool.eq_false_iff.mpr c23
           subst c23
           rw [if_neg (show ¬ (false = true) by decide)] at H
           obtain rfl := Option.some.inj H
           have hcz25_0 := cz BK109 0
           have hcz25_1 := cz BK109 1
           have hcz25_2 := cz BK109 2
           have hfz25_0 := blk_frozen BK109.out 0
           have hfz25_1 := blk_frozen BK109.out 1
           have hfz25_2 := blk_frozen BK109.out 2
           go_wp2_with (first | ((with_reducible refine gate_callee (f := 102) rfl ?_); refine gL (some 32) Try.func102 #[.slice A0_0 l0_0.length c0_0, .int .i64 x3_2] ?_; (with_reducible refine (spec_l20Step.calls k2 _ _ l0_0 x3_2 t112 _ ?side1 ?side2 A18.out).mono ?_); (case side1 => exact oc_ HR0_0.out); (case side2 => exact HC0_0.out); rintro e w' ⟨rfl, ⟨nd, rfl⟩⟩; refine ⟨_, rfl, ?_⟩; have p113 : 0 ≤ (x3_2 : Int) := of_decide_eq_true (by first | (with_reducible assumption) | assumption); have q113 : x3_2 < (l0_2.length : Int) := of_decide_eq_true (by first | (with_reducible assumption) | assumption); obtain ⟨ad113, e113, hx113_0⟩ := Kd.at_int HR0_2.out x3_2 p113 q113; cases e113; replace hx113_0 := (HB.out.cell (World.block_lt_of_cell? w _ hx113_0)).trans hx113_0; replace p113 := eq_true p113; replace q113 := eq_true q113) | (go_at_call 103; (with_reducible refine (spec_l18Pitch.calls (rd l0_2 x3_2) false _ A22.out).mono ?_); rintro e w' ⟨rfl, ⟨nd, rfl⟩⟩))
           go_ret
           exact ⟨eR, oB HB⟩
         ·rw [if_neg c21] at H
          exact absurd H (by simp)
        ·rw [if_neg c20] at H
         exact absurd H (by simp)
       ·rw [if_neg c19] at H
        have c19b0 : (x3_2 == 0) = false := beq_eq_false_iff_ne.mpr c19
        have c19b1 : (x3_2 != 0) = true := bne_iff_ne.mpr c19
        by_cases c26 : t112 ≥ 0
        ·rw [if_pos c26] at H
         have c26b0 : decide (0 ≤ t112) = true := decide_eq_true c26
         clear c26
         by_cases c27 : t112 < a0_1
         ·rw [if_pos c27] at H
          have c27b0 : decide (t112 < a0_1) = true := decide_eq_true c27
          clear c27
          by_cases c28 : 0 ≤ x3_2
          ·rw [if_pos c28] at H
           have c28b0 : decide (0 ≤ x3_2) = true := decide_eq_true c28
           clear c28
           by_cases c29 : x3_2 < (l0_2.length : Int)
           ·rw [if_pos c29] at H
            have c29b0 : decide (x3_2 < (l0_2.length : Int)) = true := decide_eq_true c29
            clear c29
            replace H := Option.bind_eq_some_iff.mp H
            obtain ⟨t116, A300, H⟩ := H
            (try dsimp only at H)
            have A30 := A_ A300
            clear A300
            by_cases c31 : t116 = true
            ·subst c31
             rw [if_pos rfl] at H
             have H' := A_ H
             clear H
             have hcz32_0 := cz BK109 0
             have hcz32_1 := cz BK109 1
             have hcz32_2 := cz BK109 2
             have hfz32_0 := blk_frozen BK109.out 0
             have hfz32_1 := blk_frozen BK109.out 1
             have hfz32_2 := blk_frozen BK109.out 2
             go_wp2_with (first | ((with_reducible refine gate_callee (f := 102) rfl ?_); refine gL (some 32) Try.func102 #[.slice A0_0 l0_0.length c0_0, .int .i64 x3_2] ?_; (with_reducible refine (spec_l20Step.calls k2 _ _ l0_0 x3_2 t112 _ ?side1 ?side2 A18.out).mono ?_); (case side1 => exact oc_ HR0_0.out); (case side2 => exact HC0_0.out); rintro e w' ⟨rfl, ⟨nd, rfl⟩⟩; refine ⟨_, rfl, ?_⟩; have p115 : 0 ≤ (x3_2 : Int) := of_decide_eq_true (by first | (with_reducible assumption) | assumption); have q115 : x3_2 < (l0_2.length : Int) := of_decide_eq_true (by first | (with_reducible assumption) | assumption); obtain ⟨ad115, e115, hx115_0⟩ := Kd.at_int HR0_2.out x3_2 p115 q115; cases e115; replace hx115_0 := (HB.out.cell (World.block_lt_of_cell? w _ hx115_0)).trans hx115_0; replace p115 := eq_true p115; replace q115 := eq_true q115) | (go_at_call 103; (with_reducible refine (spec_l18Pitch.calls (rd l0_2 x3_2) true _ A30.out).mono ?_); rintro e w' ⟨rfl, ⟨nd, rfl⟩⟩))
             go_roundg k2
             case measure => have := HJ1.out; have := HK2.out; omega
             case rel => exact ⟨(wrap64 (x3_2 + 1)), (by first | rfl | (simp; done) | (simp [*]; done)), H', ⟨by have := HJ1.out; have := HK2.out; omega⟩, ⟨oK BK109⟩, ⟨oB HB⟩⟩
            ·replace c31 := Bool.eq_false_iff.mpr c31
             subst c31
             rw [if_neg (show ¬ (false = true) by decide)] at H
             obtain rfl := Option.some.inj H
             have hcz33_0 := cz BK109 0
             have hcz33_1 := cz BK109 1
             have hcz33_2 := cz BK109 2
             have hfz33_0 := blk_frozen BK109.out 0
             have hfz33_1 := blk_frozen BK109.out 1
             have hfz33_2 := blk_frozen BK109.out 2
             go_wp2_with (first | ((with_reducible refine gate_callee (f := 102) rfl ?_); refine gL (some 32) Try.func102 #[.slice A0_0 l0_0.length c0_0, .int .i64 x3_2] ?_; (with_reducible refine (spec_l20Step.calls k2 _ _ l0_0 x3_2 t112 _ ?side1 ?side2 A18.out).mono ?_); (case side1 => exact oc_ HR0_0.out); (case side2 => exact HC0_0.out); rintro e w' ⟨rfl, ⟨nd, rfl⟩⟩; refine ⟨_, rfl, ?_⟩; have p115 : 0 ≤ (x3_2 : Int) := of_decide_eq_true (by first | (with_reducible assumption) | assumption); have q115 : x3_2 < (l0_2.length : Int) := of_decide_eq_true (by first | (with_reducible assumption) | assumption); obtain ⟨ad115, e115, hx115_0⟩ := Kd.at_int HR0_2.out x3_2 p115 q115; cases e115; replace hx115_0 := (HB.out.cell (World.block_lt_of_cell? w _ hx115_0)).trans hx115_0; replace p115 := eq_true p115; replace q115 := eq_true q115) | (go_at_call 103; (with_reducible refine (spec_l18Pitch.calls (rd l0_2 x3_2) false _ A30.out).mono ?_); rintro e w' ⟨rfl, ⟨nd, rfl⟩⟩))
             go_ret
             exact ⟨eR, oB HB⟩
           ·rw [if_neg c29] at H
            exact absurd H (by simp)
          ·rw [if_neg c28] at H
           exact absurd H (by simp)
         ·rw [if_neg c27] at H
          have c27b0 : decide (t112 < a0_1) = false := decide_eq_false c27
          clear c27
          by_cases c34 : 0 ≤ x3_2
          ·rw [if_pos c34] at H
           have c34b0 : decide (0 ≤ x3_2) = true := decide_eq_true c34
           clear c34
           by_cases c35 : x3_2 < (l0_2.length : Int)
           ·rw [if_pos c35] at H
            have c35b0 : decide (x3_2 < (l0_2.length : Int)) = true := decide_eq_true c35
            clear c35
            by_cases c36 : (rd l0_2 x3_2) = 0
            ·rw [if_pos c36] at H
             have c36b0 : ((rd l0_2 x3_2) == 0) = true := beq_iff_eq.mpr c36
             have c36b1 : ((rd l0_2 x3_2) != 0) = false := bne_eq_false_iff_eq.mpr c36
             clear c36
             have H' := A_ H
             clear H
             have hcz37_0 := cz BK109 0
             have hcz37_1 := cz BK109 1
             have hcz37_2 := cz BK109 2
             have hfz37_0 := blk_frozen BK109.out 0
             have hfz37_1 := blk_frozen BK109.out 1
             have hfz37_2 := blk_frozen BK109.out 2
             go_wp2_with (first | ((with_reducible refine gate_callee (f := 102) rfl ?_); refine gL (some 32) Try.func102 #[.slice A0_0 l0_0.length c0_0, .int .i64 x3_2] ?_; (with_reducible refine (spec_l20Step.calls k2 _ _ l0_0 x3_2 t112 _ ?side1 ?side2 A18.out).mono ?_); (case side1 => exact oc_ HR0_0.out); (case side2 => exact HC0_0.out); rintro e w' ⟨rfl, ⟨nd, rfl⟩⟩; refine ⟨_, rfl, ?_⟩; have p117 : 0 ≤ (x3_2 : Int) := of_decide_eq_true (by first | (with_reducible assumption) | assumption); have q117 : x3_2 < (l0_2.length : Int) := of_decide_eq_true (by first | (with_reducible assumption) | assumption); obtain ⟨ad117, e117, hx117_0⟩ := Kd.at_int HR0_2.out x3_2 p117 q117; cases e117; replace hx117_0 := (HB.out.cell (World.block_lt_of_cell? w _ hx117_0)).trans hx117_0; replace p117 := eq_true p117; replace q117 := eq_true q117))
             go_roundg k2
             case measure => have := HJ1.out; have := HK2.out; omega
             case rel => exact ⟨(wrap64 (x3_2 + 1)), (by first | rfl | (simp; done) | (simp [*]; done)), H', ⟨by have := HJ1.out; have := HK2.out; omega⟩, ⟨oK BK109⟩, ⟨oB HB⟩⟩
            ·rw [if_neg c36] at H
             have c36b0 : ((rd l0_2 x3_2) == 0) = false := beq_eq_false_iff_ne.mpr c36
             have c36b1 : ((rd l0_2 x3_2) != 0) = true := bne_iff_ne.mpr c36
             obtain rfl := Option.some.inj H
             have hcz38_0 := cz BK109 0
             have hcz38_1 := cz BK109 1
             have hcz38_2 := cz BK109 2
             have hfz38_0 := blk_frozen BK109.out 0
             have hfz38_1 := blk_frozen BK109.out 1
             have hfz38_2 := blk_frozen BK109.out 2
             go_wp2_with (first | ((with_reducible refine gate_callee (f := 102) rfl ?_); refine gL (some 32) Try.func102 #[.slice A0_0 l0_0.length c0_0, .int .i64 x3_2] ?_; (with_reducible refine (spec_l20Step.calls k2 _ _ l0_0 x3_2 t112 _ ?side1 ?side2 A18.out).mono ?_); (case side1 => exact oc_ HR0_0.out); (case side2 => exact HC0_0.out); rintro e w' ⟨rfl, ⟨nd, rfl⟩⟩; refine ⟨_, rfl, ?_⟩; have p117 : 0 ≤ (x3_2 : Int) := of_decide_eq_true (by first | (with_reducible assumption) | assumption); have q117 : x3_2 < (l0_2.length : Int) := of_decide_eq_true (by first | (with_reducible assumption) | assumption); obtain ⟨ad117, e117, hx117_0⟩ := Kd.at_int HR0_2.out x3_2 p117 q117; cases e117; replace hx117_0 := (HB.out.cell (World.block_lt_of_cell? w _ hx117_0)).trans hx117_0; replace p117 := eq_true p117; replace q117 := eq_true q117))
             go_ret
             exact ⟨eR, oB HB⟩
           ·rw [if_neg c35] at H
            exact absurd H (by simp)
          ·rw [if_neg c34] at H
           exact absurd H (by simp)
        ·rw [if_neg c26] at H
         have c26b0 : decide (0 ≤ t112) = false := decide_eq_false c26
         clear c26
         by_cases c39 : 0 ≤ x3_2
         ·rw [if_pos c39] at H
          have c39b0 : decide (0 ≤ x3_2) = true := decide_eq_true c39
          clear c39
          by_cases c40 : x3_2 < (l0_2.length : Int)
          ·rw [if_pos c40] at H
           have c40b0 : decide (x3_2 < (l0_2.length : Int)) = true := decide_eq_true c40
           clear c40
           by_cases c41 : (rd l0_2 x3_2) = 0
           ·rw [if_pos c41] at H
            have c41b0 : ((rd l0_2 x3_2) == 0) = true := beq_iff_eq.mpr c41
            have c41b1 : ((rd l0_2 x3_2) != 0) = false := bne_eq_false_iff_eq.mpr c41
            clear c41
            have H' := A_ H
            clear H
            have hcz42_0 := cz BK109 0
            have hcz42_1 := cz BK109 1
            have hcz42_2 := cz BK109 2
            have hfz42_0 := blk_frozen BK109.out 0
            have hfz42_1 := blk_frozen BK109.out 1
            have hfz42_2 := blk_frozen BK109.out 2
            go_wp2_with (first | ((with_reducible refine gate_callee (f := 102) rfl ?_); refine gL (some 32) Try.func102 #[.slice A0_0 l0_0.length c0_0, .int .i64 x3_2] ?_; (with_reducible refine (spec_l20Step.calls k2 _ _ l0_0 x3_2 t112 _ ?side1 ?side2 A18.out).mono ?_); (case side1 => exact oc_ HR0_0.out); (case side2 => exact HC0_0.out); rintro e w' ⟨rfl, ⟨nd, rfl⟩⟩; refine ⟨_, rfl, ?_⟩; have p118 : 0 ≤ (x3_2 : Int) := of_decide_eq_true (by first | (with_reducible assumption) | assumption); have q118 : x3_2 < (l0_2.length : Int) := of_decide_eq_true (by first | (with_reducible assumption) | assumption); obtain ⟨ad118, e118, hx118_0⟩ := Kd.at_int HR0_2.out x3_2 p118 q118; cases e118; replace hx118_0 := (HB.out.cell (World.block_lt_of_cell? w _ hx118_0)).trans hx118_0; replace p118 := eq_true p118; replace q118 := eq_true q118))
            go_roundg k2
            case measure => have := HJ1.out; have := HK2.out; omega
            case rel => exact ⟨(wrap64 (x3_2 + 1)), (by first | rfl | (simp; done) | (simp [*]; done)), H', ⟨by have := HJ1.out; have := HK2.out; omega⟩, ⟨oK BK109⟩, ⟨oB HB⟩⟩
           ·rw [if_neg c41] at H
            have c41b0 : ((rd l0_2 x3_2) == 0) = false := beq_eq_false_iff_ne.mpr c41
            have c41b1 : ((rd l0_2 x3_2) != 0) = true := bne_iff_ne.mpr c41
            obtain rfl := Option.some.inj H
            have hcz43_0 := cz BK109 0
            have hcz43_1 := cz BK109 1
            have hcz43_2 := cz BK109 2
            have hfz43_0 := blk_frozen BK109.out 0
            have hfz43_1 := blk_frozen BK109.out 1
            have hfz43_2 := blk_frozen BK109.out 2
            go_wp2_with (first | ((with_reducible refine gate_callee (f := 102) rfl ?_); refine gL (some 32) Try.func102 #[.slice A0_0 l0_0.length c0_0, .int .i64 x3_2] ?_; (with_reducible refine (spec_l20Step.calls k2 _ _ l0_0 x3_2 t112 _ ?side1 ?side2 A18.out).mono ?_); (case side1 => exact oc_ HR0_0.out); (case side2 => exact HC0_0.out); rintro e w' ⟨rfl, ⟨nd, rfl⟩⟩; refine ⟨_, rfl, ?_⟩; have p118 : 0 ≤ (x3_2 : Int) := of_decide_eq_true (by first | (with_reducible assumption) | assumption); have q118 : x3_2 < (l0_2.length : Int) := of_decide_eq_true (by first | (with_reducible assumption) | assumption); obtain ⟨ad118, e118, hx118_0⟩ := Kd.at_int HR0_2.out x3_2 p118 q118; cases e118; replace hx118_0 := (HB.out.cell (World.block_lt_of_cell? w _ hx118_0)).trans hx118_0; replace p118 := eq_true p118; replace q118 := eq_true q118))
            go_ret
            exact ⟨eR, oB HB⟩
          ·rw [if_neg c40] at H
           exact absurd H (by simp)
         ·rw [if_neg c39] at H
          exact absurd H (by simp)
      ·rw [if_neg c17] at H
       have c17b0 : decide (x3_2 < 12) = false := decide_eq_false c17
       clear c17
       obtain rfl := Option.some.inj H
       go_wp2
       go_ret
       exact ⟨eR, oB HB⟩
end Go.Proofs.Ytbkkpllejgedcaa.P


namespace Go.Proofs.Ytbkkpllejgedcaa.P
open Go.RowKit Go.Proofs.YtbkkpllejgedcaaW.PrintWords Go.Proofs.YtbkkpllejgedcaaW.PrintLast Go.Proofs.YtbkkpllejgedcaaW.PrintMore Go.Proofs.Ytbkkpllejgedcaa.V
attribute [local go_sem] cell_b frozen_b
attribute [local go_sem] max2_int min2_int max_two min_two max_three min_three max_four min_four
set_option linter.unusedVariables false
set_option linter.unusedSimpArgs false
def spec_ShopOk.f (k : Nat) (l0_0 : List (S96)) (a0_1 : Int) (l0_2 : List Int) (a0_3 : Int) (a0_4 : Int) (l0_5 : List (S74)) : Option (Bool) := (spec_WorkOk.f k l0_0 a0_1 l0_2).bind fun b => some (b && (Q.logOk l0_5 && (decide (-10 ≤ a0_3 ∧ a0_3 ≤ 40) && (decide (0 ≤ a0_4 ∧ a0_4 ≤ 100000) && decide (Q.lastOk l0_5 a0_4)))))
def spec_ShopOk.T2 : Bool × List (List Nat × List Nat) := (true, [([], []), ([0], [0]), ([1], [1]), ([2, 2], [2]), ([3], [3]), ([4, 3], [3, 4]), ([5, 3, 3], [3, 5]), ([3, 6], [3, 6]), ([7, 6], [7]), ([8], [8]), ([9, 8], [8, 9]), ([10, 8, 8], [8, 10]), ([8, 11], [8, 11]), ([12, 11], [12]), ([13], [13]), ([14, 13], [13, 14]), ([15, 13, 13], [13, 15]), ([13, 16], [13, 16]), ([17, 16], [17]), ([18], [18]), ([19, 18], [18, 19]), ([20, 18, 18], [18, 20]), ([21], [21]), ([22, 21], [21, 22]), ([21], [21]), ([24, 21], [21, 24]), ([23, 25, 21], [21, 23, 25]), ([26, 21], [21, 26]), ([27, 21], [21, 27]), ([21], [21]), ([29, 21], [21, 29]), ([28, 30, 21], [21, 28, 30]), ([21, 31, 18], [18, 21, 31]), ([18, 32], [18, 32]), ([33, 21, 0, 1, 2, 3, 4, 5, 6, 7, 8, 9, 10, 11, 12, 13, 14, 15, 16, 17, 18, 19, 20, 21, 22, 23, 24, 25, 26, 27, 28, 29, 30, 31, 32, 33], [33])])
def spec_ShopOk.B2 : List Nat := [0, 1, 3, 7, 15, 31, 63, 127, 255, 511, 1023, 2047, 4095, 8191, 16383, 32767, 65535, 131071, 262143, 524287, 1048575, 2097151, 4194303, 8388607, 4194303, 20971519, 67108863, 134217727, 268435455, 4194303, 541065215, 2147483647, 4294967295, 8589934591, 17179869183]
theorem spec_ShopOk.tab2 : rtab .any (opsOf Try.f16 2) = spec_ShopOk.T2 := by kernel_rfl
theorem spec_ShopOk.bits2 : waitsOk spec_ShopOk.T2.2 spec_ShopOk.B2 = true := by kernel_rfl
def spec_ShopOk.m (n : Nat) : Array Bool := ((List.range 35).map (fun j => decide (j < n))).toArray
attribute [local go_sem] cellR_c
set_option maxHeartbeats 4000000 in
set_option maxRecDepth 100000 in
set_option synthInstance.maxHeartbeats 400000 in
set_option synthInstance.maxSize 100000 in
theorem spec_ShopOk.calls (k : Nat) (A0_0 : Option Addr) (c0_0 : Nat) (l0_0 : List (S96)) (a0_1 : Int) (A0_2 : Option Addr) (c0_2 : Nat) (l0_2 : List Int) (a0_3 : Int) (a0_4 : Int) (A0_5 : Option Addr) (c0_5 : Nat) (l0_5 : List (S74)) (r : Bool) (w : World) (hr0_0 : Kd.C k96 w A0_0 l0_0.length l0_0) (hc0_0 : l0_0.length ≤ c0_0) (hr0_2 : Kd.C (Kd.int .i64) w A0_2 l0_2.length l0_2) (hc0_2 : l0_2.length ≤ c0_2) (hr0_5 : Kd.C k74 w A0_5 l0_5.length l0_5) (hc0_5 : l0_5.length ≤ c0_5) (h : spec_ShopOk.f k l0_0 a0_1 l0_2 a0_3 a0_4 l0_5 = some r) :
  Calls Try.prog 16 #[.agg #[.slice A0_0 l0_0.length c0_0, .int .i64 a0_1, .slice A0_2 l0_2.length c0_2, .int .i64 a0_3, .int .i64 a0_4, .slice A0_5 l0_5.length c0_5]] w fun e w' => e = .returned (.bool r) ∧ Below w.heap.size w w' := by
 obtain ⟨b1, hb1, h⟩ := Option.bind_eq_some_iff.mp h
 obtain ⟨b2, hb2⟩ : ∃ b, Q.logOk l0_5 = b := ⟨_, rfl⟩
 obtain ⟨b3, hb3⟩ : ∃ b, decide (-10 ≤ a0_3 ∧ a0_3 ≤ 40) = b := ⟨_, rfl⟩
 obtain ⟨b4, hb4⟩ : ∃ b, decide (0 ≤ a0_4 ∧ a0_4 ≤ 100000) = b := ⟨_, rfl⟩
 obtain ⟨b5, hb5⟩ : ∃ b, decide (Q.lastOk l0_5 a0_4) = b := ⟨_, rfl⟩
 have HQ : Aside0 ((b1 && (b2 && (b3 && (b4 && b5)))) = r) := ⟨by rw [← hb2, ← hb3, ← hb4, ← hb5]; exact Option.some.inj h⟩
 have A1 : Aside0 (spec_WorkOk.f k l0_0 a0_1 l0_2 = some b1) := ⟨hb1⟩
 have A2 : Aside0 (spec_LogOk.f k l0_5 = some b2) := ⟨by rw [← hb2]; rfl⟩
 have A3 : Aside0 (spec_l01In.f a0_3 (-10) 40 = some b3) := ⟨by rw [← hb3]; unfold spec_l01In.f; by_cases hh : a0_3 ≥ -10 <;> simp [hh] <;> omega⟩
 have A4 : Aside0 (spec_l01In.f a0_4 0 100000 = some b4) := ⟨by rw [← hb4]; unfold spec_l01In.f; by_cases hh : a0_4 ≥ 0 <;> simp [hh] <;> omega⟩
 have H5 := A_ hb5
 have HR := A_ hr0_5
 have HM := A_ (Kd.C_max hr0_5)
 have i0 := RdE.mk hr0_0
 have i1 := LeI.mk hc0_0
 have i2 := RdE.mk hr0_2
 have i3 := LeI.mk hc0_2
 have i4 := RdE.mk hr0_5
 have i5 := LeI.mk hc0_5
 have hu := Try.underlying36
 clear hr0_0 hc0_0 hr0_2 hc0_2 hr0_5 hc0_5 h hb1 hb2 hb3 hb4 hb5
 have hzz : l0_5.length = 0 ∨ ∃ (ad2 : Addr) (j : Nat) (y : S74), A0_5 = some ad2 ∧ ((l0_5.length : Int) == 0) = false ∧ ((l0_5.length : Int) != 0) = true ∧ wrap64 ((l0_5.length : Int) - 1) = (j : Int) ∧ IntKind.i64.wrap ((l0_5.length : Int) - 1) = (j : Int) ∧ (j : Int) < (l0_5.length : Int) ∧ j < l0_5.length ∧ CelR w ⟨(ad2.add (j * 4)).block, (ad2.add (j * 4)).off + 3, none⟩ (.int .i64 y.f2) ∧ decide (y.f2 ≤ a0_4) = b5 := by
  by_cases hz : l0_5.length = 0
  ·exact .inl hz
  right
  obtain ⟨j, hj⟩ : ∃ j, j + 1 = l0_5.length := ⟨l0_5.length - 1, by omega⟩
  have hM := HM.out
  obtain ⟨ad2, e2, _, _, _, hy3⟩ := at_T74 HR.out (j : Int) (by omega) (by omega)
  have hw1 : wrap64 ((l0_5.length : Int) - 1) = (j : Int) := by unfold wrap64; omega
  simp only [Int.toNat_natCast] at hy3
  refine ⟨ad2, j, rd_T74 l0_5 (j : Int), e2, beq_eq_false_iff_ne.mpr (by omega), bne_iff_ne.mpr (by omega), hw1, by rw [i64_w]; exact hw1, by omega, by omega, ⟨hy3⟩, ?_⟩
  rw [← H5.out]
  refine decide_eq_decide.mpr ?_
  unfold Q.lastOk
  rw [show l0_5.length - 1 = j by omega]
  simp [rd_T74, hz]
 have hways : (b1 = false ∧ r = false) ∨ (b1 = true ∧ b2 = false ∧ r = false) ∨ (b1 = true ∧ b2 = true ∧ b3 = false ∧ r = false) ∨ (b1 = true ∧ b2 = true ∧ b3 = true ∧ b4 = false ∧ r = false) ∨ (b1 = true ∧ b2 = true ∧ b3 = true ∧ b4 = true ∧ b5 = r) := by
  have := HQ.out
  cases b1 <;> cases b2 <;> cases b3 <;> cases b4 <;> simp_all
 replace hzz := hzz.imp (fun hz => (⟨by rw [← H5.out]; exact (decide_eq_true (.inl hz)).symm, beq_iff_eq.mpr (by omega), bne_eq_false_iff_eq.mpr (by omega)⟩ : true = b5 ∧ ((l0_5.length : Int) == 0) = true ∧ ((l0_5.length : Int) != 0) = false)) id
 clear HQ H5 HR HM
 rcases hways with ⟨rfl, rfl⟩ | ⟨rfl, rfl, rfl⟩ | ⟨rfl, rfl, rfl, rfl⟩ | ⟨rfl, rfl, rfl, rfl, rfl⟩ | ⟨rfl, rfl, rfl, rfl, rfl⟩
 rotate_right
 rcases hzz with ⟨rfl, z1, z2⟩ | ⟨ad2, j, y, rfl, z1, z2, z3, z4, z5, z6, z7, z8⟩
 all_goals try clear hzz
 all_goals go_enter Try.func16, Try.ntmps16
 all_goals go_wp2_with (first | ((with_reducible refine gate_dst (N := 1) rfl ?_); (try (refine gate_guard (by rfl) ?_; dsimp only)); (first | refine box_event rfl (N := 1) rfl (cs := #[.slice A0_0 l0_0.length c0_0, .int .i64 a0_1, .slice A0_2 l0_2.length c0_2, .int .i64 a0_3, .int .i64 a0_4, .slice A0_5 l0_5.length c0_5]) (t := 36) (by first | (go_simp; done) | (go_simp; rfl)) ?_ | refine box_event rfl (N := 1) rfl (cs := #[.slice A0_0 l0_0.length c0_0, .int .i64 a0_1, .slice A0_2 l0_2.length c0_2, .int .i64 a0_3, .int .i64 a0_4, .slice (some ad2) l0_5.length c0_5]) (t := 36) (by first | (go_simp; done) | (go_simp; rfl)) ?_); intro g hg w1 hk hb; have j1 := Born.mk hg; have j2 := Bel.mk hb; have j3 := Blk.mk hk; clear hg hb hk))
 all_goals (refine start_ (n := 35) (S := fun w' => Below w1.heap.size w1 w') (ds := []) (spec_ShopOk.m 0) (by kernel_rfl) rfl (by kernel_rfl) From.out (fun hHeld => ?_); refine with_tabW spec_ShopOk.tab2 spec_ShopOk.bits2 (fun HT_ HW_ => ?_))
 all_goals first | (refine pure_ (i := 0) (N := some 7) (v := ?_) (a' := ?_) (spec_ShopOk.m 1) rfl rfl (any_of HT_.out (by kernel_rfl)) (fun _ _ _ h => h) (Or.inl ⟨by rfl, ?_⟩) ?_ ?_; rotate_left; (focus (intro w'; go_simp; with_reducible rfl)); rotate_left; (focus (simp only [Act.put, List.setIfInBounds_toArray, List.set_cons_zero, List.set_cons_succ, i64_w, i32_w]; rfl))) | (refine pure_ (i := 0) (N := some 7) (v := undef) (a' := ?_) (spec_ShopOk.m 1) rfl rfl (any_of HT_.out (by kernel_rfl)) (fun _ _ _ h => h) (Or.inr ⟨by rfl, rfl⟩) ?_ ?_; rotate_left; (focus (simp only [Act.put, List.setIfInBounds_toArray, List.set_cons_zero, List.set_cons_succ, i64_w, i32_w]; rfl)))
 all_goals first | (refine take_ (i := 1) (N := some 8) (v := ?_) (a' := ?_) (spec_ShopOk.m 2) rfl rfl (take_ofW HT_.out HW_.out (by kernel_rfl)) (fun _ _ _ h => h) (Or.inl ⟨by rfl, ?_⟩) hHeld ?_ ?_; rotate_left; (focus (intro w' hS; have jS : Sin w1 w' := ⟨hS⟩; go_simp; with_reducible rfl)); rotate_left; (focus (simp only [Act.put, List.setIfInBounds_toArray, List.set_cons_zero, List.set_cons_succ, i64_w, i32_w]; rfl))) | (refine pure_ (i := 1) (N := some 8) (v := undef) (a' := ?_) (spec_ShopOk.m 2) rfl rfl (any_of HT_.out (by kernel_rfl)) (fun _ _ _ h => h) (Or.inr ⟨by rfl, rfl⟩) ?_ ?_; rotate_left; (focus (simp only [Act.put, List.setIfInBounds_toArray, List.set_cons_zero, List.set_cons_succ, i64_w, i32_w]; rfl)))
 all_goals first | (refine one_ (i := 2) (N := some 9) (spec_ShopOk.m 3) rfl rfl (one_of HT_.out (by kernel_rfl)) (by decide) (fun K hK => ?_); refine goes_ Try.func60 (by kernel_rfl) rfl #[.agg #[.slice A0_0 l0_0.length c0_0, .int .i64 a0_1, .slice A0_2 l0_2.length c0_2]] (by rfl) rfl rfl (by (try simp only [List.map_toArray, List.map_cons, List.map_nil]); first | done | rfl) ?_; refine (spec_WorkOk.calls k _ _ _ _ _ _ _ _ _ Rd.out LeI.out Rd.out LeI.out A1.out).mono ?_; rintro e w2 ⟨rfl, hb⟩; have jb := Bel.mk hb; clear hb; refine ⟨_, rfl, ?_⟩; refine hK.out _ _ From.out (fun hHeld => ?_); clear hK K; refine norm_ (a' := ?_) ?_ ?_; rotate_left; (focus (show Act.put _ (some 9) _ = _; simp only [Act.put, List.setIfInBounds_toArray, List.set_cons_zero, List.set_cons_succ, i64_w, i32_w]; rfl))) | (refine pure_ (i := 2) (N := some 9) (v := undef) (a' := ?_) (spec_ShopOk.m 3) rfl rfl (any_of HT_.out (by kernel_rfl)) (fun _ _ _ h => h) (Or.inr ⟨by rfl, rfl⟩) ?_ ?_; rotate_left; (focus (simp only [Act.put, List.setIfInBounds_toArray, List.set_cons_zero, List.set_cons_succ, i64_w, i32_w]; rfl)))
 all_goals first | (refine pure_ (i := 3) (N := some 10) (v := ?_) (a' := ?_) (spec_ShopOk.m 4) rfl rfl (any_of HT_.out (by kernel_rfl)) (fun _ _ _ h => h) (Or.inl ⟨by rfl, ?_⟩) ?_ ?_; rotate_left; (focus (intro w'; go_simp; with_reducible rfl)); rotate_left; (focus (simp only [Act.put, List.setIfInBounds_toArray, List.set_cons_zero, List.set_cons_succ, i64_w, i32_w]; rfl))) | (refine pure_ (i := 3) (N := some 10) (v := undef) (a' := ?_) (spec_ShopOk.m 4) rfl rfl (any_of HT_.out (by kernel_rfl)) (fun _ _ _ h => h) (Or.inr ⟨by rfl, rfl⟩) ?_ ?_; rotate_left; (focus (simp only [Act.put, List.setIfInBounds_toArray, List.set_cons_zero, List.set_cons_succ, i64_w, i32_w]; rfl)))
 all_goals first | (refine pure_ (i := 4) (N := some 11) (v := ?_) (a' := ?_) (spec_ShopOk.m 5) rfl rfl (any_of HT_.out (by kernel_rfl)) (fun _ _ _ h => h) (Or.inl ⟨by rfl, ?_⟩) ?_ ?_; rotate_left; (focus (intro w'; go_simp; with_reducible rfl)); rotate_left; (focus (simp only [Act.put, List.setIfInBounds_toArray, List.set_cons_zero, List.set_cons_succ, i64_w, i32_w]; rfl))) | (refine pure_ (i := 4) (N := some 11) (v := undef) (a' := ?_) (spec_ShopOk.m 5) rfl rfl (any_of HT_.out (by kernel_rfl)) (fun _ _ _ h => h) (Or.inr ⟨by rfl, rfl⟩) ?_ ?_; rotate_left; (focus (simp only [Act.put, List.setIfInBounds_toArray, List.set_cons_zero, List.set_cons_succ, i64_w, i32_w]; rfl)))
 all_goals first | (refine take_ (i := 5) (N := some 12) (v := ?_) (a' := ?_) (spec_ShopOk.m 6) rfl rfl (take_ofW HT_.out HW_.out (by kernel_rfl)) (fun _ _ _ h => h) (Or.inl ⟨by rfl, ?_⟩) hHeld ?_ ?_; rotate_left; (focus (intro w' hS; have jS : Sin w1 w' := ⟨hS⟩; go_simp; with_reducible rfl)); rotate_left; (focus (simp only [Act.put, List.setIfInBounds_toArray, List.set_cons_zero, List.set_cons_succ, i64_w, i32_w]; rfl))) | (refine pure_ (i := 5) (N := some 12) (v := undef) (a' := ?_) (spec_ShopOk.m 6) rfl rfl (any_of HT_.out (by kernel_rfl)) (fun _ _ _ h => h) (Or.inr ⟨by rfl, rfl⟩) ?_ ?_; rotate_left; (focus (simp only [Act.put, List.setIfInBounds_toArray, List.set_cons_zero, List.set_cons_succ, i64_w, i32_w]; rfl)))
 all_goals first | (refine one_ (i := 6) (N := some 13) (spec_ShopOk.m 7) rfl rfl (one_of HT_.out (by kernel_rfl)) (by decide) (fun K hK => ?_); refine goes_ Try.func61 (by kernel_rfl) rfl #[.slice _ l0_5.length c0_5] (by rfl) rfl rfl (by (try simp only [List.map_toArray, List.map_cons, List.map_nil]); first | done | rfl) ?_; refine (spec_LogOk.calls k _ _ _ _ _ Rd.out LeI.out A2.out).mono ?_; rintro e w2 ⟨rfl, hb⟩; have jb := Bel.mk hb; clear hb; refine ⟨_, rfl, ?_⟩; refine hK.out _ _ From.out (fun hHeld => ?_); clear hK K; refine norm_ (a' := ?_) ?_ ?_; rotate_left; (focus (show Act.put _ (some 13) _ = _; simp only [Act.put, List.setIfInBounds_toArray, List.set_cons_zero, List.set_cons_succ, i64_w, i32_w]; rfl))) | (refine pure_ (i := 6) (N := some 13) (v := undef) (a' := ?_) (spec_ShopOk.m 7) rfl rfl (any_of HT_.out (by kernel_rfl)) (fun _ _ _ h => h) (Or.inr ⟨by rfl, rfl⟩) ?_ ?_; rotate_left; (focus (simp only [Act.put, List.setIfInBounds_toArray, List.set_cons_zero, List.set_cons_succ, i64_w, i32_w]; rfl)))
 all_goals first | (refine pure_ (i := 7) (N := some 14) (v := ?_) (a' := ?_) (spec_ShopOk.m 8) rfl rfl (any_of HT_.out (by kernel_rfl)) (fun _ _ _ h => h) (Or.inl ⟨by rfl, ?_⟩) ?_ ?_; rotate_left; (focus (intro w'; go_simp; with_reducible rfl)); rotate_left; (focus (simp only [Act.put, List.setIfInBounds_toArray, List.set_cons_zero, List.set_cons_succ, i64_w, i32_w]; rfl))) | (refine pure_ (i := 7) (N := some 14) (v := undef) (a' := ?_) (spec_ShopOk.m 8) rfl rfl (any_of HT_.out (by kernel_rfl)) (fun _ _ _ h => h) (Or.inr ⟨by rfl, rfl⟩) ?_ ?_; rotate_left; (focus (simp only [Act.put, List.setIfInBounds_toArray, List.set_cons_zero, List.set_cons_succ, i64_w, i32_w]; rfl)))
 all_goals first | (refine pure_ (i := 8) (N := some 15) (v := ?_) (a' := ?_) (spec_ShopOk.m 9) rfl rfl (any_of HT_.out (by kernel_rfl)) (fun _ _ _ h => h) (Or.inl ⟨by rfl, ?_⟩) ?_ ?_; rotate_left; (focus (intro w'; go_simp; with_reducible rfl)); rotate_left; (focus (simp only [Act.put, List.setIfInBounds_toArray, List.set_cons_zero, List.set_cons_succ, i64_w, i32_w]; rfl))) | (refine pure_ (i := 8) (N := some 15) (v := undef) (a' := ?_) (spec_ShopOk.m 9) rfl rfl (any_of HT_.out (by kernel_rfl)) (fun _ _ _ h => h) (Or.inr ⟨by rfl, rfl⟩) ?_ ?_; rotate_left; (focus (simp only [Act.put, List.setIfInBounds_toArray, List.set_cons_zero, List.set_cons_succ, i64_w, i32_w]; rfl)))
 all_goals first | (refine pure_ (i := 9) (N := some 16) (v := ?_) (a' := ?_) (spec_ShopOk.m 10) rfl rfl (any_of HT_.out (by kernel_rfl)) (fun _ _ _ h => h) (Or.inl ⟨by rfl, ?_⟩) ?_ ?_; rotate_left; (focus (intro w'; go_simp; with_reducible rfl)); rotate_left; (focus (simp only [Act.put, List.setIfInBounds_toArray, List.set_cons_zero, List.set_cons_succ, i64_w, i32_w]; rfl))) | (refine pure_ (i := 9) (N := some 16) (v := undef) (a' := ?_) (spec_ShopOk.m 10) rfl rfl (any_of HT_.out (by kernel_rfl)) (fun _ _ _ h => h) (Or.inr ⟨by rfl, rfl⟩) ?_ ?_; rotate_left; (focus (simp only [Act.put, List.setIfInBounds_toArray, List.set_cons_zero, List.set_cons_succ, i64_w, i32_w]; rfl)))
 all_goals first | (refine take_ (i := 10) (N := some 17) (v := ?_) (a' := ?_) (spec_ShopOk.m 11) rfl rfl (take_ofW HT_.out HW_.out (by kernel_rfl)) (fun _ _ _ h => h) (Or.inl ⟨by rfl, ?_⟩) hHeld ?_ ?_; rotate_left; (focus (intro w' hS; have jS : Sin w1 w' := ⟨hS⟩; go_simp; with_reducible rfl)); rotate_left; (focus (simp only [Act.put, List.setIfInBounds_toArray, List.set_cons_zero, List.set_cons_succ, i64_w, i32_w]; rfl))) | (refine pure_ (i := 10) (N := some 17) (v := undef) (a' := ?_) (spec_ShopOk.m 11) rfl rfl (any_of HT_.out (by kernel_rfl)) (fun _ _ _ h => h) (Or.inr ⟨by rfl, rfl⟩) ?_ ?_; rotate_left; (focus (simp only [Act.put, List.setIfInBounds_toArray, List.set_cons_zero, List.set_cons_succ, i64_w, i32_w]; rfl)))
 all_goals first | (refine one_ (i := 11) (N := some 18) (spec_ShopOk.m 12) rfl rfl (one_of HT_.out (by kernel_rfl)) (by decide) (fun K hK => ?_); refine goes_ Try.func62 (by kernel_rfl) rfl #[.int .i64 a0_3, .int .i64 (-10), .int .i64 40] (by rfl) rfl rfl (by (try simp only [List.map_toArray, List.map_cons, List.map_nil]); first | done | rfl) ?_; refine (spec_l01In.calls _ _ _ _ _ A3.out).mono ?_; rintro e w2 ⟨rfl, n, rfl⟩; refine ⟨_, rfl, ?_⟩; refine hK.out _ _ From.out (fun hHeld => ?_); clear hK K; refine norm_ (a' := ?_) ?_ ?_; rotate_left; (focus (show Act.put _ (some 18) _ = _; simp only [Act.put, List.setIfInBounds_toArray, List.set_cons_zero, List.set_cons_succ, i64_w, i32_w]; rfl))) | (refine pure_ (i := 11) (N := some 18) (v := undef) (a' := ?_) (spec_ShopOk.m 12) rfl rfl (any_of HT_.out (by kernel_rfl)) (fun _ _ _ h => h) (Or.inr ⟨by rfl, rfl⟩) ?_ ?_; rotate_left; (focus (simp only [Act.put, List.setIfInBounds_toArray, List.set_cons_zero, List.set_cons_succ, i64_w, i32_w]; rfl)))
 all_goals first | (refine pure_ (i := 12) (N := some 19) (v := ?_) (a' := ?_) (spec_ShopOk.m 13) rfl rfl (any_of HT_.out (by kernel_rfl)) (fun _ _ _ h => h) (Or.inl ⟨by rfl, ?_⟩) ?_ ?_; rotate_left; (focus (intro w'; go_simp; with_reducible rfl)); rotate_left; (focus (simp only [Act.put, List.setIfInBounds_toArray, List.set_cons_zero, List.set_cons_succ, i64_w, i32_w]; rfl))) | (refine pure_ (i := 12) (N := some 19) (v := undef) (a' := ?_) (spec_ShopOk.m 13) rfl rfl (any_of HT_.out (by kernel_rfl)) (fun _ _ _ h => h) (Or.inr ⟨by rfl, rfl⟩) ?_ ?_; rotate_left; (focus (simp only [Act.put, List.setIfInBounds_toArray, List.set_cons_zero, List.set_cons_succ, i64_w, i32_w]; rfl)))
 all_goals first | (refine pure_ (i := 13) (N := some 20) (v := ?_) (a' := ?_) (spec_ShopOk.m 14) rfl rfl (any_of HT_.out (by kernel_rfl)) (fun _ _ _ h => h) (Or.inl ⟨by rfl, ?_⟩) ?_ ?_; rotate_left; (focus (intro w'; go_simp; with_reducible rfl)); rotate_left; (focus (simp only [Act.put, List.setIfInBounds_toArray, List.set_cons_zero, List.set_cons_succ, i64_w, i32_w]; rfl))) | (refine pure_ (i := 13) (N := some 20) (v := undef) (a' := ?_) (spec_ShopOk.m 14) rfl rfl (any_of HT_.out (by kernel_rfl)) (fun _ _ _ h => h) (Or.inr ⟨by rfl, rfl⟩) ?_ ?_; rotate_left; (focus (simp only [Act.put, List.setIfInBounds_toArray, List.set_cons_zero, List.set_cons_succ, i64_w, i32_w]; rfl)))
 all_goals first | (refine pure_ (i := 14) (N := some 21) (v := ?_) (a' := ?_) (spec_ShopOk.m 15) rfl rfl (any_of HT_.out (by kernel_rfl)) (fun _ _ _ h => h) (Or.inl ⟨by rfl, ?_⟩) ?_ ?_; rotate_left; (focus (intro w'; go_simp; with_reducible rfl)); rotate_left; (focus (simp only [Act.put, List.setIfInBounds_toArray, List.set_cons_zero, List.set_cons_succ, i64_w, i32_w]; rfl))) | (refine pure_ (i := 14) (N := some 21) (v := undef) (a' := ?_) (spec_ShopOk.m 15) rfl rfl (any_of HT_.out (by kernel_rfl)) (fun _ _ _ h => h) (Or.inr ⟨by rfl, rfl⟩) ?_ ?_; rotate_left; (focus (simp only [Act.put, List.setIfInBounds_toArray, List.set_cons_zero, List.set_cons_succ, i64_w, i32_w]; rfl)))
 all_goals first | (refine take_ (i := 15) (N := some 22) (v := ?_) (a' := ?_) (spec_ShopOk.m 16) rfl rfl (take_ofW HT_.out HW_.out (by kernel_rfl)) (fun _ _ _ h => h) (Or.inl ⟨by rfl, ?_⟩) hHeld ?_ ?_; rotate_left; (focus (intro w' hS; have jS : Sin w1 w' := ⟨hS⟩; go_simp; with_reducible rfl)); rotate_left; (focus (simp only [Act.put, List.setIfInBounds_toArray, List.set_cons_zero, List.set_cons_succ, i64_w, i32_w]; rfl))) | (refine pure_ (i := 15) (N := some 22) (v := undef) (a' := ?_) (spec_ShopOk.m 16) rfl rfl (any_of HT_.out (by kernel_rfl)) (fun _ _ _ h => h) (Or.inr ⟨by rfl, rfl⟩) ?_ ?_; rotate_left; (focus (simp only [Act.put, List.setIfInBounds_toArray, List.set_cons_zero, List.set_cons_succ, i64_w, i32_w]; rfl)))
 all_goals first | (refine one_ (i := 16) (N := some 23) (spec_ShopOk.m 17) rfl rfl (one_of HT_.out (by kernel_rfl)) (by decide) (fun K hK => ?_); refine goes_ Try.func62 (by kernel_rfl) rfl #[.int .i64 a0_4, .int .i64 0, .int .i64 100000] (by rfl) rfl rfl (by (try simp only [List.map_toArray, List.map_cons, List.map_nil]); first | done | rfl) ?_; refine (spec_l01In.calls _ _ _ _ _ A4.out).mono ?_; rintro e w2 ⟨rfl, n, rfl⟩; refine ⟨_, rfl, ?_⟩; refine hK.out _ _ From.out (fun hHeld => ?_); clear hK K; refine norm_ (a' := ?_) ?_ ?_; rotate_left; (focus (show Act.put _ (some 23) _ = _; simp only [Act.put, List.setIfInBounds_toArray, List.set_cons_zero, List.set_cons_succ, i64_w, i32_w]; rfl))) | (refine pure_ (i := 16) (N := some 23) (v := undef) (a' := ?_) (spec_ShopOk.m 17) rfl rfl (any_of HT_.out (by kernel_rfl)) (fun _ _ _ h => h) (Or.inr ⟨by rfl, rfl⟩) ?_ ?_; rotate_left; (focus (simp only [Act.put, List.setIfInBounds_toArray, List.set_cons_zero, List.set_cons_succ, i64_w, i32_w]; rfl)))
 all_goals first | (refine pure_ (i := 17) (N := some 24) (v := ?_) (a' := ?_) (spec_ShopOk.m 18) rfl rfl (any_of HT_.out (by kernel_rfl)) (fun _ _ _ h => h) (Or.inl ⟨by rfl, ?_⟩) ?_ ?_; rotate_left; (focus (intro w'; go_simp; with_reducible rfl)); rotate_left; (focus (simp only [Act.put, List.setIfInBounds_toArray, List.set_cons_zero, List.set_cons_succ, i64_w, i32_w]; rfl))) | (refine pure_ (i := 17) (N := some 24) (v := undef) (a' := ?_) (spec_ShopOk.m 18) rfl rfl (any_of HT_.out (by kernel_rfl)) (fun _ _ _ h => h) (Or.inr ⟨by rfl, rfl⟩) ?_ ?_; rotate_left; (focus (simp only [Act.put, List.setIfInBounds_toArray, List.set_cons_zero, List.set_cons_succ, i64_w, i32_w]; rfl)))
 all_goals first | (refine pure_ (i := 18) (N := some 25) (v := ?_) (a' := ?_) (spec_ShopOk.m 19) rfl rfl (any_of HT_.out (by kernel_rfl)) (fun _ _ _ h => h) (Or.inl ⟨by rfl, ?_⟩) ?_ ?_; rotate_left; (focus (intro w'; go_simp; with_reducible rfl)); rotate_left; (focus (simp only [Act.put, List.setIfInBounds_toArray, List.set_cons_zero, List.set_cons_succ, i64_w, i32_w]; rfl))) | (refine pure_ (i := 18) (N := some 25) (v := undef) (a' := ?_) (spec_ShopOk.m 19) rfl rfl (any_of HT_.out (by kernel_rfl)) (fun _ _ _ h => h) (Or.inr ⟨by rfl, rfl⟩) ?_ ?_; rotate_left; (focus (simp only [Act.put, List.setIfInBounds_toArray, List.set_cons_zero, List.set_cons_succ, i64_w, i32_w]; rfl)))
 all_goals first | (refine pure_ (i := 19) (N := some 26) (v := ?_) (a' := ?_) (spec_ShopOk.m 20) rfl rfl (any_of HT_.out (by kernel_rfl)) (fun _ _ _ h => h) (Or.inl ⟨by rfl, ?_⟩) ?_ ?_; rotate_left; (focus (intro w'; go_simp; with_reducible rfl)); rotate_left; (focus (simp only [Act.put, List.setIfInBounds_toArray, List.set_cons_zero, List.set_cons_succ, i64_w, i32_w]; rfl))) | (refine pure_ (i := 19) (N := some 26) (v := undef) (a' := ?_) (spec_ShopOk.m 20) rfl rfl (any_of HT_.out (by kernel_rfl)) (fun _ _ _ h => h) (Or.inr ⟨by rfl, rfl⟩) ?_ ?_; rotate_left; (focus (simp only [Act.put, List.setIfInBounds_toArray, List.set_cons_zero, List.set_cons_succ, i64_w, i32_w]; rfl)))
 all_goals first | (refine pure_ (i := 20) (N := some 27) (v := ?_) (a' := ?_) (spec_ShopOk.m 21) rfl rfl (any_of HT_.out (by kernel_rfl)) (fun _ _ _ h => h) (Or.inl ⟨by rfl, ?_⟩) ?_ ?_; rotate_left; (focus (intro w'; go_simp; with_reducible rfl)); rotate_left; (focus (simp only [Act.put, List.setIfInBounds_toArray, List.set_cons_zero, List.set_cons_succ, i64_w, i32_w]; rfl))) | (refine pure_ (i := 20) (N := some 27) (v := undef) (a' := ?_) (spec_ShopOk.m 21) rfl rfl (any_of HT_.out (by kernel_rfl)) (fun _ _ _ h => h) (Or.inr ⟨by rfl, rfl⟩) ?_ ?_; rotate_left; (focus (simp only [Act.put, List.setIfInBounds_toArray, List.set_cons_zero, List.set_cons_succ, i64_w, i32_w]; rfl)))
 all_goals first | (refine pure_ (i := 21) (N := some 28) (v := ?_) (a' := ?_) (spec_ShopOk.m 22) rfl rfl (any_of HT_.out (by kernel_rfl)) (fun _ _ _ h => h) (Or.inl ⟨by rfl, ?_⟩) ?_ ?_; rotate_left; (focus (intro w'; go_simp; with_reducible rfl)); rotate_left; (focus (simp only [Act.put, List.setIfInBounds_toArray, List.set_cons_zero, List.set_cons_succ, i64_w, i32_w]; rfl))) | (refine pure_ (i := 21) (N := some 28) (v := undef) (a' := ?_) (spec_ShopOk.m 22) rfl rfl (any_of HT_.out (by kernel_rfl)) (fun _ _ _ h => h) (Or.inr ⟨by rfl, rfl⟩) ?_ ?_; rotate_left; (focus (simp only [Act.put, List.setIfInBounds_toArray, List.set_cons_zero, List.set_cons_succ, i64_w, i32_w]; rfl)))
 all_goals first | (refine pure_ (i := 22) (N := some 29) (v := ?_) (a' := ?_) (spec_ShopOk.m 23) rfl rfl (any_of HT_.out (by kernel_rfl)) (fun _ _ _ h => h) (Or.inl ⟨by rfl, ?_⟩) ?_ ?_; rotate_left; (focus (intro w'; go_simp; with_reducible rfl)); rotate_left; (focus (simp only [Act.put, List.setIfInBounds_toArray, List.set_cons_zero, List.set_cons_succ, i64_w, i32_w]; rfl))) | (refine pure_ (i := 22) (N := some 29) (v := undef) (a' := ?_) (spec_ShopOk.m 23) rfl rfl (any_of HT_.out (by kernel_rfl)) (fun _ _ _ h => h) (Or.inr ⟨by rfl, rfl⟩) ?_ ?_; rotate_left; (focus (simp only [Act.put, List.setIfInBounds_toArray, List.set_cons_zero, List.set_cons_succ, i64_w, i32_w]; rfl)))
 all_goals first | (refine take_ (i := 23) (N := some 30) (v := ?_) (a' := ?_) (spec_ShopOk.m 24) rfl rfl (take_ofW HT_.out HW_.out (by kernel_rfl)) (fun _ _ _ h => h) (Or.inl ⟨by rfl, ?_⟩) hHeld ?_ ?_; rotate_left; (focus (intro w' hS; have jS : Sin w1 w' := ⟨hS⟩; go_simp; with_reducible rfl)); rotate_left; (focus (simp only [Act.put, List.setIfInBounds_toArray, List.set_cons_zero, List.set_cons_succ, i64_w, i32_w]; rfl))) | (refine pure_ (i := 23) (N := some 30) (v := undef) (a' := ?_) (spec_ShopOk.m 24) rfl rfl (any_of HT_.out (by kernel_rfl)) (fun _ _ _ h => h) (Or.inr ⟨by rfl, rfl⟩) ?_ ?_; rotate_left; (focus (simp only [Act.put, List.setIfInBounds_toArray, List.set_cons_zero, List.set_cons_succ, i64_w, i32_w]; rfl)))
 all_goals first | (refine pure_ (i := 24) (N := some 31) (v := ?_) (a' := ?_) (spec_ShopOk.m 25) rfl rfl (any_of HT_.out (by kernel_rfl)) (fun _ _ _ h => h) (Or.inl ⟨by rfl, ?_⟩) ?_ ?_; rotate_left; (focus (intro w'; go_simp; with_reducible rfl)); rotate_left; (focus (simp only [Act.put, List.setIfInBounds_toArray, List.set_cons_zero, List.set_cons_succ, i64_w, i32_w]; rfl))) | (refine pure_ (i := 24) (N := some 31) (v := undef) (a' := ?_) (spec_ShopOk.m 25) rfl rfl (any_of HT_.out (by kernel_rfl)) (fun _ _ _ h => h) (Or.inr ⟨by rfl, rfl⟩) ?_ ?_; rotate_left; (focus (simp only [Act.put, List.setIfInBounds_toArray, List.set_cons_zero, List.set_cons_succ, i64_w, i32_w]; rfl)))
 all_goals first | (refine pure_ (i := 25) (N := some 32) (v := ?_) (a' := ?_) (spec_ShopOk.m 26) rfl rfl (any_of HT_.out (by kernel_rfl)) (fun _ _ _ h => h) (Or.inl ⟨by rfl, ?_⟩) ?_ ?_; rotate_left; (focus (intro w'; go_simp; with_reducible rfl)); rotate_left; (focus (simp only [Act.put, List.setIfInBounds_toArray, List.set_cons_zero, List.set_cons_succ, i64_w, i32_w]; rfl))) | (refine pure_ (i := 25) (N := some 32) (v := undef) (a' := ?_) (spec_ShopOk.m 26) rfl rfl (any_of HT_.out (by kernel_rfl)) (fun _ _ _ h => h) (Or.inr ⟨by rfl, rfl⟩) ?_ ?_; rotate_left; (focus (simp only [Act.put, List.setIfInBounds_toArray, List.set_cons_zero, List.set_cons_succ, i64_w, i32_w]; rfl)))
 all_goals first | (refine pure_ (i := 26) (N := some 33) (v := ?_) (a' := ?_) (spec_ShopOk.m 27) rfl rfl (any_of HT_.out (by kernel_rfl)) (fun _ _ _ h => h) (Or.inl ⟨by rfl, ?_⟩) ?_ ?_; rotate_left; (focus (intro w'; go_simp; with_reducible rfl)); rotate_left; (focus (simp only [Act.put, List.setIfInBounds_toArray, List.set_cons_zero, List.set_cons_succ, i64_w, i32_w]; rfl))) | (refine pure_ (i := 26) (N := some 33) (v := undef) (a' := ?_) (spec_ShopOk.m 27) rfl rfl (any_of HT_.out (by kernel_rfl)) (fun _ _ _ h => h) (Or.inr ⟨by rfl, rfl⟩) ?_ ?_; rotate_left; (focus (simp only [Act.put, List.setIfInBounds_toArray, List.set_cons_zero, List.set_cons_succ, i64_w, i32_w]; rfl)))
 all_goals first | (refine pure_ (i := 27) (N := some 34) (v := ?_) (a' := ?_) (spec_ShopOk.m 28) rfl rfl (any_of HT_.out (by kernel_rfl)) (fun _ _ _ h => h) (Or.inl ⟨by rfl, ?_⟩) ?_ ?_; rotate_left; (focus (intro w'; go_simp; with_reducible rfl)); rotate_left; (focus (simp only [Act.put, List.setIfInBounds_toArray, List.set_cons_zero, List.set_cons_succ, i64_w, i32_w]; rfl))) | (refine pure_ (i := 27) (N := some 34) (v := undef) (a' := ?_) (spec_ShopOk.m 28) rfl rfl (any_of HT_.out (by kernel_rfl)) (fun _ _ _ h => h) (Or.inr ⟨by rfl, rfl⟩) ?_ ?_; rotate_left; (focus (simp only [Act.put, List.setIfInBounds_toArray, List.set_cons_zero, List.set_cons_succ, i64_w, i32_w]; rfl)))
 all_goals first | (refine take_ (i := 28) (N := some 35) (v := ?_) (a' := ?_) (spec_ShopOk.m 29) rfl rfl (take_ofW HT_.out HW_.out (by kernel_rfl)) (fun _ _ _ h => h) (Or.inl ⟨by rfl, ?_⟩) hHeld ?_ ?_; rotate_left; (focus (intro w' hS; have jS : Sin w1 w' := ⟨hS⟩; go_simp; with_reducible rfl)); rotate_left; (focus (simp only [Act.put, List.setIfInBounds_toArray, List.set_cons_zero, List.set_cons_succ, i64_w, i32_w]; rfl))) | (refine pure_ (i := 28) (N := some 35) (v := undef) (a' := ?_) (spec_ShopOk.m 29) rfl rfl (any_of HT_.out (by kernel_rfl)) (fun _ _ _ h => h) (Or.inr ⟨by rfl, rfl⟩) ?_ ?_; rotate_left; (focus (simp only [Act.put, List.setIfInBounds_toArray, List.set_cons_zero, List.set_cons_succ, i64_w, i32_w]; rfl)))
 all_goals first | (refine pure_ (i := 29) (N := some 36) (v := ?_) (a' := ?_) (spec_ShopOk.m 30) rfl rfl (any_of HT_.out (by kernel_rfl)) (fun _ _ _ h => h) (Or.inl ⟨by rfl, ?_⟩) ?_ ?_; rotate_left; (focus (intro w'; go_simp; with_reducible rfl)); rotate_left; (focus (simp only [Act.put, List.setIfInBounds_toArray, List.set_cons_zero, List.set_cons_succ, i64_w, i32_w]; rfl))) | (refine pure_ (i := 29) (N := some 36) (v := undef) (a' := ?_) (spec_ShopOk.m 30) rfl rfl (any_of HT_.out (by kernel_rfl)) (fun _ _ _ h => h) (Or.inr ⟨by rfl, rfl⟩) ?_ ?_; rotate_left; (focus (simp only [Act.put, List.setIfInBounds_toArray, List.set_cons_zero, List.set_cons_succ, i64_w, i32_w]; rfl)))
 all_goals first | (refine take_ (i := 30) (N := some 37) (v := ?_) (a' := ?_) (spec_ShopOk.m 31) rfl rfl (take_ofW HT_.out HW_.out (by kernel_rfl)) (fun _ _ _ h => h) (Or.inl ⟨by rfl, ?_⟩) hHeld ?_ ?_; rotate_left; (focus (intro w' hS; have jS : Sin w1 w' := ⟨hS⟩; go_simp; with_reducible rfl)); rotate_left; (focus (simp only [Act.put, List.setIfInBounds_toArray, List.set_cons_zero, List.set_cons_succ, i64_w, i32_w]; rfl))) | (refine pure_ (i := 30) (N := some 37) (v := undef) (a' := ?_) (spec_ShopOk.m 31) rfl rfl (any_of HT_.out (by kernel_rfl)) (fun _ _ _ h => h) (Or.inr ⟨by rfl, rfl⟩) ?_ ?_; rotate_left; (focus (simp only [Act.put, List.setIfInBounds_toArray, List.set_cons_zero, List.set_cons_succ, i64_w, i32_w]; rfl)))
 all_goals first | (refine pure_ (i := 31) (N := some 38) (v := ?_) (a' := ?_) (spec_ShopOk.m 32) rfl rfl (any_of HT_.out (by kernel_rfl)) (fun _ _ _ h => h) (Or.inl ⟨by rfl, ?_⟩) ?_ ?_; rotate_left; (focus (intro w'; go_simp; with_reducible rfl)); rotate_left; (focus (simp only [Act.put, List.setIfInBounds_toArray, List.set_cons_zero, List.set_cons_succ, i64_w, i32_w]; rfl))) | (refine pure_ (i := 31) (N := some 38) (v := undef) (a' := ?_) (spec_ShopOk.m 32) rfl rfl (any_of HT_.out (by kernel_rfl)) (fun _ _ _ h => h) (Or.inr ⟨by rfl, rfl⟩) ?_ ?_; rotate_left; (focus (simp only [Act.put, List.setIfInBounds_toArray, List.set_cons_zero, List.set_cons_succ, i64_w, i32_w]; rfl)))
 all_goals first | (refine pure_ (i := 32) (N := some 39) (v := ?_) (a' := ?_) (spec_ShopOk.m 33) rfl rfl (any_of HT_.out (by kernel_rfl)) (fun _ _ _ h => h) (Or.inl ⟨by rfl, ?_⟩) ?_ ?_; rotate_left; (focus (intro w'; go_simp; with_reducible rfl)); rotate_left; (focus (simp only [Act.put, List.setIfInBounds_toArray, List.set_cons_zero, List.set_cons_succ, i64_w, i32_w]; rfl))) | (refine pure_ (i := 32) (N := some 39) (v := undef) (a' := ?_) (spec_ShopOk.m 33) rfl rfl (any_of HT_.out (by kernel_rfl)) (fun _ _ _ h => h) (Or.inr ⟨by rfl, rfl⟩) ?_ ?_; rotate_left; (focus (simp only [Act.put, List.setIfInBounds_toArray, List.set_cons_zero, List.set_cons_succ, i64_w, i32_w]; rfl)))
 all_goals first | (refine pure_ (i := 33) (N := some 40) (v := ?_) (a' := ?_) (spec_ShopOk.m 34) rfl rfl (any_of HT_.out (by kernel_rfl)) (fun _ _ _ h => h) (Or.inl ⟨by rfl, ?_⟩) ?_ ?_; rotate_left; (focus (intro w'; go_simp; with_reducible rfl)); rotate_left; (focus (simp only [Act.put, List.setIfInBounds_toArray, List.set_cons_zero, List.set_cons_succ, i64_w, i32_w]; rfl))) | (refine pure_ (i := 33) (N := some 40) (v := undef) (a' := ?_) (spec_ShopOk.m 34) rfl rfl (any_of HT_.out (by kernel_rfl)) (fun _ _ _ h => h) (Or.inr ⟨by rfl, rfl⟩) ?_ ?_; rotate_left; (focus (simp only [Act.put, List.setIfInBounds_toArray, List.set_cons_zero, List.set_cons_succ, i64_w, i32_w]; rfl)))
 all_goals first | (refine pure_ (i := 34) (N := some 2) (v := ?_) (a' := ?_) (spec_ShopOk.m 35) rfl rfl (any_of HT_.out (by kernel_rfl)) (fun _ _ _ h => h) (Or.inl ⟨by rfl, ?_⟩) ?_ ?_; rotate_left; (focus (intro w'; go_simp; with_reducible rfl)); rotate_left; (focus (simp only [Act.put, List.setIfInBounds_toArray, List.set_cons_zero, List.set_cons_succ, i64_w, i32_w]; rfl))) | (refine pure_ (i := 34) (N := some 2) (v := undef) (a' := ?_) (spec_ShopOk.m 35) rfl rfl (any_of HT_.out (by kernel_rfl)) (fun _ _ _ h => h) (Or.inr ⟨by rfl, rfl⟩) ?_ ?_; rotate_left; (focus (simp only [Act.put, List.setIfInBounds_toArray, List.set_cons_zero, List.set_cons_succ, i64_w, i32_w]; rfl)))
 all_goals refine done_ (done_of HT_.out (by kernel_rfl)) ?_
 all_goals try go_wp2
 all_goals go_ret
 all_goals exact ⟨by first | rfl | (simp [*]; done), From.out⟩
end Go.Proofs.Ytbkkpllejgedcaa.P


namespace Go.Proofs.Ytbkkpllejgedcaa.P
open Go.RowKit Go.Proofs.YtbkkpllejgedcaaW.PrintWords Go.Proofs.YtbkkpllejgedcaaW.PrintLast Go.Proofs.YtbkkpllejgedcaaW.PrintMore
attribute [local go_sem] max2_int min2_int max_two min_two max_three min_three max_four min_four
set_option linter.unusedVariables false
set_option linter.unusedSimpArgs false
def spec_l34Copy.f (l0 : List (S74)) : Option ((List (S74))) := (some (([] : List (S74)) : List (S74))).bind fun y712 => (if y712.length + l0.length < 4398046511104 then (some (y712 ++ l0)) else (none))
set_option maxHeartbeats 8000000 in
set_option maxRecDepth 100000 in
theorem spec_l34Copy.calls (A0 : Option Addr) (c0 : Nat) (l0 : List (S74)) (r : List (S74)) (w : World) (hr0 : Kd.C k74 w A0 l0.length l0) (hc0 : l0.length ≤ c0) (h : spec_l34Copy.f l0 = some r) :
  Calls Try.prog 93 #[.slice A0 l0.length c0] w fun e w' => ∃ v0_ : Value, e = .returned (v0_) ∧ Kd.R k74 74 w' w.heap.size (fun _ => True) v0_ r ∧ Below w.heap.size w w' := by
 have HR0 := A_ hr0
 have HC0 := A_ hc0
 clear hr0 hc0
 have HB := A_ (Below.refl w.heap.size w)
 have H : ((some (([] : List (S74)) : List (S74))).bind fun y712 => (if y712.length + l0.length < 4398046511104 then (some (y712 ++ l0)) else (none))) = some r := h
 clear h
 obtain ⟨y712, hy712⟩ : ∃ y_ : List (S74), y_ = (([] : List (S74))) := ⟨_, rfl⟩
 replace H : (if y712.length + l0.length < 4398046511104 then (some (y712 ++ l0)) else (none)) = some r := by first | (rw [hy712]; with_reducible exact H) | (have H2_ := (Option.bind_some _ _).symm.trans H; rw [hy712]; with_reducible exact H2_) | (have H2_ := (Option.bind_some _ _).symm.trans H; with_reducible exact H2_) | with_reducible exact H | (rw [hy712]; exact H) | exact H
 have Ny712 := A_ hy712
 clear hy712
 by_cases c2 : y712.length + l0.length < 4398046511104
 ·rw [if_pos c2] at H
  have LMc2 := A_ c2
  clear c2
  obtain ⟨y715, hy715⟩ : ∃ y_ : List (S74), y_ = (y712 ++ l0) := ⟨_, rfl⟩
  replace H : (some y715) = some r := by first | (rw [hy715]; with_reducible exact H) | (have H2_ := (Option.bind_some _ _).symm.trans H; rw [hy715]; with_reducible exact H2_) | (have H2_ := (Option.bind_some _ _).symm.trans H; with_reducible exact H2_) | with_reducible exact H | (rw [hy715]; exact H) | exact H
  have Ny715 := A_ hy715
  clear hy715
  obtain rfl := Option.some.inj H
  go_enter Try.func93, Try.ntmps93
  go_wp2_with (first | ((with_reducible refine gate_dst (N := 3) rfl ?_); refine Kd.R_lit k74 _ 74 ?hg (N := 3) ?hd (xs := ([] : List (S74))) (inner := []) (ok := fun _ => True) (okp := fun _ => True) ?hr ?hp (fun _ hk => hk) trivial (Below.refl _ _) (Nat.le_refl _) (by simp) ?_; (case hd => rfl); (case hg => rfl); (case hr => first | (go_simp; done) | (go_simp; rfl)); (case hp => exact (Reps.none _ _)); intro v713 w3 ho4 hb hg_ hnew_; clear hg_ hnew_; (first | rw [← Ny712.out] at ho4 | (simp only [Int.reduceToNat] at ho4; rw [← Ny712.out] at ho4)); have n0_ := A_ (Kd.R_lower ho4 (below_size (oB HB))); have n1_ := A_ (below_step (oB HB) hb); clear HB; have HO714 := n0_; have HB := n1_; clear n0_ n1_; clear hb ho4) | ((with_reducible refine gate_builtin (b := .append) (xs := #[.tmp 3, .tmp 4]) rfl ?_); at_builtin; refine Kd.R_append_rows k74 (w0 := w) w.heap.size rfl (.tmp 3) (.tmp 4) 34 74 (.agg #[(.int .i64 0), (.int .i64 0), (.int .i64 0), (.int .i64 0)]) 32 rfl Try.underlying34 info74 rfl (by decide) (by omega) v713 y712 l0 _ _ _ (fun _ => True) (fun _ => False) rfl rfl ?aO ?aR (fun _ _ h => h) (fun _ h => h.elim) ?aF ?aB ?aS ?aL ?_; (case aR => exact oc_ HR0.out); (case aB => exact (oB HB)); (case aF => exact (fun _ _ => trivial)); (case aO => exact (oR HO714)); (case aS => exact (below_size (oB HB))); (case aL => have := LMc2.out; omega); intro v716 w5 ho hb hg hat; rw [← Ny715.out] at ho; have n0_ := A_ (hb); have n1_ := A_ (ho); clear HB; clear HO714; have HB := n0_; have HO717 := n1_; clear n0_ n1_; clear ho hb hg hat))
  go_ret
  exact ⟨_, eR, oR HO717, oB HB⟩
 ·rw [if_neg c2] at H
  exact absurd H (by simp)
end Go.Proofs.Ytbkkpllejgedcaa.P


namespace Go.Proofs.Ytbkkpllejgedcaa.P
open Go.RowKit Go.Proofs.YtbkkpllejgedcaaW.PrintWords Go.Proofs.YtbkkpllejgedcaaW.PrintLast Go.Proofs.YtbkkpllejgedcaaW.PrintMore
attribute [local go_sem] max2_int min2_int max_two min_two max_three min_three max_four min_four
set_option linter.unusedVariables false
set_option linter.unusedSimpArgs false
def spec_l02Copy.f (l0 : List Int) : Option (List Int) := (some (([] : List Int) : List Int)).bind fun y718 => (if y718.length + l0.length < 17592186044416 then (some (y718 ++ l0)) else (none))
set_option maxHeartbeats 8000000 in
set_option maxRecDepth 100000 in
theorem spec_l02Copy.calls (A0 : Option Addr) (c0 : Nat) (l0 : List Int) (r : List Int) (w : World) (hr0 : Kd.C (Kd.int .i64) w A0 l0.length l0) (hc0 : l0.length ≤ c0) (h : spec_l02Copy.f l0 = some r) :
  Calls Try.prog 126 #[.slice A0 l0.length c0] w fun e w' => ∃ v0_ : Value, e = .returned (v0_) ∧ Kd.R (Kd.int .i64) 3 w' w.heap.size (fun _ => True) v0_ r ∧ Below w.heap.size w w' := by
 have HR0 := A_ hr0
 have HC0 := A_ hc0
 clear hr0 hc0
 have HB := A_ (Below.refl w.heap.size w)
 have H : ((some (([] : List Int) : List Int)).bind fun y718 => (if y718.length + l0.length < 17592186044416 then (some (y718 ++ l0)) else (none))) = some r := h
 clear h
 obtain ⟨y718, hy718⟩ : ∃ y_ : List Int, y_ = (([] : List Int)) := ⟨_, rfl⟩
 replace H : (if y718.length + l0.length < 17592186044416 then (some (y718 ++ l0)) else (none)) = some r := by first | (rw [hy718]; with_reducible exact H) | (have H2_ := (Option.bind_some _ _).symm.trans H; rw [hy718]; with_reducible exact H2_) | (have H2_ := (Option.bind_some _ _).symm.trans H; with_reducible exact H2_) | with_reducible exact H | (rw [hy718]; exact H) | exact H
 have Ny718 := A_ hy718
 clear hy718
 by_cases c2 : y718.length + l0.length < 17592186044416
 ·rw [if_pos c2] at H
  have LMc2 := A_ c2
  clear c2
  obtain ⟨y721, hy721⟩ : ∃ y_ : List Int, y_ = (y718 ++ l0) := ⟨_, rfl⟩
  replace H : (some y721) = some r := by first | (rw [hy721]; with_reducible exact H) | (have H2_ := (Option.bind_some _ _).symm.trans H; rw [hy721]; with_reducible exact H2_) | (have H2_ := (Option.bind_some _ _).symm.trans H; with_reducible exact H2_) | with_reducible exact H | (rw [hy721]; exact H) | exact H
  have Ny721 := A_ hy721
  clear hy721
  obtain rfl := Option.some.inj H
  go_enter Try.func126, Try.ntmps126
  go_wp2_with (first | ((with_reducible refine gate_dst (N := 3) rfl ?_); refine Kd.R_lit (Kd.int .i64) _ 3 ?hg (N := 3) ?hd (xs := ([] : List Int)) (inner := []) (ok := fun _ => True) (okp := fun _ => True) ?hr ?hp (fun _ hk => hk) trivial (Below.refl _ _) (Nat.le_refl _) (by simp) ?_; (case hd => rfl); (case hg => rfl); (case hr => first | (go_simp; done) | (go_simp; rfl)); (case hp => exact (Reps.none _ _)); intro v719 w3 ho4 hb hg_ hnew_; clear hg_ hnew_; (first | rw [← Ny718.out] at ho4 | (simp only [Int.reduceToNat] at ho4; rw [← Ny718.out] at ho4)); have n0_ := A_ (Kd.R_lower ho4 (below_size (oB HB))); have n1_ := A_ (below_step (oB HB) hb); clear HB; have HO720 := n0_; have HB := n1_; clear n0_ n1_; clear hb ho4) | ((with_reducible refine gate_builtin (b := .append) (xs := #[.tmp 3, .tmp 4]) rfl ?_); at_builtin; refine Kd.R_append_rows (Kd.int .i64) (w0 := w) w.heap.size rfl (.tmp 3) (.tmp 4) 23 3 (.int .i64 0) 8 rfl Try.underlying23 info3 rfl (by decide) (by omega) v719 y718 l0 _ _ _ (fun _ => True) (fun _ => False) rfl rfl ?aO ?aR (fun _ _ h => h) (fun _ h => h.elim) ?aF ?aB ?aS ?aL ?_; (case aR => exact oc_ HR0.out); (case aB => exact (oB HB)); (case aF => exact (fun _ _ => trivial)); (case aO => exact (oR HO720)); (case aS => exact (below_size (oB HB))); (case aL => have := LMc2.out; omega); intro v722 w5 ho hb hg hat; rw [← Ny721.out] at ho; have n0_ := A_ (hb); have n1_ := A_ (ho); clear HB; clear HO720; have HB := n0_; have HO723 := n1_; clear n0_ n1_; clear ho hb hg hat))
  go_ret
  exact ⟨_, eR, oR HO723, oB HB⟩
 ·rw [if_neg c2] at H
  exact absurd H (by simp)
end Go.Proofs.Ytbkkpllejgedcaa.P


namespace Go.Proofs.Ytbkkpllejgedcaa.P
open Go.RowKit Go.Proofs.YtbkkpllejgedcaaW.PrintWords Go.Proofs.YtbkkpllejgedcaaW.PrintLast Go.Proofs.YtbkkpllejgedcaaW.PrintMore Go.Proofs.Ytbkkpllejgedcaa.V
attribute [local go_sem] cell_b frozen_b
attribute [local go_sem] max2_int min2_int max_two min_two max_three min_three max_four min_four
set_option linter.unusedVariables false
set_option linter.unusedSimpArgs false
def spec_l36Copy.f (l0_0 : List (S96)) (a0_1 : Int) (l0_2 : List Int) : Option ((List (S96)) × Int × List Int) := (spec_l19Copy.f l0_0).bind fun t726 => ((spec_l02Copy.f l0_2).bind fun t729 => (some (t726, a0_1, t729)))
set_option maxHeartbeats 8000000 in
set_option maxRecDepth 100000 in
set_option synthInstance.maxHeartbeats 400000 in
set_option synthInstance.maxSize 100000 in
theorem spec_l36Copy.calls (A0_0 : Option Addr) (c0_0 : Nat) (l0_0 : List (S96)) (a0_1 : Int) (A0_2 : Option Addr) (c0_2 : Nat) (l0_2 : List Int) (r1 : List (S96)) (r2 : Int) (r3 : List Int) (w : World) (hr0_0 : Kd.C k96 w A0_0 l0_0.length l0_0) (hc0_0 : l0_0.length ≤ c0_0) (hr0_2 : Kd.C (Kd.int .i64) w A0_2 l0_2.length l0_2) (hc0_2 : l0_2.length ≤ c0_2) (h : spec_l36Copy.f l0_0 a0_1 l0_2 = some (r1, r2, r3)) :
  Calls Try.prog 118 #[.agg #[.slice A0_0 l0_0.length c0_0, .int .i64 a0_1, .slice A0_2 l0_2.length c0_2]] w fun e w' => ∃ v0_ v2_ : Value, e = .returned (.agg #[v0_, .int .i64 r2, v2_]) ∧ Kd.R k96 96 w' w.heap.size (fun _ => True) v0_ r1 ∧ Kd.R (Kd.int .i64) 3 w' w.heap.size (fun _ => True) v2_ r3 ∧ Below w.heap.size w w' := by
 have ihr0_0 := RdE.mk hr0_0
 have ihc0_0 := LeI.mk hc0_0
 have ihr0_2 := RdE.mk hr0_2
 have ihc0_2 := LeI.mk hc0_2
 clear hr0_0 hc0_0 hr0_2 hc0_2
 unfold spec_l36Copy.f at h
 have hu33 := Try.underlying33
 (repeat' first | ((with_reducible replace h := ite_some h); rcases h with ⟨hc, h⟩ | ⟨hc, h⟩ <;> first | exact (none_some h).elim | exact absurd hc (by decide) | subst hc | (replace hc := Bool.eq_false_iff.mpr hc; subst hc) | (have hd := beq_iff_eq.mpr hc; have he := bne_eq_false_iff_eq.mpr hc; clear hc) | (have hd := beq_eq_false_iff_ne.mpr hc; have he := bne_iff_ne.mpr hc) | (have hd := decide_eq_false hc) | (have hd := decide_eq_true hc) | skip))
 all_goals go_enter Try.func118, Try.ntmps118
 all_goals go_wp2_with (first
  | ((with_reducible refine gate_dst (N := 1) rfl ?_); refine box_event rfl (N := 1) rfl (cs := #[.slice A0_0 l0_0.length c0_0, .int .i64 a0_1, .slice A0_2 l0_2.length c0_2]) (t := 33) (by first | (go_simp; done) | (go_simp; rfl)) ?_; intro g hg w1 hk hb; have j1 := Born.mk hg; have j2 := Bel.mk hb; have j3 := Blk.mk hk; clear hg hb hk)
  | ((with_reducible refine gate_dst (N := 2) rfl ?_); refine box_event rfl (N := 2) rfl (cs := #[.slice none 0 0, .int .i64 0, .slice none 0 0]) (t := 33) (by first | (go_simp; done) | (go_simp; rfl)) ?_; intro g hg w1 hk hb; have j1 := Born.mk hg; have j2 := Bel.mk hb; have j3 := Blk.mk hk; clear hg hb hk)
  | ((with_reducible refine region_at ?_); intro w3 jw; refine region_st 2 (by rfl) ?_; intro g hg w4 jv; subst hg; go_region_held3 (fun w' => SinB g w4 w') (first | exact ⟨FromB.out⟩ | skip) (first | (go_at_call 110; replace h := Option.bind_eq_some_iff.mp h; obtain ⟨t, A, h⟩ := h; (try dsimp only at h); refine (spec_l19Copy.calls _ _ _ _ _ Rd.out LeI.out A).mono ?_; rintro e w2 ⟨v0, rfl, ho0, hb⟩; obtain ⟨B0, b0, rfl⟩ := Kd.R_slice ho0; have j0 := RowE.mk ho0; have q0 := LeI.mk (rowLe j0); have jb := Bel.mk hb; clear A ho0 hb; (repeat' first | ((with_reducible replace h := ite_some h); rcases h with ⟨hc, h⟩ | ⟨hc, h⟩ <;> first | exact (none_some h).elim | exact absurd hc (by decide) | subst hc | (replace hc := Bool.eq_false_iff.mpr hc; subst hc) | (have hd := beq_iff_eq.mpr hc; have he := bne_eq_false_iff_eq.mpr hc; clear hc) | (have hd := beq_eq_false_iff_ne.mpr hc; have he := bne_iff_ne.mpr hc) | (have hd := decide_eq_false hc) | (have hd := decide_eq_true hc) | skip)); (try have hn : decide (0 < t.length) = true := decide_eq_true (by omega)); (try have hn : decide (0 < t.length) = false := decide_eq_false (by omega))) | (go_at_call 126; replace h := Option.bind_eq_some_iff.mp h; obtain ⟨t, A, h⟩ := h; (try dsimp only at h); refine (spec_l02Copy.calls _ _ _ _ _ Rd.out LeI.out A).mono ?_; rintro e w2 ⟨v0, rfl, ho0, hb⟩; obtain ⟨B0, b0, rfl⟩ := Kd.R_slice ho0; have j0 := RowE.mk ho0; have q0 := LeI.mk (rowLe j0); have jb := Bel.mk hb; clear A ho0 hb; (repeat' first | ((with_reducible replace h := ite_some h); rcases h with ⟨hc, h⟩ | ⟨hc, h⟩ <;> first | exact (none_some h).elim | exact absurd hc (by decide) | subst hc | (replace hc := Bool.eq_false_iff.mpr hc; subst hc) | (have hd := beq_iff_eq.mpr hc; have he := bne_eq_false_iff_eq.mpr hc; clear hc) | (have hd := beq_eq_false_iff_ne.mpr hc; have he := bne_iff_ne.mpr hc) | (have hd := decide_eq_false hc) | (have hd := decide_eq_true hc) | skip)); (try have hn : decide (0 < t.length) = true := decide_eq_true (by omega)); (try have hn : decide (0 < t.length) = false := decide_eq_false (by omega))))))
 all_goals (repeat' first | ((with_reducible replace h := ite_some h); rcases h with ⟨hc, h⟩ | ⟨hc, h⟩ <;> first | exact (none_some h).elim | exact absurd hc (by decide) | subst hc | (replace hc := Bool.eq_false_iff.mpr hc; subst hc) | (have hd := beq_iff_eq.mpr hc; have he := bne_eq_false_iff_eq.mpr hc; clear hc) | (have hd := beq_eq_false_iff_ne.mpr hc; have he := bne_iff_ne.mpr hc) | (have hd := decide_eq_false hc) | (have hd := decide_eq_true hc) | skip))
 all_goals simp only [Option.some.injEq, Prod.mk.injEq] at h
 all_goals obtain ⟨rfl, rfl, rfl⟩ := h
 all_goals refine bodyPost_ret (results_cell_row rfl _ _ _ _ _ (0, 0) _ rfl Blk.out Try.underlying33 rfl (by kernel_rfl)) rfl ?_
 all_goals exact ⟨_, _, rfl, (by first | exact rowFin | exact Kd.R_nil _ _ _ _ _), (by first | exact rowFin | exact Kd.R_nil _ _ _ _ _), From.out⟩
end Go.Proofs.Ytbkkpllejgedcaa.P


namespace Go.Proofs.Ytbkkpllejgedcaa.P
open Go.RowKit Go.Proofs.YtbkkpllejgedcaaW.PrintWords Go.Proofs.YtbkkpllejgedcaaW.PrintLast Go.Proofs.YtbkkpllejgedcaaW.PrintMore Go.Proofs.Ytbkkpllejgedcaa.V
attribute [local go_sem] cell_b frozen_b
attribute [local go_sem] max2_int min2_int max_two min_two max_three min_three max_four min_four
set_option linter.unusedVariables false
set_option linter.unusedSimpArgs false
def spec_l38Copy.f (l0_0 : List (S96)) (a0_1 : Int) (l0_2 : List Int) (a0_3 : Int) (a0_4 : Int) (l0_5 : List (S74)) : Option ((List (S96)) × Int × List Int × Int × Int × (List (S74))) := (spec_l36Copy.f l0_0 a0_1 l0_2).bind fun bt734 => ((spec_l34Copy.f l0_5).bind fun t741 => (some (bt734.1, bt734.2.1, bt734.2.2, a0_3, a0_4, t741)))
set_option maxHeartbeats 8000000 in
set_option maxRecDepth 100000 in
set_option synthInstance.maxHeartbeats 400000 in
set_option synthInstance.maxSize 100000 in
theorem spec_l38Copy.calls (A0_0 : Option Addr) (c0_0 : Nat) (l0_0 : List (S96)) (a0_1 : Int) (A0_2 : Option Addr) (c0_2 : Nat) (l0_2 : List Int) (a0_3 : Int) (a0_4 : Int) (A0_5 : Option Addr) (c0_5 : Nat) (l0_5 : List (S74)) (r1 : List (S96)) (r2 : Int) (r3 : List Int) (r4 : Int) (r5 : Int) (r6 : List (S74)) (w : World) (hr0_0 : Kd.C k96 w A0_0 l0_0.length l0_0) (hc0_0 : l0_0.length ≤ c0_0) (hr0_2 : Kd.C (Kd.int .i64) w A0_2 l0_2.length l0_2) (hc0_2 : l0_2.length ≤ c0_2) (hr0_5 : Kd.C k74 w A0_5 l0_5.length l0_5) (hc0_5 : l0_5.length ≤ c0_5) (h : spec_l38Copy.f l0_0 a0_1 l0_2 a0_3 a0_4 l0_5 = some (r1, r2, r3, r4, r5, r6)) :
  Calls Try.prog 83 #[.agg #[.slice A0_0 l0_0.length c0_0, .int .i64 a0_1, .slice A0_2 l0_2.length c0_2, .int .i64 a0_3, .int .i64 a0_4, .slice A0_5 l0_5.length c0_5]] w fun e w' => ∃ v0_ v2_ v5_ : Value, e = .returned (.agg #[v0_, .int .i64 r2, v2_, .int .i64 r4, .int .i64 r5, v5_]) ∧ Kd.R k96 96 w' w.heap.size (fun _ => True) v0_ r1 ∧ Kd.R (Kd.int .i64) 3 w' w.heap.size (fun _ => True) v2_ r3 ∧ Kd.R k74 74 w' w.heap.size (fun _ => True) v5_ r6 ∧ Below w.heap.size w w' := by
 have ihr0_0 := RdE.mk hr0_0
 have ihc0_0 := LeI.mk hc0_0
 have ihr0_2 := RdE.mk hr0_2
 have ihc0_2 := LeI.mk hc0_2
 have ihr0_5 := RdE.mk hr0_5
 have ihc0_5 := LeI.mk hc0_5
 clear hr0_0 hc0_0 hr0_2 hc0_2 hr0_5 hc0_5
 unfold spec_l38Copy.f at h
 have hu36 := Try.underlying36
 (repeat' first | ((with_reducible replace h := ite_some h); rcases h with ⟨hc, h⟩ | ⟨hc, h⟩ <;> first | exact (none_some h).elim | exact absurd hc (by decide) | subst hc | (replace hc := Bool.eq_false_iff.mpr hc; subst hc) | (have hd := beq_iff_eq.mpr hc; have he := bne_eq_false_iff_eq.mpr hc; clear hc) | (have hd := beq_eq_false_iff_ne.mpr hc; have he := bne_iff_ne.mpr hc) | (have hd := decide_eq_false hc) | (have hd := decide_eq_true hc) | skip))
 all_goals go_enter Try.func83, Try.ntmps83
 all_goals go_wp2_with (first
  | ((with_reducible refine gate_dst (N := 1) rfl ?_); refine box_event rfl (N := 1) rfl (cs := #[.slice A0_0 l0_0.length c0_0, .int .i64 a0_1, .slice A0_2 l0_2.length c0_2, .int .i64 a0_3, .int .i64 a0_4, .slice A0_5 l0_5.length c0_5]) (t := 36) (by first | (go_simp; done) | (go_simp; rfl)) ?_; intro g hg w1 hk hb; have j1 := Born.mk hg; have j2 := Bel.mk hb; have j3 := Blk.mk hk; clear hg hb hk)
  | ((with_reducible refine gate_dst (N := 2) rfl ?_); refine box_event rfl (N := 2) rfl (cs := #[.slice none 0 0, .int .i64 0, .slice none 0 0, .int .i64 0, .int .i64 0, .slice none 0 0]) (t := 36) (by first | (go_simp; done) | (go_simp; rfl)) ?_; intro g hg w1 hk hb; have j1 := Born.mk hg; have j2 := Bel.mk hb; have j3 := Blk.mk hk; clear hg hb hk)
  | ((with_reducible refine region_at ?_); intro w3 jw; refine region_st 2 (by rfl) ?_; intro g hg w4 jv; subst hg; go_region_held3 (fun w' => SinB g w4 w') (first | exact ⟨FromB.out⟩ | skip) (first | (go_at_call 118; replace h := Option.bind_eq_some_iff.mp h; obtain ⟨⟨t1, t2, t3⟩, A, h⟩ := h; (try dsimp only at h); refine (spec_l36Copy.calls _ _ _ _ _ _ _ _ _ _ _ Rd.out LeI.out Rd.out LeI.out A).mono ?_; rintro e w2 ⟨v0, v1, rfl, ho0, ho1, hb⟩; obtain ⟨B0, b0, rfl⟩ := Kd.R_slice ho0; have j0 := RowE.mk ho0; have q0 := LeI.mk (rowLe j0); obtain ⟨B1, b1, rfl⟩ := Kd.R_slice ho1; have j1 := RowE.mk ho1; have q1 := LeI.mk (rowLe j1); have jb := Bel.mk hb; clear A ho0 ho1 hb; (repeat' first | ((with_reducible replace h := ite_some h); rcases h with ⟨hc, h⟩ | ⟨hc, h⟩ <;> first | exact (none_some h).elim | exact absurd hc (by decide) | subst hc | (replace hc := Bool.eq_false_iff.mpr hc; subst hc) | (have hd := beq_iff_eq.mpr hc; have he := bne_eq_false_iff_eq.mpr hc; clear hc) | (have hd := beq_eq_false_iff_ne.mpr hc; have he := bne_iff_ne.mpr hc) | (have hd := decide_eq_false hc) | (have hd := decide_eq_true hc) | skip))) | (go_at_call 93; replace h := Option.bind_eq_some_iff.mp h; obtain ⟨t, A, h⟩ := h; (try dsimp only at h); refine (spec_l34Copy.calls _ _ _ _ _ Rd.out LeI.out A).mono ?_; rintro e w2 ⟨v0, rfl, ho0, hb⟩; obtain ⟨B0, b0, rfl⟩ := Kd.R_slice ho0; have j0 := RowE.mk ho0; have q0 := LeI.mk (rowLe j0); have jb := Bel.mk hb; clear A ho0 hb; (repeat' first | ((with_reducible replace h := ite_some h); rcases h with ⟨hc, h⟩ | ⟨hc, h⟩ <;> first | exact (none_some h).elim | exact absurd hc (by decide) | subst hc | (replace hc := Bool.eq_false_iff.mpr hc; subst hc) | (have hd := beq_iff_eq.mpr hc; have he := bne_eq_false_iff_eq.mpr hc; clear hc) | (have hd := beq_eq_false_iff_ne.mpr hc; have he := bne_iff_ne.mpr hc) | (have hd := decide_eq_false hc) | (have hd := decide_eq_true hc) | skip)); (try have hn : decide (0 < t.length) = true := decide_eq_true (by omega)); (try have hn : decide (0 < t.length) = false := decide_eq_false (by omega))))))
 all_goals (repeat' first | ((with_reducible replace h := ite_some h); rcases h with ⟨hc, h⟩ | ⟨hc, h⟩ <;> first | exact (none_some h).elim | exact absurd hc (by decide) | subst hc | (replace hc := Bool.eq_false_iff.mpr hc; subst hc) | (have hd := beq_iff_eq.mpr hc; have he := bne_eq_false_iff_eq.mpr hc; clear hc) | (have hd := beq_eq_false_iff_ne.mpr hc; have he := bne_iff_ne.mpr hc) | (have hd := decide_eq_false hc) | (have hd := decide_eq_true hc) | skip))
 all_goals simp only [Option.some.injEq, Prod.mk.injEq] at h
 all_goals obtain ⟨rfl, rfl, rfl, rfl, rfl, rfl⟩ := h
 all_goals refine bodyPost_ret (results_cell_row rfl _ _ _ _ _ (0, 0) _ rfl Blk.out Try.underlying36 rfl (by kernel_rfl)) rfl ?_
 all_goals exact ⟨_, _, _, rfl, (by first | exact rowFin | exact Kd.R_nil _ _ _ _ _), (by first | exact rowFin | exact Kd.R_nil _ _ _ _ _), (by first | exact rowFin | exact Kd.R_nil _ _ _ _ _), From.out⟩
end Go.Proofs.Ytbkkpllejgedcaa.P

