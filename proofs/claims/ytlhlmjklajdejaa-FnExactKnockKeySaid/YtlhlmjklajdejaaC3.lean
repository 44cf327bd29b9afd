/- What functions of the program come to (f), that their calls come to just this (calls), and the plain laws over lists and numbers, and the law FnExactKnockKey: for every argument it answers true. No condition but those of the given row. -/
import Derived.Test.YtlhlmjklajdejaaRows
import Derived.Test.YtlhlmjklajdejaaC2
import Derived.Deep.Slices
import Derived.ChangeArms
import Derived.ChangeSame
import Derived.KernelRfl
import Derived.WalkKit
import Derived.ProofKit
import Derived.OpenShut
import Derived.ShutString
import Derived.ChangeOld
import Derived.Below
import Derived.SizedLaws
namespace Go.Proofs.Ytlhlmjklajdejaa.P
open Go.RowKit Go.Proofs.YtlhlmjklajdejaaW.PrintWords Go.Proofs.YtlhlmjklajdejaaW.PrintLast Go.Proofs.YtlhlmjklajdejaaW.PrintMore
attribute [local go_sem] max2_int min2_int max_two min_two max_three min_three max_four min_four
set_option linter.unusedVariables false
set_option linter.unusedSimpArgs false
mutual
def laws_FnExactKnockKey.j0 : Nat → Int → Int → Bool → Bool → Bool → List (S70) → Int → List Int → List (S67) → Int → List Int → List (S67) → Int → List Int → List (S67) → Int → List Int → Option (Bool)
  | 0, _, _, _, _, _, _, _, _, _, _, _, _, _, _, _, _, _ => none
  | k + 1, x1, x2, x9, x12, x48, x438000, x438001, x438002, x455000, x455001, x455002, x463000, x463001, x463002, x472000, x472001, x472002 => if x48 = true then (some false) else ((laws_toWork.f k x438000 x438001 x438002).bind fun bt473 => ((laws_eqWork.f k x463000 x463001 x463002 bt473.1 bt473.2.1 bt473.2.2).bind fun t480 => (if t480 = true then ((laws_markWork.f k x463000 x463001 x463002 1).bind fun bt481 => (if bt481.1 < 0 then (laws_FnExactKnockKey.j1 k x1 x2 x9 true x438000 x438001 x438002 x455000 x455001 x455002 x472000 x472001 x472002) else ((laws_eqWork.f k x472000 x472001 x472002 x455000 x455001 x455002).bind fun t484 => (if t484 = true then (laws_FnExactKnockKey.j1 k x1 x2 x9 (x12 != x9) x438000 x438001 x438002 x455000 x455001 x455002 x472000 x472001 x472002) else (laws_FnExactKnockKey.j1 k x1 x2 x9 true x438000 x438001 x438002 x455000 x455001 x455002 x472000 x472001 x472002))))) else (some false))))
def laws_FnExactKnockKey.j1 : Nat → Int → Int → Bool → Bool → List (S70) → Int → List Int → List (S67) → Int → List Int → List (S67) → Int → List Int → Option (Bool)
  | 0, _, _, _, _, _, _, _, _, _, _, _, _, _ => none
  | k + 1, x1, x2, x9, x69, x438000, x438001, x438002, x455000, x455001, x455002, x472000, x472001, x472002 => if x69 = true then (some false) else ((laws_markWork.f k x472000 x472001 x472002 1).bind fun bt485 => ((laws_heldWork.f k bt485.2.1 x472001 bt485.2.2 1).bind fun t488 => (if t488 < 0 then (some false) else (if t488 = bt485.1 then ((laws_toWork.f k x438000 x438001 x438002).bind fun bt489 => ((impl_KnockKey.f k bt489.1 bt489.2.1 bt489.2.2 x1 x2).bind fun bt496 => ((laws_eqWork.f k bt496.1 bt496.2.1 bt496.2.2.1 x455000 x455001 x455002).bind fun t505 => (if t505 = true then (laws_FnExactKnockKey.j2 k bt485.1 (bt496.2.2.2 != x9) bt485.2.1 x472001 bt485.2.2) else (laws_FnExactKnockKey.j2 k bt485.1 true bt485.2.1 x472001 bt485.2.2))))) else (some false)))))
def laws_FnExactKnockKey.j2 : Nat → Int → Bool → List (S67) → Int → List Int → Option (Bool)
  | 0, _, _, _, _, _ => none
  | k + 1, x14, x97, x472000, x472001, x472002 => if x97 = true then (some false) else ((laws_heldWork.f k x472000 x472001 x472002 1).bind fun t506 => (if t506 < 0 then (some false) else (if t506 = x14 then (some true) else (some false))))
end
def laws_FnExactKnockKey.f (k : Nat) (l0_0 : List (S70)) (a0_1 : Int) (l0_2 : List Int) (a1 : Int) (a2 : Int) : Option (Bool) := (laws_szWork.f l0_0 a0_1 l0_2 1048576).bind fun t438 => (if t438 < 0 then (some true) else ((laws_toWork.f k l0_0 a0_1 l0_2).bind fun bt439 => ((spec_KnockKey.f k bt439.1 bt439.2.1 bt439.2.2 a1 a2).bind fun bt446 => ((laws_toWork.f k l0_0 a0_1 l0_2).bind fun bt455 => ((impl_KnockKey.f k bt455.1 bt455.2.1 bt455.2.2 a1 a2).bind fun bt463 => ((laws_eqWork.f k bt463.1 bt463.2.1 bt463.2.2.1 bt446.1 bt446.2.1 bt446.2.2.1).bind fun t472 => (if t472 = true then (laws_FnExactKnockKey.j0 k a1 a2 bt446.2.2.2 bt463.2.2.2 (bt463.2.2.2 != bt446.2.2.2) l0_0 a0_1 l0_2 bt446.1 bt446.2.1 bt446.2.2.1 bt455.1 bt455.2.1 bt455.2.2 bt463.1 bt463.2.1 bt463.2.2.1) else (laws_FnExactKnockKey.j0 k a1 a2 bt446.2.2.2 bt463.2.2.2 true l0_0 a0_1 l0_2 bt446.1 bt446.2.1 bt446.2.2.1 bt455.1 bt455.2.1 bt455.2.2 bt463.1 bt463.2.1 bt463.2.2.1))))))))
set_option maxHeartbeats 8000000 in
set_option maxRecDepth 100000 in
theorem laws_FnExactKnockKey.calls (k : Nat) (A0_0 : Option Addr) (c0_0 : Nat) (l0_0 : List (S70)) (a0_1 : Int) (A0_2 : Option Addr) (c0_2 : Nat) (l0_2 : List Int) (a1 : Int) (a2 : Int) (r : Bool) (w : World) (hr0_0 : Kd.C k70 w A0_0 l0_0.length l0_0) (hc0_0 : l0_0.length ≤ c0_0) (hr0_2 : Kd.C (Kd.int .i64) w A0_2 l0_2.length l0_2) (hc0_2 : l0_2.length ≤ c0_2) (h : laws_FnExactKnockKey.f k l0_0 a0_1 l0_2 a1 a2 = some r) (hrt_ : Aside0 (r = true)) :
    Calls Try.prog 6 #[.agg #[.slice A0_0 l0_0.length c0_0, .int .i64 a0_1, .slice A0_2 l0_2.length c0_2], .int .i64 a1, .int .i64 a2] w fun e w' => e = .returned (.bool r) ∧ Below w.heap.size w w' := by
  have hu25 := Try.underlying25
  have hu30 := Try.underlying30
  have HR0_0 := Aside0.mk hr0_0
  have HC0_0 := Aside0.mk hc0_0
  clear hr0_0 hc0_0
  have HR0_2 := Aside0.mk hr0_2
  have HC0_2 := Aside0.mk hc0_2
  clear hr0_2 hc0_2
  have HB := Aside0.mk (Below.refl w.heap.size w)
  have H : ((laws_szWork.f l0_0 a0_1 l0_2 1048576).bind fun t438 => (if t438 < 0 then (some true) else ((laws_toWork.f k l0_0 a0_1 l0_2).bind fun bt439 => ((spec_KnockKey.f k bt439.1 bt439.2.1 bt439.2.2 a1 a2).bind fun bt446 => ((laws_toWork.f k l0_0 a0_1 l0_2).bind fun bt455 => ((impl_KnockKey.f k bt455.1 bt455.2.1 bt455.2.2 a1 a2).bind fun bt463 => ((laws_eqWork.f k bt463.1 bt463.2.1 bt463.2.2.1 bt446.1 bt446.2.1 bt446.2.2.1).bind fun t472 => (if t472 = true then (laws_FnExactKnockKey.j0 k a1 a2 bt446.2.2.2 bt463.2.2.2 (bt463.2.2.2 != bt446.2.2.2) l0_0 a0_1 l0_2 bt446.1 bt446.2.1 bt446.2.2.1 bt455.1 bt455.2.1 bt455.2.2 bt463.1 bt463.2.1 bt463.2.2.1) else (laws_FnExactKnockKey.j0 k a1 a2 bt446.2.2.2 bt463.2.2.2 true l0_0 a0_1 l0_2 bt446.1 bt446.2.1 bt446.2.2.1 bt455.1 bt455.2.1 bt455.2.2 bt463.1 bt463.2.1 bt463.2.2.1))))))))) = some r := h
  clear h
  replace H := Option.bind_eq_some_iff.mp H
  obtain ⟨t438, A40, H⟩ := H
  (try dsimp only at H)
  have A4 := Aside0.mk A40
  clear A40
  by_cases c5 : t438 < 0
  · rw [if_pos c5] at H
    have c5b0 : decide (t438 < 0) = true := decide_eq_true c5
    clear c5
    obtain rfl := Option.some.inj H
    go_enter Try.func6, Try.ntmps6
    go_wp2_with (first | ((with_reducible refine gate_dst (N := 3) rfl ?_); refine box_event ?hg (N := 3) ?hd (cs := #[.slice A0_0 l0_0.length c0_0, .int .i64 a0_1, .slice A0_2 l0_2.length c0_2]) (t := 25) ?hr ?_; (case hd => rfl); (case hg => rfl); (case hr => first | (go_simp; done) | (go_simp; rfl)); intro gb437 hg w6 hbox hb; have n0_ := Aside0.mk (below_step (oB HB) hb); have n1_ := Aside0.mk (hbox); have n2_ := Aside0.mk ((by rw [hg]; exact (below_size (oB HB)) : w.heap.size ≤ gb437)); have n3_ := Aside0.mk ((by rw [hg]; exact (below_size (oB HB)) : w.heap.size ≤ gb437)); clear HB; have HB := n0_; have BK437 := n1_; have GW437 := n2_; have GE437 := n3_; clear n0_ n1_ n2_ n3_; clear hb hbox hg; have hcz7_0 : w6.cell? ⟨gb437, 0, none⟩ = some (.slice A0_0 l0_0.length c0_0) := (blk_cell BK437.out 0).trans rfl; have hcz7_1 : w6.cell? ⟨gb437, 1, none⟩ = some (.int .i64 a0_1) := (blk_cell BK437.out 1).trans rfl; have hcz7_2 : w6.cell? ⟨gb437, 2, none⟩ = some (.slice A0_2 l0_2.length c0_2) := (blk_cell BK437.out 2).trans rfl; have hfz7_0 := blk_frozen BK437.out 0; have hfz7_1 := blk_frozen BK437.out 1; have hfz7_2 := blk_frozen BK437.out 2) | ((with_reducible refine gate_callee (f := 15) rfl ?_); refine goesL_ (some 20) rfl rfl Try.func15 (by kernel_rfl) rfl #[.agg #[.slice A0_0 l0_0.length c0_0, .int .i64 a0_1, .slice A0_2 l0_2.length c0_2], .int .i64 1048576] rfl (by (try simp only [List.map_toArray, List.map_cons, List.map_nil]); first | done | rfl | (simp only [List.length_drop, List.length_take]; rfl)) ?_; (with_reducible refine (laws_szWork.calls _ _ l0_0 a0_1 _ _ l0_2 1048576 t438 _ ?side1 ?side2 ?side3 ?side4 A4.out).mono ?_); (case side1 => exact oc_ HR0_0.out); (case side2 => exact HC0_0.out); (case side3 => exact oc_ HR0_2.out); (case side4 => exact HC0_2.out); rintro e w8 ⟨rfl, hb⟩; refine ⟨_, rfl, ?_⟩; have n0_ := Aside0.mk (blk_below (g := gb437) (o := .cells #[.slice A0_0 l0_0.length c0_0, .int .i64 a0_1, .slice A0_2 l0_2.length c0_2] 25 (0, 0)) (oK BK437) hb); have n1_ := Aside0.mk (below_step (oB HB) hb); clear BK437; clear HB; have BK437 := n0_; have HB := n1_; clear n0_ n1_; (try clear hb); (try clear hb2); (try clear hk); (try clear hi)))
    go_ret
    exact ⟨by first | rfl | (simp [errW_none, errW_some] <;> rfl) | (simp [*, errW_none, errW_some] <;> rfl), oB HB⟩
  · rw [if_neg c5] at H
    have c5b0 : decide (t438 < 0) = false := decide_eq_false c5
    clear c5
    replace H := Option.bind_eq_some_iff.mp H
    obtain ⟨⟨t439, t442, t443⟩, A90, H⟩ := H
    (try dsimp only at H)
    have A9 := Aside0.mk A90
    clear A90
    replace H := Option.bind_eq_some_iff.mp H
    obtain ⟨⟨t446, t449, t450, t453⟩, A100, H⟩ := H
    (try dsimp only at H)
    have A10 := Aside0.mk A100
    clear A100
    replace H := Option.bind_eq_some_iff.mp H
    obtain ⟨⟨t455, t458, t459⟩, A110, H⟩ := H
    (try dsimp only at H)
    have A11 := Aside0.mk A110
    clear A110
    replace H := Option.bind_eq_some_iff.mp H
    obtain ⟨⟨t463, t466, t467, t470⟩, A120, H⟩ := H
    (try dsimp only at H)
    have A12 := Aside0.mk A120
    clear A120
    have HC13 := Aside0.mk H
    clear H
    go_enter Try.func6, Try.ntmps6
    go_upto_region 8 with (first | ((with_reducible refine gate_dst (N := 3) rfl ?_); refine box_event ?hg (N := 3) ?hd (cs := #[.slice A0_0 l0_0.length c0_0, .int .i64 a0_1, .slice A0_2 l0_2.length c0_2]) (t := 25) ?hr ?_; (case hd => rfl); (case hg => rfl); (case hr => first | (go_simp; done) | (go_simp; rfl)); intro gb437 hg w14 hbox hb; have n0_ := Aside0.mk (below_step (oB HB) hb); have n1_ := Aside0.mk (hbox); have n2_ := Aside0.mk ((by rw [hg]; exact (below_size (oB HB)) : w.heap.size ≤ gb437)); have n3_ := Aside0.mk ((by rw [hg]; exact (below_size (oB HB)) : w.heap.size ≤ gb437)); clear HB; have HB := n0_; have BK437 := n1_; have GW437 := n2_; have GE437 := n3_; clear n0_ n1_ n2_ n3_; clear hb hbox hg; have hcz15_0 : w14.cell? ⟨gb437, 0, none⟩ = some (.slice A0_0 l0_0.length c0_0) := (blk_cell BK437.out 0).trans rfl; have hcz15_1 : w14.cell? ⟨gb437, 1, none⟩ = some (.int .i64 a0_1) := (blk_cell BK437.out 1).trans rfl; have hcz15_2 : w14.cell? ⟨gb437, 2, none⟩ = some (.slice A0_2 l0_2.length c0_2) := (blk_cell BK437.out 2).trans rfl; have hfz15_0 := blk_frozen BK437.out 0; have hfz15_1 := blk_frozen BK437.out 1; have hfz15_2 := blk_frozen BK437.out 2) | ((with_reducible refine gate_callee (f := 15) rfl ?_); refine goesL_ (some 20) rfl rfl Try.func15 (by kernel_rfl) rfl #[.agg #[.slice A0_0 l0_0.length c0_0, .int .i64 a0_1, .slice A0_2 l0_2.length c0_2], .int .i64 1048576] rfl (by (try simp only [List.map_toArray, List.map_cons, List.map_nil]); first | done | rfl | (simp only [List.length_drop, List.length_take]; rfl)) ?_; (with_reducible refine (laws_szWork.calls _ _ l0_0 a0_1 _ _ l0_2 1048576 t438 _ ?side1 ?side2 ?side3 ?side4 A4.out).mono ?_); (case side1 => exact oc_ HR0_0.out); (case side2 => exact HC0_0.out); (case side3 => exact oc_ HR0_2.out); (case side4 => exact HC0_2.out); rintro e w16 ⟨rfl, hb⟩; refine ⟨_, rfl, ?_⟩; have n0_ := Aside0.mk (blk_below (g := gb437) (o := .cells #[.slice A0_0 l0_0.length c0_0, .int .i64 a0_1, .slice A0_2 l0_2.length c0_2] 25 (0, 0)) (oK BK437) hb); have n1_ := Aside0.mk (below_step (oB HB) hb); clear BK437; clear HB; have BK437 := n0_; have HB := n1_; clear n0_ n1_; (try clear hb); (try clear hb2); (try clear hk); (try clear hi); have hcz17_0 : w16.cell? ⟨gb437, 0, none⟩ = some (.slice A0_0 l0_0.length c0_0) := (blk_cell BK437.out 0).trans rfl; have hcz17_1 : w16.cell? ⟨gb437, 1, none⟩ = some (.int .i64 a0_1) := (blk_cell BK437.out 1).trans rfl; have hcz17_2 : w16.cell? ⟨gb437, 2, none⟩ = some (.slice A0_2 l0_2.length c0_2) := (blk_cell BK437.out 2).trans rfl; have hfz17_0 := blk_frozen BK437.out 0; have hfz17_1 := blk_frozen BK437.out 1; have hfz17_2 := blk_frozen BK437.out 2) | ((with_reducible refine gate_callee (f := 17) rfl ?_); refine goesL_ (some 25) rfl rfl Try.func17 (by kernel_rfl) rfl #[.agg #[.slice A0_0 l0_0.length c0_0, .int .i64 a0_1, .slice A0_2 l0_2.length c0_2]] rfl (by (try simp only [List.map_toArray, List.map_cons, List.map_nil]); first | done | rfl | (simp only [List.length_drop, List.length_take]; rfl)) ?_; (with_reducible refine (laws_toWork.calls k _ _ l0_0 a0_1 _ _ l0_2 t439 t442 t443 _ ?side1 ?side2 ?side3 ?side4 A9.out).mono ?_); (case side1 => exact oc_ HR0_0.out); (case side2 => exact HC0_0.out); (case side3 => exact oc_ HR0_2.out); (case side4 => exact HC0_2.out); rintro e w18 ⟨v440, v444, rfl, ho0, ho1, hb⟩; refine ⟨_, rfl, ?_⟩; have n0_ := Aside0.mk (Kd.R_lower ho0 (below_size (oB HB))); have n1_ := Aside0.mk (Kd.R_lower ho1 (below_size (oB HB))); have n2_ := Aside0.mk (blk_below (g := gb437) (o := .cells #[.slice A0_0 l0_0.length c0_0, .int .i64 a0_1, .slice A0_2 l0_2.length c0_2] 25 (0, 0)) (oK BK437) hb); have n3_ := Aside0.mk (below_step (oB HB) hb); clear BK437; clear HB; have HO441 := n0_; have HO445 := n1_; have BK437 := n2_; have HB := n3_; clear n0_ n1_ n2_ n3_; (try clear hb); (try clear hb2); (try clear hk); (try clear hi); (try clear ho0); (try clear ho1); obtain ⟨Ao19, co19, eo19⟩ := Kd.R_slice HO441.out; subst eo19; obtain ⟨Ao20, co20, eo20⟩ := Kd.R_slice HO445.out; subst eo20) | ((with_reducible refine gate_callee (f := 30) rfl ?_); refine goesL_ (some 28) rfl rfl Try.func30 (by kernel_rfl) rfl #[.agg #[.slice Ao19 t439.length co19, .int .i64 t442, .slice Ao20 t443.length co20], .int .i64 a1, .int .i64 a2] rfl (by (try simp only [List.map_toArray, List.map_cons, List.map_nil]); first | done | rfl | (simp only [List.length_drop, List.length_take]; rfl)) ?_; (with_reducible refine (spec_KnockKey.calls k _ _ t439 t442 _ _ t443 a1 a2 t446 t449 t450 t453 _ ?side1 ?side2 ?side3 ?side4 A10.out).mono ?_); (case side1 => repeat (first | exact (Kd.R_reads' HO441.out).2.2 | (with_reducible refine Kd.C_alloc ?_ _) | (with_reducible refine Kd.C_drewN ?_ _) | (with_reducible refine Kd.C_drew ?_))); (case side2 => exact (Kd.R_reads' HO441.out).2.1); (case side3 => repeat (first | exact (Kd.R_reads' HO445.out).2.2 | (with_reducible refine Kd.C_alloc ?_ _) | (with_reducible refine Kd.C_drewN ?_ _) | (with_reducible refine Kd.C_drew ?_))); (case side4 => exact (Kd.R_reads' HO445.out).2.1); rintro e w21 ⟨v447, v451, rfl, ho0, ho1, hb⟩; refine ⟨_, rfl, ?_⟩; have n0_ := Aside0.mk (Kd.R_elder' (oR HO441) (Kd.R_base ho0) hb); have n1_ := Aside0.mk (Kd.R_elder' (oR HO445) (Kd.R_base ho1) hb); have n2_ := Aside0.mk (Kd.R_lower (Kd.R_new' ho0 (Kd.R_lt (oR HO441))) (below_size (oB HB))); have n3_ := Aside0.mk (Kd.R_lower (Kd.R_new' ho1 (Kd.R_lt (oR HO445))) (below_size (oB HB))); have n4_ := Aside0.mk (blk_below (g := gb437) (o := .cells #[.slice A0_0 l0_0.length c0_0, .int .i64 a0_1, .slice A0_2 l0_2.length c0_2] 25 (0, 0)) (oK BK437) hb); have n5_ := Aside0.mk (below_step (oB HB) hb); clear HO441; clear HO445; clear BK437; clear HB; have HO441 := n0_; have HO445 := n1_; have HO448 := n2_; have HO452 := n3_; have BK437 := n4_; have HB := n5_; clear n0_ n1_ n2_ n3_ n4_ n5_; (try clear hb); (try clear hb2); (try clear hk); (try clear hi); (try clear ho0); (try clear ho1)) | ((with_reducible refine gate_dst (N := 8) rfl ?_); refine box_event ?hg (N := 8) ?hd (cs := #[.slice none 0 0, .int .i64 0, .slice none 0 0]) (t := 30) ?hr ?_; (case hd => rfl); (case hg => rfl); (case hr => first | (go_simp; done) | (go_simp; rfl)); intro gb454 hg w22 hbox hb; have n0_ := Aside0.mk (Kd.R_below (oR HO441) hb); have n1_ := Aside0.mk (Kd.R_below (oR HO445) hb); have n2_ := Aside0.mk (Kd.R_below (oR HO448) hb); have n3_ := Aside0.mk (Kd.R_below (oR HO452) hb); have n4_ := Aside0.mk (blk_below (g := gb437) (o := .cells #[.slice A0_0 l0_0.length c0_0, .int .i64 a0_1, .slice A0_2 l0_2.length c0_2] 25 (0, 0)) (oK BK437) hb); have n5_ := Aside0.mk (below_step (oB HB) hb); have n6_ := Aside0.mk (hbox); have n7_ := Aside0.mk ((by rw [hg]; exact (below_size (oB HB)) : w.heap.size ≤ gb454)); have n8_ := Aside0.mk ((by rw [hg]; exact (below_size (oB HB)) : w.heap.size ≤ gb454)); have n9_ := Aside0.mk ((by rw [hg]; exact Nat.ne_of_lt (blk_lt (g := gb437) (o := .cells #[.slice A0_0 l0_0.length c0_0, .int .i64 a0_1, .slice A0_2 l0_2.length c0_2] 25 (0, 0)) (oK BK437)) : gb437 ≠ gb454)); have n10_ := Aside0.mk ((by rw [hg]; exact Nat.ne_of_gt (blk_lt (g := gb437) (o := .cells #[.slice A0_0 l0_0.length c0_0, .int .i64 a0_1, .slice A0_2 l0_2.length c0_2] 25 (0, 0)) (oK BK437)) : gb454 ≠ gb437)); clear HO441; clear HO445; clear HO448; clear HO452; clear BK437; clear HB; have HO441 := n0_; have HO445 := n1_; have HO448 := n2_; have HO452 := n3_; have BK437 := n4_; have HB := n5_; have BK454 := n6_; have GW454 := n7_; have GE454 := n8_; have NB437_454 := n9_; have NB454_437 := n10_; clear n0_ n1_ n2_ n3_ n4_ n5_ n6_ n7_ n8_ n9_ n10_; clear hb hbox hg; obtain ⟨Ao23, co23, eo23⟩ := Kd.R_slice HO448.out; subst eo23; have hnb24 := NB454_437.out; have hnc24 := NB437_454.out; have hcz25_0 : w22.cell? ⟨gb454, 0, none⟩ = some (.slice none 0 0) := (blk_cell BK454.out 0).trans rfl; have hcz25_1 : w22.cell? ⟨gb454, 1, none⟩ = some (.int .i64 0) := (blk_cell BK454.out 1).trans rfl; have hcz25_2 : w22.cell? ⟨gb454, 2, none⟩ = some (.slice none 0 0) := (blk_cell BK454.out 2).trans rfl; have hfz25_0 := blk_frozen BK454.out 0; have hfz25_1 := blk_frozen BK454.out 1; have hfz25_2 := blk_frozen BK454.out 2; obtain ⟨Ao26, co26, eo26⟩ := Kd.R_slice HO452.out; subst eo26; have hcz27_0 : w22.cell? ⟨gb437, 0, none⟩ = some (.slice A0_0 l0_0.length c0_0) := (blk_cell BK437.out 0).trans rfl; have hcz27_1 : w22.cell? ⟨gb437, 1, none⟩ = some (.int .i64 a0_1) := (blk_cell BK437.out 1).trans rfl; have hcz27_2 : w22.cell? ⟨gb437, 2, none⟩ = some (.slice A0_2 l0_2.length c0_2) := (blk_cell BK437.out 2).trans rfl; have hfz27_0 := blk_frozen BK437.out 0; have hfz27_1 := blk_frozen BK437.out 1; have hfz27_2 := blk_frozen BK437.out 2) | ((with_reducible refine gate_callee (f := 17) rfl ?_); refine goesL_ (some 32) rfl rfl Try.func17 (by kernel_rfl) rfl #[.agg #[.slice A0_0 l0_0.length c0_0, .int .i64 a0_1, .slice A0_2 l0_2.length c0_2]] rfl (by (try simp only [List.map_toArray, List.map_cons, List.map_nil]); first | done | rfl | (simp only [List.length_drop, List.length_take]; rfl)) ?_; (with_reducible refine (laws_toWork.calls k _ _ l0_0 a0_1 _ _ l0_2 t455 t458 t459 _ ?side1 ?side2 ?side3 ?side4 A11.out).mono ?_); (case side1 => exact Kd.C_below HR0_0.out (oB HB)); (case side2 => exact HC0_0.out); (case side3 => exact Kd.C_below HR0_2.out (oB HB)); (case side4 => exact HC0_2.out); rintro e w28 ⟨v456, v460, rfl, ho0, ho1, hb⟩; refine ⟨_, rfl, ?_⟩; have n0_ := Aside0.mk (Kd.R_elder' (by (with_reducible repeat (first | apply Kd.R_alloc | apply Kd.R_drewN | apply Kd.R_drew)); exact (Kd.R_mono (Kd.R_far (p := ⟨gb454, 2, none⟩) (Kd.R_far (p := ⟨gb454, 1, none⟩) (Kd.R_far (p := ⟨gb454, 0, none⟩) (Kd.R_types HO441.out BK454.out (by decide)) (fun _ hk => hk.2) (.slice Ao23 t446.length co23)) (fun _ hk => hk.2) (.int .i64 t449)) (fun _ hk => hk.2) (.slice Ao26 t450.length co26)) (fun _ h_ => h_.1))) (Kd.R_base ho0) hb); have n1_ := Aside0.mk (Kd.R_elder' (by (with_reducible repeat (first | apply Kd.R_alloc | apply Kd.R_drewN | apply Kd.R_drew)); exact (Kd.R_mono (Kd.R_far (p := ⟨gb454, 2, none⟩) (Kd.R_far (p := ⟨gb454, 1, none⟩) (Kd.R_far (p := ⟨gb454, 0, none⟩) (Kd.R_types HO445.out BK454.out (by decide)) (fun _ hk => hk.2) (.slice Ao23 t446.length co23)) (fun _ hk => hk.2) (.int .i64 t449)) (fun _ hk => hk.2) (.slice Ao26 t450.length co26)) (fun _ h_ => h_.1))) (Kd.R_base ho1) hb); have n2_ := Aside0.mk (Kd.R_elder' (by (with_reducible repeat (first | apply Kd.R_alloc | apply Kd.R_drewN | apply Kd.R_drew)); exact (Kd.R_mono (Kd.R_far (p := ⟨gb454, 2, none⟩) (Kd.R_far (p := ⟨gb454, 1, none⟩) (Kd.R_far (p := ⟨gb454, 0, none⟩) (Kd.R_types HO448.out BK454.out (by decide)) (fun _ hk => hk.2) (.slice Ao23 t446.length co23)) (fun _ hk => hk.2) (.int .i64 t449)) (fun _ hk => hk.2) (.slice Ao26 t450.length co26)) (fun _ h_ => h_.1))) (Kd.R_base ho0) hb); have n3_ := Aside0.mk (Kd.R_elder' (by (with_reducible repeat (first | apply Kd.R_alloc | apply Kd.R_drewN | apply Kd.R_drew)); exact (Kd.R_mono (Kd.R_far (p := ⟨gb454, 2, none⟩) (Kd.R_far (p := ⟨gb454, 1, none⟩) (Kd.R_far (p := ⟨gb454, 0, none⟩) (Kd.R_types HO452.out BK454.out (by decide)) (fun _ hk => hk.2) (.slice Ao23 t446.length co23)) (fun _ hk => hk.2) (.int .i64 t449)) (fun _ hk => hk.2) (.slice Ao26 t450.length co26)) (fun _ h_ => h_.1))) (Kd.R_base ho1) hb); have n4_ := Aside0.mk (Kd.R_lower (Kd.R_new' (Kd.R_new' ho0 (Kd.R_lt (by (with_reducible repeat (first | apply Kd.R_alloc | apply Kd.R_drewN | apply Kd.R_drew)); exact (Kd.R_mono (Kd.R_far (p := ⟨gb454, 2, none⟩) (Kd.R_far (p := ⟨gb454, 1, none⟩) (Kd.R_far (p := ⟨gb454, 0, none⟩) (Kd.R_types HO441.out BK454.out (by decide)) (fun _ hk => hk.2) (.slice Ao23 t446.length co23)) (fun _ hk => hk.2) (.int .i64 t449)) (fun _ hk => hk.2) (.slice Ao26 t450.length co26)) (fun _ h_ => h_.1))))) (Kd.R_lt (by (with_reducible repeat (first | apply Kd.R_alloc | apply Kd.R_drewN | apply Kd.R_drew)); exact (Kd.R_mono (Kd.R_far (p := ⟨gb454, 2, none⟩) (Kd.R_far (p := ⟨gb454, 1, none⟩) (Kd.R_far (p := ⟨gb454, 0, none⟩) (Kd.R_types HO448.out BK454.out (by decide)) (fun _ hk => hk.2) (.slice Ao23 t446.length co23)) (fun _ hk => hk.2) (.int .i64 t449)) (fun _ hk => hk.2) (.slice Ao26 t450.length co26)) (fun _ h_ => h_.1))))) (below_size (oB HB))); have n5_ := Aside0.mk (Kd.R_lower (Kd.R_new' (Kd.R_new' ho1 (Kd.R_lt (by (with_reducible repeat (first | apply Kd.R_alloc | apply Kd.R_drewN | apply Kd.R_drew)); exact (Kd.R_mono (Kd.R_far (p := ⟨gb454, 2, none⟩) (Kd.R_far (p := ⟨gb454, 1, none⟩) (Kd.R_far (p := ⟨gb454, 0, none⟩) (Kd.R_types HO445.out BK454.out (by decide)) (fun _ hk => hk.2) (.slice Ao23 t446.length co23)) (fun _ hk => hk.2) (.int .i64 t449)) (fun _ hk => hk.2) (.slice Ao26 t450.length co26)) (fun _ h_ => h_.1))))) (Kd.R_lt (by (with_reducible repeat (first | apply Kd.R_alloc | apply Kd.R_drewN | apply Kd.R_drew)); exact (Kd.R_mono (Kd.R_far (p := ⟨gb454, 2, none⟩) (Kd.R_far (p := ⟨gb454, 1, none⟩) (Kd.R_far (p := ⟨gb454, 0, none⟩) (Kd.R_types HO452.out BK454.out (by decide)) (fun _ hk => hk.2) (.slice Ao23 t446.length co23)) (fun _ hk => hk.2) (.int .i64 t449)) (fun _ hk => hk.2) (.slice Ao26 t450.length co26)) (fun _ h_ => h_.1))))) (below_size (oB HB))); have n6_ := Aside0.mk (blk_below (g := gb437) (o := .cells #[.slice A0_0 l0_0.length c0_0, .int .i64 a0_1, .slice A0_2 l0_2.length c0_2] 25 (0, 0)) (by (with_reducible repeat (first | refine blk_drewN ?_ _ | refine blk_drew ?_ | refine blk_alloc ?_ _)); refine blk_far ?_ NB437_454.out _; (with_reducible repeat (first | refine blk_drewN ?_ _ | refine blk_drew ?_ | refine blk_alloc ?_ _)); refine blk_far ?_ NB437_454.out _; (with_reducible repeat (first | refine blk_drewN ?_ _ | refine blk_drew ?_ | refine blk_alloc ?_ _)); refine blk_far ?_ NB437_454.out _; (with_reducible repeat (first | refine blk_drewN ?_ _ | refine blk_drew ?_ | refine blk_alloc ?_ _)); exact BK437.out) hb); have n7_ := Aside0.mk (blk_below (g := gb454) (o := .cells #[.slice Ao23 t446.length co23, .int .i64 t449, .slice Ao26 t450.length co26] 30 (0, 0)) (by (with_reducible repeat (first | refine blk_drewN ?_ _ | refine blk_drew ?_ | refine blk_alloc ?_ _)); refine blk_put (cs := #[.slice Ao23 t446.length co23, .int .i64 t449, .slice none 0 0]) ?_ 2 _ rfl; (with_reducible repeat (first | refine blk_drewN ?_ _ | refine blk_drew ?_ | refine blk_alloc ?_ _)); refine blk_put (cs := #[.slice Ao23 t446.length co23, .int .i64 0, .slice none 0 0]) ?_ 1 _ rfl; (with_reducible repeat (first | refine blk_drewN ?_ _ | refine blk_drew ?_ | refine blk_alloc ?_ _)); refine blk_put (cs := #[.slice none 0 0, .int .i64 0, .slice none 0 0]) ?_ 0 _ rfl; (with_reducible repeat (first | refine blk_drewN ?_ _ | refine blk_drew ?_ | refine blk_alloc ?_ _)); exact BK454.out) hb); have n8_ := Aside0.mk (below_step (oB HB) hb); clear HO441; clear HO445; clear HO448; clear HO452; clear BK437; clear BK454; clear HB; have HO441 := n0_; have HO445 := n1_; have HO448 := n2_; have HO452 := n3_; have HO457 := n4_; have HO461 := n5_; have BK437 := n6_; have BK454 := n7_; have HB := n8_; clear n0_ n1_ n2_ n3_ n4_ n5_ n6_ n7_ n8_; (try clear hb); (try clear hb2); (try clear hk); (try clear hi); (try clear ho0); (try clear ho1)) | ((with_reducible refine gate_dst (N := 10) rfl ?_); refine box_event ?hg (N := 10) ?hd (cs := #[.slice none 0 0, .int .i64 0, .slice none 0 0]) (t := 30) ?hr ?_; (case hd => rfl); (case hg => rfl); (case hr => first | (go_simp; done) | (go_simp; rfl)); intro gb462 hg w29 hbox hb; have n0_ := Aside0.mk (Kd.R_below (oR HO441) hb); have n1_ := Aside0.mk (Kd.R_below (oR HO445) hb); have n2_ := Aside0.mk (Kd.R_below (oR HO448) hb); have n3_ := Aside0.mk (Kd.R_below (oR HO452) hb); have n4_ := Aside0.mk (Kd.R_below (oR HO457) hb); have n5_ := Aside0.mk (Kd.R_below (oR HO461) hb); have n6_ := Aside0.mk (blk_below (g := gb437) (o := .cells #[.slice A0_0 l0_0.length c0_0, .int .i64 a0_1, .slice A0_2 l0_2.length c0_2] 25 (0, 0)) (oK BK437) hb); have n7_ := Aside0.mk (blk_below (g := gb454) (o := .cells #[.slice Ao23 t446.length co23, .int .i64 t449, .slice Ao26 t450.length co26] 30 (0, 0)) (oK BK454) hb); have n8_ := Aside0.mk (below_step (oB HB) hb); have n9_ := Aside0.mk (hbox); have n10_ := Aside0.mk ((by rw [hg]; exact (below_size (oB HB)) : w.heap.size ≤ gb462)); have n11_ := Aside0.mk ((by rw [hg]; exact (below_size (oB HB)) : w.heap.size ≤ gb462)); have n12_ := Aside0.mk ((by rw [hg]; exact Nat.ne_of_lt (blk_lt (g := gb437) (o := .cells #[.slice A0_0 l0_0.length c0_0, .int .i64 a0_1, .slice A0_2 l0_2.length c0_2] 25 (0, 0)) (oK BK437)) : gb437 ≠ gb462)); have n13_ := Aside0.mk ((by rw [hg]; exact Nat.ne_of_gt (blk_lt (g := gb437) (o := .cells #[.slice A0_0 l0_0.length c0_0, .int .i64 a0_1, .slice A0_2 l0_2.length c0_2] 25 (0, 0)) (oK BK437)) : gb462 ≠ gb437)); have n14_ := Aside0.mk ((by rw [hg]; exact Nat.ne_of_lt (blk_lt (g := gb454) (o := .cells #[.slice Ao23 t446.length co23, .int .i64 t449, .slice Ao26 t450.length co26] 30 (0, 0)) (oK BK454)) : gb454 ≠ gb462)); have n15_ := Aside0.mk ((by rw [hg]; exact Nat.ne_of_gt (blk_lt (g := gb454) (o := .cells #[.slice Ao23 t446.length co23, .int .i64 t449, .slice Ao26 t450.length co26] 30 (0, 0)) (oK BK454)) : gb462 ≠ gb454)); clear HO441; clear HO445; clear HO448; clear HO452; clear HO457; clear HO461; clear BK437; clear BK454; clear HB; have HO441 := n0_; have HO445 := n1_; have HO448 := n2_; have HO452 := n3_; have HO457 := n4_; have HO461 := n5_; have BK437 := n6_; have BK454 := n7_; have HB := n8_; have BK462 := n9_; have GW462 := n10_; have GE462 := n11_; have NB437_462 := n12_; have NB462_437 := n13_; have NB454_462 := n14_; have NB462_454 := n15_; clear n0_ n1_ n2_ n3_ n4_ n5_ n6_ n7_ n8_ n9_ n10_ n11_ n12_ n13_ n14_ n15_; clear hb hbox hg; obtain ⟨Ao30, co30, eo30⟩ := Kd.R_slice HO457.out; subst eo30; have hnb31 := NB462_437.out; have hnc31 := NB437_462.out; have hnb32 := NB462_454.out; have hnc32 := NB454_462.out; have hcz33_0 : w29.cell? ⟨gb462, 0, none⟩ = some (.slice none 0 0) := (blk_cell BK462.out 0).trans rfl; have hcz33_1 : w29.cell? ⟨gb462, 1, none⟩ = some (.int .i64 0) := (blk_cell BK462.out 1).trans rfl; have hcz33_2 : w29.cell? ⟨gb462, 2, none⟩ = some (.slice none 0 0) := (blk_cell BK462.out 2).trans rfl; have hfz33_0 := blk_frozen BK462.out 0; have hfz33_1 := blk_frozen BK462.out 1; have hfz33_2 := blk_frozen BK462.out 2; obtain ⟨Ao34, co34, eo34⟩ := Kd.R_slice HO461.out; subst eo34) | ((with_reducible refine gate_callee (f := 31) rfl ?_); refine goesL_ (some 37) rfl rfl Try.func31 (by kernel_rfl) rfl #[.agg #[.slice Ao30 t455.length co30, .int .i64 t458, .slice Ao34 t459.length co34], .int .i64 a1, .int .i64 a2] rfl (by (try simp only [List.map_toArray, List.map_cons, List.map_nil]); first | done | rfl | (simp only [List.length_drop, List.length_take]; rfl)) ?_; (with_reducible refine (impl_KnockKey.calls k _ _ t455 t458 _ _ t459 a1 a2 t463 t466 t467 t470 _ ?side1 ?side2 ?side3 ?side4 A12.out).mono ?_); (case side1 => refine (Kd.R_reads' (e := 67) (base := w.heap.size) (ok := fun k_ => ((True ∧ some k_ ≠ (.slice Ao19 t439.length co19 : Value).ownBlock) ∧ some k_ ≠ (.slice Ao23 t446.length co23 : Value).ownBlock)) (n := t455.length) (c := co30) ?_).2.2; exact (by (with_reducible repeat (first | apply Kd.R_alloc | apply Kd.R_drewN | apply Kd.R_drew)); exact (Kd.R_mono (Kd.R_far (p := ⟨gb462, 2, none⟩) (Kd.R_far (p := ⟨gb462, 1, none⟩) (Kd.R_far (p := ⟨gb462, 0, none⟩) (Kd.R_types HO457.out BK462.out (by decide)) (fun _ hk => hk.2) (.slice Ao30 t455.length co30)) (fun _ hk => hk.2) (.int .i64 t458)) (fun _ hk => hk.2) (.slice Ao34 t459.length co34)) (fun _ h_ => h_.1)))); (case side2 => exact (Kd.R_reads' HO457.out).2.1); (case side3 => refine (Kd.R_reads' (e := 3) (base := w.heap.size) (ok := fun k_ => ((True ∧ some k_ ≠ (.slice Ao20 t443.length co20 : Value).ownBlock) ∧ some k_ ≠ (.slice Ao26 t450.length co26 : Value).ownBlock)) (n := t459.length) (c := co34) ?_).2.2; exact (by (with_reducible repeat (first | apply Kd.R_alloc | apply Kd.R_drewN | apply Kd.R_drew)); exact (Kd.R_mono (Kd.R_far (p := ⟨gb462, 2, none⟩) (Kd.R_far (p := ⟨gb462, 1, none⟩) (Kd.R_far (p := ⟨gb462, 0, none⟩) (Kd.R_types HO461.out BK462.out (by decide)) (fun _ hk => hk.2) (.slice Ao30 t455.length co30)) (fun _ hk => hk.2) (.int .i64 t458)) (fun _ hk => hk.2) (.slice Ao34 t459.length co34)) (fun _ h_ => h_.1)))); (case side4 => exact (Kd.R_reads' HO461.out).2.1); rintro e w35 ⟨v464, v468, rfl, ho0, ho1, hb⟩; refine ⟨_, rfl, ?_⟩; have n0_ := Aside0.mk (Kd.R_elder' (by (with_reducible repeat (first | apply Kd.R_alloc | apply Kd.R_drewN | apply Kd.R_drew)); exact (Kd.R_mono (Kd.R_far (p := ⟨gb462, 2, none⟩) (Kd.R_far (p := ⟨gb462, 1, none⟩) (Kd.R_far (p := ⟨gb462, 0, none⟩) (Kd.R_types HO441.out BK462.out (by decide)) (fun _ hk => hk.2) (.slice Ao30 t455.length co30)) (fun _ hk => hk.2) (.int .i64 t458)) (fun _ hk => hk.2) (.slice Ao34 t459.length co34)) (fun _ h_ => h_.1))) (Kd.R_base ho0) hb); have n1_ := Aside0.mk (Kd.R_elder' (by (with_reducible repeat (first | apply Kd.R_alloc | apply Kd.R_drewN | apply Kd.R_drew)); exact (Kd.R_mono (Kd.R_far (p := ⟨gb462, 2, none⟩) (Kd.R_far (p := ⟨gb462, 1, none⟩) (Kd.R_far (p := ⟨gb462, 0, none⟩) (Kd.R_types HO445.out BK462.out (by decide)) (fun _ hk => hk.2) (.slice Ao30 t455.length co30)) (fun _ hk => hk.2) (.int .i64 t458)) (fun _ hk => hk.2) (.slice Ao34 t459.length co34)) (fun _ h_ => h_.1))) (Kd.R_base ho1) hb); have n2_ := Aside0.mk (Kd.R_elder' (by (with_reducible repeat (first | apply Kd.R_alloc | apply Kd.R_drewN | apply Kd.R_drew)); exact (Kd.R_mono (Kd.R_far (p := ⟨gb462, 2, none⟩) (Kd.R_far (p := ⟨gb462, 1, none⟩) (Kd.R_far (p := ⟨gb462, 0, none⟩) (Kd.R_types HO448.out BK462.out (by decide)) (fun _ hk => hk.2) (.slice Ao30 t455.length co30)) (fun _ hk => hk.2) (.int .i64 t458)) (fun _ hk => hk.2) (.slice Ao34 t459.length co34)) (fun _ h_ => h_.1))) (Kd.R_base ho0) hb); have n3_ := Aside0.mk (Kd.R_elder' (by (with_reducible repeat (first | apply Kd.R_alloc | apply Kd.R_drewN | apply Kd.R_drew)); exact (Kd.R_mono (Kd.R_far (p := ⟨gb462, 2, none⟩) (Kd.R_far (p := ⟨gb462, 1, none⟩) (Kd.R_far (p := ⟨gb462, 0, none⟩) (Kd.R_types HO452.out BK462.out (by decide)) (fun _ hk => hk.2) (.slice Ao30 t455.length co30)) (fun _ hk => hk.2) (.int .i64 t458)) (fun _ hk => hk.2) (.slice Ao34 t459.length co34)) (fun _ h_ => h_.1))) (Kd.R_base ho1) hb); have n4_ := Aside0.mk (Kd.R_elder' (by (with_reducible repeat (first | apply Kd.R_alloc | apply Kd.R_drewN | apply Kd.R_drew)); exact (Kd.R_mono (Kd.R_far (p := ⟨gb462, 2, none⟩) (Kd.R_far (p := ⟨gb462, 1, none⟩) (Kd.R_far (p := ⟨gb462, 0, none⟩) (Kd.R_types HO457.out BK462.out (by decide)) (fun _ hk => hk.2) (.slice Ao30 t455.length co30)) (fun _ hk => hk.2) (.int .i64 t458)) (fun _ hk => hk.2) (.slice Ao34 t459.length co34)) (fun _ h_ => h_.1))) (Kd.R_base ho0) hb); have n5_ := Aside0.mk (Kd.R_elder' (by (with_reducible repeat (first | apply Kd.R_alloc | apply Kd.R_drewN | apply Kd.R_drew)); exact (Kd.R_mono (Kd.R_far (p := ⟨gb462, 2, none⟩) (Kd.R_far (p := ⟨gb462, 1, none⟩) (Kd.R_far (p := ⟨gb462, 0, none⟩) (Kd.R_types HO461.out BK462.out (by decide)) (fun _ hk => hk.2) (.slice Ao30 t455.length co30)) (fun _ hk => hk.2) (.int .i64 t458)) (fun _ hk => hk.2) (.slice Ao34 t459.length co34)) (fun _ h_ => h_.1))) (Kd.R_base ho1) hb); have n6_ := Aside0.mk (Kd.R_lower (Kd.R_new' (Kd.R_new' (Kd.R_new' ho0 (Kd.R_lt (by (with_reducible repeat (first | apply Kd.R_alloc | apply Kd.R_drewN | apply Kd.R_drew)); exact (Kd.R_mono (Kd.R_far (p := ⟨gb462, 2, none⟩) (Kd.R_far (p := ⟨gb462, 1, none⟩) (Kd.R_far (p := ⟨gb462, 0, none⟩) (Kd.R_types HO441.out BK462.out (by decide)) (fun _ hk => hk.2) (.slice Ao30 t455.length co30)) (fun _ hk => hk.2) (.int .i64 t458)) (fun _ hk => hk.2) (.slice Ao34 t459.length co34)) (fun _ h_ => h_.1))))) (Kd.R_lt (by (with_reducible repeat (first | apply Kd.R_alloc | apply Kd.R_drewN | apply Kd.R_drew)); exact (Kd.R_mono (Kd.R_far (p := ⟨gb462, 2, none⟩) (Kd.R_far (p := ⟨gb462, 1, none⟩) (Kd.R_far (p := ⟨gb462, 0, none⟩) (Kd.R_types HO448.out BK462.out (by decide)) (fun _ hk => hk.2) (.slice Ao30 t455.length co30)) (fun _ hk => hk.2) (.int .i64 t458)) (fun _ hk => hk.2) (.slice Ao34 t459.length co34)) (fun _ h_ => h_.1))))) (Kd.R_lt (by (with_reducible repeat (first | apply Kd.R_alloc | apply Kd.R_drewN | apply Kd.R_drew)); exact (Kd.R_mono (Kd.R_far (p := ⟨gb462, 2, none⟩) (Kd.R_far (p := ⟨gb462, 1, none⟩) (Kd.R_far (p := ⟨gb462, 0, none⟩) (Kd.R_types HO457.out BK462.out (by decide)) (fun _ hk => hk.2) (.slice Ao30 t455.length co30)) (fun _ hk => hk.2) (.int .i64 t458)) (fun _ hk => hk.2) (.slice Ao34 t459.length co34)) (fun _ h_ => h_.1))))) (below_size (oB HB))); have n7_ := Aside0.mk (Kd.R_lower (Kd.R_new' (Kd.R_new' (Kd.R_new' ho1 (Kd.R_lt (by (with_reducible repeat (first | apply Kd.R_alloc | apply Kd.R_drewN | apply Kd.R_drew)); exact (Kd.R_mono (Kd.R_far (p := ⟨gb462, 2, none⟩) (Kd.R_far (p := ⟨gb462, 1, none⟩) (Kd.R_far (p := ⟨gb462, 0, none⟩) (Kd.R_types HO445.out BK462.out (by decide)) (fun _ hk => hk.2) (.slice Ao30 t455.length co30)) (fun _ hk => hk.2) (.int .i64 t458)) (fun _ hk => hk.2) (.slice Ao34 t459.length co34)) (fun _ h_ => h_.1))))) (Kd.R_lt (by (with_reducible repeat (first | apply Kd.R_alloc | apply Kd.R_drewN | apply Kd.R_drew)); exact (Kd.R_mono (Kd.R_far (p := ⟨gb462, 2, none⟩) (Kd.R_far (p := ⟨gb462, 1, none⟩) (Kd.R_far (p := ⟨gb462, 0, none⟩) (Kd.R_types HO452.out BK462.out (by decide)) (fun _ hk => hk.2) (.slice Ao30 t455.length co30)) (fun _ hk => hk.2) (.int .i64 t458)) (fun _ hk => hk.2) (.slice Ao34 t459.length co34)) (fun _ h_ => h_.1))))) (Kd.R_lt (by (with_reducible repeat (first | apply Kd.R_alloc | apply Kd.R_drewN | apply Kd.R_drew)); exact (Kd.R_mono (Kd.R_far (p := ⟨gb462, 2, none⟩) (Kd.R_far (p := ⟨gb462, 1, none⟩) (Kd.R_far (p := ⟨gb462, 0, none⟩) (Kd.R_types HO461.out BK462.out (by decide)) (fun _ hk => hk.2) (.slice Ao30 t455.length co30)) (fun _ hk => hk.2) (.int .i64 t458)) (fun _ hk => hk.2) (.slice Ao34 t459.length co34)) (fun _ h_ => h_.1))))) (below_size (oB HB))); have n8_ := Aside0.mk (blk_below (g := gb437) (o := .cells #[.slice A0_0 l0_0.length c0_0, .int .i64 a0_1, .slice A0_2 l0_2.length c0_2] 25 (0, 0)) (by (with_reducible repeat (first | refine blk_drewN ?_ _ | refine blk_drew ?_ | refine blk_alloc ?_ _)); refine blk_far ?_ NB437_462.out _; (with_reducible repeat (first | refine blk_drewN ?_ _ | refine blk_drew ?_ | refine blk_alloc ?_ _)); refine blk_far ?_ NB437_462.out _; (with_reducible repeat (first | refine blk_drewN ?_ _ | refine blk_drew ?_ | refine blk_alloc ?_ _)); refine blk_far ?_ NB437_462.out _; (with_reducible repeat (first | refine blk_drewN ?_ _ | refine blk_drew ?_ | refine blk_alloc ?_ _)); exact BK437.out) hb); have n9_ := Aside0.mk (blk_below (g := gb454) (o := .cells #[.slice Ao23 t446.length co23, .int .i64 t449, .slice Ao26 t450.length co26] 30 (0, 0)) (by (with_reducible repeat (first | refine blk_drewN ?_ _ | refine blk_drew ?_ | refine blk_alloc ?_ _)); refine blk_far ?_ NB454_462.out _; (with_reducible repeat (first | refine blk_drewN ?_ _ | refine blk_drew ?_ | refine blk_alloc ?_ _)); refine blk_far ?_ NB454_462.out _; (with_reducible repeat (first | refine blk_drewN ?_ _ | refine blk_drew ?_ | refine blk_alloc ?_ _)); refine blk_far ?_ NB454_462.out _; (with_reducible repeat (first | refine blk_drewN ?_ _ | refine blk_drew ?_ | refine blk_alloc ?_ _)); exact BK454.out) hb); have n10_ := Aside0.mk (blk_below (g := gb462) (o := .cells #[.slice Ao30 t455.length co30, .int .i64 t458, .slice Ao34 t459.length co34] 30 (0, 0)) (by (with_reducible repeat (first | refine blk_drewN ?_ _ | refine blk_drew ?_ | refine blk_alloc ?_ _)); refine blk_put (cs := #[.slice Ao30 t455.length co30, .int .i64 t458, .slice none 0 0]) ?_ 2 _ rfl; (with_reducible repeat (first | refine blk_drewN ?_ _ | refine blk_drew ?_ | refine blk_alloc ?_ _)); refine blk_put (cs := #[.slice Ao30 t455.length co30, .int .i64 0, .slice none 0 0]) ?_ 1 _ rfl; (with_reducible repeat (first | refine blk_drewN ?_ _ | refine blk_drew ?_ | refine blk_alloc ?_ _)); refine blk_put (cs := #[.slice none 0 0, .int .i64 0, .slice none 0 0]) ?_ 0 _ rfl; (with_reducible repeat (first | refine blk_drewN ?_ _ | refine blk_drew ?_ | refine blk_alloc ?_ _)); exact BK462.out) hb); have n11_ := Aside0.mk (below_step (oB HB) hb); clear HO441; clear HO445; clear HO448; clear HO452; clear HO457; clear HO461; clear BK437; clear BK454; clear BK462; clear HB; have HO441 := n0_; have HO445 := n1_; have HO448 := n2_; have HO452 := n3_; have HO457 := n4_; have HO461 := n5_; have HO465 := n6_; have HO469 := n7_; have BK437 := n8_; have BK454 := n9_; have BK462 := n10_; have HB := n11_; clear n0_ n1_ n2_ n3_ n4_ n5_ n6_ n7_ n8_ n9_ n10_ n11_; (try clear hb); (try clear hb2); (try clear hk); (try clear hi); (try clear ho0); (try clear ho1)) | ((with_reducible refine gate_dst (N := 11) rfl ?_); refine box_event ?hg (N := 11) ?hd (cs := #[.slice none 0 0, .int .i64 0, .slice none 0 0]) (t := 30) ?hr ?_; (case hd => rfl); (case hg => rfl); (case hr => first | (go_simp; done) | (go_simp; rfl)); intro gb471 hg w36 hbox hb; have n0_ := Aside0.mk (Kd.R_below (oR HO441) hb); have n1_ := Aside0.mk (Kd.R_below (oR HO445) hb); have n2_ := Aside0.mk (Kd.R_below (oR HO448) hb); have n3_ := Aside0.mk (Kd.R_below (oR HO452) hb); have n4_ := Aside0.mk (Kd.R_below (oR HO457) hb); have n5_ := Aside0.mk (Kd.R_below (oR HO461) hb); have n6_ := Aside0.mk (Kd.R_below (oR HO465) hb); have n7_ := Aside0.mk (Kd.R_below (oR HO469) hb); have n8_ := Aside0.mk (blk_below (g := gb437) (o := .cells #[.slice A0_0 l0_0.length c0_0, .int .i64 a0_1, .slice A0_2 l0_2.length c0_2] 25 (0, 0)) (oK BK437) hb); have n9_ := Aside0.mk (blk_below (g := gb454) (o := .cells #[.slice Ao23 t446.length co23, .int .i64 t449, .slice Ao26 t450.length co26] 30 (0, 0)) (oK BK454) hb); have n10_ := Aside0.mk (blk_below (g := gb462) (o := .cells #[.slice Ao30 t455.length co30, .int .i64 t458, .slice Ao34 t459.length co34] 30 (0, 0)) (oK BK462) hb); have n11_ := Aside0.mk (below_step (oB HB) hb); have n12_ := Aside0.mk (hbox); have n13_ := Aside0.mk ((by rw [hg]; exact (below_size (oB HB)) : w.heap.size ≤ gb471)); have n14_ := Aside0.mk ((by rw [hg]; exact (below_size (oB HB)) : w.heap.size ≤ gb471)); have n15_ := Aside0.mk ((by rw [hg]; exact Nat.ne_of_lt (blk_lt (g := gb437) (o := .cells #[.slice A0_0 l0_0.length c0_0, .int .i64 a0_1, .slice A0_2 l0_2.length c0_2] 25 (0, 0)) (oK BK437)) : gb437 ≠ gb471)); have n16_ := Aside0.mk ((by rw [hg]; exact Nat.ne_of_gt (blk_lt (g := gb437) (o := .cells #[.slice A0_0 l0_0.length c0_0, .int .i64 a0_1, .slice A0_2 l0_2.length c0_2] 25 (0, 0)) (oK BK437)) : gb471 ≠ gb437)); have n17_ := Aside0.mk ((by rw [hg]; exact Nat.ne_of_lt (blk_lt (g := gb454) (o := .cells #[.slice Ao23 t446.length co23, .int .i64 t449, .slice Ao26 t450.length co26] 30 (0, 0)) (oK BK454)) : gb454 ≠ gb471)); have n18_ := Aside0.mk ((by rw [hg]; exact Nat.ne_of_gt (blk_lt (g := gb454) (o := .cells #[.slice Ao23 t446.length co23, .int .i64 t449, .slice Ao26 t450.length co26] 30 (0, 0)) (oK BK454)) : gb471 ≠ gb454)); have n19_ := Aside0.mk ((by rw [hg]; exact Nat.ne_of_lt (blk_lt (g := gb462) (o := .cells #[.slice Ao30 t455.length co30, .int .i64 t458, .slice Ao34 t459.length co34] 30 (0, 0)) (oK BK462)) : gb462 ≠ gb471)); have n20_ := Aside0.mk ((by rw [hg]; exact Nat.ne_of_gt (blk_lt (g := gb462) (o := .cells #[.slice Ao30 t455.length co30, .int .i64 t458, .slice Ao34 t459.length co34] 30 (0, 0)) (oK BK462)) : gb471 ≠ gb462)); clear HO441; clear HO445; clear HO448; clear HO452; clear HO457; clear HO461; clear HO465; clear HO469; clear BK437; clear BK454; clear BK462; clear HB; have HO441 := n0_; have HO445 := n1_; have HO448 := n2_; have HO452 := n3_; have HO457 := n4_; have HO461 := n5_; have HO465 := n6_; have HO469 := n7_; have BK437 := n8_; have BK454 := n9_; have BK462 := n10_; have HB := n11_; have BK471 := n12_; have GW471 := n13_; have GE471 := n14_; have NB437_471 := n15_; have NB471_437 := n16_; have NB454_471 := n17_; have NB471_454 := n18_; have NB462_471 := n19_; have NB471_462 := n20_; clear n0_ n1_ n2_ n3_ n4_ n5_ n6_ n7_ n8_ n9_ n10_ n11_ n12_ n13_ n14_ n15_ n16_ n17_ n18_ n19_ n20_; clear hb hbox hg; obtain ⟨Ao37, co37, eo37⟩ := Kd.R_slice HO465.out; subst eo37; have hnb38 := NB471_437.out; have hnc38 := NB437_471.out; have hnb39 := NB471_454.out; have hnc39 := NB454_471.out; have hnb40 := NB471_462.out; have hnc40 := NB462_471.out; have hcz41_0 : w36.cell? ⟨gb471, 0, none⟩ = some (.slice none 0 0) := (blk_cell BK471.out 0).trans rfl; have hcz41_1 : w36.cell? ⟨gb471, 1, none⟩ = some (.int .i64 0) := (blk_cell BK471.out 1).trans rfl; have hcz41_2 : w36.cell? ⟨gb471, 2, none⟩ = some (.slice none 0 0) := (blk_cell BK471.out 2).trans rfl; have hfz41_0 := blk_frozen BK471.out 0; have hfz41_1 := blk_frozen BK471.out 1; have hfz41_2 := blk_frozen BK471.out 2; obtain ⟨Ao42, co42, eo42⟩ := Kd.R_slice HO469.out; subst eo42))
    (try simp only [Act.put, List.setIfInBounds_toArray, List.set_cons_zero, List.set_cons_succ])
    go_cut [48] (fun v48 wc => ∃ (kq : Nat) (x48_12 : Bool), v48 = .bool x48_12 ∧ Aside0 (laws_FnExactKnockKey.j0 kq a1 a2 t453 t470 x48_12 l0_0 a0_1 l0_2 t446 t449 t450 t455 t458 t459 t463 t466 t467 = some r) ∧ Aside0 (kq ≤ k) ∧ Aside0 (Kd.R k67 67 wc w.heap.size (fun k_ => some k_ ≠ ((.slice Ao30 t455.length co30) : Value).ownBlock ∧ some k_ ≠ ((.slice Ao37 t463.length co37) : Value).ownBlock) (.slice Ao23 t446.length co23) t446) ∧ Aside0 (Kd.R (Kd.int .i64) 3 wc w.heap.size (fun k_ => some k_ ≠ ((.slice Ao34 t459.length co34) : Value).ownBlock ∧ some k_ ≠ ((.slice Ao42 t467.length co42) : Value).ownBlock) (.slice Ao26 t450.length co26) t450) ∧ Aside0 (Kd.R k67 67 wc w.heap.size (fun k_ => some k_ ≠ ((.slice Ao23 t446.length co23) : Value).ownBlock ∧ some k_ ≠ ((.slice Ao37 t463.length co37) : Value).ownBlock) (.slice Ao30 t455.length co30) t455) ∧ Aside0 (Kd.R (Kd.int .i64) 3 wc w.heap.size (fun k_ => some k_ ≠ ((.slice Ao26 t450.length co26) : Value).ownBlock ∧ some k_ ≠ ((.slice Ao42 t467.length co42) : Value).ownBlock) (.slice Ao34 t459.length co34) t459) ∧ Aside0 (Kd.R k67 67 wc w.heap.size (fun k_ => some k_ ≠ ((.slice Ao23 t446.length co23) : Value).ownBlock ∧ some k_ ≠ ((.slice Ao30 t455.length co30) : Value).ownBlock) (.slice Ao37 t463.length co37) t463) ∧ Aside0 (Kd.R (Kd.int .i64) 3 wc w.heap.size (fun k_ => some k_ ≠ ((.slice Ao26 t450.length co26) : Value).ownBlock ∧ some k_ ≠ ((.slice Ao34 t459.length co34) : Value).ownBlock) (.slice Ao42 t467.length co42) t467) ∧ Aside0 (wc.heap[gb437]? = some (.cells #[(.slice A0_0 l0_0.length c0_0), .int .i64 a0_1, (.slice A0_2 l0_2.length c0_2)] 25 (0, 0))) ∧ Aside0 (wc.heap[gb454]? = some (.cells #[(.slice Ao23 t446.length co23), .int .i64 t449, (.slice Ao26 t450.length co26)] 30 (0, 0))) ∧ Aside0 (wc.heap[gb462]? = some (.cells #[(.slice Ao30 t455.length co30), .int .i64 t458, (.slice Ao34 t459.length co34)] 30 (0, 0))) ∧ Aside0 (wc.heap[gb471]? = some (.cells #[(.slice Ao37 t463.length co37), .int .i64 t466, (.slice Ao42 t467.length co42)] 30 (0, 0))) ∧ Aside0 (Below w.heap.size w wc))
    case first =>
      have H := HC13.out
      clear HC13
      replace H := Option.bind_eq_some_iff.mp H
      obtain ⟨t472, A430, H⟩ := H
      (try dsimp only at H)
      have A43 := Aside0.mk A430
      clear A430
      by_cases c44 : t472 = true
      · subst c44
        rw [if_pos rfl] at H
        have H' := Aside0.mk H
        clear H
        have hnb45 := NB471_437.out
        have hnc45 := NB437_471.out
        have hnb46 := NB471_454.out
        have hnc46 := NB454_471.out
        have hnb47 := NB471_462.out
        have hnc47 := NB462_471.out
        have hcz48_0 : w36.cell? ⟨gb471, 0, none⟩ = some (.slice none 0 0) := (blk_cell BK471.out 0).trans rfl
        have hcz48_1 : w36.cell? ⟨gb471, 1, none⟩ = some (.int .i64 0) := (blk_cell BK471.out 1).trans rfl
        have hcz48_2 : w36.cell? ⟨gb471, 2, none⟩ = some (.slice none 0 0) := (blk_cell BK471.out 2).trans rfl
        have hfz48_0 := blk_frozen BK471.out 0
        have hfz48_1 := blk_frozen BK471.out 1
        have hfz48_2 := blk_frozen BK471.out 2
        have hnb49 := NB454_437.out
        have hnc49 := NB437_454.out
        have hnb50 := NB454_462.out
        have hnc50 := NB462_454.out
        have hcz51_0 : w36.cell? ⟨gb454, 0, none⟩ = some (.slice Ao23 t446.length co23) := (blk_cell BK454.out 0).trans rfl
        have hcz51_1 : w36.cell? ⟨gb454, 1, none⟩ = some (.int .i64 t449) := (blk_cell BK454.out 1).trans rfl
        have hcz51_2 : w36.cell? ⟨gb454, 2, none⟩ = some (.slice Ao26 t450.length co26) := (blk_cell BK454.out 2).trans rfl
        have hfz51_0 := blk_frozen BK454.out 0
        have hfz51_1 := blk_frozen BK454.out 1
        have hfz51_2 := blk_frozen BK454.out 2
        go_wp2_with (first | ((with_reducible refine gate_callee (f := 19) rfl ?_); refine goesL_ (some 42) rfl rfl Try.func19 (by kernel_rfl) rfl #[.agg #[.slice Ao37 t463.length co37, .int .i64 t466, .slice Ao42 t467.length co42], .agg #[.slice Ao23 t446.length co23, .int .i64 t449, .slice Ao26 t450.length co26]] rfl (by (try simp only [List.map_toArray, List.map_cons, List.map_nil]); first | done | rfl | (simp only [List.length_drop, List.length_take]; rfl)) ?_; (with_reducible refine (laws_eqWork.calls k _ _ t463 t466 _ _ t467 _ _ t446 t449 _ _ t450 true _ ?side1 ?side2 ?side3 ?side4 ?side5 ?side6 ?side7 ?side8 A43.out).mono ?_); (case side1 => refine (Kd.R_reads' (e := 67) (base := w.heap.size) (ok := fun k_ => (((True ∧ some k_ ≠ (.slice Ao19 t439.length co19 : Value).ownBlock) ∧ some k_ ≠ (.slice Ao23 t446.length co23 : Value).ownBlock) ∧ some k_ ≠ (.slice Ao30 t455.length co30 : Value).ownBlock)) (n := t463.length) (c := co37) ?_).2.2; exact (by (with_reducible repeat (first | apply Kd.R_alloc | apply Kd.R_drewN | apply Kd.R_drew)); exact (Kd.R_mono (Kd.R_far (p := ⟨gb471, 2, none⟩) (Kd.R_far (p := ⟨gb471, 1, none⟩) (Kd.R_far (p := ⟨gb471, 0, none⟩) (Kd.R_types HO465.out BK471.out (by decide)) (fun _ hk => hk.2) (.slice Ao37 t463.length co37)) (fun _ hk => hk.2) (.int .i64 t466)) (fun _ hk => hk.2) (.slice Ao42 t467.length co42)) (fun _ h_ => h_.1)))); (case side2 => exact (Kd.R_reads' HO465.out).2.1); (case side3 => refine (Kd.R_reads' (e := 3) (base := w.heap.size) (ok := fun k_ => (((True ∧ some k_ ≠ (.slice Ao20 t443.length co20 : Value).ownBlock) ∧ some k_ ≠ (.slice Ao26 t450.length co26 : Value).ownBlock) ∧ some k_ ≠ (.slice Ao34 t459.length co34 : Value).ownBlock)) (n := t467.length) (c := co42) ?_).2.2; exact (by (with_reducible repeat (first | apply Kd.R_alloc | apply Kd.R_drewN | apply Kd.R_drew)); exact (Kd.R_mono (Kd.R_far (p := ⟨gb471, 2, none⟩) (Kd.R_far (p := ⟨gb471, 1, none⟩) (Kd.R_far (p := ⟨gb471, 0, none⟩) (Kd.R_types HO469.out BK471.out (by decide)) (fun _ hk => hk.2) (.slice Ao37 t463.length co37)) (fun _ hk => hk.2) (.int .i64 t466)) (fun _ hk => hk.2) (.slice Ao42 t467.length co42)) (fun _ h_ => h_.1)))); (case side4 => exact (Kd.R_reads' HO469.out).2.1); (case side5 => refine (Kd.R_reads' (e := 67) (base := w.heap.size) (ok := fun k_ => (((True ∧ some k_ ≠ (.slice Ao19 t439.length co19 : Value).ownBlock) ∧ some k_ ≠ (.slice Ao30 t455.length co30 : Value).ownBlock) ∧ some k_ ≠ (.slice Ao37 t463.length co37 : Value).ownBlock)) (n := t446.length) (c := co23) ?_).2.2; exact (by (with_reducible repeat (first | apply Kd.R_alloc | apply Kd.R_drewN | apply Kd.R_drew)); exact (Kd.R_mono (Kd.R_far (p := ⟨gb471, 2, none⟩) (Kd.R_far (p := ⟨gb471, 1, none⟩) (Kd.R_far (p := ⟨gb471, 0, none⟩) (Kd.R_types HO448.out BK471.out (by decide)) (fun _ hk => hk.2) (.slice Ao37 t463.length co37)) (fun _ hk => hk.2) (.int .i64 t466)) (fun _ hk => hk.2) (.slice Ao42 t467.length co42)) (fun _ h_ => h_.1)))); (case side6 => exact (Kd.R_reads' HO448.out).2.1); (case side7 => refine (Kd.R_reads' (e := 3) (base := w.heap.size) (ok := fun k_ => (((True ∧ some k_ ≠ (.slice Ao20 t443.length co20 : Value).ownBlock) ∧ some k_ ≠ (.slice Ao34 t459.length co34 : Value).ownBlock) ∧ some k_ ≠ (.slice Ao42 t467.length co42 : Value).ownBlock)) (n := t450.length) (c := co26) ?_).2.2; exact (by (with_reducible repeat (first | apply Kd.R_alloc | apply Kd.R_drewN | apply Kd.R_drew)); exact (Kd.R_mono (Kd.R_far (p := ⟨gb471, 2, none⟩) (Kd.R_far (p := ⟨gb471, 1, none⟩) (Kd.R_far (p := ⟨gb471, 0, none⟩) (Kd.R_types HO452.out BK471.out (by decide)) (fun _ hk => hk.2) (.slice Ao37 t463.length co37)) (fun _ hk => hk.2) (.int .i64 t466)) (fun _ hk => hk.2) (.slice Ao42 t467.length co42)) (fun _ h_ => h_.1)))); (case side8 => exact (Kd.R_reads' HO452.out).2.1); rintro e w52 ⟨rfl, hb⟩; refine ⟨_, rfl, ?_⟩; have n0_ := Aside0.mk (Kd.R_below (by (with_reducible repeat (first | apply Kd.R_alloc | apply Kd.R_drewN | apply Kd.R_drew)); exact (Kd.R_mono (Kd.R_far (p := ⟨gb471, 2, none⟩) (Kd.R_far (p := ⟨gb471, 1, none⟩) (Kd.R_far (p := ⟨gb471, 0, none⟩) (Kd.R_types HO441.out BK471.out (by decide)) (fun _ hk => hk.2) (.slice Ao37 t463.length co37)) (fun _ hk => hk.2) (.int .i64 t466)) (fun _ hk => hk.2) (.slice Ao42 t467.length co42)) (fun _ h_ => h_.1))) hb); have n1_ := Aside0.mk (Kd.R_below (by (with_reducible repeat (first | apply Kd.R_alloc | apply Kd.R_drewN | apply Kd.R_drew)); exact (Kd.R_mono (Kd.R_far (p := ⟨gb471, 2, none⟩) (Kd.R_far (p := ⟨gb471, 1, none⟩) (Kd.R_far (p := ⟨gb471, 0, none⟩) (Kd.R_types HO445.out BK471.out (by decide)) (fun _ hk => hk.2) (.slice Ao37 t463.length co37)) (fun _ hk => hk.2) (.int .i64 t466)) (fun _ hk => hk.2) (.slice Ao42 t467.length co42)) (fun _ h_ => h_.1))) hb); have n2_ := Aside0.mk (Kd.R_below (by (with_reducible repeat (first | apply Kd.R_alloc | apply Kd.R_drewN | apply Kd.R_drew)); exact (Kd.R_mono (Kd.R_far (p := ⟨gb471, 2, none⟩) (Kd.R_far (p := ⟨gb471, 1, none⟩) (Kd.R_far (p := ⟨gb471, 0, none⟩) (Kd.R_types HO448.out BK471.out (by decide)) (fun _ hk => hk.2) (.slice Ao37 t463.length co37)) (fun _ hk => hk.2) (.int .i64 t466)) (fun _ hk => hk.2) (.slice Ao42 t467.length co42)) (fun _ h_ => h_.1))) hb); have n3_ := Aside0.mk (Kd.R_below (by (with_reducible repeat (first | apply Kd.R_alloc | apply Kd.R_drewN | apply Kd.R_drew)); exact (Kd.R_mono (Kd.R_far (p := ⟨gb471, 2, none⟩) (Kd.R_far (p := ⟨gb471, 1, none⟩) (Kd.R_far (p := ⟨gb471, 0, none⟩) (Kd.R_types HO452.out BK471.out (by decide)) (fun _ hk => hk.2) (.slice Ao37 t463.length co37)) (fun _ hk => hk.2) (.int .i64 t466)) (fun _ hk => hk.2) (.slice Ao42 t467.length co42)) (fun _ h_ => h_.1))) hb); have n4_ := Aside0.mk (Kd.R_below (by (with_reducible repeat (first | apply Kd.R_alloc | apply Kd.R_drewN | apply Kd.R_drew)); exact (Kd.R_mono (Kd.R_far (p := ⟨gb471, 2, none⟩) (Kd.R_far (p := ⟨gb471, 1, none⟩) (Kd.R_far (p := ⟨gb471, 0, none⟩) (Kd.R_types HO457.out BK471.out (by decide)) (fun _ hk => hk.2) (.slice Ao37 t463.length co37)) (fun _ hk => hk.2) (.int .i64 t466)) (fun _ hk => hk.2) (.slice Ao42 t467.length co42)) (fun _ h_ => h_.1))) hb); have n5_ := Aside0.mk (Kd.R_below (by (with_reducible repeat (first | apply Kd.R_alloc | apply Kd.R_drewN | apply Kd.R_drew)); exact (Kd.R_mono (Kd.R_far (p := ⟨gb471, 2, none⟩) (Kd.R_far (p := ⟨gb471, 1, none⟩) (Kd.R_far (p := ⟨gb471, 0, none⟩) (Kd.R_types HO461.out BK471.out (by decide)) (fun _ hk => hk.2) (.slice Ao37 t463.length co37)) (fun _ hk => hk.2) (.int .i64 t466)) (fun _ hk => hk.2) (.slice Ao42 t467.length co42)) (fun _ h_ => h_.1))) hb); have n6_ := Aside0.mk (Kd.R_below (by (with_reducible repeat (first | apply Kd.R_alloc | apply Kd.R_drewN | apply Kd.R_drew)); exact (Kd.R_mono (Kd.R_far (p := ⟨gb471, 2, none⟩) (Kd.R_far (p := ⟨gb471, 1, none⟩) (Kd.R_far (p := ⟨gb471, 0, none⟩) (Kd.R_types HO465.out BK471.out (by decide)) (fun _ hk => hk.2) (.slice Ao37 t463.length co37)) (fun _ hk => hk.2) (.int .i64 t466)) (fun _ hk => hk.2) (.slice Ao42 t467.length co42)) (fun _ h_ => h_.1))) hb); have n7_ := Aside0.mk (Kd.R_below (by (with_reducible repeat (first | apply Kd.R_alloc | apply Kd.R_drewN | apply Kd.R_drew)); exact (Kd.R_mono (Kd.R_far (p := ⟨gb471, 2, none⟩) (Kd.R_far (p := ⟨gb471, 1, none⟩) (Kd.R_far (p := ⟨gb471, 0, none⟩) (Kd.R_types HO469.out BK471.out (by decide)) (fun _ hk => hk.2) (.slice Ao37 t463.length co37)) (fun _ hk => hk.2) (.int .i64 t466)) (fun _ hk => hk.2) (.slice Ao42 t467.length co42)) (fun _ h_ => h_.1))) hb); have n8_ := Aside0.mk (blk_below (g := gb437) (o := .cells #[.slice A0_0 l0_0.length c0_0, .int .i64 a0_1, .slice A0_2 l0_2.length c0_2] 25 (0, 0)) (by (with_reducible repeat (first | refine blk_drewN ?_ _ | refine blk_drew ?_ | refine blk_alloc ?_ _)); refine blk_far ?_ NB437_471.out _; (with_reducible repeat (first | refine blk_drewN ?_ _ | refine blk_drew ?_ | refine blk_alloc ?_ _)); refine blk_far ?_ NB437_471.out _; (with_reducible repeat (first | refine blk_drewN ?_ _ | refine blk_drew ?_ | refine blk_alloc ?_ _)); refine blk_far ?_ NB437_471.out _; (with_reducible repeat (first | refine blk_drewN ?_ _ | refine blk_drew ?_ | refine blk_alloc ?_ _)); exact BK437.out) hb); have n9_ := Aside0.mk (blk_below (g := gb454) (o := .cells #[.slice Ao23 t446.length co23, .int .i64 t449, .slice Ao26 t450.length co26] 30 (0, 0)) (by (with_reducible repeat (first | refine blk_drewN ?_ _ | refine blk_drew ?_ | refine blk_alloc ?_ _)); refine blk_far ?_ NB454_471.out _; (with_reducible repeat (first | refine blk_drewN ?_ _ | refine blk_drew ?_ | refine blk_alloc ?_ _)); refine blk_far ?_ NB454_471.out _; (with_reducible repeat (first | refine blk_drewN ?_ _ | refine blk_drew ?_ | refine blk_alloc ?_ _)); refine blk_far ?_ NB454_471.out _; (with_reducible repeat (first | refine blk_drewN ?_ _ | refine blk_drew ?_ | refine blk_alloc ?_ _)); exact BK454.out) hb); have n10_ := Aside0.mk (blk_below (g := gb462) (o := .cells #[.slice Ao30 t455.length co30, .int .i64 t458, .slice Ao34 t459.length co34] 30 (0, 0)) (by (with_reducible repeat (first | refine blk_drewN ?_ _ | refine blk_drew ?_ | refine blk_alloc ?_ _)); refine blk_far ?_ NB462_471.out _; (with_reducible repeat (first | refine blk_drewN ?_ _ | refine blk_drew ?_ | refine blk_alloc ?_ _)); refine blk_far ?_ NB462_471.out _; (with_reducible repeat (first | refine blk_drewN ?_ _ | refine blk_drew ?_ | refine blk_alloc ?_ _)); refine blk_far ?_ NB462_471.out _; (with_reducible repeat (first | refine blk_drewN ?_ _ | refine blk_drew ?_ | refine blk_alloc ?_ _)); exact BK462.out) hb); have n11_ := Aside0.mk (blk_below (g := gb471) (o := .cells #[.slice Ao37 t463.length co37, .int .i64 t466, .slice Ao42 t467.length co42] 30 (0, 0)) (by (with_reducible repeat (first | refine blk_drewN ?_ _ | refine blk_drew ?_ | refine blk_alloc ?_ _)); refine blk_put (cs := #[.slice Ao37 t463.length co37, .int .i64 t466, .slice none 0 0]) ?_ 2 _ rfl; (with_reducible repeat (first | refine blk_drewN ?_ _ | refine blk_drew ?_ | refine blk_alloc ?_ _)); refine blk_put (cs := #[.slice Ao37 t463.length co37, .int .i64 0, .slice none 0 0]) ?_ 1 _ rfl; (with_reducible repeat (first | refine blk_drewN ?_ _ | refine blk_drew ?_ | refine blk_alloc ?_ _)); refine blk_put (cs := #[.slice none 0 0, .int .i64 0, .slice none 0 0]) ?_ 0 _ rfl; (with_reducible repeat (first | refine blk_drewN ?_ _ | refine blk_drew ?_ | refine blk_alloc ?_ _)); exact BK471.out) hb); have n12_ := Aside0.mk (below_step (oB HB) hb); clear HO441; clear HO445; clear HO448; clear HO452; clear HO457; clear HO461; clear HO465; clear HO469; clear BK437; clear BK454; clear BK462; clear BK471; clear HB; have HO441 := n0_; have HO445 := n1_; have HO448 := n2_; have HO452 := n3_; have HO457 := n4_; have HO461 := n5_; have HO465 := n6_; have HO469 := n7_; have BK437 := n8_; have BK454 := n9_; have BK462 := n10_; have BK471 := n11_; have HB := n12_; clear n0_ n1_ n2_ n3_ n4_ n5_ n6_ n7_ n8_ n9_ n10_ n11_ n12_; (try clear hb); (try clear hb2); (try clear hk); (try clear hi)))
        go_meet
        case rel => exact ⟨_, ((t470 != t453)), (by first | rfl | (simp; done) | (simp [*]; done)), H', ⟨by first | omega | exact Nat.le_refl _⟩, ⟨by (with_reducible repeat (first | apply Kd.R_alloc | apply Kd.R_drewN | apply Kd.R_drew)); exact Kd.R_mono HO448.out (fun _ hk => ⟨hk.1.2, hk.2⟩)⟩, ⟨by (with_reducible repeat (first | apply Kd.R_alloc | apply Kd.R_drewN | apply Kd.R_drew)); exact Kd.R_mono HO452.out (fun _ hk => ⟨hk.1.2, hk.2⟩)⟩, ⟨by (with_reducible repeat (first | apply Kd.R_alloc | apply Kd.R_drewN | apply Kd.R_drew)); exact Kd.R_mono HO457.out (fun _ hk => ⟨hk.1.2, hk.2⟩)⟩, ⟨by (with_reducible repeat (first | apply Kd.R_alloc | apply Kd.R_drewN | apply Kd.R_drew)); exact Kd.R_mono HO461.out (fun _ hk => ⟨hk.1.2, hk.2⟩)⟩, ⟨by (with_reducible repeat (first | apply Kd.R_alloc | apply Kd.R_drewN | apply Kd.R_drew)); exact Kd.R_mono HO465.out (fun _ hk => ⟨hk.1.2, hk.2⟩)⟩, ⟨by (with_reducible repeat (first | apply Kd.R_alloc | apply Kd.R_drewN | apply Kd.R_drew)); exact Kd.R_mono HO469.out (fun _ hk => ⟨hk.1.2, hk.2⟩)⟩, ⟨oK BK437⟩, ⟨oK BK454⟩, ⟨oK BK462⟩, ⟨oK BK471⟩, ⟨oB HB⟩⟩
      · replace c44 := Bool.eq_false_iff.mpr c44
        subst c44
        rw [if_neg (show ¬ (false = true) by decide)] at H
        have H' := Aside0.mk H
        clear H
        have hnb53 := NB471_437.out
        have hnc53 := NB437_471.out
        have hnb54 := NB471_454.out
        have hnc54 := NB454_471.out
        have hnb55 := NB471_462.out
        have hnc55 := NB462_471.out
        have hcz56_0 : w36.cell? ⟨gb471, 0, none⟩ = some (.slice none 0 0) := (blk_cell BK471.out 0).trans rfl
        have hcz56_1 : w36.cell? ⟨gb471, 1, none⟩ = some (.int .i64 0) := (blk_cell BK471.out 1).trans rfl
        have hcz56_2 : w36.cell? ⟨gb471, 2, none⟩ = some (.slice none 0 0) := (blk_cell BK471.out 2).trans rfl
        have hfz56_0 := blk_frozen BK471.out 0
        have hfz56_1 := blk_frozen BK471.out 1
        have hfz56_2 := blk_frozen BK471.out 2
        have hnb57 := NB454_437.out
        have hnc57 := NB437_454.out
        have hnb58 := NB454_462.out
        have hnc58 := NB462_454.out
        have hcz59_0 : w36.cell? ⟨gb454, 0, none⟩ = some (.slice Ao23 t446.length co23) := (blk_cell BK454.out 0).trans rfl
        have hcz59_1 : w36.cell? ⟨gb454, 1, none⟩ = some (.int .i64 t449) := (blk_cell BK454.out 1).trans rfl
        have hcz59_2 : w36.cell? ⟨gb454, 2, none⟩ = some (.slice Ao26 t450.length co26) := (blk_cell BK454.out 2).trans rfl
        have hfz59_0 := blk_frozen BK454.out 0
        have hfz59_1 := blk_frozen BK454.out 1
        have hfz59_2 := blk_frozen BK454.out 2
        go_wp2_with (first | ((with_reducible refine gate_callee (f := 19) rfl ?_); refine goesL_ (some 42) rfl rfl Try.func19 (by kernel_rfl) rfl #[.agg #[.slice Ao37 t463.length co37, .int .i64 t466, .slice Ao42 t467.length co42], .agg #[.slice Ao23 t446.length co23, .int .i64 t449, .slice Ao26 t450.length co26]] rfl (by (try simp only [List.map_toArray, List.map_cons, List.map_nil]); first | done | rfl | (simp only [List.length_drop, List.length_take]; rfl)) ?_; (with_reducible refine (laws_eqWork.calls k _ _ t463 t466 _ _ t467 _ _ t446 t449 _ _ t450 false _ ?side1 ?side2 ?side3 ?side4 ?side5 ?side6 ?side7 ?side8 A43.out).mono ?_); (case side1 => refine (Kd.R_reads' (e := 67) (base := w.heap.size) (ok := fun k_ => (((True ∧ some k_ ≠ (.slice Ao19 t439.length co19 : Value).ownBlock) ∧ some k_ ≠ (.slice Ao23 t446.length co23 : Value).ownBlock) ∧ some k_ ≠ (.slice Ao30 t455.length co30 : Value).ownBlock)) (n := t463.length) (c := co37) ?_).2.2; exact (by (with_reducible repeat (first | apply Kd.R_alloc | apply Kd.R_drewN | apply Kd.R_drew)); exact (Kd.R_mono (Kd.R_far (p := ⟨gb471, 2, none⟩) (Kd.R_far (p := ⟨gb471, 1, none⟩) (Kd.R_far (p := ⟨gb471, 0, none⟩) (Kd.R_types HO465.out BK471.out (by decide)) (fun _ hk => hk.2) (.slice Ao37 t463.length co37)) (fun _ hk => hk.2) (.int .i64 t466)) (fun _ hk => hk.2) (.slice Ao42 t467.length co42)) (fun _ h_ => h_.1)))); (case side2 => exact (Kd.R_reads' HO465.out).2.1); (case side3 => refine (Kd.R_reads' (e := 3) (base := w.heap.size) (ok := fun k_ => (((True ∧ some k_ ≠ (.slice Ao20 t443.length co20 : Value).ownBlock) ∧ some k_ ≠ (.slice Ao26 t450.length co26 : Value).ownBlock) ∧ some k_ ≠ (.slice Ao34 t459.length co34 : Value).ownBlock)) (n := t467.length) (c := co42) ?_).2.2; exact (by (with_reducible repeat (first | apply Kd.R_alloc | apply Kd.R_drewN | apply Kd.R_drew)); exact (Kd.R_mono (Kd.R_far (p := ⟨gb471, 2, none⟩) (Kd.R_far (p := ⟨gb471, 1, none⟩) (Kd.R_far (p := ⟨gb471, 0, none⟩) (Kd.R_types HO469.out BK471.out (by decide)) (fun _ hk => hk.2) (.slice Ao37 t463.length co37)) (fun _ hk => hk.2) (.int .i64 t466)) (fun _ hk => hk.2) (.slice Ao42 t467.length co42)) (fun _ h_ => h_.1)))); (case side4 => exact (Kd.R_reads' HO469.out).2.1); (case side5 => refine (Kd.R_reads' (e := 67) (base := w.heap.size) (ok := fun k_ => (((True ∧ some k_ ≠ (.slice Ao19 t439.length co19 : Value).ownBlock) ∧ some k_ ≠ (.slice Ao30 t455.length co30 : Value).ownBlock) ∧ some k_ ≠ (.slice Ao37 t463.length co37 : Value).ownBlock)) (n := t446.length) (c := co23) ?_).2.2; exact (by (with_reducible repeat (first | apply Kd.R_alloc | apply Kd.R_drewN | apply Kd.R_drew)); exact (Kd.R_mono (Kd.R_far (p := ⟨gb471, 2, none⟩) (Kd.R_far (p := ⟨gb471, 1, none⟩) (Kd.R_far (p := ⟨gb471, 0, none⟩) (Kd.R_types HO448.out BK471.out (by decide)) (fun _ hk => hk.2) (.slice Ao37 t463.length co37)) (fun _ hk => hk.2) (.int .i64 t466)) (fun _ hk => hk.2) (.slice Ao42 t467.length co42)) (fun _ h_ => h_.1)))); (case side6 => exact (Kd.R_reads' HO448.out).2.1); (case side7 => refine (Kd.R_reads' (e := 3) (base := w.heap.size) (ok := fun k_ => (((True ∧ some k_ ≠ (.slice Ao20 t443.length co20 : Value).ownBlock) ∧ some k_ ≠ (.slice Ao34 t459.length co34 : Value).ownBlock) ∧ some k_ ≠ (.slice Ao42 t467.length co42 : Value).ownBlock)) (n := t450.length) (c := co26) ?_).2.2; exact (by (with_reducible repeat (first | apply Kd.R_alloc | apply Kd.R_drewN | apply Kd.R_drew)); exact (Kd.R_mono (Kd.R_far (p := ⟨gb471, 2, none⟩) (Kd.R_far (p := ⟨gb471, 1, none⟩) (Kd.R_far (p := ⟨gb471, 0, none⟩) (Kd.R_types HO452.out BK471.out (by decide)) (fun _ hk => hk.2) (.slice Ao37 t463.length co37)) (fun _ hk => hk.2) (.int .i64 t466)) (fun _ hk => hk.2) (.slice Ao42 t467.length co42)) (fun _ h_ => h_.1)))); (case side8 => exact (Kd.R_reads' HO452.out).2.1); rintro e w60 ⟨rfl, hb⟩; refine ⟨_, rfl, ?_⟩; have n0_ := Aside0.mk (Kd.R_below (by (with_reducible repeat (first | apply Kd.R_alloc | apply Kd.R_drewN | apply Kd.R_drew)); exact (Kd.R_mono (Kd.R_far (p := ⟨gb471, 2, none⟩) (Kd.R_far (p := ⟨gb471, 1, none⟩) (Kd.R_far (p := ⟨gb471, 0, none⟩) (Kd.R_types HO441.out BK471.out (by decide)) (fun _ hk => hk.2) (.slice Ao37 t463.length co37)) (fun _ hk => hk.2) (.int .i64 t466)) (fun _ hk => hk.2) (.slice Ao42 t467.length co42)) (fun _ h_ => h_.1))) hb); have n1_ := Aside0.mk (Kd.R_below (by (with_reducible repeat (first | apply Kd.R_alloc | apply Kd.R_drewN | apply Kd.R_drew)); exact (Kd.R_mono (Kd.R_far (p := ⟨gb471, 2, none⟩) (Kd.R_far (p := ⟨gb471, 1, none⟩) (Kd.R_far (p := ⟨gb471, 0, none⟩) (Kd.R_types HO445.out BK471.out (by decide)) (fun _ hk => hk.2) (.slice Ao37 t463.length co37)) (fun _ hk => hk.2) (.int .i64 t466)) (fun _ hk => hk.2) (.slice Ao42 t467.length co42)) (fun _ h_ => h_.1))) hb); have n2_ := Aside0.mk (Kd.R_below (by (with_reducible repeat (first | apply Kd.R_alloc | apply Kd.R_drewN | apply Kd.R_drew)); exact (Kd.R_mono (Kd.R_far (p := ⟨gb471, 2, none⟩) (Kd.R_far (p := ⟨gb471, 1, none⟩) (Kd.R_far (p := ⟨gb471, 0, none⟩) (Kd.R_types HO448.out BK471.out (by decide)) (fun _ hk => hk.2) (.slice Ao37 t463.length co37)) (fun _ hk => hk.2) (.int .i64 t466)) (fun _ hk => hk.2) (.slice Ao42 t467.length co42)) (fun _ h_ => h_.1))) hb); have n3_ := Aside0.mk (Kd.R_below (by (with_reducible repeat (first | apply Kd.R_alloc | apply Kd.R_drewN | apply Kd.R_drew)); exact (Kd.R_mono (Kd.R_far (p := ⟨gb471, 2, none⟩) (Kd.R_far (p := ⟨gb471, 1, none⟩) (Kd.R_far (p := ⟨gb471, 0, none⟩) (Kd.R_types HO452.out BK471.out (by decide)) (fun _ hk => hk.2) (.slice Ao37 t463.length co37)) (fun _ hk => hk.2) (.int .i64 t466)) (fun _ hk => hk.2) (.slice Ao42 t467.length co42)) (fun _ h_ => h_.1))) hb); have n4_ := Aside0.mk (Kd.R_below (by (with_reducible repeat (first | apply Kd.R_alloc | apply Kd.R_drewN | apply Kd.R_drew)); exact (Kd.R_mono (Kd.R_far (p := ⟨gb471, 2, none⟩) (Kd.R_far (p := ⟨gb471, 1, none⟩) (Kd.R_far (p := ⟨gb471, 0, none⟩) (Kd.R_types HO457.out BK471.out (by decide)) (fun _ hk => hk.2) (.slice Ao37 t463.length co37)) (fun _ hk => hk.2) (.int .i64 t466)) (fun _ hk => hk.2) (.slice Ao42 t467.length co42)) (fun _ h_ => h_.1))) hb); have n5_ := Aside0.mk (Kd.R_below (by (with_reducible repeat (first | apply Kd.R_alloc | apply Kd.R_drewN | apply Kd.R_drew)); exact (Kd.R_mono (Kd.R_far (p := ⟨gb471, 2, none⟩) (Kd.R_far (p := ⟨gb471, 1, none⟩) (Kd.R_far (p := ⟨gb471, 0, none⟩) (Kd.R_types HO461.out BK471.out (by decide)) (fun _ hk => hk.2) (.slice Ao37 t463.length co37)) (fun _ hk => hk.2) (.int .i64 t466)) (fun _ hk => hk.2) (.slice Ao42 t467.length co42)) (fun _ h_ => h_.1))) hb); have n6_ := Aside0.mk (Kd.R_below (by (with_reducible repeat (first | apply Kd.R_alloc | apply Kd.R_drewN | apply Kd.R_drew)); exact (Kd.R_mono (Kd.R_far (p := ⟨gb471, 2, none⟩) (Kd.R_far (p := ⟨gb471, 1, none⟩) (Kd.R_far (p := ⟨gb471, 0, none⟩) (Kd.R_types HO465.out BK471.out (by decide)) (fun _ hk => hk.2) (.slice Ao37 t463.length co37)) (fun _ hk => hk.2) (.int .i64 t466)) (fun _ hk => hk.2) (.slice Ao42 t467.length co42)) (fun _ h_ => h_.1))) hb); have n7_ := Aside0.mk (Kd.R_below (by (with_reducible repeat (first | apply Kd.R_alloc | apply Kd.R_drewN | apply Kd.R_drew)); exact (Kd.R_mono (Kd.R_far (p := ⟨gb471, 2, none⟩) (Kd.R_far (p := ⟨gb471, 1, none⟩) (Kd.R_far (p := ⟨gb471, 0, none⟩) (Kd.R_types HO469.out BK471.out (by decide)) (fun _ hk => hk.2) (.slice Ao37 t463.length co37)) (fun _ hk => hk.2) (.int .i64 t466)) (fun _ hk => hk.2) (.slice Ao42 t467.length co42)) (fun _ h_ => h_.1))) hb); have n8_ := Aside0.mk (blk_below (g := gb437) (o := .cells #[.slice A0_0 l0_0.length c0_0, .int .i64 a0_1, .slice A0_2 l0_2.length c0_2] 25 (0, 0)) (by (with_reducible repeat (first | refine blk_drewN ?_ _ | refine blk_drew ?_ | refine blk_alloc ?_ _)); refine blk_far ?_ NB437_471.out _; (with_reducible repeat (first | refine blk_drewN ?_ _ | refine blk_drew ?_ | refine blk_alloc ?_ _)); refine blk_far ?_ NB437_471.out _; (with_reducible repeat (first | refine blk_drewN ?_ _ | refine blk_drew ?_ | refine blk_alloc ?_ _)); refine blk_far ?_ NB437_471.out _; (with_reducible repeat (first | refine blk_drewN ?_ _ | refine blk_drew ?_ | refine blk_alloc ?_ _)); exact BK437.out) hb); have n9_ := Aside0.mk (blk_below (g := gb454) (o := .cells #[.slice Ao23 t446.length co23, .int .i64 t449, .slice Ao26 t450.length co26] 30 (0, 0)) (by (with_reducible repeat (first | refine blk_drewN ?_ _ | refine blk_drew ?_ | refine blk_alloc ?_ _)); refine blk_far ?_ NB454_471.out _; (with_reducible repeat (first | refine blk_drewN ?_ _ | refine blk_drew ?_ | refine blk_alloc ?_ _)); refine blk_far ?_ NB454_471.out _; (with_reducible repeat (first | refine blk_drewN ?_ _ | refine blk_drew ?_ | refine blk_alloc ?_ _)); refine blk_far ?_ NB454_471.out _; (with_reducible repeat (first | refine blk_drewN ?_ _ | refine blk_drew ?_ | refine blk_alloc ?_ _)); exact BK454.out) hb); have n10_ := Aside0.mk (blk_below (g := gb462) (o := .cells #[.slice Ao30 t455.length co30, .int .i64 t458, .slice Ao34 t459.length co34] 30 (0, 0)) (by (with_reducible repeat (first | refine blk_drewN ?_ _ | refine blk_drew ?_ | refine blk_alloc ?_ _)); refine blk_far ?_ NB462_471.out _; (with_reducible repeat (first | refine blk_drewN ?_ _ | refine blk_drew ?_ | refine blk_alloc ?_ _)); refine blk_far ?_ NB462_471.out _; (with_reducible repeat (first | refine blk_drewN ?_ _ | refine blk_drew ?_ | refine blk_alloc ?_ _)); refine blk_far ?_ NB462_471.out _; (with_reducible repeat (first | refine blk_drewN ?_ _ | refine blk_drew ?_ | refine blk_alloc ?_ _)); exact BK462.out) hb); have n11_ := Aside0.mk (blk_below (g := gb471) (o := .cells #[.slice Ao37 t463.length co37, .int .i64 t466, .slice Ao42 t467.length co42] 30 (0, 0)) (by (with_reducible repeat (first | refine blk_drewN ?_ _ | refine blk_drew ?_ | refine blk_alloc ?_ _)); refine blk_put (cs := #[.slice Ao37 t463.length co37, .int .i64 t466, .slice none 0 0]) ?_ 2 _ rfl; (with_reducible repeat (first | refine blk_drewN ?_ _ | refine blk_drew ?_ | refine blk_alloc ?_ _)); refine blk_put (cs := #[.slice Ao37 t463.length co37, .int .i64 0, .slice none 0 0]) ?_ 1 _ rfl; (with_reducible repeat (first | refine blk_drewN ?_ _ | refine blk_drew ?_ | refine blk_alloc ?_ _)); refine blk_put (cs := #[.slice none 0 0, .int .i64 0, .slice none 0 0]) ?_ 0 _ rfl; (with_reducible repeat (first | refine blk_drewN ?_ _ | refine blk_drew ?_ | refine blk_alloc ?_ _)); exact BK471.out) hb); have n12_ := Aside0.mk (below_step (oB HB) hb); clear HO441; clear HO445; clear HO448; clear HO452; clear HO457; clear HO461; clear HO465; clear HO469; clear BK437; clear BK454; clear BK462; clear BK471; clear HB; have HO441 := n0_; have HO445 := n1_; have HO448 := n2_; have HO452 := n3_; have HO457 := n4_; have HO461 := n5_; have HO465 := n6_; have HO469 := n7_; have BK437 := n8_; have BK454 := n9_; have BK462 := n10_; have BK471 := n11_; have HB := n12_; clear n0_ n1_ n2_ n3_ n4_ n5_ n6_ n7_ n8_ n9_ n10_ n11_ n12_; (try clear hb); (try clear hb2); (try clear hk); (try clear hi)))
        go_meet
        case rel => exact ⟨_, (true), (by first | rfl | (simp; done) | (simp [*]; done)), H', ⟨by first | omega | exact Nat.le_refl _⟩, ⟨by (with_reducible repeat (first | apply Kd.R_alloc | apply Kd.R_drewN | apply Kd.R_drew)); exact Kd.R_mono HO448.out (fun _ hk => ⟨hk.1.2, hk.2⟩)⟩, ⟨by (with_reducible repeat (first | apply Kd.R_alloc | apply Kd.R_drewN | apply Kd.R_drew)); exact Kd.R_mono HO452.out (fun _ hk => ⟨hk.1.2, hk.2⟩)⟩, ⟨by (with_reducible repeat (first | apply Kd.R_alloc | apply Kd.R_drewN | apply Kd.R_drew)); exact Kd.R_mono HO457.out (fun _ hk => ⟨hk.1.2, hk.2⟩)⟩, ⟨by (with_reducible repeat (first | apply Kd.R_alloc | apply Kd.R_drewN | apply Kd.R_drew)); exact Kd.R_mono HO461.out (fun _ hk => ⟨hk.1.2, hk.2⟩)⟩, ⟨by (with_reducible repeat (first | apply Kd.R_alloc | apply Kd.R_drewN | apply Kd.R_drew)); exact Kd.R_mono HO465.out (fun _ hk => ⟨hk.1.2, hk.2⟩)⟩, ⟨by (with_reducible repeat (first | apply Kd.R_alloc | apply Kd.R_drewN | apply Kd.R_drew)); exact Kd.R_mono HO469.out (fun _ hk => ⟨hk.1.2, hk.2⟩)⟩, ⟨oK BK437⟩, ⟨oK BK454⟩, ⟨oK BK462⟩, ⟨oK BK471⟩, ⟨oB HB⟩⟩
    case rest =>
      clear HC13
      try clear c1
      try clear c2
      try clear p2
      try clear c3
      try clear c4
      try clear c5
      try clear c5b0
      try clear c6
      try clear c15
      try clear c17
      try clear c19
      try clear c24
      try clear c30
      try clear c31
      try clear c32
      try clear c38
      try clear c39
      try clear c40
      try clear c44
      try clear c45
      try clear c46
      try clear c47
      try clear c49
      try clear c50
      try clear c53
      try clear c54
      try clear c55
      try clear c57
      try clear c58
      try clear hcz15_0
      try clear hcz15_1
      try clear hcz15_2
      try clear hcz17_0
      try clear hcz17_1
      try clear hcz17_2
      try clear hcz25_0
      try clear hcz25_1
      try clear hcz25_2
      try clear hcz27_0
      try clear hcz27_1
      try clear hcz27_2
      try clear hcz33_0
      try clear hcz33_1
      try clear hcz33_2
      try clear hcz41_0
      try clear hcz41_1
      try clear hcz41_2
      try clear hcz48_0
      try clear hcz48_1
      try clear hcz48_2
      try clear hcz51_0
      try clear hcz51_1
      try clear hcz51_2
      try clear hcz56_0
      try clear hcz56_1
      try clear hcz56_2
      try clear hcz59_0
      try clear hcz59_1
      try clear hcz59_2
      try clear hcz7_0
      try clear hcz7_1
      try clear hcz7_2
      try clear hfz15_0
      try clear hfz15_1
      try clear hfz15_2
      try clear hfz17_0
      try clear hfz17_1
      try clear hfz17_2
      try clear hfz25_0
      try clear hfz25_1
      try clear hfz25_2
      try clear hfz27_0
      try clear hfz27_1
      try clear hfz27_2
      try clear hfz33_0
      try clear hfz33_1
      try clear hfz33_2
      try clear hfz41_0
      try clear hfz41_1
      try clear hfz41_2
      try clear hfz48_0
      try clear hfz48_1
      try clear hfz48_2
      try clear hfz51_0
      try clear hfz51_1
      try clear hfz51_2
      try clear hfz56_0
      try clear hfz56_1
      try clear hfz56_2
      try clear hfz59_0
      try clear hfz59_1
      try clear hfz59_2
      try clear hfz7_0
      try clear hfz7_1
      try clear hfz7_2
      obtain ⟨kq, x48_12, rfl, HA, HJ12, HO_455000, HO_455002, HO_463000, HO_463002, HO_472000, HO_472002, BK437, BK454, BK462, BK471, HB⟩ := hcut
      cases kq with
      | zero => exact absurd HA.out (by simp [laws_FnExactKnockKey.j0])
      | succ kj12 =>
        have H := HA.out
        clear HA
        simp only [laws_FnExactKnockKey.j0] at H
        by_cases c61 : x48_12 = true
        · subst c61
          rw [if_pos rfl] at H
          exact absurd ((Option.some.inj H).trans hrt_.out) (by decide)
        · replace c61 := Bool.eq_false_iff.mpr c61
          subst c61
          rw [if_neg (show ¬ (false = true) by decide)] at H
          replace H := Option.bind_eq_some_iff.mp H
          obtain ⟨⟨t473, t476, t477⟩, A620, H⟩ := H
          (try dsimp only at H)
          have A62 := Aside0.mk A620
          clear A620
          replace H := Option.bind_eq_some_iff.mp H
          obtain ⟨t480, A630, H⟩ := H
          (try dsimp only at H)
          have A63 := Aside0.mk A630
          clear A630
          by_cases c64 : t480 = true
          · subst c64
            rw [if_pos rfl] at H
            replace H := Option.bind_eq_some_iff.mp H
            obtain ⟨⟨t481, t482, t483⟩, A650, H⟩ := H
            (try dsimp only at H)
            have A65 := Aside0.mk A650
            clear A650
            have HC66 := Aside0.mk H
            clear H
            try go_wp2
            have n0_ := Aside0.mk (Kd.R_drew HO_455000.out)
            have n1_ := Aside0.mk (Kd.R_drew HO_455002.out)
            have n2_ := Aside0.mk (Kd.R_drew HO_463000.out)
            have n3_ := Aside0.mk (Kd.R_drew HO_463002.out)
            have n4_ := Aside0.mk (Kd.R_drew HO_472000.out)
            have n5_ := Aside0.mk (Kd.R_drew HO_472002.out)
            have n6_ := Aside0.mk (blk_drew BK437.out)
            have n7_ := Aside0.mk (blk_drew BK454.out)
            have n8_ := Aside0.mk (blk_drew BK462.out)
            have n9_ := Aside0.mk (blk_drew BK471.out)
            have n10_ := Aside0.mk (below_drew1 HB.out)
            clear HO_455000
            clear HO_455002
            clear HO_463000
            clear HO_463002
            clear HO_472000
            clear HO_472002
            clear BK437
            clear BK454
            clear BK462
            clear BK471
            clear HB
            have HO_455000 := n0_
            have HO_455002 := n1_
            have HO_463000 := n2_
            have HO_463002 := n3_
            have HO_472000 := n4_
            have HO_472002 := n5_
            have BK437 := n6_
            have BK454 := n7_
            have BK462 := n8_
            have BK471 := n9_
            have HB := n10_
            clear n0_ n1_ n2_ n3_ n4_ n5_ n6_ n7_ n8_ n9_ n10_
            refine start_ (n := 5) (S := fun w' => w'.cell? ⟨gb462, 0, none⟩ = some (.slice Ao30 t455.length co30) ∧ w'.cell? ⟨gb462, 1, none⟩ = some (.int .i64 t458) ∧ w'.cell? ⟨gb462, 2, none⟩ = some (.slice Ao34 t459.length co34) ∧ w'.cell? ⟨gb437, 0, none⟩ = some (.slice A0_0 l0_0.length c0_0) ∧ w'.cell? ⟨gb437, 1, none⟩ = some (.int .i64 a0_1) ∧ w'.cell? ⟨gb437, 2, none⟩ = some (.slice A0_2 l0_2.length c0_2)) (ds := []) #[false, false, false, false, false] (by kernel_rfl) rfl rfl ⟨(blk_cell BK462.out 0).trans rfl, (blk_cell BK462.out 1).trans rfl, (blk_cell BK462.out 2).trans rfl, (blk_cell BK437.out 0).trans rfl, (blk_cell BK437.out 1).trans rfl, (blk_cell BK437.out 2).trans rfl⟩ (fun hHeld => ?_)
            generalize wc.drew = w67 at HO_455000 HO_455002 HO_463000 HO_463002 HO_472000 HO_472002 BK437 BK454 BK462 BK471 HB hHeld ⊢
            refine take_ (i := 0) (N := some 49) (v := ?_) (a' := ?_) #[true, false, false, false, false] rfl rfl (by kernel_rfl) (fun _ _ _ h => h) (Or.inl ⟨by rfl, ?_⟩) hHeld ?_ ?_
            rotate_left
            · rintro w' ⟨s0, s1, s2, s3, s4, s5⟩
              go_simp
              with_reducible rfl
            rotate_left
            · simp only [Act.put, List.setIfInBounds_toArray, List.set_cons_zero, List.set_cons_succ, i64_w, i32_w]
              rfl
            refine take_ (i := 1) (N := some 50) (v := ?_) (a' := ?_) #[true, true, false, false, false] rfl rfl (by kernel_rfl) (fun _ _ _ h => h) (Or.inl ⟨by rfl, ?_⟩) hHeld ?_ ?_
            rotate_left
            · rintro w' ⟨s0, s1, s2, s3, s4, s5⟩
              go_simp
              with_reducible rfl
            rotate_left
            · simp only [Act.put, List.setIfInBounds_toArray, List.set_cons_zero, List.set_cons_succ, i64_w, i32_w]
              rfl
            refine one_ (i := 2) (N := some 51) #[true, true, true, false, false] rfl rfl (by kernel_rfl) (by decide) (fun K hK => ?_)
            refine goes_ Try.func17 (by kernel_rfl) rfl #[.agg #[.slice A0_0 l0_0.length c0_0, .int .i64 a0_1, .slice A0_2 l0_2.length c0_2]] (by rfl) rfl rfl (by (try simp only [List.map_toArray, List.map_cons, List.map_nil]); first | done | rfl | (simp only [List.length_drop, List.length_take]; rfl)) ?_
            with_reducible refine (laws_toWork.calls kj12 _ _ l0_0 a0_1 _ _ l0_2 t473 t476 t477 _ ?side1 ?side2 ?side3 ?side4 A62.out).mono ?_
            (case side1 => exact oc_ HR0_0.out)
            (case side2 => exact HC0_0.out)
            (case side3 => exact oc_ HR0_2.out)
            (case side4 => exact HC0_2.out)
            rintro e w68 ⟨v474, v478, rfl, ho0, ho1, hb⟩
            refine ⟨_, rfl, ?_⟩
            have n0_ := Aside0.mk (Kd.R_elder' (oR HO_455000) (Kd.R_base ho0) hb)
            have n1_ := Aside0.mk (Kd.R_elder' (oR HO_455002) (Kd.R_base ho1) hb)
            have n2_ := Aside0.mk (Kd.R_elder' (oR HO_463000) (Kd.R_base ho0) hb)
            have n3_ := Aside0.mk (Kd.R_elder' (oR HO_463002) (Kd.R_base ho1) hb)
            have n4_ := Aside0.mk (Kd.R_elder' (oR HO_472000) (Kd.R_base ho0) hb)
            have n5_ := Aside0.mk (Kd.R_elder' (oR HO_472002) (Kd.R_base ho1) hb)
            have n6_ := Aside0.mk (Kd.R_lower (Kd.R_new' (Kd.R_new' (Kd.R_new' ho0 (Kd.R_lt (oR HO_455000))) (Kd.R_lt (oR HO_463000))) (Kd.R_lt (oR HO_472000))) (below_size (oB HB)))
            have n7_ := Aside0.mk (Kd.R_lower (Kd.R_new' (Kd.R_new' (Kd.R_new' ho1 (Kd.R_lt (oR HO_455002))) (Kd.R_lt (oR HO_463002))) (Kd.R_lt (oR HO_472002))) (below_size (oB HB)))
            have n8_ := Aside0.mk (blk_below (g := gb437) (o := .cells #[.slice A0_0 l0_0.length c0_0, .int .i64 a0_1, .slice A0_2 l0_2.length c0_2] 25 (0, 0)) (oK BK437) hb)
            have n9_ := Aside0.mk (blk_below (g := gb454) (o := .cells #[.slice Ao23 t446.length co23, .int .i64 t449, .slice Ao26 t450.length co26] 30 (0, 0)) (oK BK454) hb)
            have n10_ := Aside0.mk (blk_below (g := gb462) (o := .cells #[.slice Ao30 t455.length co30, .int .i64 t458, .slice Ao34 t459.length co34] 30 (0, 0)) (oK BK462) hb)
            have n11_ := Aside0.mk (blk_below (g := gb471) (o := .cells #[.slice Ao37 t463.length co37, .int .i64 t466, .slice Ao42 t467.length co42] 30 (0, 0)) (oK BK471) hb)
            have n12_ := Aside0.mk (below_step (oB HB) hb)
            clear HO_455000
            clear HO_455002
            clear HO_463000
            clear HO_463002
            clear HO_472000
            clear HO_472002
            clear BK437
            clear BK454
            clear BK462
            clear BK471
            clear HB
            have HO_455000 := n0_
            have HO_455002 := n1_
            have HO_463000 := n2_
            have HO_463002 := n3_
            have HO_472000 := n4_
            have HO_472002 := n5_
            have HO475 := n6_
            have HO479 := n7_
            have BK437 := n8_
            have BK454 := n9_
            have BK462 := n10_
            have BK471 := n11_
            have HB := n12_
            clear n0_ n1_ n2_ n3_ n4_ n5_ n6_ n7_ n8_ n9_ n10_ n11_ n12_
            (try clear hb)
            (try clear hb2)
            (try clear hk)
            (try clear hi)
            (try clear ho0)
            (try clear ho1)
            obtain ⟨Ao69, co69, eo69⟩ := Kd.R_slice HO475.out
            (first | subst eo69 | (injection eo69 with f1_ f2_ f3_; have f4_ := f1_.symm; have f5_ := f3_.symm; clear f1_ f2_ f3_; subst f4_; subst f5_))
            obtain ⟨Ao70, co70, eo70⟩ := Kd.R_slice HO479.out
            (first | subst eo70 | (injection eo70 with f1_ f2_ f3_; have f4_ := f1_.symm; have f5_ := f3_.symm; clear f1_ f2_ f3_; subst f4_; subst f5_))
            refine hK.out _ _ ⟨(blk_cell BK462.out 0).trans rfl, (blk_cell BK462.out 1).trans rfl, (blk_cell BK462.out 2).trans rfl, (blk_cell BK437.out 0).trans rfl, (blk_cell BK437.out 1).trans rfl, (blk_cell BK437.out 2).trans rfl⟩ (fun hHeld => ?_)
            clear hK K
            refine norm_ (a' := ?_) ?_ ?_
            rotate_left
            · show Act.put _ (some 51) _ = _
              simp only [Act.put, List.setIfInBounds_toArray, List.set_cons_zero, List.set_cons_succ, i64_w, i32_w]
              rfl
            refine one_ (i := 3) (N := some 52) #[true, true, true, true, false] rfl rfl (by kernel_rfl) (by decide) (fun K hK => ?_)
            refine goes_ Try.func19 (by kernel_rfl) rfl #[.agg #[.slice Ao30 t455.length co30, .int .i64 t458, .slice Ao34 t459.length co34], .agg #[.slice Ao69 t473.length co69, .int .i64 t476, .slice Ao70 t477.length co70]] (by rfl) rfl rfl (by (try simp only [List.map_toArray, List.map_cons, List.map_nil]); first | done | rfl | (simp only [List.length_drop, List.length_take]; rfl)) ?_
            with_reducible refine (laws_eqWork.calls kj12 _ _ t455 t458 _ _ t459 _ _ t473 t476 _ _ t477 true _ ?side1 ?side2 ?side3 ?side4 ?side5 ?side6 ?side7 ?side8 A63.out).mono ?_
            (case side1 => repeat (first | exact (Kd.R_reads' HO_463000.out).2.2 | (with_reducible refine Kd.C_alloc ?_ _) | (with_reducible refine Kd.C_drewN ?_ _) | (with_reducible refine Kd.C_drew ?_)))
            (case side2 => exact (Kd.R_reads' HO_463000.out).2.1)
            (case side3 => repeat (first | exact (Kd.R_reads' HO_463002.out).2.2 | (with_reducible refine Kd.C_alloc ?_ _) | (with_reducible refine Kd.C_drewN ?_ _) | (with_reducible refine Kd.C_drew ?_)))
            (case side4 => exact (Kd.R_reads' HO_463002.out).2.1)
            (case side5 => repeat (first | exact (Kd.R_reads' HO475.out).2.2 | (with_reducible refine Kd.C_alloc ?_ _) | (with_reducible refine Kd.C_drewN ?_ _) | (with_reducible refine Kd.C_drew ?_)))
            (case side6 => exact (Kd.R_reads' HO475.out).2.1)
            (case side7 => repeat (first | exact (Kd.R_reads' HO479.out).2.2 | (with_reducible refine Kd.C_alloc ?_ _) | (with_reducible refine Kd.C_drewN ?_ _) | (with_reducible refine Kd.C_drew ?_)))
            (case side8 => exact (Kd.R_reads' HO479.out).2.1)
            rintro e w71 ⟨rfl, hb⟩
            refine ⟨_, rfl, ?_⟩
            have n0_ := Aside0.mk (Kd.R_below (oR HO_455000) hb)
            have n1_ := Aside0.mk (Kd.R_below (oR HO_455002) hb)
            have n2_ := Aside0.mk (Kd.R_below (oR HO_463000) hb)
            have n3_ := Aside0.mk (Kd.R_below (oR HO_463002) hb)
            have n4_ := Aside0.mk (Kd.R_below (oR HO_472000) hb)
            have n5_ := Aside0.mk (Kd.R_below (oR HO_472002) hb)
            have n6_ := Aside0.mk (Kd.R_below (oR HO475) hb)
            have n7_ := Aside0.mk (Kd.R_below (oR HO479) hb)
            have n8_ := Aside0.mk (blk_below (g := gb437) (o := .cells #[.slice A0_0 l0_0.length c0_0, .int .i64 a0_1, .slice A0_2 l0_2.length c0_2] 25 (0, 0)) (oK BK437) hb)
            have n9_ := Aside0.mk (blk_below (g := gb454) (o := .cells #[.slice Ao23 t446.length co23, .int .i64 t449, .slice Ao26 t450.length co26] 30 (0, 0)) (oK BK454) hb)
            have n10_ := Aside0.mk (blk_below (g := gb462) (o := .cells #[.slice Ao30 t455.length co30, .int .i64 t458, .slice Ao34 t459.length co34] 30 (0, 0)) (oK BK462) hb)
            have n11_ := Aside0.mk (blk_below (g := gb471) (o := .cells #[.slice Ao37 t463.length co37, .int .i64 t466, .slice Ao42 t467.length co42] 30 (0, 0)) (oK BK471) hb)
            have n12_ := Aside0.mk (below_step (oB HB) hb)
            clear HO_455000
            clear HO_455002
            clear HO_463000
            clear HO_463002
            clear HO_472000
            clear HO_472002
            clear HO475
            clear HO479
            clear BK437
            clear BK454
            clear BK462
            clear BK471
            clear HB
            have HO_455000 := n0_
            have HO_455002 := n1_
            have HO_463000 := n2_
            have HO_463002 := n3_
            have HO_472000 := n4_
            have HO_472002 := n5_
            have HO475 := n6_
            have HO479 := n7_
            have BK437 := n8_
            have BK454 := n9_
            have BK462 := n10_
            have BK471 := n11_
            have HB := n12_
            clear n0_ n1_ n2_ n3_ n4_ n5_ n6_ n7_ n8_ n9_ n10_ n11_ n12_
            (try clear hb)
            (try clear hb2)
            (try clear hk)
            (try clear hi)
            refine hK.out _ _ ⟨(blk_cell BK462.out 0).trans rfl, (blk_cell BK462.out 1).trans rfl, (blk_cell BK462.out 2).trans rfl, (blk_cell BK437.out 0).trans rfl, (blk_cell BK437.out 1).trans rfl, (blk_cell BK437.out 2).trans rfl⟩ (fun hHeld => ?_)
            clear hK K
            refine norm_ (a' := ?_) ?_ ?_
            rotate_left
            · show Act.put _ (some 52) _ = _
              simp only [Act.put, List.setIfInBounds_toArray, List.set_cons_zero, List.set_cons_succ, i64_w, i32_w]
              rfl
            refine pure_ (i := 4) (N := some 53) (v := ?_) (a' := ?_) #[true, true, true, true, true] rfl rfl (by kernel_rfl) (fun _ _ _ h => h) (Or.inl ⟨by rfl, ?_⟩) ?_ ?_
            rotate_left
            · intro w'
              go_simp
              with_reducible rfl
            rotate_left
            · simp only [Act.put, List.setIfInBounds_toArray, List.set_cons_zero, List.set_cons_succ, i64_w, i32_w]
              rfl
            refine done_ (by kernel_rfl) ?_
            have hnb72 := NB462_437.out
            have hnc72 := NB437_462.out
            have hnb73 := NB462_454.out
            have hnc73 := NB454_462.out
            have hnb74 := NB462_471.out
            have hnc74 := NB471_462.out
            have hcz75_0 : w71.cell? ⟨gb462, 0, none⟩ = some (.slice Ao30 t455.length co30) := (blk_cell BK462.out 0).trans rfl
            have hcz75_1 : w71.cell? ⟨gb462, 1, none⟩ = some (.int .i64 t458) := (blk_cell BK462.out 1).trans rfl
            have hcz75_2 : w71.cell? ⟨gb462, 2, none⟩ = some (.slice Ao34 t459.length co34) := (blk_cell BK462.out 2).trans rfl
            have hfz75_0 := blk_frozen BK462.out 0
            have hfz75_1 := blk_frozen BK462.out 1
            have hfz75_2 := blk_frozen BK462.out 2
            go_upto_region 14 with (first | ((with_reducible refine gate_callee (f := 28) rfl ?_); refine goesL_ (some 56) rfl rfl Try.func28 (by kernel_rfl) rfl #[.agg #[.slice Ao30 t455.length co30, .int .i64 t458, .slice Ao34 t459.length co34], .int .i64 1] rfl (by (try simp only [List.map_toArray, List.map_cons, List.map_nil]); first | done | rfl | (simp only [List.length_drop, List.length_take]; rfl)) ?_; (with_reducible refine (laws_markWork.calls kj12 (fun k_ => some k_ = (.slice Ao30 t455.length co30 : Value).ownBlock) (.slice Ao30 t455.length co30) t455 t458 (fun k_ => some k_ = (.slice Ao34 t459.length co34 : Value).ownBlock) (.slice Ao34 t459.length co34) t459 1 t481 t482 t483 w _ ?side1 ?side2 ?side3 A65.out).mono ?_); (case side1 => repeat (first | (with_reducible first | exact HB.out | apply below_alloc | apply pw_below_drewN | apply below_drew1 | refine below_set ?_ GE437.out | refine below_set ?_ GE454.out | refine below_set ?_ GE462.out | refine below_set ?_ GE471.out) | exact HB.out)); (case side2 => exact Kd.R_tight rfl HO_463000.out); (case side3 => exact Kd.R_tight rfl HO_463002.out); rintro e w76 ⟨rfl, hy0, hy1, hb, hkp⟩; refine ⟨_, rfl, ?_⟩; have n0_ := Aside0.mk (Kd.R_mono (ok' := fun k_ => some k_ ≠ (.slice Ao30 t455.length co30 : Value).ownBlock ∧ some k_ ≠ (.slice Ao37 t463.length co37 : Value).ownBlock ∧ some k_ ≠ (.slice Ao69 t473.length co69 : Value).ownBlock) (Kd.R_keptB ((Kd.R_apart' HO_455000.out (Kd.R_typed HO_463002.out) (by decide))) hkp (fun k_ hk_ hs_ => Or.elim hs_ (fun e_ => (hk_.1.1.1) e_) (fun e_ => (hk_.2) e_))) (fun k_ hk_ => ⟨hk_.1.1.1.1, hk_.1.1.1.2, hk_.1.1.2⟩)); have n1_ := Aside0.mk (Kd.R_mono (ok' := fun k_ => some k_ ≠ (.slice Ao34 t459.length co34 : Value).ownBlock ∧ some k_ ≠ (.slice Ao42 t467.length co42 : Value).ownBlock ∧ some k_ ≠ (.slice Ao70 t477.length co70 : Value).ownBlock) (Kd.R_keptB ((Kd.R_apart' HO_455002.out (Kd.R_typed HO_463000.out) (by decide))) hkp (fun k_ hk_ hs_ => Or.elim hs_ (fun e_ => (hk_.2) e_) (fun e_ => (hk_.1.1.1) e_))) (fun k_ hk_ => ⟨hk_.1.1.1.1, hk_.1.1.1.2, hk_.1.1.2⟩)); have n2_ := Aside0.mk (Kd.R_reok rfl hy0 (fun k_ e_ => HO_463000.out.1 k_ e_)); have n3_ := Aside0.mk (Kd.R_reok rfl hy1 (fun k_ e_ => HO_463002.out.1 k_ e_)); have n4_ := Aside0.mk (Kd.R_mono (ok' := fun k_ => some k_ ≠ (.slice Ao23 t446.length co23 : Value).ownBlock ∧ some k_ ≠ (.slice Ao30 t455.length co30 : Value).ownBlock ∧ some k_ ≠ (.slice Ao69 t473.length co69 : Value).ownBlock) (Kd.R_keptB ((Kd.R_apart' HO_472000.out (Kd.R_typed HO_463002.out) (by decide))) hkp (fun k_ hk_ hs_ => Or.elim hs_ (fun e_ => (hk_.1.1.2) e_) (fun e_ => (hk_.2) e_))) (fun k_ hk_ => ⟨hk_.1.1.1.1, hk_.1.1.1.2, hk_.1.1.2⟩)); have n5_ := Aside0.mk (Kd.R_mono (ok' := fun k_ => some k_ ≠ (.slice Ao26 t450.length co26 : Value).ownBlock ∧ some k_ ≠ (.slice Ao34 t459.length co34 : Value).ownBlock ∧ some k_ ≠ (.slice Ao70 t477.length co70 : Value).ownBlock) (Kd.R_keptB ((Kd.R_apart' HO_472002.out (Kd.R_typed HO_463000.out) (by decide))) hkp (fun k_ hk_ hs_ => Or.elim hs_ (fun e_ => (hk_.2) e_) (fun e_ => (hk_.1.1.2) e_))) (fun k_ hk_ => ⟨hk_.1.1.1.1, hk_.1.1.1.2, hk_.1.1.2⟩)); have n6_ := Aside0.mk (blk_kept (oK BK437) hkp (fun hs_ => Or.elim hs_ (fun e_ => (fun e_ => (Kd.R_ne HO_463000.out BK437.out (by decide)) e_) e_) (fun e_ => (fun e_ => (Kd.R_ne HO_463002.out BK437.out (by decide)) e_) e_))); have n7_ := Aside0.mk (blk_kept (oK BK454) hkp (fun hs_ => Or.elim hs_ (fun e_ => (fun e_ => (Kd.R_ne HO_463000.out BK454.out (by decide)) e_) e_) (fun e_ => (fun e_ => (Kd.R_ne HO_463002.out BK454.out (by decide)) e_) e_))); have n8_ := Aside0.mk (blk_kept (oK BK462) hkp (fun hs_ => Or.elim hs_ (fun e_ => (fun e_ => (Kd.R_ne HO_463000.out BK462.out (by decide)) e_) e_) (fun e_ => (fun e_ => (Kd.R_ne HO_463002.out BK462.out (by decide)) e_) e_))); have n9_ := Aside0.mk (blk_kept (oK BK471) hkp (fun hs_ => Or.elim hs_ (fun e_ => (fun e_ => (Kd.R_ne HO_463000.out BK471.out (by decide)) e_) e_) (fun e_ => (fun e_ => (Kd.R_ne HO_463002.out BK471.out (by decide)) e_) e_))); have n10_ := Aside0.mk (Kd.R_mono (ok' := fun k_ => some k_ ≠ (.slice Ao23 t446.length co23 : Value).ownBlock ∧ some k_ ≠ (.slice Ao30 t455.length co30 : Value).ownBlock ∧ some k_ ≠ (.slice Ao37 t463.length co37 : Value).ownBlock) (Kd.R_keptB ((Kd.R_apart' HO475.out (Kd.R_typed HO_463002.out) (by decide))) hkp (fun k_ hk_ hs_ => Or.elim hs_ (fun e_ => (hk_.1.1.2) e_) (fun e_ => (hk_.2) e_))) (fun k_ hk_ => ⟨hk_.1.1.1.1.2, hk_.1.1.1.2, hk_.1.1.2⟩)); have n11_ := Aside0.mk (Kd.R_mono (ok' := fun k_ => some k_ ≠ (.slice Ao26 t450.length co26 : Value).ownBlock ∧ some k_ ≠ (.slice Ao34 t459.length co34 : Value).ownBlock ∧ some k_ ≠ (.slice Ao42 t467.length co42 : Value).ownBlock) (Kd.R_keptB ((Kd.R_apart' HO479.out (Kd.R_typed HO_463000.out) (by decide))) hkp (fun k_ hk_ hs_ => Or.elim hs_ (fun e_ => (hk_.2) e_) (fun e_ => (hk_.1.1.2) e_))) (fun k_ hk_ => ⟨hk_.1.1.1.1.2, hk_.1.1.1.2, hk_.1.1.2⟩)); have n12_ := Aside0.mk (hb); clear HO_455000; clear HO_455002; clear HO_463000; clear HO_463002; clear HO_472000; clear HO_472002; clear BK437; clear BK454; clear BK462; clear BK471; clear HO475; clear HO479; clear HB; have HO_455000 := n0_; have HO_455002 := n1_; have HO_463000 := n2_; have HO_463002 := n3_; have HO_472000 := n4_; have HO_472002 := n5_; have BK437 := n6_; have BK454 := n7_; have BK462 := n8_; have BK471 := n9_; have HO475 := n10_; have HO479 := n11_; have HB := n12_; clear n0_ n1_ n2_ n3_ n4_ n5_ n6_ n7_ n8_ n9_ n10_ n11_ n12_; (try clear hb); (try clear hkp); (try clear hy0); (try clear hy1)))
            (try simp only [Act.put, List.setIfInBounds_toArray, List.set_cons_zero, List.set_cons_succ])
            go_cut [69] (fun v69 wc => ∃ (kq : Nat) (x69_65 : Bool), v69 = .bool x69_65 ∧ Aside0 (laws_FnExactKnockKey.j1 kq a1 a2 t453 x69_65 l0_0 a0_1 l0_2 t446 t449 t450 t463 t466 t467 = some r) ∧ Aside0 (kq ≤ kj12) ∧ Aside0 (Kd.R k67 67 wc w.heap.size (fun k_ => some k_ ≠ ((.slice Ao30 t455.length co30) : Value).ownBlock ∧ some k_ ≠ ((.slice Ao37 t463.length co37) : Value).ownBlock) (.slice Ao23 t446.length co23) t446) ∧ Aside0 (Kd.R (Kd.int .i64) 3 wc w.heap.size (fun k_ => some k_ ≠ ((.slice Ao34 t459.length co34) : Value).ownBlock ∧ some k_ ≠ ((.slice Ao42 t467.length co42) : Value).ownBlock) (.slice Ao26 t450.length co26) t450) ∧ Aside0 (Kd.R k67 67 wc w.heap.size (fun k_ => some k_ ≠ ((.slice Ao23 t446.length co23) : Value).ownBlock ∧ some k_ ≠ ((.slice Ao37 t463.length co37) : Value).ownBlock) (.slice Ao30 t455.length co30) t482) ∧ Aside0 (Kd.R (Kd.int .i64) 3 wc w.heap.size (fun k_ => some k_ ≠ ((.slice Ao26 t450.length co26) : Value).ownBlock ∧ some k_ ≠ ((.slice Ao42 t467.length co42) : Value).ownBlock) (.slice Ao34 t459.length co34) t483) ∧ Aside0 (Kd.R k67 67 wc w.heap.size (fun k_ => some k_ ≠ ((.slice Ao23 t446.length co23) : Value).ownBlock ∧ some k_ ≠ ((.slice Ao30 t455.length co30) : Value).ownBlock) (.slice Ao37 t463.length co37) t463) ∧ Aside0 (Kd.R (Kd.int .i64) 3 wc w.heap.size (fun k_ => some k_ ≠ ((.slice Ao26 t450.length co26) : Value).ownBlock ∧ some k_ ≠ ((.slice Ao34 t459.length co34) : Value).ownBlock) (.slice Ao42 t467.length co42) t467) ∧ Aside0 (wc.heap[gb437]? = some (.cells #[(.slice A0_0 l0_0.length c0_0), .int .i64 a0_1, (.slice A0_2 l0_2.length c0_2)] 25 (0, 0))) ∧ Aside0 (wc.heap[gb454]? = some (.cells #[(.slice Ao23 t446.length co23), .int .i64 t449, (.slice Ao26 t450.length co26)] 30 (0, 0))) ∧ Aside0 (wc.heap[gb462]? = some (.cells #[(.slice Ao30 t455.length co30), .int .i64 t458, (.slice Ao34 t459.length co34)] 30 (0, 0))) ∧ Aside0 (wc.heap[gb471]? = some (.cells #[(.slice Ao37 t463.length co37), .int .i64 t466, (.slice Ao42 t467.length co42)] 30 (0, 0))) ∧ Aside0 (Below w.heap.size w wc))
            case first =>
              have H := HC66.out
              clear HC66
              by_cases c77 : t481 < 0
              · rw [if_pos c77] at H
                have c77b0 : decide (t481 < 0) = true := decide_eq_true c77
                clear c77
                (first | rw [c77b0] | (simp only [i64_w, i32_w]; rw [c77b0]) | skip)
                have H' := Aside0.mk H
                clear H
                go_wp2
                go_meet
                case rel => exact ⟨_, (true), (by first | rfl | (simp; done) | (simp [*]; done)), H', ⟨by have := HJ12.out; first | omega | exact Nat.le_refl _⟩, ⟨by (with_reducible repeat (first | apply Kd.R_alloc | apply Kd.R_drewN | apply Kd.R_drew)); exact Kd.R_mono HO_455000.out (fun _ hk => ⟨hk.1, hk.2.1⟩)⟩, ⟨by (with_reducible repeat (first | apply Kd.R_alloc | apply Kd.R_drewN | apply Kd.R_drew)); exact Kd.R_mono HO_455002.out (fun _ hk => ⟨hk.1, hk.2.1⟩)⟩, ⟨by (with_reducible repeat (first | apply Kd.R_alloc | apply Kd.R_drewN | apply Kd.R_drew)); exact Kd.R_mono HO_463000.out (fun _ hk => ⟨hk.1.1, hk.1.2⟩)⟩, ⟨by (with_reducible repeat (first | apply Kd.R_alloc | apply Kd.R_drewN | apply Kd.R_drew)); exact Kd.R_mono HO_463002.out (fun _ hk => ⟨hk.1.1, hk.1.2⟩)⟩, ⟨by (with_reducible repeat (first | apply Kd.R_alloc | apply Kd.R_drewN | apply Kd.R_drew)); exact Kd.R_mono HO_472000.out (fun _ hk => ⟨hk.1, hk.2.1⟩)⟩, ⟨by (with_reducible repeat (first | apply Kd.R_alloc | apply Kd.R_drewN | apply Kd.R_drew)); exact Kd.R_mono HO_472002.out (fun _ hk => ⟨hk.1, hk.2.1⟩)⟩, ⟨oK BK437⟩, ⟨oK BK454⟩, ⟨oK BK462⟩, ⟨oK BK471⟩, ⟨oB HB⟩⟩
              · rw [if_neg c77] at H
                have c77b0 : decide (t481 < 0) = false := decide_eq_false c77
                clear c77
                (first | rw [c77b0] | (simp only [i64_w, i32_w]; rw [c77b0]) | skip)
                replace H := Option.bind_eq_some_iff.mp H
                obtain ⟨t484, A780, H⟩ := H
                (try dsimp only at H)
                have A78 := Aside0.mk A780
                clear A780
                by_cases c79 : t484 = true
                · subst c79
                  rw [if_pos rfl] at H
                  have H' := Aside0.mk H
                  clear H
                  have hnb80 := NB471_437.out
                  have hnc80 := NB437_471.out
                  have hnb81 := NB471_454.out
                  have hnc81 := NB454_471.out
                  have hnb82 := NB471_462.out
                  have hnc82 := NB462_471.out
                  have hcz83_0 : w76.cell? ⟨gb471, 0, none⟩ = some (.slice Ao37 t463.length co37) := (blk_cell BK471.out 0).trans rfl
                  have hcz83_1 : w76.cell? ⟨gb471, 1, none⟩ = some (.int .i64 t466) := (blk_cell BK471.out 1).trans rfl
                  have hcz83_2 : w76.cell? ⟨gb471, 2, none⟩ = some (.slice Ao42 t467.length co42) := (blk_cell BK471.out 2).trans rfl
                  have hfz83_0 := blk_frozen BK471.out 0
                  have hfz83_1 := blk_frozen BK471.out 1
                  have hfz83_2 := blk_frozen BK471.out 2
                  have hnb84 := NB454_437.out
                  have hnc84 := NB437_454.out
                  have hnb85 := NB454_462.out
                  have hnc85 := NB462_454.out
                  have hcz86_0 : w76.cell? ⟨gb454, 0, none⟩ = some (.slice Ao23 t446.length co23) := (blk_cell BK454.out 0).trans rfl
                  have hcz86_1 : w76.cell? ⟨gb454, 1, none⟩ = some (.int .i64 t449) := (blk_cell BK454.out 1).trans rfl
                  have hcz86_2 : w76.cell? ⟨gb454, 2, none⟩ = some (.slice Ao26 t450.length co26) := (blk_cell BK454.out 2).trans rfl
                  have hfz86_0 := blk_frozen BK454.out 0
                  have hfz86_1 := blk_frozen BK454.out 1
                  have hfz86_2 := blk_frozen BK454.out 2
                  go_wp2_with (first | (go_at_call 19; (with_reducible refine (laws_eqWork.calls kj12 _ _ t463 t466 _ _ t467 _ _ t446 t449 _ _ t450 true _ ?side1 ?side2 ?side3 ?side4 ?side5 ?side6 ?side7 ?side8 A78.out).mono ?_); (case side1 => repeat (first | exact (Kd.R_reads' HO_472000.out).2.2 | (with_reducible refine Kd.C_alloc ?_ _) | (with_reducible refine Kd.C_drewN ?_ _) | (with_reducible refine Kd.C_drew ?_))); (case side2 => exact (Kd.R_reads' HO_472000.out).2.1); (case side3 => repeat (first | exact (Kd.R_reads' HO_472002.out).2.2 | (with_reducible refine Kd.C_alloc ?_ _) | (with_reducible refine Kd.C_drewN ?_ _) | (with_reducible refine Kd.C_drew ?_))); (case side4 => exact (Kd.R_reads' HO_472002.out).2.1); (case side5 => repeat (first | exact (Kd.R_reads' HO_455000.out).2.2 | (with_reducible refine Kd.C_alloc ?_ _) | (with_reducible refine Kd.C_drewN ?_ _) | (with_reducible refine Kd.C_drew ?_))); (case side6 => exact (Kd.R_reads' HO_455000.out).2.1); (case side7 => repeat (first | exact (Kd.R_reads' HO_455002.out).2.2 | (with_reducible refine Kd.C_alloc ?_ _) | (with_reducible refine Kd.C_drewN ?_ _) | (with_reducible refine Kd.C_drew ?_))); (case side8 => exact (Kd.R_reads' HO_455002.out).2.1); rintro e w87 ⟨rfl, hb⟩; have n0_ := Aside0.mk (Kd.R_below (oR HO_455000) hb); have n1_ := Aside0.mk (Kd.R_below (oR HO_455002) hb); have n2_ := Aside0.mk (Kd.R_below (oR HO_463000) hb); have n3_ := Aside0.mk (Kd.R_below (oR HO_463002) hb); have n4_ := Aside0.mk (Kd.R_below (oR HO_472000) hb); have n5_ := Aside0.mk (Kd.R_below (oR HO_472002) hb); have n6_ := Aside0.mk (Kd.R_below (oR HO475) hb); have n7_ := Aside0.mk (Kd.R_below (oR HO479) hb); have n8_ := Aside0.mk (blk_below (g := gb437) (o := .cells #[.slice A0_0 l0_0.length c0_0, .int .i64 a0_1, .slice A0_2 l0_2.length c0_2] 25 (0, 0)) (oK BK437) hb); have n9_ := Aside0.mk (blk_below (g := gb454) (o := .cells #[.slice Ao23 t446.length co23, .int .i64 t449, .slice Ao26 t450.length co26] 30 (0, 0)) (oK BK454) hb); have n10_ := Aside0.mk (blk_below (g := gb462) (o := .cells #[.slice Ao30 t455.length co30, .int .i64 t458, .slice Ao34 t459.length co34] 30 (0, 0)) (oK BK462) hb); have n11_ := Aside0.mk (blk_below (g := gb471) (o := .cells #[.slice Ao37 t463.length co37, .int .i64 t466, .slice Ao42 t467.length co42] 30 (0, 0)) (oK BK471) hb); have n12_ := Aside0.mk (below_step (oB HB) hb); clear HO_455000; clear HO_455002; clear HO_463000; clear HO_463002; clear HO_472000; clear HO_472002; clear HO475; clear HO479; clear BK437; clear BK454; clear BK462; clear BK471; clear HB; have HO_455000 := n0_; have HO_455002 := n1_; have HO_463000 := n2_; have HO_463002 := n3_; have HO_472000 := n4_; have HO_472002 := n5_; have HO475 := n6_; have HO479 := n7_; have BK437 := n8_; have BK454 := n9_; have BK462 := n10_; have BK471 := n11_; have HB := n12_; clear n0_ n1_ n2_ n3_ n4_ n5_ n6_ n7_ n8_ n9_ n10_ n11_ n12_; (try clear hb); (try clear hb2); (try clear hk); (try clear hi)))
                  go_meet
                  case rel => exact ⟨_, ((t470 != t453)), (by first | rfl | (simp; done) | (simp [*]; done)), H', ⟨by have := HJ12.out; first | omega | exact Nat.le_refl _⟩, ⟨by (with_reducible repeat (first | apply Kd.R_alloc | apply Kd.R_drewN | apply Kd.R_drew)); exact Kd.R_mono HO_455000.out (fun _ hk => ⟨hk.1, hk.2.1⟩)⟩, ⟨by (with_reducible repeat (first | apply Kd.R_alloc | apply Kd.R_drewN | apply Kd.R_drew)); exact Kd.R_mono HO_455002.out (fun _ hk => ⟨hk.1, hk.2.1⟩)⟩, ⟨by (with_reducible repeat (first | apply Kd.R_alloc | apply Kd.R_drewN | apply Kd.R_drew)); exact Kd.R_mono HO_463000.out (fun _ hk => ⟨hk.1.1, hk.1.2⟩)⟩, ⟨by (with_reducible repeat (first | apply Kd.R_alloc | apply Kd.R_drewN | apply Kd.R_drew)); exact Kd.R_mono HO_463002.out (fun _ hk => ⟨hk.1.1, hk.1.2⟩)⟩, ⟨by (with_reducible repeat (first | apply Kd.R_alloc | apply Kd.R_drewN | apply Kd.R_drew)); exact Kd.R_mono HO_472000.out (fun _ hk => ⟨hk.1, hk.2.1⟩)⟩, ⟨by (with_reducible repeat (first | apply Kd.R_alloc | apply Kd.R_drewN | apply Kd.R_drew)); exact Kd.R_mono HO_472002.out (fun _ hk => ⟨hk.1, hk.2.1⟩)⟩, ⟨oK BK437⟩, ⟨oK BK454⟩, ⟨oK BK462⟩, ⟨oK BK471⟩, ⟨oB HB⟩⟩
                · replace c79 := Bool.eq_false_iff.mpr c79
                  subst c79
                  rw [if_neg (show ¬ (false = true) by decide)] at H
                  have H' := Aside0.mk H
                  clear H
                  have hnb88 := NB471_437.out
                  have hnc88 := NB437_471.out
                  have hnb89 := NB471_454.out
                  have hnc89 := NB454_471.out
                  have hnb90 := NB471_462.out
                  have hnc90 := NB462_471.out
                  have hcz91_0 : w76.cell? ⟨gb471, 0, none⟩ = some (.slice Ao37 t463.length co37) := (blk_cell BK471.out 0).trans rfl
                  have hcz91_1 : w76.cell? ⟨gb471, 1, none⟩ = some (.int .i64 t466) := (blk_cell BK471.out 1).trans rfl
                  have hcz91_2 : w76.cell? ⟨gb471, 2, none⟩ = some (.slice Ao42 t467.length co42) := (blk_cell BK471.out 2).trans rfl
                  have hfz91_0 := blk_frozen BK471.out 0
                  have hfz91_1 := blk_frozen BK471.out 1
                  have hfz91_2 := blk_frozen BK471.out 2
                  have hnb92 := NB454_437.out
                  have hnc92 := NB437_454.out
                  have hnb93 := NB454_462.out
                  have hnc93 := NB462_454.out
                  have hcz94_0 : w76.cell? ⟨gb454, 0, none⟩ = some (.slice Ao23 t446.length co23) := (blk_cell BK454.out 0).trans rfl
                  have hcz94_1 : w76.cell? ⟨gb454, 1, none⟩ = some (.int .i64 t449) := (blk_cell BK454.out 1).trans rfl
                  have hcz94_2 : w76.cell? ⟨gb454, 2, none⟩ = some (.slice Ao26 t450.length co26) := (blk_cell BK454.out 2).trans rfl
                  have hfz94_0 := blk_frozen BK454.out 0
                  have hfz94_1 := blk_frozen BK454.out 1
                  have hfz94_2 := blk_frozen BK454.out 2
                  go_wp2_with (first | (go_at_call 19; (with_reducible refine (laws_eqWork.calls kj12 _ _ t463 t466 _ _ t467 _ _ t446 t449 _ _ t450 false _ ?side1 ?side2 ?side3 ?side4 ?side5 ?side6 ?side7 ?side8 A78.out).mono ?_); (case side1 => repeat (first | exact (Kd.R_reads' HO_472000.out).2.2 | (with_reducible refine Kd.C_alloc ?_ _) | (with_reducible refine Kd.C_drewN ?_ _) | (with_reducible refine Kd.C_drew ?_))); (case side2 => exact (Kd.R_reads' HO_472000.out).2.1); (case side3 => repeat (first | exact (Kd.R_reads' HO_472002.out).2.2 | (with_reducible refine Kd.C_alloc ?_ _) | (with_reducible refine Kd.C_drewN ?_ _) | (with_reducible refine Kd.C_drew ?_))); (case side4 => exact (Kd.R_reads' HO_472002.out).2.1); (case side5 => repeat (first | exact (Kd.R_reads' HO_455000.out).2.2 | (with_reducible refine Kd.C_alloc ?_ _) | (with_reducible refine Kd.C_drewN ?_ _) | (with_reducible refine Kd.C_drew ?_))); (case side6 => exact (Kd.R_reads' HO_455000.out).2.1); (case side7 => repeat (first | exact (Kd.R_reads' HO_455002.out).2.2 | (with_reducible refine Kd.C_alloc ?_ _) | (with_reducible refine Kd.C_drewN ?_ _) | (with_reducible refine Kd.C_drew ?_))); (case side8 => exact (Kd.R_reads' HO_455002.out).2.1); rintro e w95 ⟨rfl, hb⟩; have n0_ := Aside0.mk (Kd.R_below (oR HO_455000) hb); have n1_ := Aside0.mk (Kd.R_below (oR HO_455002) hb); have n2_ := Aside0.mk (Kd.R_below (oR HO_463000) hb); have n3_ := Aside0.mk (Kd.R_below (oR HO_463002) hb); have n4_ := Aside0.mk (Kd.R_below (oR HO_472000) hb); have n5_ := Aside0.mk (Kd.R_below (oR HO_472002) hb); have n6_ := Aside0.mk (Kd.R_below (oR HO475) hb); have n7_ := Aside0.mk (Kd.R_below (oR HO479) hb); have n8_ := Aside0.mk (blk_below (g := gb437) (o := .cells #[.slice A0_0 l0_0.length c0_0, .int .i64 a0_1, .slice A0_2 l0_2.length c0_2] 25 (0, 0)) (oK BK437) hb); have n9_ := Aside0.mk (blk_below (g := gb454) (o := .cells #[.slice Ao23 t446.length co23, .int .i64 t449, .slice Ao26 t450.length co26] 30 (0, 0)) (oK BK454) hb); have n10_ := Aside0.mk (blk_below (g := gb462) (o := .cells #[.slice Ao30 t455.length co30, .int .i64 t458, .slice Ao34 t459.length co34] 30 (0, 0)) (oK BK462) hb); have n11_ := Aside0.mk (blk_below (g := gb471) (o := .cells #[.slice Ao37 t463.length co37, .int .i64 t466, .slice Ao42 t467.length co42] 30 (0, 0)) (oK BK471) hb); have n12_ := Aside0.mk (below_step (oB HB) hb); clear HO_455000; clear HO_455002; clear HO_463000; clear HO_463002; clear HO_472000; clear HO_472002; clear HO475; clear HO479; clear BK437; clear BK454; clear BK462; clear BK471; clear HB; have HO_455000 := n0_; have HO_455002 := n1_; have HO_463000 := n2_; have HO_463002 := n3_; have HO_472000 := n4_; have HO_472002 := n5_; have HO475 := n6_; have HO479 := n7_; have BK437 := n8_; have BK454 := n9_; have BK462 := n10_; have BK471 := n11_; have HB := n12_; clear n0_ n1_ n2_ n3_ n4_ n5_ n6_ n7_ n8_ n9_ n10_ n11_ n12_; (try clear hb); (try clear hb2); (try clear hk); (try clear hi)))
                  go_meet
                  case rel => exact ⟨_, (true), (by first | rfl | (simp; done) | (simp [*]; done)), H', ⟨by have := HJ12.out; first | omega | exact Nat.le_refl _⟩, ⟨by (with_reducible repeat (first | apply Kd.R_alloc | apply Kd.R_drewN | apply Kd.R_drew)); exact Kd.R_mono HO_455000.out (fun _ hk => ⟨hk.1, hk.2.1⟩)⟩, ⟨by (with_reducible repeat (first | apply Kd.R_alloc | apply Kd.R_drewN | apply Kd.R_drew)); exact Kd.R_mono HO_455002.out (fun _ hk => ⟨hk.1, hk.2.1⟩)⟩, ⟨by (with_reducible repeat (first | apply Kd.R_alloc | apply Kd.R_drewN | apply Kd.R_drew)); exact Kd.R_mono HO_463000.out (fun _ hk => ⟨hk.1.1, hk.1.2⟩)⟩, ⟨by (with_reducible repeat (first | apply Kd.R_alloc | apply Kd.R_drewN | apply Kd.R_drew)); exact Kd.R_mono HO_463002.out (fun _ hk => ⟨hk.1.1, hk.1.2⟩)⟩, ⟨by (with_reducible repeat (first | apply Kd.R_alloc | apply Kd.R_drewN | apply Kd.R_drew)); exact Kd.R_mono HO_472000.out (fun _ hk => ⟨hk.1, hk.2.1⟩)⟩, ⟨by (with_reducible repeat (first | apply Kd.R_alloc | apply Kd.R_drewN | apply Kd.R_drew)); exact Kd.R_mono HO_472002.out (fun _ hk => ⟨hk.1, hk.2.1⟩)⟩, ⟨oK BK437⟩, ⟨oK BK454⟩, ⟨oK BK462⟩, ⟨oK BK471⟩, ⟨oB HB⟩⟩
            case rest =>
              clear HC66
              try clear c1
              try clear c2
              try clear p2
              try clear c3
              try clear c4
              try clear c5
              try clear c5b0
              try clear c6
              try clear c7
              try clear c8
              try clear c9
              try clear c15
              try clear c17
              try clear c19
              try clear c24
              try clear c28
              try clear c30
              try clear c31
              try clear c32
              try clear c38
              try clear c39
              try clear c40
              try clear c44
              try clear c45
              try clear c46
              try clear c47
              try clear c49
              try clear c50
              try clear c53
              try clear c54
              try clear c55
              try clear c57
              try clear c58
              try clear c61
              try clear c64
              try clear c72
              try clear c73
              try clear c74
              try clear c77
              try clear c77b0
              try clear c79
              try clear c80
              try clear c81
              try clear c82
              try clear c84
              try clear c85
              try clear c88
              try clear c89
              try clear c90
              try clear c92
              try clear c93
              try clear hcz15_0
              try clear hcz15_1
              try clear hcz15_2
              try clear hcz17_0
              try clear hcz17_1
              try clear hcz17_2
              try clear hcz25_0
              try clear hcz25_1
              try clear hcz25_2
              try clear hcz27_0
              try clear hcz27_1
              try clear hcz27_2
              try clear hcz33_0
              try clear hcz33_1
              try clear hcz33_2
              try clear hcz41_0
              try clear hcz41_1
              try clear hcz41_2
              try clear hcz48_0
              try clear hcz48_1
              try clear hcz48_2
              try clear hcz51_0
              try clear hcz51_1
              try clear hcz51_2
              try clear hcz56_0
              try clear hcz56_1
              try clear hcz56_2
              try clear hcz59_0
              try clear hcz59_1
              try clear hcz59_2
              try clear hcz75_0
              try clear hcz75_1
              try clear hcz75_2
              try clear hcz7_0
              try clear hcz7_1
              try clear hcz7_2
              try clear hcz83_0
              try clear hcz83_1
              try clear hcz83_2
              try clear hcz86_0
              try clear hcz86_1
              try clear hcz86_2
              try clear hcz91_0
              try clear hcz91_1
              try clear hcz91_2
              try clear hcz94_0
              try clear hcz94_1
              try clear hcz94_2
              try clear hfz15_0
              try clear hfz15_1
              try clear hfz15_2
              try clear hfz17_0
              try clear hfz17_1
              try clear hfz17_2
              try clear hfz25_0
              try clear hfz25_1
              try clear hfz25_2
              try clear hfz27_0
              try clear hfz27_1
              try clear hfz27_2
              try clear hfz33_0
              try clear hfz33_1
              try clear hfz33_2
              try clear hfz41_0
              try clear hfz41_1
              try clear hfz41_2
              try clear hfz48_0
              try clear hfz48_1
              try clear hfz48_2
              try clear hfz51_0
              try clear hfz51_1
              try clear hfz51_2
              try clear hfz56_0
              try clear hfz56_1
              try clear hfz56_2
              try clear hfz59_0
              try clear hfz59_1
              try clear hfz59_2
              try clear hfz75_0
              try clear hfz75_1
              try clear hfz75_2
              try clear hfz7_0
              try clear hfz7_1
              try clear hfz7_2
              try clear hfz83_0
              try clear hfz83_1
              try clear hfz83_2
              try clear hfz86_0
              try clear hfz86_1
              try clear hfz86_2
              try clear hfz91_0
              try clear hfz91_1
              try clear hfz91_2
              try clear hfz94_0
              try clear hfz94_1
              try clear hfz94_2
              try clear p2
              obtain ⟨kq, x69_65, rfl, HA, HJ65, HO_455000, HO_455002, HO_463000, HO_463002, HO_472000, HO_472002, BK437, BK454, BK462, BK471, HB⟩ := hcut
              have hl463000_65 := (Kd.R_reads' HO_463000.out).1
              rw [hl463000_65] at HO_463000
              (try simp only [hl463000_65])
              (try simp only [hl463000_65] at BK437)
              (try simp only [hl463000_65] at BK454)
              (try simp only [hl463000_65] at BK462)
              (try simp only [hl463000_65] at BK471)
              (try simp only [hl463000_65] at HO_455000)
              (try simp only [hl463000_65] at HO_455002)
              (try simp only [hl463000_65] at HO_463002)
              (try simp only [hl463000_65] at HO_472000)
              (try simp only [hl463000_65] at HO_472002)
              have hl463002_65 := (Kd.R_reads' HO_463002.out).1
              rw [hl463002_65] at HO_463002
              (try simp only [hl463002_65])
              (try simp only [hl463002_65] at BK437)
              (try simp only [hl463002_65] at BK454)
              (try simp only [hl463002_65] at BK462)
              (try simp only [hl463002_65] at BK471)
              (try simp only [hl463002_65] at HO_455000)
              (try simp only [hl463002_65] at HO_455002)
              (try simp only [hl463002_65] at HO_463000)
              (try simp only [hl463002_65] at HO_472000)
              (try simp only [hl463002_65] at HO_472002)
              cases kq with
              | zero => exact absurd HA.out (by simp [laws_FnExactKnockKey.j1])
              | succ kj65 =>
                have H := HA.out
                clear HA
                simp only [laws_FnExactKnockKey.j1] at H
                by_cases c96 : x69_65 = true
                · subst c96
                  rw [if_pos rfl] at H
                  exact absurd ((Option.some.inj H).trans hrt_.out) (by decide)
                · replace c96 := Bool.eq_false_iff.mpr c96
                  subst c96
                  rw [if_neg (show ¬ (false = true) by decide)] at H
                  replace H := Option.bind_eq_some_iff.mp H
                  obtain ⟨⟨t485, t486, t487⟩, A970, H⟩ := H
                  (try dsimp only at H)
                  have A97 := Aside0.mk A970
                  clear A970
                  replace H := Option.bind_eq_some_iff.mp H
                  obtain ⟨t488, A980, H⟩ := H
                  (try dsimp only at H)
                  have A98 := Aside0.mk A980
                  clear A980
                  by_cases c99 : t488 < 0
                  · rw [if_pos c99] at H
                    have c99b0 : decide (t488 < 0) = true := decide_eq_true c99
                    clear c99
                    exact absurd ((Option.some.inj H).trans hrt_.out) (by decide)
                  · rw [if_neg c99] at H
                    have c99b0 : decide (t488 < 0) = false := decide_eq_false c99
                    clear c99
                    by_cases c100 : t488 = t485
                    · rw [if_pos c100] at H
                      have c100b0 : (t488 == t485) = true := beq_iff_eq.mpr c100
                      have c100b1 : (t488 != t485) = false := bne_eq_false_iff_eq.mpr c100
                      clear c100
                      replace H := Option.bind_eq_some_iff.mp H
                      obtain ⟨⟨t489, t492, t493⟩, A1010, H⟩ := H
                      (try dsimp only at H)
                      have A101 := Aside0.mk A1010
                      clear A1010
                      replace H := Option.bind_eq_some_iff.mp H
                      obtain ⟨⟨t496, t499, t500, t503⟩, A1020, H⟩ := H
                      (try dsimp only at H)
                      have A102 := Aside0.mk A1020
                      clear A1020
                      have HC103 := Aside0.mk H
                      clear H
                      have hnb104 := NB471_437.out
                      have hnc104 := NB437_471.out
                      have hnb105 := NB471_454.out
                      have hnc105 := NB454_471.out
                      have hnb106 := NB471_462.out
                      have hnc106 := NB462_471.out
                      have hcz107_0 : wc.cell? ⟨gb471, 0, none⟩ = some (.slice Ao37 t463.length co37) := (blk_cell BK471.out 0).trans rfl
                      have hcz107_1 : wc.cell? ⟨gb471, 1, none⟩ = some (.int .i64 t466) := (blk_cell BK471.out 1).trans rfl
                      have hcz107_2 : wc.cell? ⟨gb471, 2, none⟩ = some (.slice Ao42 t467.length co42) := (blk_cell BK471.out 2).trans rfl
                      have hfz107_0 := blk_frozen BK471.out 0
                      have hfz107_1 := blk_frozen BK471.out 1
                      have hfz107_2 := blk_frozen BK471.out 2
                      go_upto_region 25 with (first | ((with_reducible refine gate_callee (f := 28) rfl ?_); refine goesL_ (some 72) rfl rfl Try.func28 (by kernel_rfl) rfl #[.agg #[.slice Ao37 t463.length co37, .int .i64 t466, .slice Ao42 t467.length co42], .int .i64 1] rfl (by (try simp only [List.map_toArray, List.map_cons, List.map_nil]); first | done | rfl | (simp only [List.length_drop, List.length_take]; rfl)) ?_; (with_reducible refine (laws_markWork.calls kj65 (fun k_ => some k_ = (.slice Ao37 t463.length co37 : Value).ownBlock) (.slice Ao37 t463.length co37) t463 t466 (fun k_ => some k_ = (.slice Ao42 t467.length co42 : Value).ownBlock) (.slice Ao42 t467.length co42) t467 1 t485 t486 t487 w _ ?side1 ?side2 ?side3 A97.out).mono ?_); (case side1 => repeat (first | (with_reducible first | exact HB.out | apply below_alloc | apply pw_below_drewN | apply below_drew1 | refine below_set ?_ GE437.out | refine below_set ?_ GE454.out | refine below_set ?_ GE462.out | refine below_set ?_ GE471.out) | exact HB.out)); (case side2 => exact Kd.R_tight rfl HO_472000.out); (case side3 => exact Kd.R_tight rfl HO_472002.out); rintro e w108 ⟨rfl, hy0, hy1, hb, hkp⟩; refine ⟨_, rfl, ?_⟩; have n0_ := Aside0.mk (Kd.R_mono (ok' := fun k_ => some k_ ≠ (.slice Ao30 t482.length co30 : Value).ownBlock ∧ some k_ ≠ (.slice Ao37 t463.length co37 : Value).ownBlock) (Kd.R_keptB ((Kd.R_apart' HO_455000.out (Kd.R_typed HO_472002.out) (by decide))) hkp (fun k_ hk_ hs_ => Or.elim hs_ (fun e_ => (hk_.1.2) e_) (fun e_ => (hk_.2) e_))) (fun k_ hk_ => ⟨hk_.1.1.1, hk_.1.1.2⟩)); have n1_ := Aside0.mk (Kd.R_mono (ok' := fun k_ => some k_ ≠ (.slice Ao34 t483.length co34 : Value).ownBlock ∧ some k_ ≠ (.slice Ao42 t467.length co42 : Value).ownBlock) (Kd.R_keptB ((Kd.R_apart' HO_455002.out (Kd.R_typed HO_472000.out) (by decide))) hkp (fun k_ hk_ hs_ => Or.elim hs_ (fun e_ => (hk_.2) e_) (fun e_ => (hk_.1.2) e_))) (fun k_ hk_ => ⟨hk_.1.1.1, hk_.1.1.2⟩)); have n2_ := Aside0.mk (Kd.R_mono (ok' := fun k_ => some k_ ≠ (.slice Ao23 t446.length co23 : Value).ownBlock ∧ some k_ ≠ (.slice Ao37 t463.length co37 : Value).ownBlock) (Kd.R_keptB ((Kd.R_apart' HO_463000.out (Kd.R_typed HO_472002.out) (by decide))) hkp (fun k_ hk_ hs_ => Or.elim hs_ (fun e_ => (hk_.1.2) e_) (fun e_ => (hk_.2) e_))) (fun k_ hk_ => ⟨hk_.1.1.1, hk_.1.1.2⟩)); have n3_ := Aside0.mk (Kd.R_mono (ok' := fun k_ => some k_ ≠ (.slice Ao26 t450.length co26 : Value).ownBlock ∧ some k_ ≠ (.slice Ao42 t467.length co42 : Value).ownBlock) (Kd.R_keptB ((Kd.R_apart' HO_463002.out (Kd.R_typed HO_472000.out) (by decide))) hkp (fun k_ hk_ hs_ => Or.elim hs_ (fun e_ => (hk_.2) e_) (fun e_ => (hk_.1.2) e_))) (fun k_ hk_ => ⟨hk_.1.1.1, hk_.1.1.2⟩)); have n4_ := Aside0.mk (Kd.R_reok rfl hy0 (fun k_ e_ => HO_472000.out.1 k_ e_)); have n5_ := Aside0.mk (Kd.R_reok rfl hy1 (fun k_ e_ => HO_472002.out.1 k_ e_)); have n6_ := Aside0.mk (blk_kept (oK BK437) hkp (fun hs_ => Or.elim hs_ (fun e_ => (fun e_ => (Kd.R_ne HO_472000.out BK437.out (by decide)) e_) e_) (fun e_ => (fun e_ => (Kd.R_ne HO_472002.out BK437.out (by decide)) e_) e_))); have n7_ := Aside0.mk (blk_kept (oK BK454) hkp (fun hs_ => Or.elim hs_ (fun e_ => (fun e_ => (Kd.R_ne HO_472000.out BK454.out (by decide)) e_) e_) (fun e_ => (fun e_ => (Kd.R_ne HO_472002.out BK454.out (by decide)) e_) e_))); have n8_ := Aside0.mk (blk_kept (oK BK462) hkp (fun hs_ => Or.elim hs_ (fun e_ => (fun e_ => (Kd.R_ne HO_472000.out BK462.out (by decide)) e_) e_) (fun e_ => (fun e_ => (Kd.R_ne HO_472002.out BK462.out (by decide)) e_) e_))); have n9_ := Aside0.mk (blk_kept (oK BK471) hkp (fun hs_ => Or.elim hs_ (fun e_ => (fun e_ => (Kd.R_ne HO_472000.out BK471.out (by decide)) e_) e_) (fun e_ => (fun e_ => (Kd.R_ne HO_472002.out BK471.out (by decide)) e_) e_))); have n10_ := Aside0.mk (hb); clear HO_455000; clear HO_455002; clear HO_463000; clear HO_463002; clear HO_472000; clear HO_472002; clear BK437; clear BK454; clear BK462; clear BK471; clear HB; have HO_455000 := n0_; have HO_455002 := n1_; have HO_463000 := n2_; have HO_463002 := n3_; have HO_472000 := n4_; have HO_472002 := n5_; have BK437 := n6_; have BK454 := n7_; have BK462 := n8_; have BK471 := n9_; have HB := n10_; clear n0_ n1_ n2_ n3_ n4_ n5_ n6_ n7_ n8_ n9_ n10_; (try clear hb); (try clear hkp); (try clear hy0); (try clear hy1); have hcz109_0 : w108.cell? ⟨gb471, 0, none⟩ = some (.slice Ao37 t463.length co37) := (blk_cell BK471.out 0).trans rfl; have hcz109_1 : w108.cell? ⟨gb471, 1, none⟩ = some (.int .i64 t466) := (blk_cell BK471.out 1).trans rfl; have hcz109_2 : w108.cell? ⟨gb471, 2, none⟩ = some (.slice Ao42 t467.length co42) := (blk_cell BK471.out 2).trans rfl; have hfz109_0 := blk_frozen BK471.out 0; have hfz109_1 := blk_frozen BK471.out 1; have hfz109_2 := blk_frozen BK471.out 2) | ((with_reducible refine gate_callee (f := 29) rfl ?_); refine goesL_ (some 75) rfl rfl Try.func29 (by kernel_rfl) rfl #[.agg #[.slice Ao37 t486.length co37, .int .i64 t466, .slice Ao42 t487.length co42], .int .i64 1] rfl (by (try simp only [List.map_toArray, List.map_cons, List.map_nil]); first | done | (rw [show t486.length = t463.length from (Kd.R_reads' HO_472000.out).1.symm, show t487.length = t467.length from (Kd.R_reads' HO_472002.out).1.symm] <;> rfl) | rfl | (simp only [List.length_drop, List.length_take]; rfl)) ?_; (with_reducible refine (laws_heldWork.calls kj65 _ _ t486 t466 _ _ t487 1 t488 _ ?side1 ?side2 ?side3 ?side4 A98.out).mono ?_); (case side1 => repeat (first | exact (Kd.R_reads' HO_472000.out).2.2 | (with_reducible refine Kd.C_alloc ?_ _) | (with_reducible refine Kd.C_drewN ?_ _) | (with_reducible refine Kd.C_drew ?_))); (case side2 => rw [show t486.length = t463.length from (Kd.R_reads' HO_472000.out).1.symm]; exact (Kd.R_reads' HO_472000.out).2.1); (case side3 => repeat (first | exact (Kd.R_reads' HO_472002.out).2.2 | (with_reducible refine Kd.C_alloc ?_ _) | (with_reducible refine Kd.C_drewN ?_ _) | (with_reducible refine Kd.C_drew ?_))); (case side4 => rw [show t487.length = t467.length from (Kd.R_reads' HO_472002.out).1.symm]; exact (Kd.R_reads' HO_472002.out).2.1); rintro e w110 ⟨rfl, hb⟩; refine ⟨_, rfl, ?_⟩; have n0_ := Aside0.mk (Kd.R_below (oR HO_455000) hb); have n1_ := Aside0.mk (Kd.R_below (oR HO_455002) hb); have n2_ := Aside0.mk (Kd.R_below (oR HO_463000) hb); have n3_ := Aside0.mk (Kd.R_below (oR HO_463002) hb); have n4_ := Aside0.mk (Kd.R_below (oR HO_472000) hb); have n5_ := Aside0.mk (Kd.R_below (oR HO_472002) hb); have n6_ := Aside0.mk (blk_below (g := gb437) (o := .cells #[.slice A0_0 l0_0.length c0_0, .int .i64 a0_1, .slice A0_2 l0_2.length c0_2] 25 (0, 0)) (oK BK437) hb); have n7_ := Aside0.mk (blk_below (g := gb454) (o := .cells #[.slice Ao23 t446.length co23, .int .i64 t449, .slice Ao26 t450.length co26] 30 (0, 0)) (oK BK454) hb); have n8_ := Aside0.mk (blk_below (g := gb462) (o := .cells #[.slice Ao30 t482.length co30, .int .i64 t458, .slice Ao34 t483.length co34] 30 (0, 0)) (oK BK462) hb); have n9_ := Aside0.mk (blk_below (g := gb471) (o := .cells #[.slice Ao37 t463.length co37, .int .i64 t466, .slice Ao42 t467.length co42] 30 (0, 0)) (oK BK471) hb); have n10_ := Aside0.mk (below_step (oB HB) hb); clear HO_455000; clear HO_455002; clear HO_463000; clear HO_463002; clear HO_472000; clear HO_472002; clear BK437; clear BK454; clear BK462; clear BK471; clear HB; have HO_455000 := n0_; have HO_455002 := n1_; have HO_463000 := n2_; have HO_463002 := n3_; have HO_472000 := n4_; have HO_472002 := n5_; have BK437 := n6_; have BK454 := n7_; have BK462 := n8_; have BK471 := n9_; have HB := n10_; clear n0_ n1_ n2_ n3_ n4_ n5_ n6_ n7_ n8_ n9_ n10_; (try clear hb); (try clear hb2); (try clear hk); (try clear hi); have hnb111 := NB437_454.out; have hnc111 := NB454_437.out; have hnb112 := NB437_462.out; have hnc112 := NB462_437.out; have hcz113_0 : w110.cell? ⟨gb437, 0, none⟩ = some (.slice A0_0 l0_0.length c0_0) := (blk_cell BK437.out 0).trans rfl; have hcz113_1 : w110.cell? ⟨gb437, 1, none⟩ = some (.int .i64 a0_1) := (blk_cell BK437.out 1).trans rfl; have hcz113_2 : w110.cell? ⟨gb437, 2, none⟩ = some (.slice A0_2 l0_2.length c0_2) := (blk_cell BK437.out 2).trans rfl; have hfz113_0 := blk_frozen BK437.out 0; have hfz113_1 := blk_frozen BK437.out 1; have hfz113_2 := blk_frozen BK437.out 2) | ((with_reducible refine gate_callee (f := 17) rfl ?_); refine goesL_ (some 83) rfl rfl Try.func17 (by kernel_rfl) rfl #[.agg #[.slice A0_0 l0_0.length c0_0, .int .i64 a0_1, .slice A0_2 l0_2.length c0_2]] rfl (by (try simp only [List.map_toArray, List.map_cons, List.map_nil]); first | done | rfl | (simp only [List.length_drop, List.length_take]; rfl)) ?_; (with_reducible refine (laws_toWork.calls kj65 _ _ l0_0 a0_1 _ _ l0_2 t489 t492 t493 _ ?side1 ?side2 ?side3 ?side4 A101.out).mono ?_); (case side1 => exact oc_ HR0_0.out); (case side2 => exact HC0_0.out); (case side3 => exact oc_ HR0_2.out); (case side4 => exact HC0_2.out); rintro e w114 ⟨v490, v494, rfl, ho0, ho1, hb⟩; refine ⟨_, rfl, ?_⟩; have n0_ := Aside0.mk (Kd.R_elder' (oR HO_455000) (Kd.R_base ho0) hb); have n1_ := Aside0.mk (Kd.R_elder' (oR HO_455002) (Kd.R_base ho1) hb); have n2_ := Aside0.mk (Kd.R_elder' (oR HO_463000) (Kd.R_base ho0) hb); have n3_ := Aside0.mk (Kd.R_elder' (oR HO_463002) (Kd.R_base ho1) hb); have n4_ := Aside0.mk (Kd.R_elder' (oR HO_472000) (Kd.R_base ho0) hb); have n5_ := Aside0.mk (Kd.R_elder' (oR HO_472002) (Kd.R_base ho1) hb); have n6_ := Aside0.mk (Kd.R_lower (Kd.R_new' (Kd.R_new' (Kd.R_new' ho0 (Kd.R_lt (oR HO_455000))) (Kd.R_lt (oR HO_463000))) (Kd.R_lt (oR HO_472000))) (below_size (oB HB))); have n7_ := Aside0.mk (Kd.R_lower (Kd.R_new' (Kd.R_new' (Kd.R_new' ho1 (Kd.R_lt (oR HO_455002))) (Kd.R_lt (oR HO_463002))) (Kd.R_lt (oR HO_472002))) (below_size (oB HB))); have n8_ := Aside0.mk (blk_below (g := gb437) (o := .cells #[.slice A0_0 l0_0.length c0_0, .int .i64 a0_1, .slice A0_2 l0_2.length c0_2] 25 (0, 0)) (oK BK437) hb); have n9_ := Aside0.mk (blk_below (g := gb454) (o := .cells #[.slice Ao23 t446.length co23, .int .i64 t449, .slice Ao26 t450.length co26] 30 (0, 0)) (oK BK454) hb); have n10_ := Aside0.mk (blk_below (g := gb462) (o := .cells #[.slice Ao30 t482.length co30, .int .i64 t458, .slice Ao34 t483.length co34] 30 (0, 0)) (oK BK462) hb); have n11_ := Aside0.mk (blk_below (g := gb471) (o := .cells #[.slice Ao37 t463.length co37, .int .i64 t466, .slice Ao42 t467.length co42] 30 (0, 0)) (oK BK471) hb); have n12_ := Aside0.mk (below_step (oB HB) hb); clear HO_455000; clear HO_455002; clear HO_463000; clear HO_463002; clear HO_472000; clear HO_472002; clear BK437; clear BK454; clear BK462; clear BK471; clear HB; have HO_455000 := n0_; have HO_455002 := n1_; have HO_463000 := n2_; have HO_463002 := n3_; have HO_472000 := n4_; have HO_472002 := n5_; have HO491 := n6_; have HO495 := n7_; have BK437 := n8_; have BK454 := n9_; have BK462 := n10_; have BK471 := n11_; have HB := n12_; clear n0_ n1_ n2_ n3_ n4_ n5_ n6_ n7_ n8_ n9_ n10_ n11_ n12_; (try clear hb); (try clear hb2); (try clear hk); (try clear hi); (try clear ho0); (try clear ho1); obtain ⟨Ao115, co115, eo115⟩ := Kd.R_slice HO491.out; subst eo115; obtain ⟨Ao116, co116, eo116⟩ := Kd.R_slice HO495.out; subst eo116) | ((with_reducible refine gate_callee (f := 31) rfl ?_); refine goesL_ (some 86) rfl rfl Try.func31 (by kernel_rfl) rfl #[.agg #[.slice Ao115 t489.length co115, .int .i64 t492, .slice Ao116 t493.length co116], .int .i64 a1, .int .i64 a2] rfl (by (try simp only [List.map_toArray, List.map_cons, List.map_nil]); first | done | rfl | (simp only [List.length_drop, List.length_take]; rfl)) ?_; (with_reducible refine (impl_KnockKey.calls kj65 _ _ t489 t492 _ _ t493 a1 a2 t496 t499 t500 t503 _ ?side1 ?side2 ?side3 ?side4 A102.out).mono ?_); (case side1 => repeat (first | exact (Kd.R_reads' HO491.out).2.2 | (with_reducible refine Kd.C_alloc ?_ _) | (with_reducible refine Kd.C_drewN ?_ _) | (with_reducible refine Kd.C_drew ?_))); (case side2 => exact (Kd.R_reads' HO491.out).2.1); (case side3 => repeat (first | exact (Kd.R_reads' HO495.out).2.2 | (with_reducible refine Kd.C_alloc ?_ _) | (with_reducible refine Kd.C_drewN ?_ _) | (with_reducible refine Kd.C_drew ?_))); (case side4 => exact (Kd.R_reads' HO495.out).2.1); rintro e w117 ⟨v497, v501, rfl, ho0, ho1, hb⟩; refine ⟨_, rfl, ?_⟩; have n0_ := Aside0.mk (Kd.R_elder' (oR HO_455000) (Kd.R_base ho0) hb); have n1_ := Aside0.mk (Kd.R_elder' (oR HO_455002) (Kd.R_base ho1) hb); have n2_ := Aside0.mk (Kd.R_elder' (oR HO_463000) (Kd.R_base ho0) hb); have n3_ := Aside0.mk (Kd.R_elder' (oR HO_463002) (Kd.R_base ho1) hb); have n4_ := Aside0.mk (Kd.R_elder' (oR HO_472000) (Kd.R_base ho0) hb); have n5_ := Aside0.mk (Kd.R_elder' (oR HO_472002) (Kd.R_base ho1) hb); have n6_ := Aside0.mk (Kd.R_elder' (oR HO491) (Kd.R_base ho0) hb); have n7_ := Aside0.mk (Kd.R_elder' (oR HO495) (Kd.R_base ho1) hb); have n8_ := Aside0.mk (Kd.R_lower (Kd.R_new' (Kd.R_new' (Kd.R_new' (Kd.R_new' ho0 (Kd.R_lt (oR HO_455000))) (Kd.R_lt (oR HO_463000))) (Kd.R_lt (oR HO_472000))) (Kd.R_lt (oR HO491))) (below_size (oB HB))); have n9_ := Aside0.mk (Kd.R_lower (Kd.R_new' (Kd.R_new' (Kd.R_new' (Kd.R_new' ho1 (Kd.R_lt (oR HO_455002))) (Kd.R_lt (oR HO_463002))) (Kd.R_lt (oR HO_472002))) (Kd.R_lt (oR HO495))) (below_size (oB HB))); have n10_ := Aside0.mk (blk_below (g := gb437) (o := .cells #[.slice A0_0 l0_0.length c0_0, .int .i64 a0_1, .slice A0_2 l0_2.length c0_2] 25 (0, 0)) (oK BK437) hb); have n11_ := Aside0.mk (blk_below (g := gb454) (o := .cells #[.slice Ao23 t446.length co23, .int .i64 t449, .slice Ao26 t450.length co26] 30 (0, 0)) (oK BK454) hb); have n12_ := Aside0.mk (blk_below (g := gb462) (o := .cells #[.slice Ao30 t482.length co30, .int .i64 t458, .slice Ao34 t483.length co34] 30 (0, 0)) (oK BK462) hb); have n13_ := Aside0.mk (blk_below (g := gb471) (o := .cells #[.slice Ao37 t463.length co37, .int .i64 t466, .slice Ao42 t467.length co42] 30 (0, 0)) (oK BK471) hb); have n14_ := Aside0.mk (below_step (oB HB) hb); clear HO_455000; clear HO_455002; clear HO_463000; clear HO_463002; clear HO_472000; clear HO_472002; clear HO491; clear HO495; clear BK437; clear BK454; clear BK462; clear BK471; clear HB; have HO_455000 := n0_; have HO_455002 := n1_; have HO_463000 := n2_; have HO_463002 := n3_; have HO_472000 := n4_; have HO_472002 := n5_; have HO491 := n6_; have HO495 := n7_; have HO498 := n8_; have HO502 := n9_; have BK437 := n10_; have BK454 := n11_; have BK462 := n12_; have BK471 := n13_; have HB := n14_; clear n0_ n1_ n2_ n3_ n4_ n5_ n6_ n7_ n8_ n9_ n10_ n11_ n12_ n13_ n14_; (try clear hb); (try clear hb2); (try clear hk); (try clear hi); (try clear ho0); (try clear ho1)) | ((with_reducible refine gate_dst (N := 16) rfl ?_); refine box_event ?hg (N := 16) ?hd (cs := #[.slice none 0 0, .int .i64 0, .slice none 0 0]) (t := 30) ?hr ?_; (case hd => rfl); (case hg => rfl); (case hr => first | (go_simp; done) | (go_simp; rfl)); intro gb504 hg w118 hbox hb; have n0_ := Aside0.mk (Kd.R_below (oR HO_455000) hb); have n1_ := Aside0.mk (Kd.R_below (oR HO_455002) hb); have n2_ := Aside0.mk (Kd.R_below (oR HO_463000) hb); have n3_ := Aside0.mk (Kd.R_below (oR HO_463002) hb); have n4_ := Aside0.mk (Kd.R_below (oR HO_472000) hb); have n5_ := Aside0.mk (Kd.R_below (oR HO_472002) hb); have n6_ := Aside0.mk (Kd.R_below (oR HO491) hb); have n7_ := Aside0.mk (Kd.R_below (oR HO495) hb); have n8_ := Aside0.mk (Kd.R_below (oR HO498) hb); have n9_ := Aside0.mk (Kd.R_below (oR HO502) hb); have n10_ := Aside0.mk (blk_below (g := gb437) (o := .cells #[.slice A0_0 l0_0.length c0_0, .int .i64 a0_1, .slice A0_2 l0_2.length c0_2] 25 (0, 0)) (oK BK437) hb); have n11_ := Aside0.mk (blk_below (g := gb454) (o := .cells #[.slice Ao23 t446.length co23, .int .i64 t449, .slice Ao26 t450.length co26] 30 (0, 0)) (oK BK454) hb); have n12_ := Aside0.mk (blk_below (g := gb462) (o := .cells #[.slice Ao30 t482.length co30, .int .i64 t458, .slice Ao34 t483.length co34] 30 (0, 0)) (oK BK462) hb); have n13_ := Aside0.mk (blk_below (g := gb471) (o := .cells #[.slice Ao37 t463.length co37, .int .i64 t466, .slice Ao42 t467.length co42] 30 (0, 0)) (oK BK471) hb); have n14_ := Aside0.mk (below_step (oB HB) hb); have n15_ := Aside0.mk (hbox); have n16_ := Aside0.mk ((by rw [hg]; exact (below_size (oB HB)) : w.heap.size ≤ gb504)); have n17_ := Aside0.mk ((by rw [hg]; exact (below_size (oB HB)) : w.heap.size ≤ gb504)); have n18_ := Aside0.mk ((by rw [hg]; exact Nat.ne_of_lt (blk_lt (g := gb437) (o := .cells #[.slice A0_0 l0_0.length c0_0, .int .i64 a0_1, .slice A0_2 l0_2.length c0_2] 25 (0, 0)) (oK BK437)) : gb437 ≠ gb504)); have n19_ := Aside0.mk ((by rw [hg]; exact Nat.ne_of_gt (blk_lt (g := gb437) (o := .cells #[.slice A0_0 l0_0.length c0_0, .int .i64 a0_1, .slice A0_2 l0_2.length c0_2] 25 (0, 0)) (oK BK437)) : gb504 ≠ gb437)); have n20_ := Aside0.mk ((by rw [hg]; exact Nat.ne_of_lt (blk_lt (g := gb454) (o := .cells #[.slice Ao23 t446.length co23, .int .i64 t449, .slice Ao26 t450.length co26] 30 (0, 0)) (oK BK454)) : gb454 ≠ gb504)); have n21_ := Aside0.mk ((by rw [hg]; exact Nat.ne_of_gt (blk_lt (g := gb454) (o := .cells #[.slice Ao23 t446.length co23, .int .i64 t449, .slice Ao26 t450.length co26] 30 (0, 0)) (oK BK454)) : gb504 ≠ gb454)); have n22_ := Aside0.mk ((by rw [hg]; exact Nat.ne_of_lt (blk_lt (g := gb462) (o := .cells #[.slice Ao30 t482.length co30, .int .i64 t458, .slice Ao34 t483.length co34] 30 (0, 0)) (oK BK462)) : gb462 ≠ gb504)); have n23_ := Aside0.mk ((by rw [hg]; exact Nat.ne_of_gt (blk_lt (g := gb462) (o := .cells #[.slice Ao30 t482.length co30, .int .i64 t458, .slice Ao34 t483.length co34] 30 (0, 0)) (oK BK462)) : gb504 ≠ gb462)); have n24_ := Aside0.mk ((by rw [hg]; exact Nat.ne_of_lt (blk_lt (g := gb471) (o := .cells #[.slice Ao37 t463.length co37, .int .i64 t466, .slice Ao42 t467.length co42] 30 (0, 0)) (oK BK471)) : gb471 ≠ gb504)); have n25_ := Aside0.mk ((by rw [hg]; exact Nat.ne_of_gt (blk_lt (g := gb471) (o := .cells #[.slice Ao37 t463.length co37, .int .i64 t466, .slice Ao42 t467.length co42] 30 (0, 0)) (oK BK471)) : gb504 ≠ gb471)); clear HO_455000; clear HO_455002; clear HO_463000; clear HO_463002; clear HO_472000; clear HO_472002; clear HO491; clear HO495; clear HO498; clear HO502; clear BK437; clear BK454; clear BK462; clear BK471; clear HB; have HO_455000 := n0_; have HO_455002 := n1_; have HO_463000 := n2_; have HO_463002 := n3_; have HO_472000 := n4_; have HO_472002 := n5_; have HO491 := n6_; have HO495 := n7_; have HO498 := n8_; have HO502 := n9_; have BK437 := n10_; have BK454 := n11_; have BK462 := n12_; have BK471 := n13_; have HB := n14_; have BK504 := n15_; have GW504 := n16_; have GE504 := n17_; have NB437_504 := n18_; have NB504_437 := n19_; have NB454_504 := n20_; have NB504_454 := n21_; have NB462_504 := n22_; have NB504_462 := n23_; have NB471_504 := n24_; have NB504_471 := n25_; clear n0_ n1_ n2_ n3_ n4_ n5_ n6_ n7_ n8_ n9_ n10_ n11_ n12_ n13_ n14_ n15_ n16_ n17_ n18_ n19_ n20_ n21_ n22_ n23_ n24_ n25_; clear hb hbox hg; obtain ⟨Ao119, co119, eo119⟩ := Kd.R_slice HO498.out; subst eo119; have hnb120 := NB504_437.out; have hnc120 := NB437_504.out; have hnb121 := NB504_454.out; have hnc121 := NB454_504.out; have hnb122 := NB504_462.out; have hnc122 := NB462_504.out; have hnb123 := NB504_471.out; have hnc123 := NB471_504.out; have hcz124_0 : w118.cell? ⟨gb504, 0, none⟩ = some (.slice none 0 0) := (blk_cell BK504.out 0).trans rfl; have hcz124_1 : w118.cell? ⟨gb504, 1, none⟩ = some (.int .i64 0) := (blk_cell BK504.out 1).trans rfl; have hcz124_2 : w118.cell? ⟨gb504, 2, none⟩ = some (.slice none 0 0) := (blk_cell BK504.out 2).trans rfl; have hfz124_0 := blk_frozen BK504.out 0; have hfz124_1 := blk_frozen BK504.out 1; have hfz124_2 := blk_frozen BK504.out 2; obtain ⟨Ao125, co125, eo125⟩ := Kd.R_slice HO502.out; subst eo125))
                      (try simp only [Act.put, List.setIfInBounds_toArray, List.set_cons_zero, List.set_cons_succ])
                      go_cut [97] (fun v97 wc => ∃ (kq : Nat) (x97_102 : Bool), v97 = .bool x97_102 ∧ Aside0 (laws_FnExactKnockKey.j2 kq t485 x97_102 t486 t466 t487 = some r) ∧ Aside0 (kq ≤ kj65) ∧ Aside0 (Kd.R k67 67 wc w.heap.size (fun k_ => some k_ ≠ ((.slice Ao30 t482.length co30) : Value).ownBlock ∧ some k_ ≠ ((.slice Ao37 t463.length co37) : Value).ownBlock ∧ some k_ ≠ ((.slice Ao119 t496.length co119) : Value).ownBlock) (.slice Ao23 t446.length co23) t446) ∧ Aside0 (Kd.R (Kd.int .i64) 3 wc w.heap.size (fun k_ => some k_ ≠ ((.slice Ao34 t483.length co34) : Value).ownBlock ∧ some k_ ≠ ((.slice Ao42 t467.length co42) : Value).ownBlock ∧ some k_ ≠ ((.slice Ao125 t500.length co125) : Value).ownBlock) (.slice Ao26 t450.length co26) t450) ∧ Aside0 (Kd.R k67 67 wc w.heap.size (fun k_ => some k_ ≠ ((.slice Ao23 t446.length co23) : Value).ownBlock ∧ some k_ ≠ ((.slice Ao37 t463.length co37) : Value).ownBlock ∧ some k_ ≠ ((.slice Ao119 t496.length co119) : Value).ownBlock) (.slice Ao30 t482.length co30) t482) ∧ Aside0 (Kd.R (Kd.int .i64) 3 wc w.heap.size (fun k_ => some k_ ≠ ((.slice Ao26 t450.length co26) : Value).ownBlock ∧ some k_ ≠ ((.slice Ao42 t467.length co42) : Value).ownBlock ∧ some k_ ≠ ((.slice Ao125 t500.length co125) : Value).ownBlock) (.slice Ao34 t483.length co34) t483) ∧ Aside0 (Kd.R k67 67 wc w.heap.size (fun k_ => some k_ ≠ ((.slice Ao23 t446.length co23) : Value).ownBlock ∧ some k_ ≠ ((.slice Ao30 t482.length co30) : Value).ownBlock ∧ some k_ ≠ ((.slice Ao119 t496.length co119) : Value).ownBlock) (.slice Ao37 t463.length co37) t486) ∧ Aside0 (Kd.R (Kd.int .i64) 3 wc w.heap.size (fun k_ => some k_ ≠ ((.slice Ao26 t450.length co26) : Value).ownBlock ∧ some k_ ≠ ((.slice Ao34 t483.length co34) : Value).ownBlock ∧ some k_ ≠ ((.slice Ao125 t500.length co125) : Value).ownBlock) (.slice Ao42 t467.length co42) t487) ∧ Aside0 (Kd.R k67 67 wc w.heap.size (fun k_ => some k_ ≠ ((.slice Ao23 t446.length co23) : Value).ownBlock ∧ some k_ ≠ ((.slice Ao30 t482.length co30) : Value).ownBlock ∧ some k_ ≠ ((.slice Ao37 t463.length co37) : Value).ownBlock) (.slice Ao119 t496.length co119) t496) ∧ Aside0 (Kd.R (Kd.int .i64) 3 wc w.heap.size (fun k_ => some k_ ≠ ((.slice Ao26 t450.length co26) : Value).ownBlock ∧ some k_ ≠ ((.slice Ao34 t483.length co34) : Value).ownBlock ∧ some k_ ≠ ((.slice Ao42 t467.length co42) : Value).ownBlock) (.slice Ao125 t500.length co125) t500) ∧ Aside0 (wc.heap[gb437]? = some (.cells #[(.slice A0_0 l0_0.length c0_0), .int .i64 a0_1, (.slice A0_2 l0_2.length c0_2)] 25 (0, 0))) ∧ Aside0 (wc.heap[gb454]? = some (.cells #[(.slice Ao23 t446.length co23), .int .i64 t449, (.slice Ao26 t450.length co26)] 30 (0, 0))) ∧ Aside0 (wc.heap[gb462]? = some (.cells #[(.slice Ao30 t482.length co30), .int .i64 t458, (.slice Ao34 t483.length co34)] 30 (0, 0))) ∧ Aside0 (wc.heap[gb471]? = some (.cells #[(.slice Ao37 t463.length co37), .int .i64 t466, (.slice Ao42 t467.length co42)] 30 (0, 0))) ∧ Aside0 (wc.heap[gb504]? = some (.cells #[(.slice Ao119 t496.length co119), .int .i64 t499, (.slice Ao125 t500.length co125)] 30 (0, 0))) ∧ Aside0 (Below w.heap.size w wc))
                      case first =>
                        have H := HC103.out
                        clear HC103
                        replace H := Option.bind_eq_some_iff.mp H
                        obtain ⟨t505, A1260, H⟩ := H
                        (try dsimp only at H)
                        have A126 := Aside0.mk A1260
                        clear A1260
                        by_cases c127 : t505 = true
                        · subst c127
                          rw [if_pos rfl] at H
                          have H' := Aside0.mk H
                          clear H
                          have hnb128 := NB504_437.out
                          have hnc128 := NB437_504.out
                          have hnb129 := NB504_454.out
                          have hnc129 := NB454_504.out
                          have hnb130 := NB504_462.out
                          have hnc130 := NB462_504.out
                          have hnb131 := NB504_471.out
                          have hnc131 := NB471_504.out
                          have hcz132_0 : w118.cell? ⟨gb504, 0, none⟩ = some (.slice none 0 0) := (blk_cell BK504.out 0).trans rfl
                          have hcz132_1 : w118.cell? ⟨gb504, 1, none⟩ = some (.int .i64 0) := (blk_cell BK504.out 1).trans rfl
                          have hcz132_2 : w118.cell? ⟨gb504, 2, none⟩ = some (.slice none 0 0) := (blk_cell BK504.out 2).trans rfl
                          have hfz132_0 := blk_frozen BK504.out 0
                          have hfz132_1 := blk_frozen BK504.out 1
                          have hfz132_2 := blk_frozen BK504.out 2
                          have hnb133 := NB454_437.out
                          have hnc133 := NB437_454.out
                          have hnb134 := NB454_462.out
                          have hnc134 := NB462_454.out
                          have hnb135 := NB454_471.out
                          have hnc135 := NB471_454.out
                          have hcz136_0 : w118.cell? ⟨gb454, 0, none⟩ = some (.slice Ao23 t446.length co23) := (blk_cell BK454.out 0).trans rfl
                          have hcz136_1 : w118.cell? ⟨gb454, 1, none⟩ = some (.int .i64 t449) := (blk_cell BK454.out 1).trans rfl
                          have hcz136_2 : w118.cell? ⟨gb454, 2, none⟩ = some (.slice Ao26 t450.length co26) := (blk_cell BK454.out 2).trans rfl
                          have hfz136_0 := blk_frozen BK454.out 0
                          have hfz136_1 := blk_frozen BK454.out 1
                          have hfz136_2 := blk_frozen BK454.out 2
                          go_wp2_with (first | ((with_reducible refine gate_callee (f := 19) rfl ?_); refine goesL_ (some 91) rfl rfl Try.func19 (by kernel_rfl) rfl #[.agg #[.slice Ao119 t496.length co119, .int .i64 t499, .slice Ao125 t500.length co125], .agg #[.slice Ao23 t446.length co23, .int .i64 t449, .slice Ao26 t450.length co26]] rfl (by (try simp only [List.map_toArray, List.map_cons, List.map_nil]); first | done | rfl | (simp only [List.length_drop, List.length_take]; rfl)) ?_; (with_reducible refine (laws_eqWork.calls kj65 _ _ t496 t499 _ _ t500 _ _ t446 t449 _ _ t450 true _ ?side1 ?side2 ?side3 ?side4 ?side5 ?side6 ?side7 ?side8 A126.out).mono ?_); (case side1 => refine (Kd.R_reads' (e := 67) (base := w.heap.size) (ok := fun k_ => ((((True ∧ some k_ ≠ (.slice Ao23 t446.length co23 : Value).ownBlock) ∧ some k_ ≠ (.slice Ao30 t482.length co30 : Value).ownBlock) ∧ some k_ ≠ (.slice Ao37 t463.length co37 : Value).ownBlock) ∧ some k_ ≠ (.slice Ao115 t489.length co115 : Value).ownBlock)) (n := t496.length) (c := co119) ?_).2.2; exact (by (with_reducible repeat (first | apply Kd.R_alloc | apply Kd.R_drewN | apply Kd.R_drew)); exact (Kd.R_mono (Kd.R_far (p := ⟨gb504, 2, none⟩) (Kd.R_far (p := ⟨gb504, 1, none⟩) (Kd.R_far (p := ⟨gb504, 0, none⟩) (Kd.R_types HO498.out BK504.out (by decide)) (fun _ hk => hk.2) (.slice Ao119 t496.length co119)) (fun _ hk => hk.2) (.int .i64 t499)) (fun _ hk => hk.2) (.slice Ao125 t500.length co125)) (fun _ h_ => h_.1)))); (case side2 => exact (Kd.R_reads' HO498.out).2.1); (case side3 => refine (Kd.R_reads' (e := 3) (base := w.heap.size) (ok := fun k_ => ((((True ∧ some k_ ≠ (.slice Ao26 t450.length co26 : Value).ownBlock) ∧ some k_ ≠ (.slice Ao34 t483.length co34 : Value).ownBlock) ∧ some k_ ≠ (.slice Ao42 t467.length co42 : Value).ownBlock) ∧ some k_ ≠ (.slice Ao116 t493.length co116 : Value).ownBlock)) (n := t500.length) (c := co125) ?_).2.2; exact (by (with_reducible repeat (first | apply Kd.R_alloc | apply Kd.R_drewN | apply Kd.R_drew)); exact (Kd.R_mono (Kd.R_far (p := ⟨gb504, 2, none⟩) (Kd.R_far (p := ⟨gb504, 1, none⟩) (Kd.R_far (p := ⟨gb504, 0, none⟩) (Kd.R_types HO502.out BK504.out (by decide)) (fun _ hk => hk.2) (.slice Ao119 t496.length co119)) (fun _ hk => hk.2) (.int .i64 t499)) (fun _ hk => hk.2) (.slice Ao125 t500.length co125)) (fun _ h_ => h_.1)))); (case side4 => exact (Kd.R_reads' HO502.out).2.1); (case side5 => refine (Kd.R_reads' (e := 67) (base := w.heap.size) (ok := fun k_ => (((some k_ ≠ (.slice Ao30 t482.length co30 : Value).ownBlock ∧ some k_ ≠ (.slice Ao37 t463.length co37 : Value).ownBlock) ∧ some k_ ≠ (.slice Ao115 t489.length co115 : Value).ownBlock) ∧ some k_ ≠ (.slice Ao119 t496.length co119 : Value).ownBlock)) (n := t446.length) (c := co23) ?_).2.2; exact (by (with_reducible repeat (first | apply Kd.R_alloc | apply Kd.R_drewN | apply Kd.R_drew)); exact (Kd.R_mono (Kd.R_far (p := ⟨gb504, 2, none⟩) (Kd.R_far (p := ⟨gb504, 1, none⟩) (Kd.R_far (p := ⟨gb504, 0, none⟩) (Kd.R_types HO_455000.out BK504.out (by decide)) (fun _ hk => hk.2) (.slice Ao119 t496.length co119)) (fun _ hk => hk.2) (.int .i64 t499)) (fun _ hk => hk.2) (.slice Ao125 t500.length co125)) (fun _ h_ => h_.1)))); (case side6 => exact (Kd.R_reads' HO_455000.out).2.1); (case side7 => refine (Kd.R_reads' (e := 3) (base := w.heap.size) (ok := fun k_ => (((some k_ ≠ (.slice Ao34 t483.length co34 : Value).ownBlock ∧ some k_ ≠ (.slice Ao42 t467.length co42 : Value).ownBlock) ∧ some k_ ≠ (.slice Ao116 t493.length co116 : Value).ownBlock) ∧ some k_ ≠ (.slice Ao125 t500.length co125 : Value).ownBlock)) (n := t450.length) (c := co26) ?_).2.2; exact (by (with_reducible repeat (first | apply Kd.R_alloc | apply Kd.R_drewN | apply Kd.R_drew)); exact (Kd.R_mono (Kd.R_far (p := ⟨gb504, 2, none⟩) (Kd.R_far (p := ⟨gb504, 1, none⟩) (Kd.R_far (p := ⟨gb504, 0, none⟩) (Kd.R_types HO_455002.out BK504.out (by decide)) (fun _ hk => hk.2) (.slice Ao119 t496.length co119)) (fun _ hk => hk.2) (.int .i64 t499)) (fun _ hk => hk.2) (.slice Ao125 t500.length co125)) (fun _ h_ => h_.1)))); (case side8 => exact (Kd.R_reads' HO_455002.out).2.1); rintro e w137 ⟨rfl, hb⟩; refine ⟨_, rfl, ?_⟩; have n0_ := Aside0.mk (Kd.R_below (by (with_reducible repeat (first | apply Kd.R_alloc | apply Kd.R_drewN | apply Kd.R_drew)); exact (Kd.R_mono (Kd.R_far (p := ⟨gb504, 2, none⟩) (Kd.R_far (p := ⟨gb504, 1, none⟩) (Kd.R_far (p := ⟨gb504, 0, none⟩) (Kd.R_types HO_455000.out BK504.out (by decide)) (fun _ hk => hk.2) (.slice Ao119 t496.length co119)) (fun _ hk => hk.2) (.int .i64 t499)) (fun _ hk => hk.2) (.slice Ao125 t500.length co125)) (fun _ h_ => h_.1))) hb); have n1_ := Aside0.mk (Kd.R_below (by (with_reducible repeat (first | apply Kd.R_alloc | apply Kd.R_drewN | apply Kd.R_drew)); exact (Kd.R_mono (Kd.R_far (p := ⟨gb504, 2, none⟩) (Kd.R_far (p := ⟨gb504, 1, none⟩) (Kd.R_far (p := ⟨gb504, 0, none⟩) (Kd.R_types HO_455002.out BK504.out (by decide)) (fun _ hk => hk.2) (.slice Ao119 t496.length co119)) (fun _ hk => hk.2) (.int .i64 t499)) (fun _ hk => hk.2) (.slice Ao125 t500.length co125)) (fun _ h_ => h_.1))) hb); have n2_ := Aside0.mk (Kd.R_below (by (with_reducible repeat (first | apply Kd.R_alloc | apply Kd.R_drewN | apply Kd.R_drew)); exact (Kd.R_mono (Kd.R_far (p := ⟨gb504, 2, none⟩) (Kd.R_far (p := ⟨gb504, 1, none⟩) (Kd.R_far (p := ⟨gb504, 0, none⟩) (Kd.R_types HO_463000.out BK504.out (by decide)) (fun _ hk => hk.2) (.slice Ao119 t496.length co119)) (fun _ hk => hk.2) (.int .i64 t499)) (fun _ hk => hk.2) (.slice Ao125 t500.length co125)) (fun _ h_ => h_.1))) hb); have n3_ := Aside0.mk (Kd.R_below (by (with_reducible repeat (first | apply Kd.R_alloc | apply Kd.R_drewN | apply Kd.R_drew)); exact (Kd.R_mono (Kd.R_far (p := ⟨gb504, 2, none⟩) (Kd.R_far (p := ⟨gb504, 1, none⟩) (Kd.R_far (p := ⟨gb504, 0, none⟩) (Kd.R_types HO_463002.out BK504.out (by decide)) (fun _ hk => hk.2) (.slice Ao119 t496.length co119)) (fun _ hk => hk.2) (.int .i64 t499)) (fun _ hk => hk.2) (.slice Ao125 t500.length co125)) (fun _ h_ => h_.1))) hb); have n4_ := Aside0.mk (Kd.R_below (by (with_reducible repeat (first | apply Kd.R_alloc | apply Kd.R_drewN | apply Kd.R_drew)); exact (Kd.R_mono (Kd.R_far (p := ⟨gb504, 2, none⟩) (Kd.R_far (p := ⟨gb504, 1, none⟩) (Kd.R_far (p := ⟨gb504, 0, none⟩) (Kd.R_types HO_472000.out BK504.out (by decide)) (fun _ hk => hk.2) (.slice Ao119 t496.length co119)) (fun _ hk => hk.2) (.int .i64 t499)) (fun _ hk => hk.2) (.slice Ao125 t500.length co125)) (fun _ h_ => h_.1))) hb); have n5_ := Aside0.mk (Kd.R_below (by (with_reducible repeat (first | apply Kd.R_alloc | apply Kd.R_drewN | apply Kd.R_drew)); exact (Kd.R_mono (Kd.R_far (p := ⟨gb504, 2, none⟩) (Kd.R_far (p := ⟨gb504, 1, none⟩) (Kd.R_far (p := ⟨gb504, 0, none⟩) (Kd.R_types HO_472002.out BK504.out (by decide)) (fun _ hk => hk.2) (.slice Ao119 t496.length co119)) (fun _ hk => hk.2) (.int .i64 t499)) (fun _ hk => hk.2) (.slice Ao125 t500.length co125)) (fun _ h_ => h_.1))) hb); have n6_ := Aside0.mk (Kd.R_below (by (with_reducible repeat (first | apply Kd.R_alloc | apply Kd.R_drewN | apply Kd.R_drew)); exact (Kd.R_mono (Kd.R_far (p := ⟨gb504, 2, none⟩) (Kd.R_far (p := ⟨gb504, 1, none⟩) (Kd.R_far (p := ⟨gb504, 0, none⟩) (Kd.R_types HO491.out BK504.out (by decide)) (fun _ hk => hk.2) (.slice Ao119 t496.length co119)) (fun _ hk => hk.2) (.int .i64 t499)) (fun _ hk => hk.2) (.slice Ao125 t500.length co125)) (fun _ h_ => h_.1))) hb); have n7_ := Aside0.mk (Kd.R_below (by (with_reducible repeat (first | apply Kd.R_alloc | apply Kd.R_drewN | apply Kd.R_drew)); exact (Kd.R_mono (Kd.R_far (p := ⟨gb504, 2, none⟩) (Kd.R_far (p := ⟨gb504, 1, none⟩) (Kd.R_far (p := ⟨gb504, 0, none⟩) (Kd.R_types HO495.out BK504.out (by decide)) (fun _ hk => hk.2) (.slice Ao119 t496.length co119)) (fun _ hk => hk.2) (.int .i64 t499)) (fun _ hk => hk.2) (.slice Ao125 t500.length co125)) (fun _ h_ => h_.1))) hb); have n8_ := Aside0.mk (Kd.R_below (by (with_reducible repeat (first | apply Kd.R_alloc | apply Kd.R_drewN | apply Kd.R_drew)); exact (Kd.R_mono (Kd.R_far (p := ⟨gb504, 2, none⟩) (Kd.R_far (p := ⟨gb504, 1, none⟩) (Kd.R_far (p := ⟨gb504, 0, none⟩) (Kd.R_types HO498.out BK504.out (by decide)) (fun _ hk => hk.2) (.slice Ao119 t496.length co119)) (fun _ hk => hk.2) (.int .i64 t499)) (fun _ hk => hk.2) (.slice Ao125 t500.length co125)) (fun _ h_ => h_.1))) hb); have n9_ := Aside0.mk (Kd.R_below (by (with_reducible repeat (first | apply Kd.R_alloc | apply Kd.R_drewN | apply Kd.R_drew)); exact (Kd.R_mono (Kd.R_far (p := ⟨gb504, 2, none⟩) (Kd.R_far (p := ⟨gb504, 1, none⟩) (Kd.R_far (p := ⟨gb504, 0, none⟩) (Kd.R_types HO502.out BK504.out (by decide)) (fun _ hk => hk.2) (.slice Ao119 t496.length co119)) (fun _ hk => hk.2) (.int .i64 t499)) (fun _ hk => hk.2) (.slice Ao125 t500.length co125)) (fun _ h_ => h_.1))) hb); have n10_ := Aside0.mk (blk_below (g := gb437) (o := .cells #[.slice A0_0 l0_0.length c0_0, .int .i64 a0_1, .slice A0_2 l0_2.length c0_2] 25 (0, 0)) (by (with_reducible repeat (first | refine blk_drewN ?_ _ | refine blk_drew ?_ | refine blk_alloc ?_ _)); refine blk_far ?_ NB437_504.out _; (with_reducible repeat (first | refine blk_drewN ?_ _ | refine blk_drew ?_ | refine blk_alloc ?_ _)); refine blk_far ?_ NB437_504.out _; (with_reducible repeat (first | refine blk_drewN ?_ _ | refine blk_drew ?_ | refine blk_alloc ?_ _)); refine blk_far ?_ NB437_504.out _; (with_reducible repeat (first | refine blk_drewN ?_ _ | refine blk_drew ?_ | refine blk_alloc ?_ _)); exact BK437.out) hb); have n11_ := Aside0.mk (blk_below (g := gb454) (o := .cells #[.slice Ao23 t446.length co23, .int .i64 t449, .slice Ao26 t450.length co26] 30 (0, 0)) (by (with_reducible repeat (first | refine blk_drewN ?_ _ | refine blk_drew ?_ | refine blk_alloc ?_ _)); refine blk_far ?_ NB454_504.out _; (with_reducible repeat (first | refine blk_drewN ?_ _ | refine blk_drew ?_ | refine blk_alloc ?_ _)); refine blk_far ?_ NB454_504.out _; (with_reducible repeat (first | refine blk_drewN ?_ _ | refine blk_drew ?_ | refine blk_alloc ?_ _)); refine blk_far ?_ NB454_504.out _; (with_reducible repeat (first | refine blk_drewN ?_ _ | refine blk_drew ?_ | refine blk_alloc ?_ _)); exact BK454.out) hb); have n12_ := Aside0.mk (blk_below (g := gb462) (o := .cells #[.slice Ao30 t482.length co30, .int .i64 t458, .slice Ao34 t483.length co34] 30 (0, 0)) (by (with_reducible repeat (first | refine blk_drewN ?_ _ | refine blk_drew ?_ | refine blk_alloc ?_ _)); refine blk_far ?_ NB462_504.out _; (with_reducible repeat (first | refine blk_drewN ?_ _ | refine blk_drew ?_ | refine blk_alloc ?_ _)); refine blk_far ?_ NB462_504.out _; (with_reducible repeat (first | refine blk_drewN ?_ _ | refine blk_drew ?_ | refine blk_alloc ?_ _)); refine blk_far ?_ NB462_504.out _; (with_reducible repeat (first | refine blk_drewN ?_ _ | refine blk_drew ?_ | refine blk_alloc ?_ _)); exact BK462.out) hb); have n13_ := Aside0.mk (blk_below (g := gb471) (o := .cells #[.slice Ao37 t463.length co37, .int .i64 t466, .slice Ao42 t467.length co42] 30 (0, 0)) (by (with_reducible repeat (first | refine blk_drewN ?_ _ | refine blk_drew ?_ | refine blk_alloc ?_ _)); refine blk_far ?_ NB471_504.out _; (with_reducible repeat (first | refine blk_drewN ?_ _ | refine blk_drew ?_ | refine blk_alloc ?_ _)); refine blk_far ?_ NB471_504.out _; (with_reducible repeat (first | refine blk_drewN ?_ _ | refine blk_drew ?_ | refine blk_alloc ?_ _)); refine blk_far ?_ NB471_504.out _; (with_reducible repeat (first | refine blk_drewN ?_ _ | refine blk_drew ?_ | refine blk_alloc ?_ _)); exact BK471.out) hb); have n14_ := Aside0.mk (blk_below (g := gb504) (o := .cells #[.slice Ao119 t496.length co119, .int .i64 t499, .slice Ao125 t500.length co125] 30 (0, 0)) (by (with_reducible repeat (first | refine blk_drewN ?_ _ | refine blk_drew ?_ | refine blk_alloc ?_ _)); refine blk_put (cs := #[.slice Ao119 t496.length co119, .int .i64 t499, .slice none 0 0]) ?_ 2 _ rfl; (with_reducible repeat (first | refine blk_drewN ?_ _ | refine blk_drew ?_ | refine blk_alloc ?_ _)); refine blk_put (cs := #[.slice Ao119 t496.length co119, .int .i64 0, .slice none 0 0]) ?_ 1 _ rfl; (with_reducible repeat (first | refine blk_drewN ?_ _ | refine blk_drew ?_ | refine blk_alloc ?_ _)); refine blk_put (cs := #[.slice none 0 0, .int .i64 0, .slice none 0 0]) ?_ 0 _ rfl; (with_reducible repeat (first | refine blk_drewN ?_ _ | refine blk_drew ?_ | refine blk_alloc ?_ _)); exact BK504.out) hb); have n15_ := Aside0.mk (below_step (oB HB) hb); clear HO_455000; clear HO_455002; clear HO_463000; clear HO_463002; clear HO_472000; clear HO_472002; clear HO491; clear HO495; clear HO498; clear HO502; clear BK437; clear BK454; clear BK462; clear BK471; clear BK504; clear HB; have HO_455000 := n0_; have HO_455002 := n1_; have HO_463000 := n2_; have HO_463002 := n3_; have HO_472000 := n4_; have HO_472002 := n5_; have HO491 := n6_; have HO495 := n7_; have HO498 := n8_; have HO502 := n9_; have BK437 := n10_; have BK454 := n11_; have BK462 := n12_; have BK471 := n13_; have BK504 := n14_; have HB := n15_; clear n0_ n1_ n2_ n3_ n4_ n5_ n6_ n7_ n8_ n9_ n10_ n11_ n12_ n13_ n14_ n15_; (try clear hb); (try clear hb2); (try clear hk); (try clear hi)))
                          go_meet
                          case rel => exact ⟨_, ((t503 != t453)), (by first | rfl | (simp; done) | (simp [*]; done)), H', ⟨by have := HJ12.out; have := HJ65.out; first | omega | exact Nat.le_refl _⟩, ⟨by (try simp only [hl463000_65]); (try simp only [hl463002_65]); (with_reducible repeat (first | apply Kd.R_alloc | apply Kd.R_drewN | apply Kd.R_drew)); exact Kd.R_mono HO_455000.out (fun _ hk => ⟨hk.1.1.1, ⟨hk.1.1.2, hk.2⟩⟩)⟩, ⟨by (try simp only [hl463000_65]); (try simp only [hl463002_65]); (with_reducible repeat (first | apply Kd.R_alloc | apply Kd.R_drewN | apply Kd.R_drew)); exact Kd.R_mono HO_455002.out (fun _ hk => ⟨hk.1.1.1, ⟨hk.1.1.2, hk.2⟩⟩)⟩, ⟨by (try simp only [hl463000_65]); (try simp only [hl463002_65]); (with_reducible repeat (first | apply Kd.R_alloc | apply Kd.R_drewN | apply Kd.R_drew)); exact Kd.R_mono HO_463000.out (fun _ hk => ⟨hk.1.1.1, ⟨hk.1.1.2, hk.2⟩⟩)⟩, ⟨by (try simp only [hl463000_65]); (try simp only [hl463002_65]); (with_reducible repeat (first | apply Kd.R_alloc | apply Kd.R_drewN | apply Kd.R_drew)); exact Kd.R_mono HO_463002.out (fun _ hk => ⟨hk.1.1.1, ⟨hk.1.1.2, hk.2⟩⟩)⟩, ⟨by (try simp only [hl463000_65]); (try simp only [hl463002_65]); (with_reducible repeat (first | apply Kd.R_alloc | apply Kd.R_drewN | apply Kd.R_drew)); exact Kd.R_mono HO_472000.out (fun _ hk => ⟨hk.1.1.1, ⟨hk.1.1.2, hk.2⟩⟩)⟩, ⟨by (try simp only [hl463000_65]); (try simp only [hl463002_65]); (with_reducible repeat (first | apply Kd.R_alloc | apply Kd.R_drewN | apply Kd.R_drew)); exact Kd.R_mono HO_472002.out (fun _ hk => ⟨hk.1.1.1, ⟨hk.1.1.2, hk.2⟩⟩)⟩, ⟨by (try simp only [hl463000_65]); (try simp only [hl463002_65]); (with_reducible repeat (first | apply Kd.R_alloc | apply Kd.R_drewN | apply Kd.R_drew)); exact Kd.R_mono HO498.out (fun _ hk => ⟨hk.1.1.1.2, ⟨hk.1.1.2, hk.1.2⟩⟩)⟩, ⟨by (try simp only [hl463000_65]); (try simp only [hl463002_65]); (with_reducible repeat (first | apply Kd.R_alloc | apply Kd.R_drewN | apply Kd.R_drew)); exact Kd.R_mono HO502.out (fun _ hk => ⟨hk.1.1.1.2, ⟨hk.1.1.2, hk.1.2⟩⟩)⟩, ⟨by (try simp only [hl463000_65]); (try simp only [hl463002_65]); (with_reducible repeat (first | refine blk_drewN ?_ _ | refine blk_drew ?_ | refine blk_alloc ?_ _)); exact BK437.out⟩, ⟨by (try simp only [hl463000_65]); (try simp only [hl463002_65]); (with_reducible repeat (first | refine blk_drewN ?_ _ | refine blk_drew ?_ | refine blk_alloc ?_ _)); exact BK454.out⟩, ⟨by (try simp only [hl463000_65]); (try simp only [hl463002_65]); (with_reducible repeat (first | refine blk_drewN ?_ _ | refine blk_drew ?_ | refine blk_alloc ?_ _)); exact BK462.out⟩, ⟨by (try simp only [hl463000_65]); (try simp only [hl463002_65]); (with_reducible repeat (first | refine blk_drewN ?_ _ | refine blk_drew ?_ | refine blk_alloc ?_ _)); exact BK471.out⟩, ⟨by (try simp only [hl463000_65]); (try simp only [hl463002_65]); (with_reducible repeat (first | refine blk_drewN ?_ _ | refine blk_drew ?_ | refine blk_alloc ?_ _)); exact BK504.out⟩, ⟨oB HB⟩⟩
                        · replace c127 := Bool.eq_false_iff.mpr c127
                          subst c127
                          rw [if_neg (show ¬ (false = true) by decide)] at H
                          have H' := Aside0.mk H
                          clear H
                          have hnb138 := NB504_437.out
                          have hnc138 := NB437_504.out
                          have hnb139 := NB504_454.out
                          have hnc139 := NB454_504.out
                          have hnb140 := NB504_462.out
                          have hnc140 := NB462_504.out
                          have hnb141 := NB504_471.out
                          have hnc141 := NB471_504.out
                          have hcz142_0 : w118.cell? ⟨gb504, 0, none⟩ = some (.slice none 0 0) := (blk_cell BK504.out 0).trans rfl
                          have hcz142_1 : w118.cell? ⟨gb504, 1, none⟩ = some (.int .i64 0) := (blk_cell BK504.out 1).trans rfl
                          have hcz142_2 : w118.cell? ⟨gb504, 2, none⟩ = some (.slice none 0 0) := (blk_cell BK504.out 2).trans rfl
                          have hfz142_0 := blk_frozen BK504.out 0
                          have hfz142_1 := blk_frozen BK504.out 1
                          have hfz142_2 := blk_frozen BK504.out 2
                          have hnb143 := NB454_437.out
                          have hnc143 := NB437_454.out
                          have hnb144 := NB454_462.out
                          have hnc144 := NB462_454.out
                          have hnb145 := NB454_471.out
                          have hnc145 := NB471_454.out
                          have hcz146_0 : w118.cell? ⟨gb454, 0, none⟩ = some (.slice Ao23 t446.length co23) := (blk_cell BK454.out 0).trans rfl
                          have hcz146_1 : w118.cell? ⟨gb454, 1, none⟩ = some (.int .i64 t449) := (blk_cell BK454.out 1).trans rfl
                          have hcz146_2 : w118.cell? ⟨gb454, 2, none⟩ = some (.slice Ao26 t450.length co26) := (blk_cell BK454.out 2).trans rfl
                          have hfz146_0 := blk_frozen BK454.out 0
                          have hfz146_1 := blk_frozen BK454.out 1
                          have hfz146_2 := blk_frozen BK454.out 2
                          go_wp2_with (first | ((with_reducible refine gate_callee (f := 19) rfl ?_); refine goesL_ (some 91) rfl rfl Try.func19 (by kernel_rfl) rfl #[.agg #[.slice Ao119 t496.length co119, .int .i64 t499, .slice Ao125 t500.length co125], .agg #[.slice Ao23 t446.length co23, .int .i64 t449, .slice Ao26 t450.length co26]] rfl (by (try simp only [List.map_toArray, List.map_cons, List.map_nil]); first | done | rfl | (simp only [List.length_drop, List.length_take]; rfl)) ?_; (with_reducible refine (laws_eqWork.calls kj65 _ _ t496 t499 _ _ t500 _ _ t446 t449 _ _ t450 false _ ?side1 ?side2 ?side3 ?side4 ?side5 ?side6 ?side7 ?side8 A126.out).mono ?_); (case side1 => refine (Kd.R_reads' (e := 67) (base := w.heap.size) (ok := fun k_ => ((((True ∧ some k_ ≠ (.slice Ao23 t446.length co23 : Value).ownBlock) ∧ some k_ ≠ (.slice Ao30 t482.length co30 : Value).ownBlock) ∧ some k_ ≠ (.slice Ao37 t463.length co37 : Value).ownBlock) ∧ some k_ ≠ (.slice Ao115 t489.length co115 : Value).ownBlock)) (n := t496.length) (c := co119) ?_).2.2; exact (by (with_reducible repeat (first | apply Kd.R_alloc | apply Kd.R_drewN | apply Kd.R_drew)); exact (Kd.R_mono (Kd.R_far (p := ⟨gb504, 2, none⟩) (Kd.R_far (p := ⟨gb504, 1, none⟩) (Kd.R_far (p := ⟨gb504, 0, none⟩) (Kd.R_types HO498.out BK504.out (by decide)) (fun _ hk => hk.2) (.slice Ao119 t496.length co119)) (fun _ hk => hk.2) (.int .i64 t499)) (fun _ hk => hk.2) (.slice Ao125 t500.length co125)) (fun _ h_ => h_.1)))); (case side2 => exact (Kd.R_reads' HO498.out).2.1); (case side3 => refine (Kd.R_reads' (e := 3) (base := w.heap.size) (ok := fun k_ => ((((True ∧ some k_ ≠ (.slice Ao26 t450.length co26 : Value).ownBlock) ∧ some k_ ≠ (.slice Ao34 t483.length co34 : Value).ownBlock) ∧ some k_ ≠ (.slice Ao42 t467.length co42 : Value).ownBlock) ∧ some k_ ≠ (.slice Ao116 t493.length co116 : Value).ownBlock)) (n := t500.length) (c := co125) ?_).2.2; exact (by (with_reducible repeat (first | apply Kd.R_alloc | apply Kd.R_drewN | apply Kd.R_drew)); exact (Kd.R_mono (Kd.R_far (p := ⟨gb504, 2, none⟩) (Kd.R_far (p := ⟨gb504, 1, none⟩) (Kd.R_far (p := ⟨gb504, 0, none⟩) (Kd.R_types HO502.out BK504.out (by decide)) (fun _ hk => hk.2) (.slice Ao119 t496.length co119)) (fun _ hk => hk.2) (.int .i64 t499)) (fun _ hk => hk.2) (.slice Ao125 t500.length co125)) (fun _ h_ => h_.1)))); (case side4 => exact (Kd.R_reads' HO502.out).2.1); (case side5 => refine (Kd.R_reads' (e := 67) (base := w.heap.size) (ok := fun k_ => (((some k_ ≠ (.slice Ao30 t482.length co30 : Value).ownBlock ∧ some k_ ≠ (.slice Ao37 t463.length co37 : Value).ownBlock) ∧ some k_ ≠ (.slice Ao115 t489.length co115 : Value).ownBlock) ∧ some k_ ≠ (.slice Ao119 t496.length co119 : Value).ownBlock)) (n := t446.length) (c := co23) ?_).2.2; exact (by (with_reducible repeat (first | apply Kd.R_alloc | apply Kd.R_drewN | apply Kd.R_drew)); exact (Kd.R_mono (Kd.R_far (p := ⟨gb504, 2, none⟩) (Kd.R_far (p := ⟨gb504, 1, none⟩) (Kd.R_far (p := ⟨gb504, 0, none⟩) (Kd.R_types HO_455000.out BK504.out (by decide)) (fun _ hk => hk.2) (.slice Ao119 t496.length co119)) (fun _ hk => hk.2) (.int .i64 t499)) (fun _ hk => hk.2) (.slice Ao125 t500.length co125)) (fun _ h_ => h_.1)))); (case side6 => exact (Kd.R_reads' HO_455000.out).2.1); (case side7 => refine (Kd.R_reads' (e := 3) (base := w.heap.size) (ok := fun k_ => (((some k_ ≠ (.slice Ao34 t483.length co34 : Value).ownBlock ∧ some k_ ≠ (.slice Ao42 t467.length co42 : Value).ownBlock) ∧ some k_ ≠ (.slice Ao116 t493.length co116 : Value).ownBlock) ∧ some k_ ≠ (.slice Ao125 t500.length co125 : Value).ownBlock)) (n := t450.length) (c := co26) ?_).2.2; exact (by (with_reducible repeat (first | apply Kd.R_alloc | apply Kd.R_drewN | apply Kd.R_drew)); exact (Kd.R_mono (Kd.R_far (p := ⟨gb504, 2, none⟩) (Kd.R_far (p := ⟨gb504, 1, none⟩) (Kd.R_far (p := ⟨gb504, 0, none⟩) (Kd.R_types HO_455002.out BK504.out (by decide)) (fun _ hk => hk.2) (.slice Ao119 t496.length co119)) (fun _ hk => hk.2) (.int .i64 t499)) (fun _ hk => hk.2) (.slice Ao125 t500.length co125)) (fun _ h_ => h_.1)))); (case side8 => exact (Kd.R_reads' HO_455002.out).2.1); rintro e w147 ⟨rfl, hb⟩; refine ⟨_, rfl, ?_⟩; have n0_ := Aside0.mk (Kd.R_below (by (with_reducible repeat (first | apply Kd.R_alloc | apply Kd.R_drewN | apply Kd.R_drew)); exact (Kd.R_mono (Kd.R_far (p := ⟨gb504, 2, none⟩) (Kd.R_far (p := ⟨gb504, 1, none⟩) (Kd.R_far (p := ⟨gb504, 0, none⟩) (Kd.R_types HO_455000.out BK504.out (by decide)) (fun _ hk => hk.2) (.slice Ao119 t496.length co119)) (fun _ hk => hk.2) (.int .i64 t499)) (fun _ hk => hk.2) (.slice Ao125 t500.length co125)) (fun _ h_ => h_.1))) hb); have n1_ := Aside0.mk (Kd.R_below (by (with_reducible repeat (first | apply Kd.R_alloc | apply Kd.R_drewN | apply Kd.R_drew)); exact (Kd.R_mono (Kd.R_far (p := ⟨gb504, 2, none⟩) (Kd.R_far (p := ⟨gb504, 1, none⟩) (Kd.R_far (p := ⟨gb504, 0, none⟩) (Kd.R_types HO_455002.out BK504.out (by decide)) (fun _ hk => hk.2) (.slice Ao119 t496.length co119)) (fun _ hk => hk.2) (.int .i64 t499)) (fun _ hk => hk.2) (.slice Ao125 t500.length co125)) (fun _ h_ => h_.1))) hb); have n2_ := Aside0.mk (Kd.R_below (by (with_reducible repeat (first | apply Kd.R_alloc | apply Kd.R_drewN | apply Kd.R_drew)); exact (Kd.R_mono (Kd.R_far (p := ⟨gb504, 2, none⟩) (Kd.R_far (p := ⟨gb504, 1, none⟩) (Kd.R_far (p := ⟨gb504, 0, none⟩) (Kd.R_types HO_463000.out BK504.out (by decide)) (fun _ hk => hk.2) (.slice Ao119 t496.length co119)) (fun _ hk => hk.2) (.int .i64 t499)) (fun _ hk => hk.2) (.slice Ao125 t500.length co125)) (fun _ h_ => h_.1))) hb); have n3_ := Aside0.mk (Kd.R_below (by (with_reducible repeat (first | apply Kd.R_alloc | apply Kd.R_drewN | apply Kd.R_drew)); exact (Kd.R_mono (Kd.R_far (p := ⟨gb504, 2, none⟩) (Kd.R_far (p := ⟨gb504, 1, none⟩) (Kd.R_far (p := ⟨gb504, 0, none⟩) (Kd.R_types HO_463002.out BK504.out (by decide)) (fun _ hk => hk.2) (.slice Ao119 t496.length co119)) (fun _ hk => hk.2) (.int .i64 t499)) (fun _ hk => hk.2) (.slice Ao125 t500.length co125)) (fun _ h_ => h_.1))) hb); have n4_ := Aside0.mk (Kd.R_below (by (with_reducible repeat (first | apply Kd.R_alloc | apply Kd.R_drewN | apply Kd.R_drew)); exact (Kd.R_mono (Kd.R_far (p := ⟨gb504, 2, none⟩) (Kd.R_far (p := ⟨gb504, 1, none⟩) (Kd.R_far (p := ⟨gb504, 0, none⟩) (Kd.R_types HO_472000.out BK504.out (by decide)) (fun _ hk => hk.2) (.slice Ao119 t496.length co119)) (fun _ hk => hk.2) (.int .i64 t499)) (fun _ hk => hk.2) (.slice Ao125 t500.length co125)) (fun _ h_ => h_.1))) hb); have n5_ := Aside0.mk (Kd.R_below (by (with_reducible repeat (first | apply Kd.R_alloc | apply Kd.R_drewN | apply Kd.R_drew)); exact (Kd.R_mono (Kd.R_far (p := ⟨gb504, 2, none⟩) (Kd.R_far (p := ⟨gb504, 1, none⟩) (Kd.R_far (p := ⟨gb504, 0, none⟩) (Kd.R_types HO_472002.out BK504.out (by decide)) (fun _ hk => hk.2) (.slice Ao119 t496.length co119)) (fun _ hk => hk.2) (.int .i64 t499)) (fun _ hk => hk.2) (.slice Ao125 t500.length co125)) (fun _ h_ => h_.1))) hb); have n6_ := Aside0.mk (Kd.R_below (by (with_reducible repeat (first | apply Kd.R_alloc | apply Kd.R_drewN | apply Kd.R_drew)); exact (Kd.R_mono (Kd.R_far (p := ⟨gb504, 2, none⟩) (Kd.R_far (p := ⟨gb504, 1, none⟩) (Kd.R_far (p := ⟨gb504, 0, none⟩) (Kd.R_types HO491.out BK504.out (by decide)) (fun _ hk => hk.2) (.slice Ao119 t496.length co119)) (fun _ hk => hk.2) (.int .i64 t499)) (fun _ hk => hk.2) (.slice Ao125 t500.length co125)) (fun _ h_ => h_.1))) hb); have n7_ := Aside0.mk (Kd.R_below (by (with_reducible repeat (first | apply Kd.R_alloc | apply Kd.R_drewN | apply Kd.R_drew)); exact (Kd.R_mono (Kd.R_far (p := ⟨gb504, 2, none⟩) (Kd.R_far (p := ⟨gb504, 1, none⟩) (Kd.R_far (p := ⟨gb504, 0, none⟩) (Kd.R_types HO495.out BK504.out (by decide)) (fun _ hk => hk.2) (.slice Ao119 t496.length co119)) (fun _ hk => hk.2) (.int .i64 t499)) (fun _ hk => hk.2) (.slice Ao125 t500.length co125)) (fun _ h_ => h_.1))) hb); have n8_ := Aside0.mk (Kd.R_below (by (with_reducible repeat (first | apply Kd.R_alloc | apply Kd.R_drewN | apply Kd.R_drew)); exact (Kd.R_mono (Kd.R_far (p := ⟨gb504, 2, none⟩) (Kd.R_far (p := ⟨gb504, 1, none⟩) (Kd.R_far (p := ⟨gb504, 0, none⟩) (Kd.R_types HO498.out BK504.out (by decide)) (fun _ hk => hk.2) (.slice Ao119 t496.length co119)) (fun _ hk => hk.2) (.int .i64 t499)) (fun _ hk => hk.2) (.slice Ao125 t500.length co125)) (fun _ h_ => h_.1))) hb); have n9_ := Aside0.mk (Kd.R_below (by (with_reducible repeat (first | apply Kd.R_alloc | apply Kd.R_drewN | apply Kd.R_drew)); exact (Kd.R_mono (Kd.R_far (p := ⟨gb504, 2, none⟩) (Kd.R_far (p := ⟨gb504, 1, none⟩) (Kd.R_far (p := ⟨gb504, 0, none⟩) (Kd.R_types HO502.out BK504.out (by decide)) (fun _ hk => hk.2) (.slice Ao119 t496.length co119)) (fun _ hk => hk.2) (.int .i64 t499)) (fun _ hk => hk.2) (.slice Ao125 t500.length co125)) (fun _ h_ => h_.1))) hb); have n10_ := Aside0.mk (blk_below (g := gb437) (o := .cells #[.slice A0_0 l0_0.length c0_0, .int .i64 a0_1, .slice A0_2 l0_2.length c0_2] 25 (0, 0)) (by (with_reducible repeat (first | refine blk_drewN ?_ _ | refine blk_drew ?_ | refine blk_alloc ?_ _)); refine blk_far ?_ NB437_504.out _; (with_reducible repeat (first | refine blk_drewN ?_ _ | refine blk_drew ?_ | refine blk_alloc ?_ _)); refine blk_far ?_ NB437_504.out _; (with_reducible repeat (first | refine blk_drewN ?_ _ | refine blk_drew ?_ | refine blk_alloc ?_ _)); refine blk_far ?_ NB437_504.out _; (with_reducible repeat (first | refine blk_drewN ?_ _ | refine blk_drew ?_ | refine blk_alloc ?_ _)); exact BK437.out) hb); have n11_ := Aside0.mk (blk_below (g := gb454) (o := .cells #[.slice Ao23 t446.length co23, .int .i64 t449, .slice Ao26 t450.length co26] 30 (0, 0)) (by (with_reducible repeat (first | refine blk_drewN ?_ _ | refine blk_drew ?_ | refine blk_alloc ?_ _)); refine blk_far ?_ NB454_504.out _; (with_reducible repeat (first | refine blk_drewN ?_ _ | refine blk_drew ?_ | refine blk_alloc ?_ _)); refine blk_far ?_ NB454_504.out _; (with_reducible repeat (first | refine blk_drewN ?_ _ | refine blk_drew ?_ | refine blk_alloc ?_ _)); refine blk_far ?_ NB454_504.out _; (with_reducible repeat (first | refine blk_drewN ?_ _ | refine blk_drew ?_ | refine blk_alloc ?_ _)); exact BK454.out) hb); have n12_ := Aside0.mk (blk_below (g := gb462) (o := .cells #[.slice Ao30 t482.length co30, .int .i64 t458, .slice Ao34 t483.length co34] 30 (0, 0)) (by (with_reducible repeat (first | refine blk_drewN ?_ _ | refine blk_drew ?_ | refine blk_alloc ?_ _)); refine blk_far ?_ NB462_504.out _; (with_reducible repeat (first | refine blk_drewN ?_ _ | refine blk_drew ?_ | refine blk_alloc ?_ _)); refine blk_far ?_ NB462_504.out _; (with_reducible repeat (first | refine blk_drewN ?_ _ | refine blk_drew ?_ | refine blk_alloc ?_ _)); refine blk_far ?_ NB462_504.out _; (with_reducible repeat (first | refine blk_drewN ?_ _ | refine blk_drew ?_ | refine blk_alloc ?_ _)); exact BK462.out) hb); have n13_ := Aside0.mk (blk_below (g := gb471) (o := .cells #[.slice Ao37 t463.length co37, .int .i64 t466, .slice Ao42 t467.length co42] 30 (0, 0)) (by (with_reducible repeat (first | refine blk_drewN ?_ _ | refine blk_drew ?_ | refine blk_alloc ?_ _)); refine blk_far ?_ NB471_504.out _; (with_reducible repeat (first | refine blk_drewN ?_ _ | refine blk_drew ?_ | refine blk_alloc ?_ _)); refine blk_far ?_ NB471_504.out _; (with_reducible repeat (first | refine blk_drewN ?_ _ | refine blk_drew ?_ | refine blk_alloc ?_ _)); refine blk_far ?_ NB471_504.out _; (with_reducible repeat (first | refine blk_drewN ?_ _ | refine blk_drew ?_ | refine blk_alloc ?_ _)); exact BK471.out) hb); have n14_ := Aside0.mk (blk_below (g := gb504) (o := .cells #[.slice Ao119 t496.length co119, .int .i64 t499, .slice Ao125 t500.length co125] 30 (0, 0)) (by (with_reducible repeat (first | refine blk_drewN ?_ _ | refine blk_drew ?_ | refine blk_alloc ?_ _)); refine blk_put (cs := #[.slice Ao119 t496.length co119, .int .i64 t499, .slice none 0 0]) ?_ 2 _ rfl; (with_reducible repeat (first | refine blk_drewN ?_ _ | refine blk_drew ?_ | refine blk_alloc ?_ _)); refine blk_put (cs := #[.slice Ao119 t496.length co119, .int .i64 0, .slice none 0 0]) ?_ 1 _ rfl; (with_reducible repeat (first | refine blk_drewN ?_ _ | refine blk_drew ?_ | refine blk_alloc ?_ _)); refine blk_put (cs := #[.slice none 0 0, .int .i64 0, .slice none 0 0]) ?_ 0 _ rfl; (with_reducible repeat (first | refine blk_drewN ?_ _ | refine blk_drew ?_ | refine blk_alloc ?_ _)); exact BK504.out) hb); have n15_ := Aside0.mk (below_step (oB HB) hb); clear HO_455000; clear HO_455002; clear HO_463000; clear HO_463002; clear HO_472000; clear HO_472002; clear HO491; clear HO495; clear HO498; clear HO502; clear BK437; clear BK454; clear BK462; clear BK471; clear BK504; clear HB; have HO_455000 := n0_; have HO_455002 := n1_; have HO_463000 := n2_; have HO_463002 := n3_; have HO_472000 := n4_; have HO_472002 := n5_; have HO491 := n6_; have HO495 := n7_; have HO498 := n8_; have HO502 := n9_; have BK437 := n10_; have BK454 := n11_; have BK462 := n12_; have BK471 := n13_; have BK504 := n14_; have HB := n15_; clear n0_ n1_ n2_ n3_ n4_ n5_ n6_ n7_ n8_ n9_ n10_ n11_ n12_ n13_ n14_ n15_; (try clear hb); (try clear hb2); (try clear hk); (try clear hi)))
                          go_meet
                          case rel => exact ⟨_, (true), (by first | rfl | (simp; done) | (simp [*]; done)), H', ⟨by have := HJ12.out; have := HJ65.out; first | omega | exact Nat.le_refl _⟩, ⟨by (try simp only [hl463000_65]); (try simp only [hl463002_65]); (with_reducible repeat (first | apply Kd.R_alloc | apply Kd.R_drewN | apply Kd.R_drew)); exact Kd.R_mono HO_455000.out (fun _ hk => ⟨hk.1.1.1, ⟨hk.1.1.2, hk.2⟩⟩)⟩, ⟨by (try simp only [hl463000_65]); (try simp only [hl463002_65]); (with_reducible repeat (first | apply Kd.R_alloc | apply Kd.R_drewN | apply Kd.R_drew)); exact Kd.R_mono HO_455002.out (fun _ hk => ⟨hk.1.1.1, ⟨hk.1.1.2, hk.2⟩⟩)⟩, ⟨by (try simp only [hl463000_65]); (try simp only [hl463002_65]); (with_reducible repeat (first | apply Kd.R_alloc | apply Kd.R_drewN | apply Kd.R_drew)); exact Kd.R_mono HO_463000.out (fun _ hk => ⟨hk.1.1.1, ⟨hk.1.1.2, hk.2⟩⟩)⟩, ⟨by (try simp only [hl463000_65]); (try simp only [hl463002_65]); (with_reducible repeat (first | apply Kd.R_alloc | apply Kd.R_drewN | apply Kd.R_drew)); exact Kd.R_mono HO_463002.out (fun _ hk => ⟨hk.1.1.1, ⟨hk.1.1.2, hk.2⟩⟩)⟩, ⟨by (try simp only [hl463000_65]); (try simp only [hl463002_65]); (with_reducible repeat (first | apply Kd.R_alloc | apply Kd.R_drewN | apply Kd.R_drew)); exact Kd.R_mono HO_472000.out (fun _ hk => ⟨hk.1.1.1, ⟨hk.1.1.2, hk.2⟩⟩)⟩, ⟨by (try simp only [hl463000_65]); (try simp only [hl463002_65]); (with_reducible repeat (first | apply Kd.R_alloc | apply Kd.R_drewN | apply Kd.R_drew)); exact Kd.R_mono HO_472002.out (fun _ hk => ⟨hk.1.1.1, ⟨hk.1.1.2, hk.2⟩⟩)⟩, ⟨by (try simp only [hl463000_65]); (try simp only [hl463002_65]); (with_reducible repeat (first | apply Kd.R_alloc | apply Kd.R_drewN | apply Kd.R_drew)); exact Kd.R_mono HO498.out (fun _ hk => ⟨hk.1.1.1.2, ⟨hk.1.1.2, hk.1.2⟩⟩)⟩, ⟨by (try simp only [hl463000_65]); (try simp only [hl463002_65]); (with_reducible repeat (first | apply Kd.R_alloc | apply Kd.R_drewN | apply Kd.R_drew)); exact Kd.R_mono HO502.out (fun _ hk => ⟨hk.1.1.1.2, ⟨hk.1.1.2, hk.1.2⟩⟩)⟩, ⟨by (try simp only [hl463000_65]); (try simp only [hl463002_65]); (with_reducible repeat (first | refine blk_drewN ?_ _ | refine blk_drew ?_ | refine blk_alloc ?_ _)); exact BK437.out⟩, ⟨by (try simp only [hl463000_65]); (try simp only [hl463002_65]); (with_reducible repeat (first | refine blk_drewN ?_ _ | refine blk_drew ?_ | refine blk_alloc ?_ _)); exact BK454.out⟩, ⟨by (try simp only [hl463000_65]); (try simp only [hl463002_65]); (with_reducible repeat (first | refine blk_drewN ?_ _ | refine blk_drew ?_ | refine blk_alloc ?_ _)); exact BK462.out⟩, ⟨by (try simp only [hl463000_65]); (try simp only [hl463002_65]); (with_reducible repeat (first | refine blk_drewN ?_ _ | refine blk_drew ?_ | refine blk_alloc ?_ _)); exact BK471.out⟩, ⟨by (try simp only [hl463000_65]); (try simp only [hl463002_65]); (with_reducible repeat (first | refine blk_drewN ?_ _ | refine blk_drew ?_ | refine blk_alloc ?_ _)); exact BK504.out⟩, ⟨oB HB⟩⟩
                      case rest =>
                        clear HC103
                        try clear c1
                        try clear c2
                        try clear p2
                        try clear c3
                        try clear c4
                        try clear c5
                        try clear c5b0
                        try clear c6
                        try clear c7
                        try clear c8
                        try clear c9
                        try clear c10
                        try clear c11
                        try clear c12
                        try clear c13
                        try clear c14
                        try clear c15
                        try clear c17
                        try clear c19
                        try clear c24
                        try clear c28
                        try clear c29
                        try clear c30
                        try clear c31
                        try clear c32
                        try clear c38
                        try clear c39
                        try clear c40
                        try clear c44
                        try clear c45
                        try clear c46
                        try clear c47
                        try clear c49
                        try clear c50
                        try clear c53
                        try clear c54
                        try clear c55
                        try clear c57
                        try clear c58
                        try clear c61
                        try clear c64
                        try clear c72
                        try clear c73
                        try clear c74
                        try clear c77
                        try clear c77b0
                        try clear c79
                        try clear c80
                        try clear c81
                        try clear c82
                        try clear c84
                        try clear c85
                        try clear c88
                        try clear c89
                        try clear c90
                        try clear c92
                        try clear c93
                        try clear c96
                        try clear c99
                        try clear c99b0
                        try clear c100
                        try clear c100b0
                        try clear c100b1
                        try clear c104
                        try clear c105
                        try clear c106
                        try clear c111
                        try clear c112
                        try clear c120
                        try clear c121
                        try clear c122
                        try clear c123
                        try clear c127
                        try clear c128
                        try clear c129
                        try clear c130
                        try clear c131
                        try clear c133
                        try clear c134
                        try clear c135
                        try clear c138
                        try clear c139
                        try clear c140
                        try clear c141
                        try clear c143
                        try clear c144
                        try clear c145
                        try clear hcz107_0
                        try clear hcz107_1
                        try clear hcz107_2
                        try clear hcz109_0
                        try clear hcz109_1
                        try clear hcz109_2
                        try clear hcz113_0
                        try clear hcz113_1
                        try clear hcz113_2
                        try clear hcz124_0
                        try clear hcz124_1
                        try clear hcz124_2
                        try clear hcz132_0
                        try clear hcz132_1
                        try clear hcz132_2
                        try clear hcz136_0
                        try clear hcz136_1
                        try clear hcz136_2
                        try clear hcz142_0
                        try clear hcz142_1
                        try clear hcz142_2
                        try clear hcz146_0
                        try clear hcz146_1
                        try clear hcz146_2
                        try clear hcz15_0
                        try clear hcz15_1
                        try clear hcz15_2
                        try clear hcz17_0
                        try clear hcz17_1
                        try clear hcz17_2
                        try clear hcz25_0
                        try clear hcz25_1
                        try clear hcz25_2
                        try clear hcz27_0
                        try clear hcz27_1
                        try clear hcz27_2
                        try clear hcz33_0
                        try clear hcz33_1
                        try clear hcz33_2
                        try clear hcz41_0
                        try clear hcz41_1
                        try clear hcz41_2
                        try clear hcz48_0
                        try clear hcz48_1
                        try clear hcz48_2
                        try clear hcz51_0
                        try clear hcz51_1
                        try clear hcz51_2
                        try clear hcz56_0
                        try clear hcz56_1
                        try clear hcz56_2
                        try clear hcz59_0
                        try clear hcz59_1
                        try clear hcz59_2
                        try clear hcz75_0
                        try clear hcz75_1
                        try clear hcz75_2
                        try clear hcz7_0
                        try clear hcz7_1
                        try clear hcz7_2
                        try clear hcz83_0
                        try clear hcz83_1
                        try clear hcz83_2
                        try clear hcz86_0
                        try clear hcz86_1
                        try clear hcz86_2
                        try clear hcz91_0
                        try clear hcz91_1
                        try clear hcz91_2
                        try clear hcz94_0
                        try clear hcz94_1
                        try clear hcz94_2
                        try clear hfz107_0
                        try clear hfz107_1
                        try clear hfz107_2
                        try clear hfz109_0
                        try clear hfz109_1
                        try clear hfz109_2
                        try clear hfz113_0
                        try clear hfz113_1
                        try clear hfz113_2
                        try clear hfz124_0
                        try clear hfz124_1
                        try clear hfz124_2
                        try clear hfz132_0
                        try clear hfz132_1
                        try clear hfz132_2
                        try clear hfz136_0
                        try clear hfz136_1
                        try clear hfz136_2
                        try clear hfz142_0
                        try clear hfz142_1
                        try clear hfz142_2
                        try clear hfz146_0
                        try clear hfz146_1
                        try clear hfz146_2
                        try clear hfz15_0
                        try clear hfz15_1
                        try clear hfz15_2
                        try clear hfz17_0
                        try clear hfz17_1
                        try clear hfz17_2
                        try clear hfz25_0
                        try clear hfz25_1
                        try clear hfz25_2
                        try clear hfz27_0
                        try clear hfz27_1
                        try clear hfz27_2
                        try clear hfz33_0
                        try clear hfz33_1
                        try clear hfz33_2
                        try clear hfz41_0
                        try clear hfz41_1
                        try clear hfz41_2
                        try clear hfz48_0
                        try clear hfz48_1
                        try clear hfz48_2
                        try clear hfz51_0
                        try clear hfz51_1
                        try clear hfz51_2
                        try clear hfz56_0
                        try clear hfz56_1
                        try clear hfz56_2
                        try clear hfz59_0
                        try clear hfz59_1
                        try clear hfz59_2
                        try clear hfz75_0
                        try clear hfz75_1
                        try clear hfz75_2
                        try clear hfz7_0
                        try clear hfz7_1
                        try clear hfz7_2
                        try clear hfz83_0
                        try clear hfz83_1
                        try clear hfz83_2
                        try clear hfz86_0
                        try clear hfz86_1
                        try clear hfz86_2
                        try clear hfz91_0
                        try clear hfz91_1
                        try clear hfz91_2
                        try clear hfz94_0
                        try clear hfz94_1
                        try clear hfz94_2
                        try clear p2
                        obtain ⟨kq, x97_102, rfl, HA, HJ102, HO_455000, HO_455002, HO_463000, HO_463002, HO_472000, HO_472002, HO_505000, HO_505002, BK437, BK454, BK462, BK471, BK504, HB⟩ := hcut
                        have hl472000_102 := (Kd.R_reads' HO_472000.out).1
                        rw [hl472000_102] at HO_472000
                        (try simp only [hl472000_102])
                        (try simp only [hl472000_102] at BK437)
                        (try simp only [hl472000_102] at BK454)
                        (try simp only [hl472000_102] at BK462)
                        (try simp only [hl472000_102] at BK471)
                        (try simp only [hl472000_102] at BK504)
                        (try simp only [hl472000_102] at HO_455000)
                        (try simp only [hl472000_102] at HO_455002)
                        (try simp only [hl472000_102] at HO_463000)
                        (try simp only [hl472000_102] at HO_463002)
                        (try simp only [hl472000_102] at HO_472002)
                        (try simp only [hl472000_102] at HO_505000)
                        (try simp only [hl472000_102] at HO_505002)
                        have hl472002_102 := (Kd.R_reads' HO_472002.out).1
                        rw [hl472002_102] at HO_472002
                        (try simp only [hl472002_102])
                        (try simp only [hl472002_102] at BK437)
                        (try simp only [hl472002_102] at BK454)
                        (try simp only [hl472002_102] at BK462)
                        (try simp only [hl472002_102] at BK471)
                        (try simp only [hl472002_102] at BK504)
                        (try simp only [hl472002_102] at HO_455000)
                        (try simp only [hl472002_102] at HO_455002)
                        (try simp only [hl472002_102] at HO_463000)
                        (try simp only [hl472002_102] at HO_463002)
                        (try simp only [hl472002_102] at HO_472000)
                        (try simp only [hl472002_102] at HO_505000)
                        (try simp only [hl472002_102] at HO_505002)
                        cases kq with
                        | zero => exact absurd HA.out (by simp [laws_FnExactKnockKey.j2])
                        | succ kj102 =>
                          have H := HA.out
                          clear HA
                          simp only [laws_FnExactKnockKey.j2] at H
                          by_cases c148 : x97_102 = true
                          · subst c148
                            rw [if_pos rfl] at H
                            exact absurd ((Option.some.inj H).trans hrt_.out) (by decide)
                          · replace c148 := Bool.eq_false_iff.mpr c148
                            subst c148
                            rw [if_neg (show ¬ (false = true) by decide)] at H
                            replace H := Option.bind_eq_some_iff.mp H
                            obtain ⟨t506, A1490, H⟩ := H
                            (try dsimp only at H)
                            have A149 := Aside0.mk A1490
                            clear A1490
                            by_cases c150 : t506 < 0
                            · rw [if_pos c150] at H
                              have c150b0 : decide (t506 < 0) = true := decide_eq_true c150
                              clear c150
                              exact absurd ((Option.some.inj H).trans hrt_.out) (by decide)
                            · rw [if_neg c150] at H
                              have c150b0 : decide (t506 < 0) = false := decide_eq_false c150
                              clear c150
                              by_cases c151 : t506 = t485
                              · rw [if_pos c151] at H
                                have c151b0 : (t506 == t485) = true := beq_iff_eq.mpr c151
                                have c151b1 : (t506 != t485) = false := bne_eq_false_iff_eq.mpr c151
                                clear c151
                                obtain rfl := Option.some.inj H
                                have hnb152 := NB471_437.out
                                have hnc152 := NB437_471.out
                                have hnb153 := NB471_454.out
                                have hnc153 := NB454_471.out
                                have hnb154 := NB471_462.out
                                have hnc154 := NB462_471.out
                                have hnb155 := NB471_504.out
                                have hnc155 := NB504_471.out
                                have hcz156_0 : wc.cell? ⟨gb471, 0, none⟩ = some (.slice Ao37 t486.length co37) := (blk_cell BK471.out 0).trans rfl
                                have hcz156_1 : wc.cell? ⟨gb471, 1, none⟩ = some (.int .i64 t466) := (blk_cell BK471.out 1).trans rfl
                                have hcz156_2 : wc.cell? ⟨gb471, 2, none⟩ = some (.slice Ao42 t487.length co42) := (blk_cell BK471.out 2).trans rfl
                                have hfz156_0 := blk_frozen BK471.out 0
                                have hfz156_1 := blk_frozen BK471.out 1
                                have hfz156_2 := blk_frozen BK471.out 2
                                go_wp2_with (first | ((with_reducible refine gate_callee (f := 29) rfl ?_); refine goesL_ (some 100) rfl rfl Try.func29 (by kernel_rfl) rfl #[.agg #[.slice Ao37 t486.length co37, .int .i64 t466, .slice Ao42 t487.length co42], .int .i64 1] rfl (by (try simp only [List.map_toArray, List.map_cons, List.map_nil]); first | done | rfl | (simp only [List.length_drop, List.length_take]; rfl)) ?_; (with_reducible refine (laws_heldWork.calls kj102 _ _ t486 t466 _ _ t487 1 t506 _ ?side1 ?side2 ?side3 ?side4 A149.out).mono ?_); (case side1 => repeat (first | exact (Kd.R_reads' HO_472000.out).2.2 | (with_reducible refine Kd.C_alloc ?_ _) | (with_reducible refine Kd.C_drewN ?_ _) | (with_reducible refine Kd.C_drew ?_))); (case side2 => exact (Kd.R_reads' HO_472000.out).2.1); (case side3 => repeat (first | exact (Kd.R_reads' HO_472002.out).2.2 | (with_reducible refine Kd.C_alloc ?_ _) | (with_reducible refine Kd.C_drewN ?_ _) | (with_reducible refine Kd.C_drew ?_))); (case side4 => exact (Kd.R_reads' HO_472002.out).2.1); rintro e w157 ⟨rfl, hb⟩; refine ⟨_, rfl, ?_⟩; have n0_ := Aside0.mk (Kd.R_below (oR HO_455000) hb); have n1_ := Aside0.mk (Kd.R_below (oR HO_455002) hb); have n2_ := Aside0.mk (Kd.R_below (oR HO_463000) hb); have n3_ := Aside0.mk (Kd.R_below (oR HO_463002) hb); have n4_ := Aside0.mk (Kd.R_below (oR HO_472000) hb); have n5_ := Aside0.mk (Kd.R_below (oR HO_472002) hb); have n6_ := Aside0.mk (Kd.R_below (oR HO_505000) hb); have n7_ := Aside0.mk (Kd.R_below (oR HO_505002) hb); have n8_ := Aside0.mk (blk_below (g := gb437) (o := .cells #[.slice A0_0 l0_0.length c0_0, .int .i64 a0_1, .slice A0_2 l0_2.length c0_2] 25 (0, 0)) (oK BK437) hb); have n9_ := Aside0.mk (blk_below (g := gb454) (o := .cells #[.slice Ao23 t446.length co23, .int .i64 t449, .slice Ao26 t450.length co26] 30 (0, 0)) (oK BK454) hb); have n10_ := Aside0.mk (blk_below (g := gb462) (o := .cells #[.slice Ao30 t482.length co30, .int .i64 t458, .slice Ao34 t483.length co34] 30 (0, 0)) (oK BK462) hb); have n11_ := Aside0.mk (blk_below (g := gb471) (o := .cells #[.slice Ao37 t486.length co37, .int .i64 t466, .slice Ao42 t487.length co42] 30 (0, 0)) (oK BK471) hb); have n12_ := Aside0.mk (blk_below (g := gb504) (o := .cells #[.slice Ao119 t496.length co119, .int .i64 t499, .slice Ao125 t500.length co125] 30 (0, 0)) (oK BK504) hb); have n13_ := Aside0.mk (below_step (oB HB) hb); clear HO_455000; clear HO_455002; clear HO_463000; clear HO_463002; clear HO_472000; clear HO_472002; clear HO_505000; clear HO_505002; clear BK437; clear BK454; clear BK462; clear BK471; clear BK504; clear HB; have HO_455000 := n0_; have HO_455002 := n1_; have HO_463000 := n2_; have HO_463002 := n3_; have HO_472000 := n4_; have HO_472002 := n5_; have HO_505000 := n6_; have HO_505002 := n7_; have BK437 := n8_; have BK454 := n9_; have BK462 := n10_; have BK471 := n11_; have BK504 := n12_; have HB := n13_; clear n0_ n1_ n2_ n3_ n4_ n5_ n6_ n7_ n8_ n9_ n10_ n11_ n12_ n13_; (try clear hb); (try clear hb2); (try clear hk); (try clear hi)))
                                go_ret
                                exact ⟨by first | rfl | (simp [errW_none, errW_some] <;> rfl) | (simp [*, errW_none, errW_some] <;> rfl), oB HB⟩
                              · rw [if_neg c151] at H
                                have c151b0 : (t506 == t485) = false := beq_eq_false_iff_ne.mpr c151
                                have c151b1 : (t506 != t485) = true := bne_iff_ne.mpr c151
                                exact absurd ((Option.some.inj H).trans hrt_.out) (by decide)
                    · rw [if_neg c100] at H
                      have c100b0 : (t488 == t485) = false := beq_eq_false_iff_ne.mpr c100
                      have c100b1 : (t488 != t485) = true := bne_iff_ne.mpr c100
                      exact absurd ((Option.some.inj H).trans hrt_.out) (by decide)
          · replace c64 := Bool.eq_false_iff.mpr c64
            subst c64
            rw [if_neg (show ¬ (false = true) by decide)] at H
            exact absurd ((Option.some.inj H).trans hrt_.out) (by decide)
end Go.Proofs.Ytlhlmjklajdejaa.P


namespace Go.Proofs.Ytlhlmjklajdejaa.Q
set_option linter.unusedVariables false
set_option linter.unusedSimpArgs false
open Go.RowKit Go.Proofs.YtlhlmjklajdejaaW.PrintWords
theorem evp {α : Type} {c : Prop} [Decidable c] (h : c) {f g : Nat → Option α} {r : α} (k : Ev f r) : Ev (fun n => if c then f n else g n) r := by
  simp only [if_pos h]; exact k
theorem evn {α : Type} {c : Prop} [Decidable c] (h : ¬ c) {f g : Nat → Option α} {r : α} (k : Ev g r) : Ev (fun n => if c then f n else g n) r := by
  simp only [if_neg h]; exact k
theorem evb {α β : Type} {x : Option α} {f : Nat → α → Option β} {a : α} {r : β} (h : x = some a) (k : Ev (fun n => f n a) r) : Ev (fun n => x.bind (f n)) r := by
  simp only [h, Option.bind_some]; exact k
theorem evs {α : Type} {a b : α} (h : a = b) : Ev (fun _ => some a) b := h ▸ Ev.now a
theorem rpos {α : Type} {c : Prop} [Decidable c] (h : c) {f : Nat → Option α} {r s : α} (k : Ev f r) : Ev f (if c then r else s) := by rw [if_pos h]; exact k
theorem rneg {α : Type} {c : Prop} [Decidable c] (h : ¬ c) {f : Nat → Option α} {r s : α} (k : Ev f s) : Ev f (if c then r else s) := by rw [if_neg h]; exact k
theorem btrue {c : Prop} [Decidable c] (h : c) : decide c = true := decide_eq_true h
theorem bfalse {c : Prop} [Decidable c] (h : ¬ c) : ¬ decide c = true := by simpa using h
theorem down {P : Nat → Prop} {n : Nat} (he : P n) (hs : ∀ i, i < n → P (i + 1) → P i) (i : Nat) (h : i ≤ n) : P i := by
  obtain ⟨d, rfl⟩ : ∃ d, n = i + d := ⟨n - i, by omega⟩
  clear h
  induction d generalizing i with
  | zero => exact he
  | succ d ih =>
    refine hs i (by omega) (ih (i + 1) ?_ ?_)
    · rw [show i + 1 + d = i + (d + 1) by omega]; exact he
    · intro j hj; exact hs j (by omega)
theorem w64 {n : Int} (h1 : -9223372036854775808 ≤ n) (h2 : n ≤ 9223372036854775807) : wrap64 n = n := by unfold wrap64; omega
theorem rd_nat (l : List Int) (i : Nat) (h : i < l.length) : rd l (i : Int) = l[i] := by
  unfold rd; simp [List.getD_eq_getElem?_getD, h]
theorem drop_cons {α : Type} (l : List α) (i : Nat) (h : i < l.length) : l.drop i = l[i] :: l.drop (i + 1) := List.drop_eq_getElem_cons h
theorem drop_end {α : Type} (l : List α) : l.drop l.length = [] := List.drop_eq_nil_of_le (Nat.le_refl _)
theorem set_take {α : Type} (l : List α) (i : Nat) (v : α) (h : i < l.length) : (l.set i v).take (i + 1) = l.take i ++ [v] := by
  rw [List.take_set, List.take_succ_eq_append_getElem h, List.set_append_right _ _ (by simp; omega)]
  simp [Nat.min_eq_left (Nat.le_of_lt h)]
end Go.Proofs.Ytlhlmjklajdejaa.Q


namespace Go.Proofs.Ytlhlmjklajdejaa.Q
set_option linter.unusedVariables false
set_option linter.unusedSimpArgs false
open Go.RowKit Go.Proofs.Ytlhlmjklajdejaa.P Go.Proofs.YtlhlmjklajdejaaW.PrintWords
theorem within_eq (a b c : Int) : impl_within.f a b c = some (decide (b ≤ a ∧ a ≤ c)) := by
  unfold impl_within.f; by_cases h : b ≤ a <;> simp [h]
theorem l01In_eq (a b c : Int) : spec_l01In.f a b c = some (decide (b ≤ a ∧ a ≤ c)) := by
  unfold spec_l01In.f; by_cases h : a ≥ b
  · rw [if_pos h]; simp [show b ≤ a from h]
  · rw [if_neg h]; simp [show ¬ b ≤ a from h]
end Go.Proofs.Ytlhlmjklajdejaa.Q


namespace Go.Proofs.Ytlhlmjklajdejaa.Q
set_option linter.unusedVariables false
set_option linter.unusedSimpArgs false
open Go.RowKit Go.Proofs.Ytlhlmjklajdejaa.P Go.Proofs.YtlhlmjklajdejaaW.PrintWords Go.Proofs.YtlhlmjklajdejaaW.PrintMore
def fine (n : Int) : Bool := decide (1 ≤ n ∧ n ≤ 10000000)
theorem pitch_eq (n : Int) : spec_l18Pitch.f n = some (fine n) := by unfold spec_l18Pitch.f; rw [l01In_eq]; rfl
end Go.Proofs.Ytlhlmjklajdejaa.Q


namespace Go.Proofs.Ytlhlmjklajdejaa.Q
set_option linter.unusedVariables false
set_option linter.unusedSimpArgs false
open Go.RowKit Go.Proofs.Ytlhlmjklajdejaa.P Go.Proofs.YtlhlmjklajdejaaW.PrintWords Go.Proofs.YtlhlmjklajdejaaW.PrintMore
def cStep (x : S70) : S67 := ⟨x.f0, x.f1, x.f2, x.f3⟩
theorem rdS (l : List S67) (i : Nat) (h : i < l.length) : rd_T67 l (i : Int) = l[i] := by
  unfold rd_T67; simp [List.getD_eq_getElem?_getD, h]
theorem rdLS (l : List S70) (i : Nat) (h : i < l.length) : rd_T70 l (i : Int) = l[i] := by
  unfold rd_T70; simp [List.getD_eq_getElem?_getD, h]
theorem toStepS_ev (l : List S70) (hl : l.length ≤ 1048576) : Ev (fun k => laws_toStepS.f k l) (l.map cStep) := by
  have key : ∀ i, i ≤ l.length → ∀ acc : List S67, acc.length = l.length → Ev (fun k => laws_toStepS.l0 k l acc (i : Int)) (acc.take i ++ (l.drop i).map cStep) := by
    refine down (n := l.length) ?_ ?_
    · intro acc ha
      refine Ev.step (fun k => by rw [laws_toStepS.l0]) (evn (by omega) (evs ?_))
      rw [drop_end, List.map_nil, List.append_nil, List.take_of_length_le (by omega)]
    · intro i hi ih acc ha
      refine Ev.step (fun k => by rw [laws_toStepS.l0]) (evp (by omega) (evp (by omega) ?_))
      rw [rdLS l i hi]
      refine evb (a := (l[i].f0, l[i].f1, l[i].f2, l[i].f3)) rfl (evp (by omega) ?_)
      rw [w64 (by omega) (by omega), Int.toNat_natCast]
      have := ih (acc.set i (cStep l[i])) (by simpa using ha)
      rw [set_take _ _ _ (by omega), List.append_assoc] at this
      rw [drop_cons l i hi, List.map_cons]
      exact this
  have := key 0 (Nat.zero_le _) (List.replicate l.length z67) (by simp)
  unfold laws_toStepS.f
  refine evp (by omega) (evp (by omega) ?_)
  simpa using this
theorem eqStep_self (a b c d : Int) : laws_eqStep.f a b c d a b c d = some true := by unfold laws_eqStep.f; simp
theorem eqStepS_ev (l : List S67) (hl : l.length ≤ 9000000000000000000) : Ev (fun k => laws_eqStepS.f k l l) true := by
  have key : ∀ i, i ≤ l.length → Ev (fun k => laws_eqStepS.l0 k l l (i : Int)) true := by
    refine down (n := l.length) ?_ ?_
    · refine Ev.step (fun k => by rw [laws_eqStepS.l0]) (evn (by omega) ?_)
      exact Ev.now _
    · intro i hi ih
      refine Ev.step (fun k => by rw [laws_eqStepS.l0]) (evp (by omega) (evp (by omega) (evp (by omega) ?_)))
      refine evb (eqStep_self _ _ _ _) (evp rfl ?_)
      rw [w64 (by omega) (by omega)]
      exact ih
  unfold laws_eqStepS.f
  refine evp rfl ?_
  exact key 0 (Nat.zero_le _)
theorem szStepS_eq (l : List S70) (m : Int) (h0 : 0 ≤ m) (hm : m ≤ 1048576) (hl : l.length ≤ 9223372036854775807) : laws_szStepS.f l m = some (if m < l.length then -1 else m - l.length) := by
  unfold laws_szStepS.f
  rw [w64 (by omega) (by omega)]
  by_cases h : m < l.length
  · rw [if_pos (by omega), if_pos h]
  · rw [if_neg (by omega), if_neg h]
def runsS (m : Int) (n : Nat) : List S67 := (List.range n).map (fun (j : Nat) => ⟨m + 4 * j, m + 4 * j + 1, m + 4 * j + 2, m + 4 * j + 3⟩)
theorem runsS_len (m : Int) (n : Nat) : (runsS m n).length = n := by simp [runsS]
theorem rd_set_self (l : List S67) (i : Nat) (v : S67) (h : i < l.length) : rd_T67 (l.set i v) (i : Int) = v := by
  rw [rdS _ _ (by simpa using h)]; simp
theorem markStepS_ev (l : List S67) (m : Int) (h0 : 0 ≤ m) (hm : m + 4 * l.length ≤ 4000000000000000000) : Ev (fun k => laws_markStepS.f k l m) (m + 4 * l.length, runsS m l.length) := by
  have key : ∀ i, i ≤ l.length → ∀ acc : List S67, acc.length = l.length → acc.take i = runsS m i → Ev (fun k => laws_markStepS.l0 k acc (m + 4 * i) (i : Int)) (m + 4 * l.length, runsS m l.length) := by
    refine down (n := l.length) ?_ ?_
    · intro acc ha ht
      refine Ev.step (fun k => by rw [laws_markStepS.l0]) (evn (by omega) (evs ?_))
      rw [← ht, List.take_of_length_le (by omega)]
    · intro i hi ih acc ha ht
      refine Ev.step (fun k => by rw [laws_markStepS.l0]) ?_
      refine evp (by omega) (evp (by omega) ?_)
      simp only [Option.bind_some]
      rw [w64 (n := m + 4 * i + 1) (by omega) (by omega), w64 (n := m + 4 * i + 1 + 1) (by omega) (by omega), w64 (n := m + 4 * i + 1 + 1 + 1) (by omega) (by omega), w64 (n := m + 4 * i + 1 + 1 + 1 + 1) (by omega) (by omega), w64 (n := (i : Int) + 1) (by omega) (by omega), Int.toNat_natCast]
      have := ih (acc.set i ⟨m + 4 * i, m + 4 * i + 1, m + 4 * i + 2, m + 4 * i + 3⟩) (by simpa using ha) (by
        rw [set_take _ _ _ (by omega), ht]
        simp [runsS, List.range_succ])
      have rs : ∀ (L : List S67) (v : S67), L.length = l.length → rd_T67 (L.set i v) (i : Int) = v := fun L v hL => rd_set_self L i v (by omega)
      simp only [rs _ _ ha, List.set_set]
      rw [show m + 4 * (i : Int) + 1 + 1 = m + 4 * i + 2 by omega, show m + 4 * (i : Int) + 2 + 1 = m + 4 * i + 3 by omega, show m + 4 * (i : Int) + 3 + 1 = m + 4 * ((i + 1 : Nat) : Int) by omega]
      exact this
  have := key 0 (Nat.zero_le _) l rfl (by simp [runsS])
  unfold laws_markStepS.f
  simpa using this
theorem heldStepS_ev (n : Nat) (m : Int) (h0 : 0 ≤ m) (hm : m + 4 * n ≤ 4000000000000000000) : Ev (fun k => laws_heldStepS.f k (runsS m n) m) (m + 4 * n) := by
  have key : ∀ i, i ≤ n → Ev (fun k => laws_heldStepS.l0 k (runsS m n) (m + 4 * i) (i : Int)) (m + 4 * n) := by
    refine down (n := n) ?_ ?_
    · exact Ev.step (fun k => by rw [laws_heldStepS.l0]) (evn (by rw [runsS_len]; omega) (evs rfl))
    · intro i hi ih
      refine Ev.step (fun k => by rw [laws_heldStepS.l0]) (evp (by rw [runsS_len]; omega) (evp (by omega) ?_))
      rw [rdS _ _ (by rw [runsS_len]; exact hi), show (runsS m n)[i]'(by rw [runsS_len]; exact hi) = ⟨m + 4 * i, m + 4 * i + 1, m + 4 * i + 2, m + 4 * i + 3⟩ by simp [runsS]]
      rw [w64 (n := m + 4 * i + 1) (by omega) (by omega), w64 (n := m + 4 * i + 1 + 1) (by omega) (by omega), w64 (n := m + 4 * i + 1 + 1 + 1) (by omega) (by omega), w64 (n := m + 4 * i + 1 + 1 + 1 + 1) (by omega) (by omega), w64 (n := (i : Int) + 1) (by omega) (by omega)]
      refine evp rfl (evp rfl (evp ?_ (evp ?_ ?_)))
      · show m + 4 * (i : Int) + 2 = _; omega
      · show m + 4 * (i : Int) + 3 = _; omega
      rw [show m + 4 * (i : Int) + 1 + 1 + 1 + 1 = m + 4 * ((i + 1 : Nat) : Int) by omega]
      exact ih
  have := key 0 (Nat.zero_le _)
  unfold laws_heldStepS.f
  simpa using this
end Go.Proofs.Ytlhlmjklajdejaa.Q


namespace Go.Proofs.Ytlhlmjklajdejaa.Q
set_option linter.unusedVariables false
set_option linter.unusedSimpArgs false
open Go.RowKit Go.Proofs.Ytlhlmjklajdejaa.P Go.Proofs.YtlhlmjklajdejaaW.PrintWords Go.Proofs.YtlhlmjklajdejaaW.PrintMore
theorem planGoS_eq (l : List S67) (t : List Bool) : planGoS l t = planGo l t := by
  induction l generalizing t with
  | nil => rfl
  | cons x r ih => simp only [planGoS, planGo, ih]; rfl
theorem planSpec_eq (l : List S67) : spec_PlanOk.f l = some (planOk l) := by
  show some (planOkS l) = some (planOk l)
  unfold planOkS planOk
  rw [planGoS_eq, Bool.and_comm]; rfl
def inKeys (x : S67) : Prop := 0 ≤ x.f0 ∧ x.f0 ≤ 11 ∧ 0 ≤ x.f1 ∧ x.f1 ≤ 11 ∧ x.f1 = (x.f0 + 1) % 12
theorem stepOk_in {x : S67} {t : List Bool} (h : stepOk x t = true) : inKeys x := by
  simp [stepOk] at h; unfold inKeys; omega
theorem planGo_in {l : List S67} {t : List Bool} (h : planGo l t = true) : ∀ x ∈ l, inKeys x := by
  induction l generalizing t with
  | nil => simp
  | cons y r ih =>
    simp only [planGo, Bool.and_eq_true] at h
    intro x hx
    rcases List.mem_cons.1 hx with rfl | hx
    · exact stepOk_in h.1
    · exact ih h.2 x hx
theorem planOk_in {l : List S67} (h : planOk l = true) : ∀ x ∈ l, inKeys x := by
  simp only [planOk, Bool.and_eq_true] at h; exact planGo_in h.2
theorem planOk_len {l : List S67} (h : planOk l = true) : l.length ≤ 11 := by
  simp only [planOk, Bool.and_eq_true, decide_eq_true_eq] at h; exact h.1
theorem rd_get (l : List Int) (i : Int) : rd l i = l.getD i.toNat 0 := rfl
end Go.Proofs.Ytlhlmjklajdejaa.Q


namespace Go.Proofs.Ytlhlmjklajdejaa.Q
set_option linter.unusedVariables false
set_option linter.unusedSimpArgs false
open Go.RowKit Go.Proofs.Ytlhlmjklajdejaa.P Go.Proofs.YtlhlmjklajdejaaW.PrintWords Go.Proofs.YtlhlmjklajdejaaW.PrintMore
def stepTo (c : Int) : List S67 → Nat → Int
  | [], _ => -1
  | x :: r, j => if x.f1 = c then (j : Int) else stepTo c r (j + 1)
theorem stepTo_ev (l : List S67) (c : Int) (hl : l.length ≤ 4000000) : Ev (fun n => spec_l20Step.f n l c) (stepTo c l 0) := by
  have key : ∀ i, i ≤ l.length → Ev (fun n => spec_l20Step.l0 n l c (i : Int)) (stepTo c (l.drop i) i) := by
    refine down (n := l.length) ?_ ?_
    · refine Ev.step (fun n => by rw [spec_l20Step.l0]) (evn (by omega) (evs ?_))
      rw [drop_end]; rfl
    · intro i hi ih
      refine Ev.step (fun n => by rw [spec_l20Step.l0]) ?_
      refine evp (by omega) (evp (by omega) ?_)
      rw [rdS l i hi, drop_cons l i hi, stepTo]
      by_cases h : l[i].f1 = c
      · exact rpos h <| evp h (Ev.now _)
      · refine rneg h <| evn h ?_
        rw [w64 (by omega) (by omega)]
        exact ih
  exact key 0 (Nat.zero_le _)
theorem stepTo_lt (c : Int) (l : List S67) (j d : Nat) : (0 ≤ stepTo c l j ∧ stepTo c l j < ((j + d : Nat) : Int)) ↔ ∃ x ∈ l.take d, x.f1 = c := by
  induction l generalizing j d with
  | nil => simp [stepTo]
  | cons x r ih =>
    unfold stepTo
    cases d with
    | zero =>
      simp only [List.take_zero, List.not_mem_nil, false_and, exists_false, iff_false]
      by_cases h : x.f1 = c
      · rw [if_pos h]; omega
      · rw [if_neg h]
        have := ih (j + 1) 0
        simp at this
        have h1 := this
        intro h2
        have : ∀ (l : List S67) (j : Nat), stepTo c l j = -1 ∨ (j : Int) ≤ stepTo c l j := by
          intro l
          induction l with
          | nil => intro j; exact .inl rfl
          | cons y s ih2 =>
            intro j; unfold stepTo; split
            · exact .inr (Int.le_refl _)
            · rcases ih2 (j + 1) with h | h
              · exact .inl h
              · exact .inr (by omega)
        rcases this r (j + 1) with h3 | h3 <;> omega
    | succ d =>
      rw [List.take_succ_cons]
      by_cases h : x.f1 = c
      · rw [if_pos h]
        exact ⟨fun _ => ⟨x, List.mem_cons_self, h⟩, fun _ => ⟨by omega, by omega⟩⟩
      · rw [if_neg h]
        have := ih (j + 1) d
        rw [show j + 1 + d = j + (d + 1) by omega] at this
        rw [this]
        constructor
        · rintro ⟨y, hy, e⟩; exact ⟨y, List.mem_cons_of_mem _ hy, e⟩
        · rintro ⟨y, hy, e⟩
          rcases List.mem_cons.1 hy with rfl | hy
          · exact absurd e h
          · exact ⟨y, hy, e⟩
theorem tunedBy_len (l : List S67) (t : List Bool) : (P.tunedBy l t).length = t.length := by
  unfold P.tunedBy
  induction l generalizing t with
  | nil => rfl
  | cons x r ih => rw [List.foldl_cons, ih, List.length_set]
theorem tunedBy_get (l : List S67) (t : List Bool) (hin : ∀ x ∈ l, 0 ≤ x.f1) (c : Nat) (hc : c < t.length) : (P.tunedBy l t)[c]? = some (t[c] || l.any (fun x => decide (x.f1 = (c : Int)))) := by
  unfold P.tunedBy
  induction l generalizing t with
  | nil => simp [hc]
  | cons x r ih =>
    rw [List.foldl_cons, ih _ (fun y hy => hin y (List.mem_cons_of_mem _ hy)) (by simpa using hc)]
    have := hin x List.mem_cons_self
    simp only [List.any_cons, List.getElem_set]
    by_cases h : x.f1 = (c : Int)
    · rw [if_pos (by omega)]; simp [h]
    · rw [if_neg (by omega)]; simp [h]
theorem workOk_spec (p : List S67) (d : Int) (q : List Int) : Ev (fun n => spec_WorkOk.f n p d q) (workOk p d q) := by
  have jt : Ev (fun n => spec_WorkOk.j0 n true p d q) false := Ev.step (fun n => by rw [spec_WorkOk.j0]) (evp rfl (Ev.now _))
  unfold spec_WorkOk.f workOk
  refine evb (planSpec_eq p) ?_
  by_cases hp : planOk p = true
  rotate_left
  · rw [show planOk p = false by simpa using hp, Bool.false_and]; exact evn (by simp) jt
  refine evp hp (evb (l01In_eq _ _ _) ?_)
  rw [hp, Bool.true_and]
  by_cases hd : 0 ≤ d ∧ d ≤ (p.length : Int)
  rotate_left
  · rw [decide_eq_false hd, Bool.false_and]; exact evn (by simp) jt
  rw [decide_eq_true hd, Bool.true_and]
  refine evp rfl ?_
  by_cases hq : q.length = 12
  rotate_left
  · rw [decide_eq_false hq, Bool.false_and, show ((q.length : Int) != 12) = true by simpa using (show ¬ (q.length : Int) = 12 by omega)]; exact jt
  rw [decide_eq_true hq, Bool.true_and, show ((q.length : Int) != 12) = false by simpa using (show (q.length : Int) = 12 by omega)]
  have hl := planOk_len hp
  have hin := planOk_in hp
  obtain ⟨T, hT⟩ : ∃ T, P.tunedBy (p.take d.toNat) tuned0 = T := ⟨_, rfl⟩
  have hTl : T.length = 12 := by rw [← hT, tunedBy_len]; rfl
  have hTi : ∀ c : Nat, (hc : c < T.length) → T[c] = (decide (c = 0) || decide (0 ≤ stepTo (c : Int) p 0 ∧ stepTo (c : Int) p 0 < d)) := by
    intro c hc
    have h1 := tunedBy_get (p.take d.toNat) tuned0 (fun x hx => (hin x (List.mem_of_mem_take hx)).2.2.1) c (show c < 12 by omega)
    rw [hT, List.getElem?_eq_getElem hc] at h1
    rw [Option.some.inj h1]
    congr 1
    · have : ∀ c, (h : c < tuned0.length) → tuned0[c] = decide (c = 0) := by decide
      exact this c _
    · have h2 := stepTo_lt (c : Int) p 0 d.toNat
      rw [Nat.zero_add, Int.toNat_of_nonneg hd.1] at h2
      rw [Bool.eq_iff_iff, decide_eq_true_iff, h2]
      simp
  rw [hT]
  have key : ∀ i : Nat, i ≤ 12 → Ev (fun n => spec_WorkOk.l0 n (i : Int) p d q) (keyGo (T.drop i) (q.drop i)) := by
    refine down (n := 12) ?_ ?_
    · refine Ev.step (fun n => by rw [spec_WorkOk.l0]) (evn (by omega) (evs ?_))
      rw [List.drop_eq_nil_of_le (by omega)]; rfl
    · intro i hi ih
      refine Ev.step (fun n => by rw [spec_WorkOk.l0]) ?_
      refine evp (by omega) (Ev.bind (stepTo_ev p _ (by omega)) ?_)
      rw [rd_nat q i (by omega), drop_cons T i (by omega), drop_cons q i (by omega), keyGo, hTi i (by omega), w64 (n := (i : Int) + 1) (by omega) (by omega)]
      have fin : ∀ v : Bool, Ev (fun n => (spec_l18Pitch.f q[i]).bind fun t => if t = true then spec_WorkOk.l0 n (((i + 1 : Nat)) : Int) p d q else some false) (decide (1 ≤ q[i] ∧ q[i] ≤ 10000000) && keyGo (T.drop (i + 1)) (q.drop (i + 1))) := by
        intro v
        refine evb (pitch_eq _) ?_
        by_cases hf : fine q[i] = true
        · rw [show decide (1 ≤ q[i] ∧ q[i] ≤ 10000000) = true from hf, Bool.true_and]; exact evp hf ih
        · rw [show decide (1 ≤ q[i] ∧ q[i] ≤ 10000000) = false by simpa [fine] using hf, Bool.false_and]; exact evn hf (Ev.now _)
      have zer : Ev (fun n => if 0 ≤ (i : Int) then (if (i : Int) < (q.length : Int) then (if q[i] = 0 then spec_WorkOk.l0 n (((i + 1 : Nat)) : Int) p d q else some false) else none) else none) (decide (q[i] = 0) && keyGo (T.drop (i + 1)) (q.drop (i + 1))) := by
        refine evp (by omega) (evp (by omega) ?_)
        by_cases hz : q[i] = 0
        · rw [decide_eq_true hz, Bool.true_and]; exact evp hz ih
        · rw [decide_eq_false hz, Bool.false_and]; exact evn hz (Ev.now _)
      by_cases h0 : i = 0
      · refine evp (by omega) (evp (by omega) (evp (by omega) ?_))
        rw [decide_eq_true h0, Bool.true_or, if_pos rfl]
        exact fin true
      refine evn (by omega) ?_
      rw [decide_eq_false h0, Bool.false_or]
      by_cases h1 : 0 ≤ stepTo (i : Int) p 0
      rotate_left
      · rw [decide_eq_false (fun h => h1 h.1), if_neg (by simp)]; exact evn (by omega) zer
      refine evp (by omega) ?_
      by_cases h2 : stepTo (i : Int) p 0 < d
      · rw [decide_eq_true ⟨h1, h2⟩, if_pos rfl]; exact evp h2 (evp (by omega) (evp (by omega) (fin true)))
      · rw [decide_eq_false (fun h => h2 h.2), if_neg (by simp)]; exact evn h2 zer
  refine Ev.step (fun n => by rw [spec_WorkOk.j0]) (evn (by decide) ?_)
  exact key 0 (by omega)
theorem workImpl_eq (p : List S67) (d : Int) (q : List Int) : impl_WorkOk.f p d q = some (workOk p d q) := rfl
theorem workOk_len {p : List S67} {d : Int} {q : List Int} (h : workOk p d q = true) : q.length = 12 := by
  simp only [workOk, Bool.and_eq_true, decide_eq_true_eq] at h; exact h.2.2.1
end Go.Proofs.Ytlhlmjklajdejaa.Q


namespace Go.Proofs.Ytlhlmjklajdejaa.Q
set_option linter.unusedVariables false
set_option linter.unusedSimpArgs false
open Go.RowKit Go.Proofs.Ytlhlmjklajdejaa.P Go.Proofs.YtlhlmjklajdejaaW.PrintWords Go.Proofs.YtlhlmjklajdejaaW.PrintMore
theorem copyPlan_eq (p : List S67) (hp : p.length ≤ 4000000) : impl_copyPlan.f p = some p := by
  unfold impl_copyPlan.f; simp only [Option.bind_some]; rw [if_pos (by simp; omega)]; simp
theorem l19Copy_eq (p : List S67) (hp : p.length ≤ 4000000) : spec_l19Copy.f p = some p := by
  unfold spec_l19Copy.f; simp only [Option.bind_some]; rw [if_pos (by simp; omega)]; simp
theorem l02Copy_eq (p : List Int) (hp : p.length ≤ 4000000) : spec_l02Copy.f p = some p := by
  unfold spec_l02Copy.f; simp only [Option.bind_some]; rw [if_pos (by simp; omega)]; simp
theorem copyWork_eq (p : List S67) (d : Int) (q : List Int) (hp : p.length ≤ 4000000) (hq : q.length ≤ 4000000) : impl_copyWork.f p d q = some (p, d, q) := by
  unfold impl_copyWork.f; rw [copyPlan_eq p hp]; simp only [Option.bind_some]; rw [if_pos (by simp; omega)]; simp
theorem l36Copy_eq (p : List S67) (d : Int) (q : List Int) (hp : p.length ≤ 4000000) (hq : q.length ≤ 4000000) : spec_l36Copy.f p d q = some (p, d, q) := by
  unfold spec_l36Copy.f; rw [l19Copy_eq p hp]; simp only [Option.bind_some]; rw [l02Copy_eq q hq]; rfl
end Go.Proofs.Ytlhlmjklajdejaa.Q


namespace Go.Proofs.Ytlhlmjklajdejaa.Q
set_option linter.unusedVariables false
set_option linter.unusedSimpArgs false
open Go.RowKit Go.Proofs.Ytlhlmjklajdejaa.P Go.Proofs.YtlhlmjklajdejaaW.PrintWords Go.Proofs.YtlhlmjklajdejaaW.PrintMore
def knocked (q : List Int) (c x : Int) : List Int := q.set c.toNat (wrap64 (q.getD c.toNat 0 + x))
def knockKey (p : List S67) (d : Int) (q : List Int) (c x : Int) : List S67 × Int × List Int × Bool :=
  if workOk p d q = true ∧ (0 ≤ c ∧ c ≤ 11) ∧ (-100000 ≤ x ∧ x ≤ 100000) ∧ q.getD c.toNat 0 ≠ 0 then
    if workOk p d (knocked q c x) = true then (p, d, knocked q c x, true) else (p, d, q, false)
  else (p, d, q, false)
theorem knock_impl (p : List S67) (d : Int) (q : List Int) (c x : Int) (hp : p.length ≤ 4000000) (hq : q.length ≤ 4000000) : Ev (fun n => impl_KnockKey.f n p d q c x) (knockKey p d q c x) := by
  have jt : Ev (fun n => impl_KnockKey.j0 n c x true p d q p d q) (p, d, q, false) := Ev.step (fun n => by rw [impl_KnockKey.j0]) (evp rfl (Ev.now _))
  unfold impl_KnockKey.f knockKey
  refine evb (copyWork_eq p d q hp hq) (evb (workImpl_eq p d q) ?_)
  by_cases h : workOk p d q = true
  rotate_left
  · exact rneg (fun h2 => h h2.1) <| evn h jt
  have hl := workOk_len h
  refine evp h (evb (within_eq _ _ _) ?_)
  by_cases hc : 0 ≤ c ∧ c ≤ 11
  rotate_left
  · exact rneg (fun h2 => hc h2.2.1) <| evn (bfalse hc) jt
  refine evp (btrue hc) (evp hc.1 (evp (by omega) ?_))
  rw [rd_get]
  by_cases hz : q.getD c.toNat 0 = 0
  · exact rneg (fun h2 => h2.2.2.2 hz) <| evp hz jt
  refine evn hz (evb (within_eq _ _ _) ?_)
  by_cases hx : -100000 ≤ x ∧ x ≤ 100000
  rotate_left
  · rw [decide_eq_false hx]; exact rneg (fun h2 => hx h2.2.2.1) jt
  rw [decide_eq_true hx]
  refine rpos ⟨h, hc, hx, hz⟩ ?_
  refine Ev.step (fun n => by rw [impl_KnockKey.j0]) ?_
  refine evn (by decide) (evp hc.1 (evp (by show c < (q.length : Int); omega) ?_))
  simp only [Option.bind_some, rd_get]
  refine evb (workImpl_eq p d _) ?_
  by_cases h3 : workOk p d (knocked q c x) = true
  · exact rpos h3 <| evp h3 (Ev.now _)
  · exact rneg h3 <| evn h3 (evb (copyWork_eq p d q hp hq) (Ev.now _))
theorem knock_spec (p : List S67) (d : Int) (q : List Int) (c x : Int) (hp : p.length ≤ 4000000) (hq : q.length ≤ 4000000) : Ev (fun n => spec_KnockKey.f n p d q c x) (knockKey p d q c x) := by
  have jt : Ev (fun n => spec_KnockKey.j0 n c x true p d q p d q) (p, d, q, false) := Ev.step (fun n => by rw [spec_KnockKey.j0]) (evp rfl (Ev.now _))
  unfold spec_KnockKey.f knockKey
  refine evb (l36Copy_eq p d q hp hq) (Ev.bind (workOk_spec p d q) ?_)
  by_cases h : workOk p d q = true
  rotate_left
  · exact rneg (fun h2 => h h2.1) <| evn h jt
  have hl := workOk_len h
  refine evp h (evb (l01In_eq _ _ _) ?_)
  by_cases hc : 0 ≤ c ∧ c ≤ 11
  rotate_left
  · exact rneg (fun h2 => hc h2.2.1) <| evn (bfalse hc) jt
  refine evp (btrue hc) (evb (l01In_eq _ _ _) ?_)
  by_cases hx : -100000 ≤ x ∧ x ≤ 100000
  rotate_left
  · exact rneg (fun h2 => hx h2.2.2.1) <| evn (bfalse hx) jt
  refine evp (btrue hx) (evp hc.1 (evp (by omega) ?_))
  rw [rd_get]
  by_cases hz : q.getD c.toNat 0 = 0
  · rw [show (q.getD c.toNat 0 == 0) = true by rw [hz]; rfl]; exact rneg (fun h2 => h2.2.2.2 hz) jt
  rw [show (q.getD c.toNat 0 == 0) = false from beq_eq_false_iff_ne.mpr hz]
  refine rpos ⟨h, hc, hx, hz⟩ ?_
  refine Ev.step (fun n => by rw [spec_KnockKey.j0]) ?_
  refine evn (by decide) (evp hc.1 (evp (by show c < (q.length : Int); omega) ?_))
  simp only [Option.bind_some, rd_get]
  refine Ev.bind (workOk_spec p d _) ?_
  by_cases h3 : workOk p d (knocked q c x) = true
  · exact rpos h3 <| evp h3 (Ev.now _)
  · exact rneg h3 <| evn h3 (evb (l36Copy_eq p d q hp hq) (Ev.now _))
theorem knockKey_len (p : List S67) (d : Int) (q : List Int) (c x : Int) : (knockKey p d q c x).1 = p ∧ (knockKey p d q c x).2.2.1.length = q.length := by
  unfold knockKey; split
  · split
    · exact ⟨rfl, by simp [knocked]⟩
    · exact ⟨rfl, rfl⟩
  · exact ⟨rfl, rfl⟩
end Go.Proofs.Ytlhlmjklajdejaa.Q


namespace Go.Proofs.Ytlhlmjklajdejaa.Q
set_option linter.unusedVariables false
set_option linter.unusedSimpArgs false
open Go.RowKit Go.Proofs.Ytlhlmjklajdejaa.P Go.Proofs.YtlhlmjklajdejaaW.PrintWords Go.Proofs.YtlhlmjklajdejaaW.PrintMore
theorem toIntS_ev (l : List Int) (hl : l.length ≤ 1048576) : Ev (fun k => laws_toIntS.f k l) l := by
  have key : ∀ i, i ≤ l.length → ∀ acc : List Int, acc.length = l.length → Ev (fun k => laws_toIntS.l0 k l acc (i : Int)) (acc.take i ++ l.drop i) := by
    refine down (n := l.length) ?_ ?_
    · intro acc ha
      refine Ev.step (fun k => by rw [laws_toIntS.l0]) (evn (by omega) (evs ?_))
      rw [drop_end, List.append_nil, List.take_of_length_le (by omega)]
    · intro i hi ih acc ha
      refine Ev.step (fun k => by rw [laws_toIntS.l0]) (evp (by omega) (evp (by omega) (evp (by omega) ?_)))
      rw [w64 (by omega) (by omega), rd_nat l i hi, Int.toNat_natCast]
      have := ih (acc.set i l[i]) (by simpa using ha)
      rw [set_take _ _ _ (by omega), List.append_assoc] at this
      rw [drop_cons l i hi]
      exact this
  have := key 0 (Nat.zero_le _) (List.replicate l.length 0) (by simp)
  unfold laws_toIntS.f
  refine evp (by omega) (evp (by omega) ?_)
  simpa using this
theorem eqIntS_ev (l : List Int) (hl : l.length ≤ 9000000000000000000) : Ev (fun k => laws_eqIntS.f k l l) true := by
  have key : ∀ i, i ≤ l.length → Ev (fun k => laws_eqIntS.l0 k l l (i : Int)) true := by
    refine down (n := l.length) ?_ ?_
    · exact Ev.step (fun k => by rw [laws_eqIntS.l0]) (evn (by omega) (evs rfl))
    · intro i hi ih
      refine Ev.step (fun k => by rw [laws_eqIntS.l0]) (evp (by omega) (evp (by omega) (evp (by omega) (evp rfl ?_))))
      rw [w64 (by omega) (by omega)]
      exact ih
  unfold laws_eqIntS.f
  exact evp rfl (key 0 (Nat.zero_le _))
def runs (k : Int) (n : Nat) : List Int := (List.range n).map (fun (j : Nat) => k + j)
theorem runs_len (k : Int) (n : Nat) : (runs k n).length = n := by simp [runs]
theorem markIntS_ev (l : List Int) (m : Int) (h0 : 0 ≤ m) (hm : m + l.length ≤ 4000000000000000000) : Ev (fun k => laws_markIntS.f k l m) (m + l.length, runs m l.length) := by
  have key : ∀ i, i ≤ l.length → ∀ acc : List Int, acc.length = l.length → acc.take i = runs m i → Ev (fun k => laws_markIntS.l0 k acc (m + i) (i : Int)) (m + l.length, runs m l.length) := by
    refine down (n := l.length) ?_ ?_
    · intro acc ha ht
      refine Ev.step (fun k => by rw [laws_markIntS.l0]) (evn (by omega) (evs ?_))
      rw [← ht, List.take_of_length_le (by omega)]
    · intro i hi ih acc ha ht
      refine Ev.step (fun k => by rw [laws_markIntS.l0]) (evp (by omega) (evp (by omega) ?_))
      rw [w64 (by omega) (by omega), w64 (by omega) (by omega), Int.toNat_natCast]
      have := ih (acc.set i (m + i)) (by simpa using ha) (by
        rw [set_take _ _ _ (by omega), ht]
        simp [runs, List.range_succ])
      rw [Int.add_assoc]
      exact this
  have := key 0 (Nat.zero_le _) l rfl (by simp [runs])
  unfold laws_markIntS.f
  simpa using this
theorem heldIntS_ev (n : Nat) (m : Int) (h0 : 0 ≤ m) (hm : m + n ≤ 4000000000000000000) : Ev (fun k => laws_heldIntS.f k (runs m n) m) (m + n) := by
  have key : ∀ i, i ≤ n → Ev (fun k => laws_heldIntS.l0 k (runs m n) (m + i) (i : Int)) (m + n) := by
    refine down (n := n) ?_ ?_
    · exact Ev.step (fun k => by rw [laws_heldIntS.l0]) (evn (by rw [runs_len]; omega) (evs rfl))
    · intro i hi ih
      refine Ev.step (fun k => by rw [laws_heldIntS.l0]) (evp (by rw [runs_len]; omega) (evp (by omega) (evp ?_ ?_)))
      · rw [rd_nat _ _ (by rw [runs_len]; exact hi)]; simp [runs]
      · rw [w64 (by omega) (by omega), w64 (by omega) (by omega), Int.add_assoc]
        exact ih
  have := key 0 (Nat.zero_le _)
  unfold laws_heldIntS.f
  simpa using this
end Go.Proofs.Ytlhlmjklajdejaa.Q


namespace Go.Proofs.Ytlhlmjklajdejaa.Q
set_option linter.unusedVariables false
set_option linter.unusedSimpArgs false
open Go.RowKit Go.Proofs.Ytlhlmjklajdejaa.P Go.Proofs.YtlhlmjklajdejaaW.PrintWords Go.Proofs.YtlhlmjklajdejaaW.PrintMore
theorem szIntS_eq (l : List Int) (m : Int) (h0 : 0 ≤ m) (hm : m ≤ 1048576) (hl : l.length ≤ 9223372036854775807) : laws_szIntS.f l m = some (if m < l.length then -1 else m - l.length) := by
  unfold laws_szIntS.f
  rw [w64 (by omega) (by omega)]
  by_cases h : m < l.length
  · rw [if_pos (by omega), if_pos h]
  · rw [if_neg (by omega), if_neg h]
theorem szWork_eq (p : List S70) (d : Int) (q : List Int) (m : Int) (h0 : 0 ≤ m) (hm : m ≤ 1048576) (hp : p.length ≤ 9223372036854775807) (hq : q.length ≤ 9223372036854775807) :
    laws_szWork.f p d q m = some (if m < p.length + q.length then -1 else m - p.length - q.length) := by
  unfold laws_szWork.f
  rw [szStepS_eq p m h0 hm hp, Option.bind_some]
  by_cases h : m < p.length
  · rw [if_pos h, if_pos (by omega), if_pos (by omega)]
  rw [if_neg h, if_neg (by omega), szIntS_eq q _ (by omega) (by omega) hq, Option.bind_some]
  by_cases h2 : m - p.length < q.length
  · rw [if_pos h2, if_pos (by omega), if_pos (by omega)]
  · rw [if_neg h2, if_neg (by omega), if_neg (by omega)]
theorem toWork_ev (p : List S70) (d : Int) (q : List Int) (hp : p.length ≤ 1048576) (hq : q.length ≤ 1048576) : Ev (fun k => laws_toWork.f k p d q) (p.map cStep, d, q) := by
  unfold laws_toWork.f
  exact Ev.bind (toStepS_ev p hp) (Ev.bind (toIntS_ev q hq) (Ev.now _))
theorem eqWork_ev (p : List S67) (d : Int) (q : List Int) (hp : p.length ≤ 9000000000000000000) (hq : q.length ≤ 9000000000000000000) : Ev (fun k => laws_eqWork.f k p d q p d q) true := by
  unfold laws_eqWork.f
  exact Ev.bind (eqStepS_ev p hp) (evp rfl (evp rfl (Ev.bind (eqIntS_ev q hq) (evp rfl (Ev.now _)))))
end Go.Proofs.Ytlhlmjklajdejaa.Q


namespace Go.Proofs.Ytlhlmjklajdejaa.Q
set_option linter.unusedVariables false
set_option linter.unusedSimpArgs false
open Go.RowKit Go.Proofs.Ytlhlmjklajdejaa.P Go.Proofs.YtlhlmjklajdejaaW.PrintWords Go.Proofs.YtlhlmjklajdejaaW.PrintMore
theorem markWork_ev (p : List S67) (d : Int) (q : List Int) (m : Int) (h0 : 0 ≤ m) (hm : m + 4 * p.length + q.length ≤ 4000000000000000000) :
    Ev (fun k => laws_markWork.f k p d q m) (m + 4 * p.length + q.length, runsS m p.length, runs (m + 4 * p.length) q.length) := by
  unfold laws_markWork.f
  exact Ev.bind (markStepS_ev p m h0 (by omega)) (Ev.bind (markIntS_ev q _ (by omega) (by omega)) (Ev.now _))
theorem heldWork_ev (n : Nat) (d : Int) (j : Nat) (m : Int) (h0 : 0 ≤ m) (hm : m + 4 * n + j ≤ 4000000000000000000) :
    Ev (fun k => laws_heldWork.f k (runsS m n) d (runs (m + 4 * n) j) m) (m + 4 * n + j) := by
  unfold laws_heldWork.f
  exact Ev.bind (heldStepS_ev n m h0 (by omega)) (evn (by omega) (Ev.bind (heldIntS_ev j _ (by omega) (by omega)) (evn (by omega) (Ev.now _))))
end Go.Proofs.Ytlhlmjklajdejaa.Q


namespace Go.Proofs.Ytlhlmjklajdejaa.Q
set_option linter.unusedVariables false
set_option linter.unusedSimpArgs false
open Go.RowKit Go.Deep Go.ChangeShapes Go.WideShapes Go.Proofs.YtlhlmjklajdejaaW.PrintWords
def Opens {α : Type} (P : Program) (w : World) (d : Kd α) (T : TypeId) (G : α → Prop) : Prop :=
  ∀ (H : Type) (enc : TypeId × Value → H) (base : Nat) (spare : Nat → Bool) (held : Bool) (fuel : Nat) (cs : List Value) (x : DataW H × List MemPlace),
    DataW.trod enc P w base spare held fuel T cs = some x → ∃ v, d.K w v cs ∧ G v
def OpensFs {α : Type} (P : Program) (w : World) (d : Kd α) (off : Nat) (fs : Array Field) (i : Nat) (G : α → Prop) : Prop :=
  ∀ (H : Type) (enc : TypeId × Value → H) (base : Nat) (spare : Nat → Bool) (held : Bool) (fuel : Nat) (cs : List Value), cs.length = off + d.sz →
    (∀ j f, i ≤ j → fs[j]? = some f → ∃ y : DataW H × List MemPlace, DataW.trod enc P w base spare held fuel f.type ((cs.drop f.offset).take (P.cellsOf f.type)) = some y) → ∃ v, d.K w v (cs.drop off) ∧ G v
section
variable {P : Program} {w : World}
theorem Opens.int {k : IntKind} {T : TypeId} (ht : P.underlying T = some (.int k)) : Opens P w (Kd.int k) T (fun n => (Lit.int k n).wf = true) := by
  intro H enc base spare held fuel cs x hx
  obtain ⟨n, rfl, _, hw⟩ := DataW.trod_int ht hx
  exact ⟨n, rfl, hw⟩
theorem Opens.slice {α : Type} (z : α) {d : Kd α} {E T : TypeId} {G : α → Prop} (ht : P.underlying T = some (.slice E)) (hC : P.cellsOf E = d.sz) (h : Opens P w d E G) :
    Opens P w (Kd.slice E d) T (fun l => l.length ≤ 9223372036854775807 ∧ ∀ x ∈ l, G x) := by
  haveI : Inhabited α := ⟨z⟩
  intro H enc base spare held fuel cs x hx
  rcases open_slice ht hx with ⟨rfl, _⟩ | ⟨a, len, cap, m, n, D, Pl, rfl, hb, hl, hm, hmm, _, hi⟩
  · exact ⟨[], ⟨none, 0, rfl, Nat.le_refl _, rfl, by simp, fun h => absurd h (by simp)⟩, by simp, by simp⟩
  · have hlm : len ≤ m := by rw [hmm]; split <;> omega
    obtain ⟨V, hV⟩ := choose_lt (α := α) (n := len) (p := fun i v => G v ∧ ∃ c, c.length = d.sz ∧ d.K w v c ∧ ∀ j u, c[j]? = some u → w.cell? (a.add (i * d.sz + j)) = some u) (fun i hil => by
      obtain ⟨cs', h1, h2⟩ := hi i (by omega)
      obtain ⟨v, hv, g⟩ := h H enc base spare held n cs' _ h2
      obtain ⟨_, hcl, hat⟩ := World.cells?_some h1
      refine ⟨v, g, cs', by rw [hcl, hC], hv, fun j u hu => ?_⟩
      have hj : j < P.cellsOf E := by rw [← hcl]; exact (List.getElem?_eq_some_iff.1 hu).1
      have := hat j hj
      rw [hC, Go.Deep.add_add] at this
      rw [this, hu])
    refine ⟨(List.range len).map V, ⟨some a, cap, by simp, by simpa using hl, by simp, by have := hm; unfold maxLen at this; simp; omega, fun _ => ⟨a, rfl, fun j p hj => ?_⟩⟩, ?_⟩
    · have hj' : j < len := by have := (List.getElem?_eq_some_iff.1 hj).1; simpa using this
      obtain rfl : V j = p := by simpa [hj'] using hj
      exact (hV j hj').2
    · refine ⟨by have := hm; unfold maxLen at this; simp; omega, fun x hx => ?_⟩
      obtain ⟨i, hi, rfl⟩ := List.mem_map.1 hx
      exact (hV i (List.mem_range.1 hi)).1
theorem OpensFs.one {α : Type} {d : Kd α} {off i : Nat} {fs : Array Field} {f : Field} {G : α → Prop} (hf : fs[i]? = some f) (h : Opens P w d f.type G) (ho : f.offset = off) (hc : P.cellsOf f.type = d.sz) : OpensFs P w d off fs i G := by
  intro H enc base spare held fuel cs hlen hfs
  obtain ⟨y, hy⟩ := hfs i f (Nat.le_refl _) hf
  rw [ho, hc, List.take_of_length_le (by simp [hlen])] at hy
  exact h H enc base spare held fuel _ _ hy
theorem OpensFs.more {α β : Type} {d : Kd α} {d2 : Kd β} {off i : Nat} {fs : Array Field} {f : Field} {G : α → Prop} {G2 : β → Prop} (hf : fs[i]? = some f) (h : Opens P w d f.type G) (ho : f.offset = off) (hc : P.cellsOf f.type = d.sz)
    (h2 : OpensFs P w d2 (off + d.sz) fs (i + 1) G2) : OpensFs P w (Kd.pair d d2) off fs i (fun x => G x.1 ∧ G2 x.2) := by
  intro H enc base spare held fuel cs hlen hfs
  have hlen' : cs.length = off + (d.sz + d2.sz) := hlen
  obtain ⟨y, hy⟩ := hfs i f (Nat.le_refl _) hf
  rw [ho, hc] at hy
  obtain ⟨v, hv, g⟩ := h H enc base spare held fuel _ _ hy
  obtain ⟨v2, hv2, g2⟩ := h2 H enc base spare held fuel cs (by omega) (fun j f' hj hf' => hfs j f' (by omega) hf')
  refine ⟨(v, v2), ⟨_, _, ?_, hv, hv2⟩, g, g2⟩
  rw [← List.drop_drop, List.take_append_drop]
theorem Opens.pairs {α : Type} {d : Kd α} {T : TypeId} {fs : Array Field} {G : α → Prop} (ht : P.underlying T = some (.struct fs)) (hC : P.cellsOf T = d.sz) (h : OpensFs P w d 0 fs 0 G) : Opens P w d T G := by
  intro H enc base spare held fuel cs x hx
  obtain ⟨xs, n, _, _, hlen, hxl, hat⟩ := DataW.trod_struct ht hx
  exact h H enc base spare held n cs (by rw [hlen, hC, Nat.zero_add]) (fun j f' _ hf' => by
    have hi' : j < fs.size := (Array.getElem?_eq_some_iff.1 hf').1
    have e := hat j f' hf'
    rw [List.getElem?_eq_getElem (by omega)] at e
    exact ⟨_, e⟩)
theorem Opens.struct {α β : Type} {d : Kd α} {T : TypeId} {fs : Array Field} {f : β → α} {G0 : α → Prop} {G : β → Prop} (g : α → β) (ht : P.underlying T = some (.struct fs)) (hC : P.cellsOf T = d.sz) (hfg : ∀ x, f (g x) = x)
    (h : OpensFs P w d 0 fs 0 G0) (hg : ∀ x, G0 x → G (g x)) : Opens P w (Kd.iso d f) T G := by
  intro H enc base spare held fuel cs x hx
  obtain ⟨v, hv, g0⟩ := Opens.pairs ht hC h H enc base spare held fuel cs x hx
  refine ⟨g v, ?_, hg v g0⟩
  show d.K w (f (g v)) cs
  rw [hfg]
  exact hv
end
end Go.Proofs.Ytlhlmjklajdejaa.Q


namespace Go.Proofs.Ytlhlmjklajdejaa.Q
open Go.RowKit Go.Proofs.Ytlhlmjklajdejaa.P Go.Proofs.YtlhlmjklajdejaaW.PrintWords
def good70 (x : S70) : Prop := ((Lit.int .i64 x.f0).wf = true ∧ (Lit.int .i64 x.f1).wf = true ∧ (Lit.int .i64 x.f2).wf = true ∧ (Lit.int .i64 x.f3).wf = true)
theorem op70 {w : World} : Opens Try.prog w k70 70 good70 := (Opens.struct (fun x => (⟨x.1, x.2.1, x.2.2.1, x.2.2.2⟩ : S70)) (G := good70) Try.underlying70 (by kernel_rfl) (fun _ => rfl) (OpensFs.more rfl (Opens.int Try.underlying3) rfl (by kernel_rfl) (OpensFs.more rfl (Opens.int Try.underlying3) rfl (by kernel_rfl) (OpensFs.more rfl (Opens.int Try.underlying3) rfl (by kernel_rfl) (OpensFs.one rfl (Opens.int Try.underlying3) rfl (by kernel_rfl))))) (fun _ h => h))
def good3 (x : Int) : Prop := (Lit.int .i64 x).wf = true
theorem op3 {w : World} : Opens Try.prog w (Kd.int .i64) 3 good3 := (Opens.int Try.underlying3)
end Go.Proofs.Ytlhlmjklajdejaa.Q


namespace Go.Proofs.Ytlhlmjklajdejaa.Pure
set_option linter.unusedVariables false
set_option linter.unusedSimpArgs false
open Go.RowKit Go.Proofs.Ytlhlmjklajdejaa.P Go.Proofs.Ytlhlmjklajdejaa.Q Go.Proofs.YtlhlmjklajdejaaW.PrintWords Go.Proofs.YtlhlmjklajdejaaW.PrintLast
theorem FnExactKnockKey (p : List S70) (d : Int) (q : List Int) (c : Int) (x : Int) (h0 : (p.length ≤ 9223372036854775807 ∧ ∀ y ∈ p, good70 y) ∧ (Lit.int .i64 d).wf = true ∧ (q.length ≤ 9223372036854775807 ∧ ∀ y ∈ q, good3 y)) (hc : (Lit.int .i64 c).wf = true) (hx : (Lit.int .i64 x).wf = true) : ∃ k, laws_FnExactKnockKey.f k p d q c x = some true := by
  refine Ev.rounds ?_
  unfold laws_FnExactKnockKey.f
  refine evb (szWork_eq p d q 1048576 (by omega) (by omega) h0.1.1 h0.2.2.1) ?_
  by_cases h : (1048576 : Int) < p.length + q.length
  · rw [if_pos h]; exact evp (by omega) (Ev.now _)
  rw [if_neg h]
  refine evn (by omega) ?_
  have lp : (p.map cStep).length ≤ 1048576 := by simp; omega
  have T := toWork_ev p d q (by omega) (by omega)
  have E := eqWork_ev (p.map cStep) d q (by omega) (by omega)
  have M := markWork_ev (p.map cStep) d q 1 (by omega) (by omega)
  obtain ⟨R, hR⟩ : ∃ R, knockKey (p.map cStep) d q c x = R := ⟨_, rfl⟩
  have A := knock_spec (p.map cStep) d q c x (by omega) (by omega)
  have B := knock_impl (p.map cStep) d q c x (by omega) (by omega)
  rw [hR] at A B
  have L := knockKey_len (p.map cStep) d q c x
  rw [hR] at L
  have L1 : R.1.length ≤ 1048576 := by rw [L.1]; exact lp
  have L2 : R.2.2.1.length ≤ 1048576 := by rw [L.2]; omega
  have F := eqWork_ev R.1 R.2.1 R.2.2.1 (by omega) (by omega)
  have G := markWork_ev R.1 R.2.1 R.2.2.1 1 (by omega) (by omega)
  have H := heldWork_ev R.1.length R.2.1 R.2.2.1.length 1 (by omega) (by omega)
  repeat' first
    | exact Ev.now _
    | refine Ev.bind T ?_
    | refine Ev.bind E ?_
    | refine Ev.bind M ?_
    | refine Ev.bind A ?_
    | refine Ev.bind B ?_
    | refine Ev.bind F ?_
    | refine Ev.bind G ?_
    | refine Ev.bind H ?_
    | refine evp rfl ?_
    | refine evn (by first | decide | (dsimp only; omega) | simp) ?_
    | refine Ev.step (fun k => by rw [laws_FnExactKnockKey.j0]) ?_
    | refine Ev.step (fun k => by rw [laws_FnExactKnockKey.j1]) ?_
    | refine Ev.step (fun k => by rw [laws_FnExactKnockKey.j2]) ?_
end Go.Proofs.Ytlhlmjklajdejaa.Pure


namespace Go.Proofs.Ytlhlmjklajdejaa.fnExactKnockKey
open Go.ChangeShapes Go.WideShapes Go.ChangeAt Go.RowKit Go.Proofs.Ytlhlmjklajdejaa.P Go.Proofs.Ytlhlmjklajdejaa.Q Go.Proofs.YtlhlmjklajdejaaW.PrintWords
open Go.ChangeMaps (open_string shut_string)
set_option linter.unusedVariables false
set_option linter.unusedSimpArgs false
theorem own : ownKnob Try.prog.godebug = none := by kernel_rfl
theorem laidOut : laidOutB Try.prog = true := by kernel_rfl
set_option maxRecDepth 100000 in
theorem lifted (os : Os) (started : os.Started) (H : Type) (enc : TypeId × Value → H) :
    ReturnsInHanded {} Try.checked os 6 .any (Rows.fnExactKnockKeySpec.pre6 enc Try.prog Try.f6 Rows.fnExactKnockKeyRow.domain false) (Rows.fnExactKnockKeySpec.post enc Try.prog Try.f6 false true false false) := by
  refine returnsInHanded_of_change_sized (C := Try.checked) own started (by kernel_rfl) Try.func6
    (ChangeSpec.witness6 (enc := enc) (C := Try.checked) false ⟨#[], #[.agg #[.slice none 0 0, .int .i64 0, .slice none 0 0], .int .i64 0, .int .i64 0], []⟩ 8 (by kernel_rfl) (by kernel_rfl) (by kernel_rfl) (by kernel_rfl)) ?_
  intro W base args ds gs before hval0 hW hcnd hsz0 _
  have hval : ∀ (j : Nat) t v, Try.f6.params[j]? = some t → args[j]? = some v → Value.okWide Try.prog W .any base t v := hval0
  have hW' := hW
  obtain ⟨p, q, hA0, hV, rfl, hfz, hnd⟩ := hW
  have hA : DataW.TrodAll enc Try.prog W 0 (fun _ => true) true Try.f6.params.toList args.toList ds p := hA0
  rw [Try.params6] at hA hval
  obtain ⟨v0, vs0, d0, ds0, p0, q0, hargs, rfl, rfl, h0, r0⟩ := trodAll_cons hA
  obtain ⟨v1, vs1, d1, ds1, p1, q1, rfl, rfl, rfl, h1, r1⟩ := trodAll_cons r0
  obtain ⟨v2, vs2, d2, ds2, p2, q2, rfl, rfl, rfl, h2, r2⟩ := trodAll_cons r1
  obtain ⟨rfl, rfl, rfl⟩ := trodAll_nil r2
  obtain rfl : args = #[v0, v1, v2] := by cases args; simp_all
  obtain ⟨rfl, rfl⟩ := trodVars_none hV
  have k0 := h0
  have lt0 : ∀ x ∈ p0, x.block < W.heap.size := by obtain ⟨m, hm⟩ := k0; exact DataW.trod_lt m _ _ _ hm
  obtain ⟨fuel0, f0⟩ := h0
  obtain ⟨x0, K0, G0⟩ := (show Opens Try.prog W (Kd.pair (Kd.slice 70 k70) (Kd.pair (Kd.int .i64) (Kd.slice 3 (Kd.int .i64)))) 25 _ from Opens.pairs Try.underlying25 (by kernel_rfl) (OpensFs.more rfl (Opens.slice z70 Try.underlying22 (by kernel_rfl) op70) rfl (by kernel_rfl) (OpensFs.more rfl (Opens.int Try.underlying3) rfl (by kernel_rfl) (OpensFs.one rfl (Opens.slice 0 Try.underlying23 (by kernel_rfl) op3) rfl (by kernel_rfl))))) H enc 0 _ _ fuel0 _ _ f0
  obtain ⟨cs0, rfl, _⟩ := okWide_struct Try.underlying25 (hval 0 25 v0 rfl rfl)
  obtain ⟨_, _, e0, ⟨A0_0, c0_0, rfl, hc0_0, hr0_0⟩, ⟨_, _, rfl, rfl, ⟨A0_1, c0_1, rfl, hc0_1, hr0_1⟩⟩⟩ := K0
  obtain rfl : cs0 = #[.slice A0_0 x0.1.length c0_0, .int .i64 x0.2.1, .slice A0_1 x0.2.2.length c0_1] := Array.ext' e0
  have k1 := h1
  have lt1 : ∀ x ∈ p1, x.block < W.heap.size := by obtain ⟨m, hm⟩ := k1; exact DataW.trod_lt m _ _ _ hm
  obtain ⟨a1, rfl, rfl, rfl, w1⟩ := open_int Try.underlying3 (hval 1 3 v1 rfl rfl) h1
  have k2 := h2
  have lt2 : ∀ x ∈ p2, x.block < W.heap.size := by obtain ⟨m, hm⟩ := k2; exact DataW.trod_lt m _ _ _ hm
  obtain ⟨a2, rfl, rfl, rfl, w2⟩ := open_int Try.underlying3 (hval 2 3 v2 rfl rfl) h2
  obtain ⟨k, hP⟩ := Pure.FnExactKnockKey x0.1 x0.2.1 x0.2.2 a1 a2 G0 w1 w2
  refine (P.laws_FnExactKnockKey.calls k _ _ x0.1 x0.2.1 _ _ x0.2.2 a1 a2 true W hr0_0 hc0_0 hr0_1 hc0_1 hP ⟨rfl⟩).mono fun e W' ⟨he, bel0⟩ => ?_
  have bel : Below W.heap.size W W' := bel0
  subst he
  exact ⟨_, rfl, _, _, _, [], _, [], hW', trodAll_mk1 (shut_bool Try.underlying4 _), (trodAll_cons_mk (Below.trod laidOut (by kernel_rfl) (of_decide_eq_true (by kernel_rfl)) k0 bel lt0) (trodAll_cons_mk (Below.trod laidOut (by kernel_rfl) (of_decide_eq_true (by kernel_rfl)) k1 bel lt1) (trodAll_cons_mk (Below.trod laidOut (by kernel_rfl) (of_decide_eq_true (by kernel_rfl)) k2 bel lt2) trodAll_mk0))), rfl, bel.frame _, fun h => by cases h⟩
theorem over : Rows.fnExactKnockKeyRow.holds Try.pinned (OpenSpec.ofChange Rows.fnExactKnockKeySpec) :=
  OpenClaim.holds_of_wide 6 Try.f6 rfl rfl rfl rfl rfl rfl rfl ⟨rfl, rfl, rfl, rfl, rfl⟩ rfl rfl rfl rfl rfl (by kernel_rfl) Try.func6 (by kernel_rfl)
    (of_decide_eq_true (by kernel_rfl)) (by unfold Func.isWrapper; first | (rw [if_pos (by decide +kernel)]; kernel_rfl) | (rw [if_neg (by decide +kernel)]; exact ⟨rfl, rfl⟩))
    (fun os started H enc _ => lifted os started H enc)
theorem proved : Rows.FnExactKnockKeySaid := over
#print axioms proved
end Go.Proofs.Ytlhlmjklajdejaa.fnExactKnockKey
namespace Go.Proofs.Ytlhlmjklajdejaa
theorem fnExactKnockKey_holds : Rows.FnExactKnockKeySaid := fnExactKnockKey.proved
end Go.Proofs.Ytlhlmjklajdejaa

