/- What functions of the program come to (f), that their calls come to just this (calls), and the plain laws over lists and numbers. No condition but those of the given row. -/
import Derived.Test.YtlhlmjklajdejaaC4
namespace Go.Proofs.Ytlhlmjklajdejaa.P
open Go.RowKit Go.Proofs.YtlhlmjklajdejaaW.PrintWords Go.Proofs.YtlhlmjklajdejaaW.PrintLast Go.Proofs.YtlhlmjklajdejaaW.PrintMore
attribute [local go_sem] max2_int min2_int max_two min_two max_three min_three max_four min_four
set_option linter.unusedVariables false
set_option linter.unusedSimpArgs false
mutual
def laws_FnExactMendStep.j0 : Nat → Bool → Bool → Bool → List (S70) → Int → List Int → List (S67) → Int → List Int → List (S67) → Int → List Int → List (S67) → Int → List Int → Option (Bool)
  | 0, _, _, _, _, _, _, _, _, _, _, _, _, _, _, _ => none
  | k + 1, x5, x8, x40, x887000, x887001, x887002, x904000, x904001, x904002, x912000, x912001, x912002, x921000, x921001, x921002 => if x40 = true then (some false) else ((laws_toWork.f k x887000 x887001 x887002).bind fun bt922 => ((laws_eqWork.f k x912000 x912001 x912002 bt922.1 bt922.2.1 bt922.2.2).bind fun t929 => (if t929 = true then ((laws_markWork.f k x912000 x912001 x912002 1).bind fun bt930 => (if bt930.1 < 0 then (laws_FnExactMendStep.j1 k x5 true x887000 x887001 x887002 x904000 x904001 x904002 x921000 x921001 x921002) else ((laws_eqWork.f k x921000 x921001 x921002 x904000 x904001 x904002).bind fun t933 => (if t933 = true then (laws_FnExactMendStep.j1 k x5 (x8 != x5) x887000 x887001 x887002 x904000 x904001 x904002 x921000 x921001 x921002) else (laws_FnExactMendStep.j1 k x5 true x887000 x887001 x887002 x904000 x904001 x904002 x921000 x921001 x921002))))) else (some false))))
def laws_FnExactMendStep.j1 : Nat → Bool → Bool → List (S70) → Int → List Int → List (S67) → Int → List Int → List (S67) → Int → List Int → Option (Bool)
  | 0, _, _, _, _, _, _, _, _, _, _, _ => none
  | k + 1, x5, x61, x887000, x887001, x887002, x904000, x904001, x904002, x921000, x921001, x921002 => if x61 = true then (some false) else ((laws_markWork.f k x921000 x921001 x921002 1).bind fun bt934 => ((laws_heldWork.f k bt934.2.1 x921001 bt934.2.2 1).bind fun t937 => (if t937 < 0 then (some false) else (if t937 = bt934.1 then ((laws_toWork.f k x887000 x887001 x887002).bind fun bt938 => ((impl_MendStep.f k bt938.1 bt938.2.1 bt938.2.2).bind fun bt945 => ((laws_eqWork.f k bt945.1 bt945.2.1 bt945.2.2.1 x904000 x904001 x904002).bind fun t954 => (if t954 = true then (laws_FnExactMendStep.j2 k bt934.1 (bt945.2.2.2 != x5) bt934.2.1 x921001 bt934.2.2) else (laws_FnExactMendStep.j2 k bt934.1 true bt934.2.1 x921001 bt934.2.2))))) else (some false)))))
def laws_FnExactMendStep.j2 : Nat → Int → Bool → List (S67) → Int → List Int → Option (Bool)
  | 0, _, _, _, _, _ => none
  | k + 1, x10, x87, x921000, x921001, x921002 => if x87 = true then (some false) else ((laws_heldWork.f k x921000 x921001 x921002 1).bind fun t955 => (if t955 < 0 then (some false) else (if t955 = x10 then (some true) else (some false))))
end
def laws_FnExactMendStep.f (k : Nat) (l0_0 : List (S70)) (a0_1 : Int) (l0_2 : List Int) : Option (Bool) := (laws_szWork.f l0_0 a0_1 l0_2 1048576).bind fun t887 => (if t887 < 0 then (some true) else ((laws_toWork.f k l0_0 a0_1 l0_2).bind fun bt888 => ((spec_MendStep.f k bt888.1 bt888.2.1 bt888.2.2).bind fun bt895 => ((laws_toWork.f k l0_0 a0_1 l0_2).bind fun bt904 => ((impl_MendStep.f k bt904.1 bt904.2.1 bt904.2.2).bind fun bt912 => ((laws_eqWork.f k bt912.1 bt912.2.1 bt912.2.2.1 bt895.1 bt895.2.1 bt895.2.2.1).bind fun t921 => (if t921 = true then (laws_FnExactMendStep.j0 k bt895.2.2.2 bt912.2.2.2 (bt912.2.2.2 != bt895.2.2.2) l0_0 a0_1 l0_2 bt895.1 bt895.2.1 bt895.2.2.1 bt904.1 bt904.2.1 bt904.2.2 bt912.1 bt912.2.1 bt912.2.2.1) else (laws_FnExactMendStep.j0 k bt895.2.2.2 bt912.2.2.2 true l0_0 a0_1 l0_2 bt895.1 bt895.2.1 bt895.2.2.1 bt904.1 bt904.2.1 bt904.2.2 bt912.1 bt912.2.1 bt912.2.2.1))))))))
theorem laws_FnExactMendStep.mono_l : ∀ k, (∀ y0 y1 y2 y3 y4 y5 y6 y7 y8 y9 y10 y11 y12 y13 y14, LeO (laws_FnExactMendStep.j0 k y0 y1 y2 y3 y4 y5 y6 y7 y8 y9 y10 y11 y12 y13 y14) (laws_FnExactMendStep.j0 (k + 1) y0 y1 y2 y3 y4 y5 y6 y7 y8 y9 y10 y11 y12 y13 y14)) ∧ (∀ y0 y1 y2 y3 y4 y5 y6 y7 y8 y9 y10, LeO (laws_FnExactMendStep.j1 k y0 y1 y2 y3 y4 y5 y6 y7 y8 y9 y10) (laws_FnExactMendStep.j1 (k + 1) y0 y1 y2 y3 y4 y5 y6 y7 y8 y9 y10)) ∧ (∀ y0 y1 y2 y3 y4, LeO (laws_FnExactMendStep.j2 k y0 y1 y2 y3 y4) (laws_FnExactMendStep.j2 (k + 1) y0 y1 y2 y3 y4))
  | 0 => ⟨fun _ _ _ _ _ _ _ _ _ _ _ _ _ _ _ r h => by simp [laws_FnExactMendStep.j0] at h, fun _ _ _ _ _ _ _ _ _ _ _ r h => by simp [laws_FnExactMendStep.j1] at h, fun _ _ _ _ _ r h => by simp [laws_FnExactMendStep.j2] at h⟩
  | k + 1 => by
    obtain ⟨ih0, ih1, ih2⟩ := laws_FnExactMendStep.mono_l k
    refine ⟨?_, ?_, ?_⟩
    · intro y0 y1 y2 y3 y4 y5 y6 y7 y8 y9 y10 y11 y12 y13 y14
      unfold laws_FnExactMendStep.j0
      repeat' first
      | (with_reducible exact ih0 _ _ _ _ _ _ _ _ _ _ _ _ _ _ _)
      | (with_reducible exact ih1 _ _ _ _ _ _ _ _ _ _ _)
      | (with_reducible exact ih2 _ _ _ _ _)
      | (with_reducible exact impl_MendStep.mono _ _ _ _)
      | (with_reducible exact laws_eqWork.mono _ _ _ _ _ _ _)
      | (with_reducible exact laws_heldWork.mono _ _ _ _ _)
      | (with_reducible exact laws_markWork.mono _ _ _ _ _)
      | (with_reducible exact laws_toWork.mono _ _ _ _)
      | (with_reducible exact spec_MendStep.mono _ _ _ _)
      | (with_reducible exact LeO.refl _)
      | (with_reducible exact LeO.none _)
      | (with_reducible refine LeO.ite ?_ ?_)
      | (with_reducible refine LeO.bind ?_ (fun _ => ?_))
      | exact ih0 _ _ _ _ _ _ _ _ _ _ _ _ _ _ _
      | exact ih1 _ _ _ _ _ _ _ _ _ _ _
      | exact ih2 _ _ _ _ _
      | exact impl_MendStep.mono _ _ _ _
      | exact laws_eqWork.mono _ _ _ _ _ _ _
      | exact laws_heldWork.mono _ _ _ _ _
      | exact laws_markWork.mono _ _ _ _ _
      | exact laws_toWork.mono _ _ _ _
      | exact spec_MendStep.mono _ _ _ _
      | exact LeO.none _
      | refine LeO.ite ?_ ?_
      | refine LeO.bind ?_ (fun _ => ?_)
    · intro y0 y1 y2 y3 y4 y5 y6 y7 y8 y9 y10
      unfold laws_FnExactMendStep.j1
      repeat' first
      | (with_reducible exact ih0 _ _ _ _ _ _ _ _ _ _ _ _ _ _ _)
      | (with_reducible exact ih1 _ _ _ _ _ _ _ _ _ _ _)
      | (with_reducible exact ih2 _ _ _ _ _)
      | (with_reducible exact impl_MendStep.mono _ _ _ _)
      | (with_reducible exact laws_eqWork.mono _ _ _ _ _ _ _)
      | (with_reducible exact laws_heldWork.mono _ _ _ _ _)
      | (with_reducible exact laws_markWork.mono _ _ _ _ _)
      | (with_reducible exact laws_toWork.mono _ _ _ _)
      | (with_reducible exact spec_MendStep.mono _ _ _ _)
      | (with_reducible exact LeO.refl _)
      | (with_reducible exact LeO.none _)
      | (with_reducible refine LeO.ite ?_ ?_)
      | (with_reducible refine LeO.bind ?_ (fun _ => ?_))
      | exact ih0 _ _ _ _ _ _ _ _ _ _ _ _ _ _ _
      | exact ih1 _ _ _ _ _ _ _ _ _ _ _
      | exact ih2 _ _ _ _ _
      | exact impl_MendStep.mono _ _ _ _
      | exact laws_eqWork.mono _ _ _ _ _ _ _
      | exact laws_heldWork.mono _ _ _ _ _
      | exact laws_markWork.mono _ _ _ _ _
      | exact laws_toWork.mono _ _ _ _
      | exact spec_MendStep.mono _ _ _ _
      | exact LeO.none _
      | refine LeO.ite ?_ ?_
      | refine LeO.bind ?_ (fun _ => ?_)
    · intro y0 y1 y2 y3 y4
      unfold laws_FnExactMendStep.j2
      repeat' first
      | (with_reducible exact ih0 _ _ _ _ _ _ _ _ _ _ _ _ _ _ _)
      | (with_reducible exact ih1 _ _ _ _ _ _ _ _ _ _ _)
      | (with_reducible exact ih2 _ _ _ _ _)
      | (with_reducible exact impl_MendStep.mono _ _ _ _)
      | (with_reducible exact laws_eqWork.mono _ _ _ _ _ _ _)
      | (with_reducible exact laws_heldWork.mono _ _ _ _ _)
      | (with_reducible exact laws_markWork.mono _ _ _ _ _)
      | (with_reducible exact laws_toWork.mono _ _ _ _)
      | (with_reducible exact spec_MendStep.mono _ _ _ _)
      | (with_reducible exact LeO.refl _)
      | (with_reducible exact LeO.none _)
      | (with_reducible refine LeO.ite ?_ ?_)
      | (with_reducible refine LeO.bind ?_ (fun _ => ?_))
      | exact ih0 _ _ _ _ _ _ _ _ _ _ _ _ _ _ _
      | exact ih1 _ _ _ _ _ _ _ _ _ _ _
      | exact ih2 _ _ _ _ _
      | exact impl_MendStep.mono _ _ _ _
      | exact laws_eqWork.mono _ _ _ _ _ _ _
      | exact laws_heldWork.mono _ _ _ _ _
      | exact laws_markWork.mono _ _ _ _ _
      | exact laws_toWork.mono _ _ _ _
      | exact spec_MendStep.mono _ _ _ _
      | exact LeO.none _
      | refine LeO.ite ?_ ?_
      | refine LeO.bind ?_ (fun _ => ?_)
theorem laws_FnExactMendStep.mono : ∀ a0 a1 a2 k, LeO (laws_FnExactMendStep.f k a0 a1 a2) (laws_FnExactMendStep.f (k + 1) a0 a1 a2) := by
  intro a0 a1 a2 k
  obtain ⟨ih0, ih1, ih2⟩ := laws_FnExactMendStep.mono_l k
  unfold laws_FnExactMendStep.f
  repeat' first
      | (with_reducible exact ih0 _ _ _ _ _ _ _ _ _ _ _ _ _ _ _)
      | (with_reducible exact ih1 _ _ _ _ _ _ _ _ _ _ _)
      | (with_reducible exact ih2 _ _ _ _ _)
      | (with_reducible exact impl_MendStep.mono _ _ _ _)
      | (with_reducible exact laws_eqWork.mono _ _ _ _ _ _ _)
      | (with_reducible exact laws_heldWork.mono _ _ _ _ _)
      | (with_reducible exact laws_markWork.mono _ _ _ _ _)
      | (with_reducible exact laws_toWork.mono _ _ _ _)
      | (with_reducible exact spec_MendStep.mono _ _ _ _)
      | (with_reducible exact LeO.refl _)
      | (with_reducible exact LeO.none _)
      | (with_reducible refine LeO.ite ?_ ?_)
      | (with_reducible refine LeO.bind ?_ (fun _ => ?_))
      | exact ih0 _ _ _ _ _ _ _ _ _ _ _ _ _ _ _
      | exact ih1 _ _ _ _ _ _ _ _ _ _ _
      | exact ih2 _ _ _ _ _
      | exact impl_MendStep.mono _ _ _ _
      | exact laws_eqWork.mono _ _ _ _ _ _ _
      | exact laws_heldWork.mono _ _ _ _ _
      | exact laws_markWork.mono _ _ _ _ _
      | exact laws_toWork.mono _ _ _ _
      | exact spec_MendStep.mono _ _ _ _
      | exact LeO.none _
      | refine LeO.ite ?_ ?_
      | refine LeO.bind ?_ (fun _ => ?_)
set_option maxHeartbeats 8000000 in
set_option maxRecDepth 100000 in
theorem laws_FnExactMendStep.calls (k : Nat) (A0_0 : Option Addr) (c0_0 : Nat) (l0_0 : List (S70)) (a0_1 : Int) (A0_2 : Option Addr) (c0_2 : Nat) (l0_2 : List Int) (r : Bool) (w : World) (hr0_0 : Kd.C k70 w A0_0 l0_0.length l0_0) (hc0_0 : l0_0.length ≤ c0_0) (hr0_2 : Kd.C (Kd.int .i64) w A0_2 l0_2.length l0_2) (hc0_2 : l0_2.length ≤ c0_2) (h : laws_FnExactMendStep.f k l0_0 a0_1 l0_2 = some r) (hrt_ : Aside0 (r = true)) :
    Calls Try.prog 11 #[.agg #[.slice A0_0 l0_0.length c0_0, .int .i64 a0_1, .slice A0_2 l0_2.length c0_2]] w fun e w' => e = .returned (.bool r) ∧ Below w.heap.size w w' := by
  have hu25 := Try.underlying25
  have hu30 := Try.underlying30
  have HR0_0 := Aside0.mk hr0_0
  have HC0_0 := Aside0.mk hc0_0
  clear hr0_0 hc0_0
  have HR0_2 := Aside0.mk hr0_2
  have HC0_2 := Aside0.mk hc0_2
  clear hr0_2 hc0_2
  have HB := Aside0.mk (Below.refl w.heap.size w)
  have H : ((laws_szWork.f l0_0 a0_1 l0_2 1048576).bind fun t887 => (if t887 < 0 then (some true) else ((laws_toWork.f k l0_0 a0_1 l0_2).bind fun bt888 => ((spec_MendStep.f k bt888.1 bt888.2.1 bt888.2.2).bind fun bt895 => ((laws_toWork.f k l0_0 a0_1 l0_2).bind fun bt904 => ((impl_MendStep.f k bt904.1 bt904.2.1 bt904.2.2).bind fun bt912 => ((laws_eqWork.f k bt912.1 bt912.2.1 bt912.2.2.1 bt895.1 bt895.2.1 bt895.2.2.1).bind fun t921 => (if t921 = true then (laws_FnExactMendStep.j0 k bt895.2.2.2 bt912.2.2.2 (bt912.2.2.2 != bt895.2.2.2) l0_0 a0_1 l0_2 bt895.1 bt895.2.1 bt895.2.2.1 bt904.1 bt904.2.1 bt904.2.2 bt912.1 bt912.2.1 bt912.2.2.1) else (laws_FnExactMendStep.j0 k bt895.2.2.2 bt912.2.2.2 true l0_0 a0_1 l0_2 bt895.1 bt895.2.1 bt895.2.2.1 bt904.1 bt904.2.1 bt904.2.2 bt912.1 bt912.2.1 bt912.2.2.1))))))))) = some r := h
  clear h
  replace H := Option.bind_eq_some_iff.mp H
  obtain ⟨t887, A20, H⟩ := H
  (try dsimp only at H)
  have A2 := Aside0.mk A20
  clear A20
  by_cases c3 : t887 < 0
  · rw [if_pos c3] at H
    have c3b0 : decide (t887 < 0) = true := decide_eq_true c3
    clear c3
    obtain rfl := Option.some.inj H
    go_enter Try.func11, Try.ntmps11
    go_wp2_with (first | ((with_reducible refine gate_dst (N := 1) rfl ?_); refine box_event ?hg (N := 1) ?hd (cs := #[.slice A0_0 l0_0.length c0_0, .int .i64 a0_1, .slice A0_2 l0_2.length c0_2]) (t := 25) ?hr ?_; (case hd => rfl); (case hg => rfl); (case hr => first | (go_simp; done) | (go_simp; rfl)); intro gb886 hg w4 hbox hb; have n0_ := Aside0.mk (below_step (oB HB) hb); have n1_ := Aside0.mk (hbox); have n2_ := Aside0.mk ((by rw [hg]; exact (below_size (oB HB)) : w.heap.size ≤ gb886)); have n3_ := Aside0.mk ((by rw [hg]; exact (below_size (oB HB)) : w.heap.size ≤ gb886)); clear HB; have HB := n0_; have BK886 := n1_; have GW886 := n2_; have GE886 := n3_; clear n0_ n1_ n2_ n3_; clear hb hbox hg; have hcz5_0 : w4.cell? ⟨gb886, 0, none⟩ = some (.slice A0_0 l0_0.length c0_0) := (blk_cell BK886.out 0).trans rfl; have hcz5_1 : w4.cell? ⟨gb886, 1, none⟩ = some (.int .i64 a0_1) := (blk_cell BK886.out 1).trans rfl; have hcz5_2 : w4.cell? ⟨gb886, 2, none⟩ = some (.slice A0_2 l0_2.length c0_2) := (blk_cell BK886.out 2).trans rfl; have hfz5_0 := blk_frozen BK886.out 0; have hfz5_1 := blk_frozen BK886.out 1; have hfz5_2 := blk_frozen BK886.out 2) | ((with_reducible refine gate_callee (f := 15) rfl ?_); refine goesL_ (some 16) rfl rfl Try.func15 (by kernel_rfl) rfl #[.agg #[.slice A0_0 l0_0.length c0_0, .int .i64 a0_1, .slice A0_2 l0_2.length c0_2], .int .i64 1048576] rfl (by (try simp only [List.map_toArray, List.map_cons, List.map_nil]); first | done | rfl | (simp only [List.length_drop, List.length_take]; rfl)) ?_; (with_reducible refine (laws_szWork.calls _ _ l0_0 a0_1 _ _ l0_2 1048576 t887 _ ?side1 ?side2 ?side3 ?side4 A2.out).mono ?_); (case side1 => exact oc_ HR0_0.out); (case side2 => exact HC0_0.out); (case side3 => exact oc_ HR0_2.out); (case side4 => exact HC0_2.out); rintro e w6 ⟨rfl, hb⟩; refine ⟨_, rfl, ?_⟩; have n0_ := Aside0.mk (blk_below (g := gb886) (o := .cells #[.slice A0_0 l0_0.length c0_0, .int .i64 a0_1, .slice A0_2 l0_2.length c0_2] 25 (0, 0)) (oK BK886) hb); have n1_ := Aside0.mk (below_step (oB HB) hb); clear BK886; clear HB; have BK886 := n0_; have HB := n1_; clear n0_ n1_; (try clear hb); (try clear hb2); (try clear hk); (try clear hi)))
    go_ret
    exact ⟨by first | rfl | (simp [errW_none, errW_some] <;> rfl) | (simp [*, errW_none, errW_some] <;> rfl), oB HB⟩
  · rw [if_neg c3] at H
    have c3b0 : decide (t887 < 0) = false := decide_eq_false c3
    clear c3
    replace H := Option.bind_eq_some_iff.mp H
    obtain ⟨⟨t888, t891, t892⟩, A70, H⟩ := H
    (try dsimp only at H)
    have A7 := Aside0.mk A70
    clear A70
    replace H := Option.bind_eq_some_iff.mp H
    obtain ⟨⟨t895, t898, t899, t902⟩, A80, H⟩ := H
    (try dsimp only at H)
    have A8 := Aside0.mk A80
    clear A80
    replace H := Option.bind_eq_some_iff.mp H
    obtain ⟨⟨t904, t907, t908⟩, A90, H⟩ := H
    (try dsimp only at H)
    have A9 := Aside0.mk A90
    clear A90
    replace H := Option.bind_eq_some_iff.mp H
    obtain ⟨⟨t912, t915, t916, t919⟩, A100, H⟩ := H
    (try dsimp only at H)
    have A10 := Aside0.mk A100
    clear A100
    have HC11 := Aside0.mk H
    clear H
    go_enter Try.func11, Try.ntmps11
    go_upto_region 8 with (first | ((with_reducible refine gate_dst (N := 1) rfl ?_); refine box_event ?hg (N := 1) ?hd (cs := #[.slice A0_0 l0_0.length c0_0, .int .i64 a0_1, .slice A0_2 l0_2.length c0_2]) (t := 25) ?hr ?_; (case hd => rfl); (case hg => rfl); (case hr => first | (go_simp; done) | (go_simp; rfl)); intro gb886 hg w12 hbox hb; have n0_ := Aside0.mk (below_step (oB HB) hb); have n1_ := Aside0.mk (hbox); have n2_ := Aside0.mk ((by rw [hg]; exact (below_size (oB HB)) : w.heap.size ≤ gb886)); have n3_ := Aside0.mk ((by rw [hg]; exact (below_size (oB HB)) : w.heap.size ≤ gb886)); clear HB; have HB := n0_; have BK886 := n1_; have GW886 := n2_; have GE886 := n3_; clear n0_ n1_ n2_ n3_; clear hb hbox hg; have hcz13_0 : w12.cell? ⟨gb886, 0, none⟩ = some (.slice A0_0 l0_0.length c0_0) := (blk_cell BK886.out 0).trans rfl; have hcz13_1 : w12.cell? ⟨gb886, 1, none⟩ = some (.int .i64 a0_1) := (blk_cell BK886.out 1).trans rfl; have hcz13_2 : w12.cell? ⟨gb886, 2, none⟩ = some (.slice A0_2 l0_2.length c0_2) := (blk_cell BK886.out 2).trans rfl; have hfz13_0 := blk_frozen BK886.out 0; have hfz13_1 := blk_frozen BK886.out 1; have hfz13_2 := blk_frozen BK886.out 2) | ((with_reducible refine gate_callee (f := 15) rfl ?_); refine goesL_ (some 16) rfl rfl Try.func15 (by kernel_rfl) rfl #[.agg #[.slice A0_0 l0_0.length c0_0, .int .i64 a0_1, .slice A0_2 l0_2.length c0_2], .int .i64 1048576] rfl (by (try simp only [List.map_toArray, List.map_cons, List.map_nil]); first | done | rfl | (simp only [List.length_drop, List.length_take]; rfl)) ?_; (with_reducible refine (laws_szWork.calls _ _ l0_0 a0_1 _ _ l0_2 1048576 t887 _ ?side1 ?side2 ?side3 ?side4 A2.out).mono ?_); (case side1 => exact oc_ HR0_0.out); (case side2 => exact HC0_0.out); (case side3 => exact oc_ HR0_2.out); (case side4 => exact HC0_2.out); rintro e w14 ⟨rfl, hb⟩; refine ⟨_, rfl, ?_⟩; have n0_ := Aside0.mk (blk_below (g := gb886) (o := .cells #[.slice A0_0 l0_0.length c0_0, .int .i64 a0_1, .slice A0_2 l0_2.length c0_2] 25 (0, 0)) (oK BK886) hb); have n1_ := Aside0.mk (below_step (oB HB) hb); clear BK886; clear HB; have BK886 := n0_; have HB := n1_; clear n0_ n1_; (try clear hb); (try clear hb2); (try clear hk); (try clear hi); have hcz15_0 : w14.cell? ⟨gb886, 0, none⟩ = some (.slice A0_0 l0_0.length c0_0) := (blk_cell BK886.out 0).trans rfl; have hcz15_1 : w14.cell? ⟨gb886, 1, none⟩ = some (.int .i64 a0_1) := (blk_cell BK886.out 1).trans rfl; have hcz15_2 : w14.cell? ⟨gb886, 2, none⟩ = some (.slice A0_2 l0_2.length c0_2) := (blk_cell BK886.out 2).trans rfl; have hfz15_0 := blk_frozen BK886.out 0; have hfz15_1 := blk_frozen BK886.out 1; have hfz15_2 := blk_frozen BK886.out 2) | ((with_reducible refine gate_callee (f := 17) rfl ?_); refine goesL_ (some 21) rfl rfl Try.func17 (by kernel_rfl) rfl #[.agg #[.slice A0_0 l0_0.length c0_0, .int .i64 a0_1, .slice A0_2 l0_2.length c0_2]] rfl (by (try simp only [List.map_toArray, List.map_cons, List.map_nil]); first | done | rfl | (simp only [List.length_drop, List.length_take]; rfl)) ?_; (with_reducible refine (laws_toWork.calls k _ _ l0_0 a0_1 _ _ l0_2 t888 t891 t892 _ ?side1 ?side2 ?side3 ?side4 A7.out).mono ?_); (case side1 => exact oc_ HR0_0.out); (case side2 => exact HC0_0.out); (case side3 => exact oc_ HR0_2.out); (case side4 => exact HC0_2.out); rintro e w16 ⟨v889, v893, rfl, ho0, ho1, hb⟩; refine ⟨_, rfl, ?_⟩; have n0_ := Aside0.mk (Kd.R_lower ho0 (below_size (oB HB))); have n1_ := Aside0.mk (Kd.R_lower ho1 (below_size (oB HB))); have n2_ := Aside0.mk (blk_below (g := gb886) (o := .cells #[.slice A0_0 l0_0.length c0_0, .int .i64 a0_1, .slice A0_2 l0_2.length c0_2] 25 (0, 0)) (oK BK886) hb); have n3_ := Aside0.mk (below_step (oB HB) hb); clear BK886; clear HB; have HO890 := n0_; have HO894 := n1_; have BK886 := n2_; have HB := n3_; clear n0_ n1_ n2_ n3_; (try clear hb); (try clear hb2); (try clear hk); (try clear hi); (try clear ho0); (try clear ho1); obtain ⟨Ao17, co17, eo17⟩ := Kd.R_slice HO890.out; subst eo17; obtain ⟨Ao18, co18, eo18⟩ := Kd.R_slice HO894.out; subst eo18) | ((with_reducible refine gate_callee (f := 43) rfl ?_); refine goesL_ (some 22) rfl rfl Try.func43 (by kernel_rfl) rfl #[.agg #[.slice Ao17 t888.length co17, .int .i64 t891, .slice Ao18 t892.length co18]] rfl (by (try simp only [List.map_toArray, List.map_cons, List.map_nil]); first | done | rfl | (simp only [List.length_drop, List.length_take]; rfl)) ?_; (with_reducible refine (spec_MendStep.calls k _ _ t888 t891 _ _ t892 t895 t898 t899 t902 _ ?side1 ?side2 ?side3 ?side4 A8.out).mono ?_); (case side1 => repeat (first | exact (Kd.R_reads' HO890.out).2.2 | (with_reducible refine Kd.C_alloc ?_ _) | (with_reducible refine Kd.C_drewN ?_ _) | (with_reducible refine Kd.C_drew ?_))); (case side2 => exact (Kd.R_reads' HO890.out).2.1); (case side3 => repeat (first | exact (Kd.R_reads' HO894.out).2.2 | (with_reducible refine Kd.C_alloc ?_ _) | (with_reducible refine Kd.C_drewN ?_ _) | (with_reducible refine Kd.C_drew ?_))); (case side4 => exact (Kd.R_reads' HO894.out).2.1); rintro e w19 ⟨v896, v900, rfl, ho0, ho1, hb⟩; refine ⟨_, rfl, ?_⟩; have n0_ := Aside0.mk (Kd.R_elder' (oR HO890) (Kd.R_base ho0) hb); have n1_ := Aside0.mk (Kd.R_elder' (oR HO894) (Kd.R_base ho1) hb); have n2_ := Aside0.mk (Kd.R_lower (Kd.R_new' ho0 (Kd.R_lt (oR HO890))) (below_size (oB HB))); have n3_ := Aside0.mk (Kd.R_lower (Kd.R_new' ho1 (Kd.R_lt (oR HO894))) (below_size (oB HB))); have n4_ := Aside0.mk (blk_below (g := gb886) (o := .cells #[.slice A0_0 l0_0.length c0_0, .int .i64 a0_1, .slice A0_2 l0_2.length c0_2] 25 (0, 0)) (oK BK886) hb); have n5_ := Aside0.mk (below_step (oB HB) hb); clear HO890; clear HO894; clear BK886; clear HB; have HO890 := n0_; have HO894 := n1_; have HO897 := n2_; have HO901 := n3_; have BK886 := n4_; have HB := n5_; clear n0_ n1_ n2_ n3_ n4_ n5_; (try clear hb); (try clear hb2); (try clear hk); (try clear hi); (try clear ho0); (try clear ho1)) | ((with_reducible refine gate_dst (N := 4) rfl ?_); refine box_event ?hg (N := 4) ?hd (cs := #[.slice none 0 0, .int .i64 0, .slice none 0 0]) (t := 30) ?hr ?_; (case hd => rfl); (case hg => rfl); (case hr => first | (go_simp; done) | (go_simp; rfl)); intro gb903 hg w20 hbox hb; have n0_ := Aside0.mk (Kd.R_below (oR HO890) hb); have n1_ := Aside0.mk (Kd.R_below (oR HO894) hb); have n2_ := Aside0.mk (Kd.R_below (oR HO897) hb); have n3_ := Aside0.mk (Kd.R_below (oR HO901) hb); have n4_ := Aside0.mk (blk_below (g := gb886) (o := .cells #[.slice A0_0 l0_0.length c0_0, .int .i64 a0_1, .slice A0_2 l0_2.length c0_2] 25 (0, 0)) (oK BK886) hb); have n5_ := Aside0.mk (below_step (oB HB) hb); have n6_ := Aside0.mk (hbox); have n7_ := Aside0.mk ((by rw [hg]; exact (below_size (oB HB)) : w.heap.size ≤ gb903)); have n8_ := Aside0.mk ((by rw [hg]; exact (below_size (oB HB)) : w.heap.size ≤ gb903)); have n9_ := Aside0.mk ((by rw [hg]; exact Nat.ne_of_lt (blk_lt (g := gb886) (o := .cells #[.slice A0_0 l0_0.length c0_0, .int .i64 a0_1, .slice A0_2 l0_2.length c0_2] 25 (0, 0)) (oK BK886)) : gb886 ≠ gb903)); have n10_ := Aside0.mk ((by rw [hg]; exact Nat.ne_of_gt (blk_lt (g := gb886) (o := .cells #[.slice A0_0 l0_0.length c0_0, .int .i64 a0_1, .slice A0_2 l0_2.length c0_2] 25 (0, 0)) (oK BK886)) : gb903 ≠ gb886)); clear HO890; clear HO894; clear HO897; clear HO901; clear BK886; clear HB; have HO890 := n0_; have HO894 := n1_; have HO897 := n2_; have HO901 := n3_; have BK886 := n4_; have HB := n5_; have BK903 := n6_; have GW903 := n7_; have GE903 := n8_; have NB886_903 := n9_; have NB903_886 := n10_; clear n0_ n1_ n2_ n3_ n4_ n5_ n6_ n7_ n8_ n9_ n10_; clear hb hbox hg; obtain ⟨Ao21, co21, eo21⟩ := Kd.R_slice HO897.out; subst eo21; have hnb22 := NB903_886.out; have hnc22 := NB886_903.out; have hcz23_0 : w20.cell? ⟨gb903, 0, none⟩ = some (.slice none 0 0) := (blk_cell BK903.out 0).trans rfl; have hcz23_1 : w20.cell? ⟨gb903, 1, none⟩ = some (.int .i64 0) := (blk_cell BK903.out 1).trans rfl; have hcz23_2 : w20.cell? ⟨gb903, 2, none⟩ = some (.slice none 0 0) := (blk_cell BK903.out 2).trans rfl; have hfz23_0 := blk_frozen BK903.out 0; have hfz23_1 := blk_frozen BK903.out 1; have hfz23_2 := blk_frozen BK903.out 2; obtain ⟨Ao24, co24, eo24⟩ := Kd.R_slice HO901.out; subst eo24; have hcz25_0 : w20.cell? ⟨gb886, 0, none⟩ = some (.slice A0_0 l0_0.length c0_0) := (blk_cell BK886.out 0).trans rfl; have hcz25_1 : w20.cell? ⟨gb886, 1, none⟩ = some (.int .i64 a0_1) := (blk_cell BK886.out 1).trans rfl; have hcz25_2 : w20.cell? ⟨gb886, 2, none⟩ = some (.slice A0_2 l0_2.length c0_2) := (blk_cell BK886.out 2).trans rfl; have hfz25_0 := blk_frozen BK886.out 0; have hfz25_1 := blk_frozen BK886.out 1; have hfz25_2 := blk_frozen BK886.out 2) | ((with_reducible refine gate_callee (f := 17) rfl ?_); refine goesL_ (some 26) rfl rfl Try.func17 (by kernel_rfl) rfl #[.agg #[.slice A0_0 l0_0.length c0_0, .int .i64 a0_1, .slice A0_2 l0_2.length c0_2]] rfl (by (try simp only [List.map_toArray, List.map_cons, List.map_nil]); first | done | rfl | (simp only [List.length_drop, List.length_take]; rfl)) ?_; (with_reducible refine (laws_toWork.calls k _ _ l0_0 a0_1 _ _ l0_2 t904 t907 t908 _ ?side1 ?side2 ?side3 ?side4 A9.out).mono ?_); (case side1 => exact Kd.C_below HR0_0.out (oB HB)); (case side2 => exact HC0_0.out); (case side3 => exact Kd.C_below HR0_2.out (oB HB)); (case side4 => exact HC0_2.out); rintro e w26 ⟨v905, v909, rfl, ho0, ho1, hb⟩; refine ⟨_, rfl, ?_⟩; have n0_ := Aside0.mk (Kd.R_elder' (by (with_reducible repeat (first | apply Kd.R_alloc | apply Kd.R_drewN | apply Kd.R_drew)); exact (Kd.R_mono (Kd.R_far (p := ⟨gb903, 2, none⟩) (Kd.R_far (p := ⟨gb903, 1, none⟩) (Kd.R_far (p := ⟨gb903, 0, none⟩) (Kd.R_types HO890.out BK903.out (by decide)) (fun _ hk => hk.2) (.slice Ao21 t895.length co21)) (fun _ hk => hk.2) (.int .i64 t898)) (fun _ hk => hk.2) (.slice Ao24 t899.length co24)) (fun _ h_ => h_.1))) (Kd.R_base ho0) hb); have n1_ := Aside0.mk (Kd.R_elder' (by (with_reducible repeat (first | apply Kd.R_alloc | apply Kd.R_drewN | apply Kd.R_drew)); exact (Kd.R_mono (Kd.R_far (p := ⟨gb903, 2, none⟩) (Kd.R_far (p := ⟨gb903, 1, none⟩) (Kd.R_far (p := ⟨gb903, 0, none⟩) (Kd.R_types HO894.out BK903.out (by decide)) (fun _ hk => hk.2) (.slice Ao21 t895.length co21)) (fun _ hk => hk.2) (.int .i64 t898)) (fun _ hk => hk.2) (.slice Ao24 t899.length co24)) (fun _ h_ => h_.1))) (Kd.R_base ho1) hb); have n2_ := Aside0.mk (Kd.R_elder' (by (with_reducible repeat (first | apply Kd.R_alloc | apply Kd.R_drewN | apply Kd.R_drew)); exact (Kd.R_mono (Kd.R_far (p := ⟨gb903, 2, none⟩) (Kd.R_far (p := ⟨gb903, 1, none⟩) (Kd.R_far (p := ⟨gb903, 0, none⟩) (Kd.R_types HO897.out BK903.out (by decide)) (fun _ hk => hk.2) (.slice Ao21 t895.length co21)) (fun _ hk => hk.2) (.int .i64 t898)) (fun _ hk => hk.2) (.slice Ao24 t899.length co24)) (fun _ h_ => h_.1))) (Kd.R_base ho0) hb); have n3_ := Aside0.mk (Kd.R_elder' (by (with_reducible repeat (first | apply Kd.R_alloc | apply Kd.R_drewN | apply Kd.R_drew)); exact (Kd.R_mono (Kd.R_far (p := ⟨gb903, 2, none⟩) (Kd.R_far (p := ⟨gb903, 1, none⟩) (Kd.R_far (p := ⟨gb903, 0, none⟩) (Kd.R_types HO901.out BK903.out (by decide)) (fun _ hk => hk.2) (.slice Ao21 t895.length co21)) (fun _ hk => hk.2) (.int .i64 t898)) (fun _ hk => hk.2) (.slice Ao24 t899.length co24)) (fun _ h_ => h_.1))) (Kd.R_base ho1) hb); have n4_ := Aside0.mk (Kd.R_lower (Kd.R_new' (Kd.R_new' ho0 (Kd.R_lt (by (with_reducible repeat (first | apply Kd.R_alloc | apply Kd.R_drewN | apply Kd.R_drew)); exact (Kd.R_mono (Kd.R_far (p := ⟨gb903, 2, none⟩) (Kd.R_far (p := ⟨gb903, 1, none⟩) (Kd.R_far (p := ⟨gb903, 0, none⟩) (Kd.R_types HO890.out BK903.out (by decide)) (fun _ hk => hk.2) (.slice Ao21 t895.length co21)) (fun _ hk => hk.2) (.int .i64 t898)) (fun _ hk => hk.2) (.slice Ao24 t899.length co24)) (fun _ h_ => h_.1))))) (Kd.R_lt (by (with_reducible repeat (first | apply Kd.R_alloc | apply Kd.R_drewN | apply Kd.R_drew)); exact (Kd.R_mono (Kd.R_far (p := ⟨gb903, 2, none⟩) (Kd.R_far (p := ⟨gb903, 1, none⟩) (Kd.R_far (p := ⟨gb903, 0, none⟩) (Kd.R_types HO897.out BK903.out (by decide)) (fun _ hk => hk.2) (.slice Ao21 t895.length co21)) (fun _ hk => hk.2) (.int .i64 t898)) (fun _ hk => hk.2) (.slice Ao24 t899.length co24)) (fun _ h_ => h_.1))))) (below_size (oB HB))); have n5_ := Aside0.mk (Kd.R_lower (Kd.R_new' (Kd.R_new' ho1 (Kd.R_lt (by (with_reducible repeat (first | apply Kd.R_alloc | apply Kd.R_drewN | apply Kd.R_drew)); exact (Kd.R_mono (Kd.R_far (p := ⟨gb903, 2, none⟩) (Kd.R_far (p := ⟨gb903, 1, none⟩) (Kd.R_far (p := ⟨gb903, 0, none⟩) (Kd.R_types HO894.out BK903.out (by decide)) (fun _ hk => hk.2) (.slice Ao21 t895.length co21)) (fun _ hk => hk.2) (.int .i64 t898)) (fun _ hk => hk.2) (.slice Ao24 t899.length co24)) (fun _ h_ => h_.1))))) (Kd.R_lt (by (with_reducible repeat (first | apply Kd.R_alloc | apply Kd.R_drewN | apply Kd.R_drew)); exact (Kd.R_mono (Kd.R_far (p := ⟨gb903, 2, none⟩) (Kd.R_far (p := ⟨gb903, 1, none⟩) (Kd.R_far (p := ⟨gb903, 0, none⟩) (Kd.R_types HO901.out BK903.out (by decide)) (fun _ hk => hk.2) (.slice Ao21 t895.length co21)) (fun _ hk => hk.2) (.int .i64 t898)) (fun _ hk => hk.2) (.slice Ao24 t899.length co24)) (fun _ h_ => h_.1))))) (below_size (oB HB))); have n6_ := Aside0.mk (blk_below (g := gb886) (o := .cells #[.slice A0_0 l0_0.length c0_0, .int .i64 a0_1, .slice A0_2 l0_2.length c0_2] 25 (0, 0)) (by (with_reducible repeat (first | refine blk_drewN ?_ _ | refine blk_drew ?_ | refine blk_alloc ?_ _)); refine blk_far ?_ NB886_903.out _; (with_reducible repeat (first | refine blk_drewN ?_ _ | refine blk_drew ?_ | refine blk_alloc ?_ _)); refine blk_far ?_ NB886_903.out _; (with_reducible repeat (first | refine blk_drewN ?_ _ | refine blk_drew ?_ | refine blk_alloc ?_ _)); refine blk_far ?_ NB886_903.out _; (with_reducible repeat (first | refine blk_drewN ?_ _ | refine blk_drew ?_ | refine blk_alloc ?_ _)); exact BK886.out) hb); have n7_ := Aside0.mk (blk_below (g := gb903) (o := .cells #[.slice Ao21 t895.length co21, .int .i64 t898, .slice Ao24 t899.length co24] 30 (0, 0)) (by (with_reducible repeat (first | refine blk_drewN ?_ _ | refine blk_drew ?_ | refine blk_alloc ?_ _)); refine blk_put (cs := #[.slice Ao21 t895.length co21, .int .i64 t898, .slice none 0 0]) ?_ 2 _ rfl; (with_reducible repeat (first | refine blk_drewN ?_ _ | refine blk_drew ?_ | refine blk_alloc ?_ _)); refine blk_put (cs := #[.slice Ao21 t895.length co21, .int .i64 0, .slice none 0 0]) ?_ 1 _ rfl; (with_reducible repeat (first | refine blk_drewN ?_ _ | refine blk_drew ?_ | refine blk_alloc ?_ _)); refine blk_put (cs := #[.slice none 0 0, .int .i64 0, .slice none 0 0]) ?_ 0 _ rfl; (with_reducible repeat (first | refine blk_drewN ?_ _ | refine blk_drew ?_ | refine blk_alloc ?_ _)); exact BK903.out) hb); have n8_ := Aside0.mk (below_step (oB HB) hb); clear HO890; clear HO894; clear HO897; clear HO901; clear BK886; clear BK903; clear HB; have HO890 := n0_; have HO894 := n1_; have HO897 := n2_; have HO901 := n3_; have HO906 := n4_; have HO910 := n5_; have BK886 := n6_; have BK903 := n7_; have HB := n8_; clear n0_ n1_ n2_ n3_ n4_ n5_ n6_ n7_ n8_; (try clear hb); (try clear hb2); (try clear hk); (try clear hi); (try clear ho0); (try clear ho1)) | ((with_reducible refine gate_dst (N := 6) rfl ?_); refine box_event ?hg (N := 6) ?hd (cs := #[.slice none 0 0, .int .i64 0, .slice none 0 0]) (t := 30) ?hr ?_; (case hd => rfl); (case hg => rfl); (case hr => first | (go_simp; done) | (go_simp; rfl)); intro gb911 hg w27 hbox hb; have n0_ := Aside0.mk (Kd.R_below (oR HO890) hb); have n1_ := Aside0.mk (Kd.R_below (oR HO894) hb); have n2_ := Aside0.mk (Kd.R_below (oR HO897) hb); have n3_ := Aside0.mk (Kd.R_below (oR HO901) hb); have n4_ := Aside0.mk (Kd.R_below (oR HO906) hb); have n5_ := Aside0.mk (Kd.R_below (oR HO910) hb); have n6_ := Aside0.mk (blk_below (g := gb886) (o := .cells #[.slice A0_0 l0_0.length c0_0, .int .i64 a0_1, .slice A0_2 l0_2.length c0_2] 25 (0, 0)) (oK BK886) hb); have n7_ := Aside0.mk (blk_below (g := gb903) (o := .cells #[.slice Ao21 t895.length co21, .int .i64 t898, .slice Ao24 t899.length co24] 30 (0, 0)) (oK BK903) hb); have n8_ := Aside0.mk (below_step (oB HB) hb); have n9_ := Aside0.mk (hbox); have n10_ := Aside0.mk ((by rw [hg]; exact (below_size (oB HB)) : w.heap.size ≤ gb911)); have n11_ := Aside0.mk ((by rw [hg]; exact (below_size (oB HB)) : w.heap.size ≤ gb911)); have n12_ := Aside0.mk ((by rw [hg]; exact Nat.ne_of_lt (blk_lt (g := gb886) (o := .cells #[.slice A0_0 l0_0.length c0_0, .int .i64 a0_1, .slice A0_2 l0_2.length c0_2] 25 (0, 0)) (oK BK886)) : gb886 ≠ gb911)); have n13_ := Aside0.mk ((by rw [hg]; exact Nat.ne_of_gt (blk_lt (g := gb886) (o := .cells #[.slice A0_0 l0_0.length c0_0, .int .i64 a0_1, .slice A0_2 l0_2.length c0_2] 25 (0, 0)) (oK BK886)) : gb911 ≠ gb886)); have n14_ := Aside0.mk ((by rw [hg]; exact Nat.ne_of_lt (blk_lt (g := gb903) (o := .cells #[.slice Ao21 t895.length co21, .int .i64 t898, .slice Ao24 t899.length co24] 30 (0, 0)) (oK BK903)) : gb903 ≠ gb911)); have n15_ := Aside0.mk ((by rw [hg]; exact Nat.ne_of_gt (blk_lt (g := gb903) (o := .cells #[.slice Ao21 t895.length co21, .int .i64 t898, .slice Ao24 t899.length co24] 30 (0, 0)) (oK BK903)) : gb911 ≠ gb903)); clear HO890; clear HO894; clear HO897; clear HO901; clear HO906; clear HO910; clear BK886; clear BK903; clear HB; have HO890 := n0_; have HO894 := n1_; have HO897 := n2_; have HO901 := n3_; have HO906 := n4_; have HO910 := n5_; have BK886 := n6_; have BK903 := n7_; have HB := n8_; have BK911 := n9_; have GW911 := n10_; have GE911 := n11_; have NB886_911 := n12_; have NB911_886 := n13_; have NB903_911 := n14_; have NB911_903 := n15_; clear n0_ n1_ n2_ n3_ n4_ n5_ n6_ n7_ n8_ n9_ n10_ n11_ n12_ n13_ n14_ n15_; clear hb hbox hg; obtain ⟨Ao28, co28, eo28⟩ := Kd.R_slice HO906.out; subst eo28; have hnb29 := NB911_886.out; have hnc29 := NB886_911.out; have hnb30 := NB911_903.out; have hnc30 := NB903_911.out; have hcz31_0 : w27.cell? ⟨gb911, 0, none⟩ = some (.slice none 0 0) := (blk_cell BK911.out 0).trans rfl; have hcz31_1 : w27.cell? ⟨gb911, 1, none⟩ = some (.int .i64 0) := (blk_cell BK911.out 1).trans rfl; have hcz31_2 : w27.cell? ⟨gb911, 2, none⟩ = some (.slice none 0 0) := (blk_cell BK911.out 2).trans rfl; have hfz31_0 := blk_frozen BK911.out 0; have hfz31_1 := blk_frozen BK911.out 1; have hfz31_2 := blk_frozen BK911.out 2; obtain ⟨Ao32, co32, eo32⟩ := Kd.R_slice HO910.out; subst eo32) | ((with_reducible refine gate_callee (f := 44) rfl ?_); refine goesL_ (some 29) rfl rfl Try.func44 (by kernel_rfl) rfl #[.agg #[.slice Ao28 t904.length co28, .int .i64 t907, .slice Ao32 t908.length co32]] rfl (by (try simp only [List.map_toArray, List.map_cons, List.map_nil]); first | done | rfl | (simp only [List.length_drop, List.length_take]; rfl)) ?_; (with_reducible refine (impl_MendStep.calls k _ _ t904 t907 _ _ t908 t912 t915 t916 t919 _ ?side1 ?side2 ?side3 ?side4 A10.out).mono ?_); (case side1 => refine (Kd.R_reads' (e := 67) (base := w.heap.size) (ok := fun k_ => ((True ∧ some k_ ≠ (.slice Ao17 t888.length co17 : Value).ownBlock) ∧ some k_ ≠ (.slice Ao21 t895.length co21 : Value).ownBlock)) (n := t904.length) (c := co28) ?_).2.2; exact (by (with_reducible repeat (first | apply Kd.R_alloc | apply Kd.R_drewN | apply Kd.R_drew)); exact (Kd.R_mono (Kd.R_far (p := ⟨gb911, 2, none⟩) (Kd.R_far (p := ⟨gb911, 1, none⟩) (Kd.R_far (p := ⟨gb911, 0, none⟩) (Kd.R_types HO906.out BK911.out (by decide)) (fun _ hk => hk.2) (.slice Ao28 t904.length co28)) (fun _ hk => hk.2) (.int .i64 t907)) (fun _ hk => hk.2) (.slice Ao32 t908.length co32)) (fun _ h_ => h_.1)))); (case side2 => exact (Kd.R_reads' HO906.out).2.1); (case side3 => refine (Kd.R_reads' (e := 3) (base := w.heap.size) (ok := fun k_ => ((True ∧ some k_ ≠ (.slice Ao18 t892.length co18 : Value).ownBlock) ∧ some k_ ≠ (.slice Ao24 t899.length co24 : Value).ownBlock)) (n := t908.length) (c := co32) ?_).2.2; exact (by (with_reducible repeat (first | apply Kd.R_alloc | apply Kd.R_drewN | apply Kd.R_drew)); exact (Kd.R_mono (Kd.R_far (p := ⟨gb911, 2, none⟩) (Kd.R_far (p := ⟨gb911, 1, none⟩) (Kd.R_far (p := ⟨gb911, 0, none⟩) (Kd.R_types HO910.out BK911.out (by decide)) (fun _ hk => hk.2) (.slice Ao28 t904.length co28)) (fun _ hk => hk.2) (.int .i64 t907)) (fun _ hk => hk.2) (.slice Ao32 t908.length co32)) (fun _ h_ => h_.1)))); (case side4 => exact (Kd.R_reads' HO910.out).2.1); rintro e w33 ⟨v913, v917, rfl, ho0, ho1, hb⟩; refine ⟨_, rfl, ?_⟩; have n0_ := Aside0.mk (Kd.R_elder' (by (with_reducible repeat (first | apply Kd.R_alloc | apply Kd.R_drewN | apply Kd.R_drew)); exact (Kd.R_mono (Kd.R_far (p := ⟨gb911, 2, none⟩) (Kd.R_far (p := ⟨gb911, 1, none⟩) (Kd.R_far (p := ⟨gb911, 0, none⟩) (Kd.R_types HO890.out BK911.out (by decide)) (fun _ hk => hk.2) (.slice Ao28 t904.length co28)) (fun _ hk => hk.2) (.int .i64 t907)) (fun _ hk => hk.2) (.slice Ao32 t908.length co32)) (fun _ h_ => h_.1))) (Kd.R_base ho0) hb); have n1_ := Aside0.mk (Kd.R_elder' (by (with_reducible repeat (first | apply Kd.R_alloc | apply Kd.R_drewN | apply Kd.R_drew)); exact (Kd.R_mono (Kd.R_far (p := ⟨gb911, 2, none⟩) (Kd.R_far (p := ⟨gb911, 1, none⟩) (Kd.R_far (p := ⟨gb911, 0, none⟩) (Kd.R_types HO894.out BK911.out (by decide)) (fun _ hk => hk.2) (.slice Ao28 t904.length co28)) (fun _ hk => hk.2) (.int .i64 t907)) (fun _ hk => hk.2) (.slice Ao32 t908.length co32)) (fun _ h_ => h_.1))) (Kd.R_base ho1) hb); have n2_ := Aside0.mk (Kd.R_elder' (by (with_reducible repeat (first | apply Kd.R_alloc | apply Kd.R_drewN | apply Kd.R_drew)); exact (Kd.R_mono (Kd.R_far (p := ⟨gb911, 2, none⟩) (Kd.R_far (p := ⟨gb911, 1, none⟩) (Kd.R_far (p := ⟨gb911, 0, none⟩) (Kd.R_types HO897.out BK911.out (by decide)) (fun _ hk => hk.2) (.slice Ao28 t904.length co28)) (fun _ hk => hk.2) (.int .i64 t907)) (fun _ hk => hk.2) (.slice Ao32 t908.length co32)) (fun _ h_ => h_.1))) (Kd.R_base ho0) hb); have n3_ := Aside0.mk (Kd.R_elder' (by (with_reducible repeat (first | apply Kd.R_alloc | apply Kd.R_drewN | apply Kd.R_drew)); exact (Kd.R_mono (Kd.R_far (p := ⟨gb911, 2, none⟩) (Kd.R_far (p := ⟨gb911, 1, none⟩) (Kd.R_far (p := ⟨gb911, 0, none⟩) (Kd.R_types HO901.out BK911.out (by decide)) (fun _ hk => hk.2) (.slice Ao28 t904.length co28)) (fun _ hk => hk.2) (.int .i64 t907)) (fun _ hk => hk.2) (.slice Ao32 t908.length co32)) (fun _ h_ => h_.1))) (Kd.R_base ho1) hb); have n4_ := Aside0.mk (Kd.R_elder' (by (with_reducible repeat (first | apply Kd.R_alloc | apply Kd.R_drewN | apply Kd.R_drew)); exact (Kd.R_mono (Kd.R_far (p := ⟨gb911, 2, none⟩) (Kd.R_far (p := ⟨gb911, 1, none⟩) (Kd.R_far (p := ⟨gb911, 0, none⟩) (Kd.R_types HO906.out BK911.out (by decide)) (fun _ hk => hk.2) (.slice Ao28 t904.length co28)) (fun _ hk => hk.2) (.int .i64 t907)) (fun _ hk => hk.2) (.slice Ao32 t908.length co32)) (fun _ h_ => h_.1))) (Kd.R_base ho0) hb); have n5_ := Aside0.mk (Kd.R_elder' (by (with_reducible repeat (first | apply Kd.R_alloc | apply Kd.R_drewN | apply Kd.R_drew)); exact (Kd.R_mono (Kd.R_far (p := ⟨gb911, 2, none⟩) (Kd.R_far (p := ⟨gb911, 1, none⟩) (Kd.R_far (p := ⟨gb911, 0, none⟩) (Kd.R_types HO910.out BK911.out (by decide)) (fun _ hk => hk.2) (.slice Ao28 t904.length co28)) (fun _ hk => hk.2) (.int .i64 t907)) (fun _ hk => hk.2) (.slice Ao32 t908.length co32)) (fun _ h_ => h_.1))) (Kd.R_base ho1) hb); have n6_ := Aside0.mk (Kd.R_lower (Kd.R_new' (Kd.R_new' (Kd.R_new' ho0 (Kd.R_lt (by (with_reducible repeat (first | apply Kd.R_alloc | apply Kd.R_drewN | apply Kd.R_drew)); exact (Kd.R_mono (Kd.R_far (p := ⟨gb911, 2, none⟩) (Kd.R_far (p := ⟨gb911, 1, none⟩) (Kd.R_far (p := ⟨gb911, 0, none⟩) (Kd.R_types HO890.out BK911.out (by decide)) (fun _ hk => hk.2) (.slice Ao28 t904.length co28)) (fun _ hk => hk.2) (.int .i64 t907)) (fun _ hk => hk.2) (.slice Ao32 t908.length co32)) (fun _ h_ => h_.1))))) (Kd.R_lt (by (with_reducible repeat (first | apply Kd.R_alloc | apply Kd.R_drewN | apply Kd.R_drew)); exact (Kd.R_mono (Kd.R_far (p := ⟨gb911, 2, none⟩) (Kd.R_far (p := ⟨gb911, 1, none⟩) (Kd.R_far (p := ⟨gb911, 0, none⟩) (Kd.R_types HO897.out BK911.out (by decide)) (fun _ hk => hk.2) (.slice Ao28 t904.length co28)) (fun _ hk => hk.2) (.int .i64 t907)) (fun _ hk => hk.2) (.slice Ao32 t908.length co32)) (fun _ h_ => h_.1))))) (Kd.R_lt (by (with_reducible repeat (first | apply Kd.R_alloc | apply Kd.R_drewN | apply Kd.R_drew)); exact (Kd.R_mono (Kd.R_far (p := ⟨gb911, 2, none⟩) (Kd.R_far (p := ⟨gb911, 1, none⟩) (Kd.R_far (p := ⟨gb911, 0, none⟩) (Kd.R_types HO906.out BK911.out (by decide)) (fun _ hk => hk.2) (.slice Ao28 t904.length co28)) (fun _ hk => hk.2) (.int .i64 t907)) (fun _ hk => hk.2) (.slice Ao32 t908.length co32)) (fun _ h_ => h_.1))))) (below_size (oB HB))); have n7_ := Aside0.mk (Kd.R_lower (Kd.R_new' (Kd.R_new' (Kd.R_new' ho1 (Kd.R_lt (by (with_reducible repeat (first | apply Kd.R_alloc | apply Kd.R_drewN | apply Kd.R_drew)); exact (Kd.R_mono (Kd.R_far (p := ⟨gb911, 2, none⟩) (Kd.R_far (p := ⟨gb911, 1, none⟩) (Kd.R_far (p := ⟨gb911, 0, none⟩) (Kd.R_types HO894.out BK911.out (by decide)) (fun _ hk => hk.2) (.slice Ao28 t904.length co28)) (fun _ hk => hk.2) (.int .i64 t907)) (fun _ hk => hk.2) (.slice Ao32 t908.length co32)) (fun _ h_ => h_.1))))) (Kd.R_lt (by (with_reducible repeat (first | apply Kd.R_alloc | apply Kd.R_drewN | apply Kd.R_drew)); exact (Kd.R_mono (Kd.R_far (p := ⟨gb911, 2, none⟩) (Kd.R_far (p := ⟨gb911, 1, none⟩) (Kd.R_far (p := ⟨gb911, 0, none⟩) (Kd.R_types HO901.out BK911.out (by decide)) (fun _ hk => hk.2) (.slice Ao28 t904.length co28)) (fun _ hk => hk.2) (.int .i64 t907)) (fun _ hk => hk.2) (.slice Ao32 t908.length co32)) (fun _ h_ => h_.1))))) (Kd.R_lt (by (with_reducible repeat (first | apply Kd.R_alloc | apply Kd.R_drewN | apply Kd.R_drew)); exact (Kd.R_mono (Kd.R_far (p := ⟨gb911, 2, none⟩) (Kd.R_far (p := ⟨gb911, 1, none⟩) (Kd.R_far (p := ⟨gb911, 0, none⟩) (Kd.R_types HO910.out BK911.out (by decide)) (fun _ hk => hk.2) (.slice Ao28 t904.length co28)) (fun _ hk => hk.2) (.int .i64 t907)) (fun _ hk => hk.2) (.slice Ao32 t908.length co32)) (fun _ h_ => h_.1))))) (below_size (oB HB))); have n8_ := Aside0.mk (blk_below (g := gb886) (o := .cells #[.slice A0_0 l0_0.length c0_0, .int .i64 a0_1, .slice A0_2 l0_2.length c0_2] 25 (0, 0)) (by (with_reducible repeat (first | refine blk_drewN ?_ _ | refine blk_drew ?_ | refine blk_alloc ?_ _)); refine blk_far ?_ NB886_911.out _; (with_reducible repeat (first | refine blk_drewN ?_ _ | refine blk_drew ?_ | refine blk_alloc ?_ _)); refine blk_far ?_ NB886_911.out _; (with_reducible repeat (first | refine blk_drewN ?_ _ | refine blk_drew ?_ | refine blk_alloc ?_ _)); refine blk_far ?_ NB886_911.out _; (with_reducible repeat (first | refine blk_drewN ?_ _ | refine blk_drew ?_ | refine blk_alloc ?_ _)); exact BK886.out) hb); have n9_ := Aside0.mk (blk_below (g := gb903) (o := .cells #[.slice Ao21 t895.length co21, .int .i64 t898, .slice Ao24 t899.length co24] 30 (0, 0)) (by (with_reducible repeat (first | refine blk_drewN ?_ _ | refine blk_drew ?_ | refine blk_alloc ?_ _)); refine blk_far ?_ NB903_911.out _; (with_reducible repeat (first | refine blk_drewN ?_ _ | refine blk_drew ?_ | refine blk_alloc ?_ _)); refine blk_far ?_ NB903_911.out _; (with_reducible repeat (first | refine blk_drewN ?_ _ | refine blk_drew ?_ | refine blk_alloc ?_ _)); refine blk_far ?_ NB903_911.out _; (with_reducible repeat (first | refine blk_drewN ?_ _ | refine blk_drew ?_ | refine blk_alloc ?_ _)); exact BK903.out) hb); have n10_ := Aside0.mk (blk_below (g := gb911) (o := .cells #[.slice Ao28 t904.length co28, .int .i64 t907, .slice Ao32 t908.length co32] 30 (0, 0)) (by (with_reducible repeat (first | refine blk_drewN ?_ _ | refine blk_drew ?_ | refine blk_alloc ?_ _)); refine blk_put (cs := #[.slice Ao28 t904.length co28, .int .i64 t907, .slice none 0 0]) ?_ 2 _ rfl; (with_reducible repeat (first | refine blk_drewN ?_ _ | refine blk_drew ?_ | refine blk_alloc ?_ _)); refine blk_put (cs := #[.slice Ao28 t904.length co28, .int .i64 0, .slice none 0 0]) ?_ 1 _ rfl; (with_reducible repeat (first | refine blk_drewN ?_ _ | refine blk_drew ?_ | refine blk_alloc ?_ _)); refine blk_put (cs := #[.slice none 0 0, .int .i64 0, .slice none 0 0]) ?_ 0 _ rfl; (with_reducible repeat (first | refine blk_drewN ?_ _ | refine blk_drew ?_ | refine blk_alloc ?_ _)); exact BK911.out) hb); have n11_ := Aside0.mk (below_step (oB HB) hb); clear HO890; clear HO894; clear HO897; clear HO901; clear HO906; clear HO910; clear BK886; clear BK903; clear BK911; clear HB; have HO890 := n0_; have HO894 := n1_; have HO897 := n2_; have HO901 := n3_; have HO906 := n4_; have HO910 := n5_; have HO914 := n6_; have HO918 := n7_; have BK886 := n8_; have BK903 := n9_; have BK911 := n10_; have HB := n11_; clear n0_ n1_ n2_ n3_ n4_ n5_ n6_ n7_ n8_ n9_ n10_ n11_; (try clear hb); (try clear hb2); (try clear hk); (try clear hi); (try clear ho0); (try clear ho1)) | ((with_reducible refine gate_dst (N := 7) rfl ?_); refine box_event ?hg (N := 7) ?hd (cs := #[.slice none 0 0, .int .i64 0, .slice none 0 0]) (t := 30) ?hr ?_; (case hd => rfl); (case hg => rfl); (case hr => first | (go_simp; done) | (go_simp; rfl)); intro gb920 hg w34 hbox hb; have n0_ := Aside0.mk (Kd.R_below (oR HO890) hb); have n1_ := Aside0.mk (Kd.R_below (oR HO894) hb); have n2_ := Aside0.mk (Kd.R_below (oR HO897) hb); have n3_ := Aside0.mk (Kd.R_below (oR HO901) hb); have n4_ := Aside0.mk (Kd.R_below (oR HO906) hb); have n5_ := Aside0.mk (Kd.R_below (oR HO910) hb); have n6_ := Aside0.mk (Kd.R_below (oR HO914) hb); have n7_ := Aside0.mk (Kd.R_below (oR HO918) hb); have n8_ := Aside0.mk (blk_below (g := gb886) (o := .cells #[.slice A0_0 l0_0.length c0_0, .int .i64 a0_1, .slice A0_2 l0_2.length c0_2] 25 (0, 0)) (oK BK886) hb); have n9_ := Aside0.mk (blk_below (g := gb903) (o := .cells #[.slice Ao21 t895.length co21, .int .i64 t898, .slice Ao24 t899.length co24] 30 (0, 0)) (oK BK903) hb); have n10_ := Aside0.mk (blk_below (g := gb911) (o := .cells #[.slice Ao28 t904.length co28, .int .i64 t907, .slice Ao32 t908.length co32] 30 (0, 0)) (oK BK911) hb); have n11_ := Aside0.mk (below_step (oB HB) hb); have n12_ := Aside0.mk (hbox); have n13_ := Aside0.mk ((by rw [hg]; exact (below_size (oB HB)) : w.heap.size ≤ gb920)); have n14_ := Aside0.mk ((by rw [hg]; exact (below_size (oB HB)) : w.heap.size ≤ gb920)); have n15_ := Aside0.mk ((by rw [hg]; exact Nat.ne_of_lt (blk_lt (g := gb886) (o := .cells #[.slice A0_0 l0_0.length c0_0, .int .i64 a0_1, .slice A0_2 l0_2.length c0_2] 25 (0, 0)) (oK BK886)) : gb886 ≠ gb920)); have n16_ := Aside0.mk ((by rw [hg]; exact Nat.ne_of_gt (blk_lt (g := gb886) (o := .cells #[.slice A0_0 l0_0.length c0_0, .int .i64 a0_1, .slice A0_2 l0_2.length c0_2] 25 (0, 0)) (oK BK886)) : gb920 ≠ gb886)); have n17_ := Aside0.mk ((by rw [hg]; exact Nat.ne_of_lt (blk_lt (g := gb903) (o := .cells #[.slice Ao21 t895.length co21, .int .i64 t898, .slice Ao24 t899.length co24] 30 (0, 0)) (oK BK903)) : gb903 ≠ gb920)); have n18_ := Aside0.mk ((by rw [hg]; exact Nat.ne_of_gt (blk_lt (g := gb903) (o := .cells #[.slice Ao21 t895.length co21, .int .i64 t898, .slice Ao24 t899.length co24] 30 (0, 0)) (oK BK903)) : gb920 ≠ gb903)); have n19_ := Aside0.mk ((by rw [hg]; exact Nat.ne_of_lt (blk_lt (g := gb911) (o := .cells #[.slice Ao28 t904.length co28, .int .i64 t907, .slice Ao32 t908.length co32] 30 (0, 0)) (oK BK911)) : gb911 ≠ gb920)); have n20_ := Aside0.mk ((by rw [hg]; exact Nat.ne_of_gt (blk_lt (g := gb911) (o := .cells #[.slice Ao28 t904.length co28, .int .i64 t907, .slice Ao32 t908.length co32] 30 (0, 0)) (oK BK911)) : gb920 ≠ gb911)); clear HO890; clear HO894; clear HO897; clear HO901; clear HO906; clear HO910; clear HO914; clear HO918; clear BK886; clear BK903; clear BK911; clear HB; have HO890 := n0_; have HO894 := n1_; have HO897 := n2_; have HO901 := n3_; have HO906 := n4_; have HO910 := n5_; have HO914 := n6_; have HO918 := n7_; have BK886 := n8_; have BK903 := n9_; have BK911 := n10_; have HB := n11_; have BK920 := n12_; have GW920 := n13_; have GE920 := n14_; have NB886_920 := n15_; have NB920_886 := n16_; have NB903_920 := n17_; have NB920_903 := n18_; have NB911_920 := n19_; have NB920_911 := n20_; clear n0_ n1_ n2_ n3_ n4_ n5_ n6_ n7_ n8_ n9_ n10_ n11_ n12_ n13_ n14_ n15_ n16_ n17_ n18_ n19_ n20_; clear hb hbox hg; obtain ⟨Ao35, co35, eo35⟩ := Kd.R_slice HO914.out; subst eo35; have hnb36 := NB920_886.out; have hnc36 := NB886_920.out; have hnb37 := NB920_903.out; have hnc37 := NB903_920.out; have hnb38 := NB920_911.out; have hnc38 := NB911_920.out; have hcz39_0 : w34.cell? ⟨gb920, 0, none⟩ = some (.slice none 0 0) := (blk_cell BK920.out 0).trans rfl; have hcz39_1 : w34.cell? ⟨gb920, 1, none⟩ = some (.int .i64 0) := (blk_cell BK920.out 1).trans rfl; have hcz39_2 : w34.cell? ⟨gb920, 2, none⟩ = some (.slice none 0 0) := (blk_cell BK920.out 2).trans rfl; have hfz39_0 := blk_frozen BK920.out 0; have hfz39_1 := blk_frozen BK920.out 1; have hfz39_2 := blk_frozen BK920.out 2; obtain ⟨Ao40, co40, eo40⟩ := Kd.R_slice HO918.out; subst eo40))
    (try simp only [Act.put, List.setIfInBounds_toArray, List.set_cons_zero, List.set_cons_succ])
    go_cut [40] (fun v40 wc => ∃ (kq : Nat) (x40_10 : Bool), v40 = .bool x40_10 ∧ Aside0 (laws_FnExactMendStep.j0 kq t902 t919 x40_10 l0_0 a0_1 l0_2 t895 t898 t899 t904 t907 t908 t912 t915 t916 = some r) ∧ Aside0 (kq ≤ k) ∧ Aside0 (Kd.R k67 67 wc w.heap.size (fun k_ => some k_ ≠ ((.slice Ao28 t904.length co28) : Value).ownBlock ∧ some k_ ≠ ((.slice Ao35 t912.length co35) : Value).ownBlock) (.slice Ao21 t895.length co21) t895) ∧ Aside0 (Kd.R (Kd.int .i64) 3 wc w.heap.size (fun k_ => some k_ ≠ ((.slice Ao32 t908.length co32) : Value).ownBlock ∧ some k_ ≠ ((.slice Ao40 t916.length co40) : Value).ownBlock) (.slice Ao24 t899.length co24) t899) ∧ Aside0 (Kd.R k67 67 wc w.heap.size (fun k_ => some k_ ≠ ((.slice Ao21 t895.length co21) : Value).ownBlock ∧ some k_ ≠ ((.slice Ao35 t912.length co35) : Value).ownBlock) (.slice Ao28 t904.length co28) t904) ∧ Aside0 (Kd.R (Kd.int .i64) 3 wc w.heap.size (fun k_ => some k_ ≠ ((.slice Ao24 t899.length co24) : Value).ownBlock ∧ some k_ ≠ ((.slice Ao40 t916.length co40) : Value).ownBlock) (.slice Ao32 t908.length co32) t908) ∧ Aside0 (Kd.R k67 67 wc w.heap.size (fun k_ => some k_ ≠ ((.slice Ao21 t895.length co21) : Value).ownBlock ∧ some k_ ≠ ((.slice Ao28 t904.length co28) : Value).ownBlock) (.slice Ao35 t912.length co35) t912) ∧ Aside0 (Kd.R (Kd.int .i64) 3 wc w.heap.size (fun k_ => some k_ ≠ ((.slice Ao24 t899.length co24) : Value).ownBlock ∧ some k_ ≠ ((.slice Ao32 t908.length co32) : Value).ownBlock) (.slice Ao40 t916.length co40) t916) ∧ Aside0 (wc.heap[gb886]? = some (.cells #[(.slice A0_0 l0_0.length c0_0), .int .i64 a0_1, (.slice A0_2 l0_2.length c0_2)] 25 (0, 0))) ∧ Aside0 (wc.heap[gb903]? = some (.cells #[(.slice Ao21 t895.length co21), .int .i64 t898, (.slice Ao24 t899.length co24)] 30 (0, 0))) ∧ Aside0 (wc.heap[gb911]? = some (.cells #[(.slice Ao28 t904.length co28), .int .i64 t907, (.slice Ao32 t908.length co32)] 30 (0, 0))) ∧ Aside0 (wc.heap[gb920]? = some (.cells #[(.slice Ao35 t912.length co35), .int .i64 t915, (.slice Ao40 t916.length co40)] 30 (0, 0))) ∧ Aside0 (Below w.heap.size w wc))
    case first =>
      have H := HC11.out
      clear HC11
      replace H := Option.bind_eq_some_iff.mp H
      obtain ⟨t921, A410, H⟩ := H
      (try dsimp only at H)
      have A41 := Aside0.mk A410
      clear A410
      by_cases c42 : t921 = true
      · subst c42
        rw [if_pos rfl] at H
        have H' := Aside0.mk H
        clear H
        have hnb43 := NB920_886.out
        have hnc43 := NB886_920.out
        have hnb44 := NB920_903.out
        have hnc44 := NB903_920.out
        have hnb45 := NB920_911.out
        have hnc45 := NB911_920.out
        have hcz46_0 : w34.cell? ⟨gb920, 0, none⟩ = some (.slice none 0 0) := (blk_cell BK920.out 0).trans rfl
        have hcz46_1 : w34.cell? ⟨gb920, 1, none⟩ = some (.int .i64 0) := (blk_cell BK920.out 1).trans rfl
        have hcz46_2 : w34.cell? ⟨gb920, 2, none⟩ = some (.slice none 0 0) := (blk_cell BK920.out 2).trans rfl
        have hfz46_0 := blk_frozen BK920.out 0
        have hfz46_1 := blk_frozen BK920.out 1
        have hfz46_2 := blk_frozen BK920.out 2
        have hnb47 := NB903_886.out
        have hnc47 := NB886_903.out
        have hnb48 := NB903_911.out
        have hnc48 := NB911_903.out
        have hcz49_0 : w34.cell? ⟨gb903, 0, none⟩ = some (.slice Ao21 t895.length co21) := (blk_cell BK903.out 0).trans rfl
        have hcz49_1 : w34.cell? ⟨gb903, 1, none⟩ = some (.int .i64 t898) := (blk_cell BK903.out 1).trans rfl
        have hcz49_2 : w34.cell? ⟨gb903, 2, none⟩ = some (.slice Ao24 t899.length co24) := (blk_cell BK903.out 2).trans rfl
        have hfz49_0 := blk_frozen BK903.out 0
        have hfz49_1 := blk_frozen BK903.out 1
        have hfz49_2 := blk_frozen BK903.out 2
        go_wp2_with (first | ((with_reducible refine gate_callee (f := 19) rfl ?_); refine goesL_ (some 34) rfl rfl Try.func19 (by kernel_rfl) rfl #[.agg #[.slice Ao35 t912.length co35, .int .i64 t915, .slice Ao40 t916.length co40], .agg #[.slice Ao21 t895.length co21, .int .i64 t898, .slice Ao24 t899.length co24]] rfl (by (try simp only [List.map_toArray, List.map_cons, List.map_nil]); first | done | rfl | (simp only [List.length_drop, List.length_take]; rfl)) ?_; (with_reducible refine (laws_eqWork.calls k _ _ t912 t915 _ _ t916 _ _ t895 t898 _ _ t899 true _ ?side1 ?side2 ?side3 ?side4 ?side5 ?side6 ?side7 ?side8 A41.out).mono ?_); (case side1 => refine (Kd.R_reads' (e := 67) (base := w.heap.size) (ok := fun k_ => (((True ∧ some k_ ≠ (.slice Ao17 t888.length co17 : Value).ownBlock) ∧ some k_ ≠ (.slice Ao21 t895.length co21 : Value).ownBlock) ∧ some k_ ≠ (.slice Ao28 t904.length co28 : Value).ownBlock)) (n := t912.length) (c := co35) ?_).2.2; exact (by (with_reducible repeat (first | apply Kd.R_alloc | apply Kd.R_drewN | apply Kd.R_drew)); exact (Kd.R_mono (Kd.R_far (p := ⟨gb920, 2, none⟩) (Kd.R_far (p := ⟨gb920, 1, none⟩) (Kd.R_far (p := ⟨gb920, 0, none⟩) (Kd.R_types HO914.out BK920.out (by decide)) (fun _ hk => hk.2) (.slice Ao35 t912.length co35)) (fun _ hk => hk.2) (.int .i64 t915)) (fun _ hk => hk.2) (.slice Ao40 t916.length co40)) (fun _ h_ => h_.1)))); (case side2 => exact (Kd.R_reads' HO914.out).2.1); (case side3 => refine (Kd.R_reads' (e := 3) (base := w.heap.size) (ok := fun k_ => (((True ∧ some k_ ≠ (.slice Ao18 t892.length co18 : Value).ownBlock) ∧ some k_ ≠ (.slice Ao24 t899.length co24 : Value).ownBlock) ∧ some k_ ≠ (.slice Ao32 t908.length co32 : Value).ownBlock)) (n := t916.length) (c := co40) ?_).2.2; exact (by (with_reducible repeat (first | apply Kd.R_alloc | apply Kd.R_drewN | apply Kd.R_drew)); exact (Kd.R_mono (Kd.R_far (p := ⟨gb920, 2, none⟩) (Kd.R_far (p := ⟨gb920, 1, none⟩) (Kd.R_far (p := ⟨gb920, 0, none⟩) (Kd.R_types HO918.out BK920.out (by decide)) (fun _ hk => hk.2) (.slice Ao35 t912.length co35)) (fun _ hk => hk.2) (.int .i64 t915)) (fun _ hk => hk.2) (.slice Ao40 t916.length co40)) (fun _ h_ => h_.1)))); (case side4 => exact (Kd.R_reads' HO918.out).2.1); (case side5 => refine (Kd.R_reads' (e := 67) (base := w.heap.size) (ok := fun k_ => (((True ∧ some k_ ≠ (.slice Ao17 t888.length co17 : Value).ownBlock) ∧ some k_ ≠ (.slice Ao28 t904.length co28 : Value).ownBlock) ∧ some k_ ≠ (.slice Ao35 t912.length co35 : Value).ownBlock)) (n := t895.length) (c := co21) ?_).2.2; exact (by (with_reducible repeat (first | apply Kd.R_alloc | apply Kd.R_drewN | apply Kd.R_drew)); exact (Kd.R_mono (Kd.R_far (p := ⟨gb920, 2, none⟩) (Kd.R_far (p := ⟨gb920, 1, none⟩) (Kd.R_far (p := ⟨gb920, 0, none⟩) (Kd.R_types HO897.out BK920.out (by decide)) (fun _ hk => hk.2) (.slice Ao35 t912.length co35)) (fun _ hk => hk.2) (.int .i64 t915)) (fun _ hk => hk.2) (.slice Ao40 t916.length co40)) (fun _ h_ => h_.1)))); (case side6 => exact (Kd.R_reads' HO897.out).2.1); (case side7 => refine (Kd.R_reads' (e := 3) (base := w.heap.size) (ok := fun k_ => (((True ∧ some k_ ≠ (.slice Ao18 t892.length co18 : Value).ownBlock) ∧ some k_ ≠ (.slice Ao32 t908.length co32 : Value).ownBlock) ∧ some k_ ≠ (.slice Ao40 t916.length co40 : Value).ownBlock)) (n := t899.length) (c := co24) ?_).2.2; exact (by (with_reducible repeat (first | apply Kd.R_alloc | apply Kd.R_drewN | apply Kd.R_drew)); exact (Kd.R_mono (Kd.R_far (p := ⟨gb920, 2, none⟩) (Kd.R_far (p := ⟨gb920, 1, none⟩) (Kd.R_far (p := ⟨gb920, 0, none⟩) (Kd.R_types HO901.out BK920.out (by decide)) (fun _ hk => hk.2) (.slice Ao35 t912.length co35)) (fun _ hk => hk.2) (.int .i64 t915)) (fun _ hk => hk.2) (.slice Ao40 t916.length co40)) (fun _ h_ => h_.1)))); (case side8 => exact (Kd.R_reads' HO901.out).2.1); rintro e w50 ⟨rfl, hb⟩; refine ⟨_, rfl, ?_⟩; have n0_ := Aside0.mk (Kd.R_below (by (with_reducible repeat (first | apply Kd.R_alloc | apply Kd.R_drewN | apply Kd.R_drew)); exact (Kd.R_mono (Kd.R_far (p := ⟨gb920, 2, none⟩) (Kd.R_far (p := ⟨gb920, 1, none⟩) (Kd.R_far (p := ⟨gb920, 0, none⟩) (Kd.R_types HO890.out BK920.out (by decide)) (fun _ hk => hk.2) (.slice Ao35 t912.length co35)) (fun _ hk => hk.2) (.int .i64 t915)) (fun _ hk => hk.2) (.slice Ao40 t916.length co40)) (fun _ h_ => h_.1))) hb); have n1_ := Aside0.mk (Kd.R_below (by (with_reducible repeat (first | apply Kd.R_alloc | apply Kd.R_drewN | apply Kd.R_drew)); exact (Kd.R_mono (Kd.R_far (p := ⟨gb920, 2, none⟩) (Kd.R_far (p := ⟨gb920, 1, none⟩) (Kd.R_far (p := ⟨gb920, 0, none⟩) (Kd.R_types HO894.out BK920.out (by decide)) (fun _ hk => hk.2) (.slice Ao35 t912.length co35)) (fun _ hk => hk.2) (.int .i64 t915)) (fun _ hk => hk.2) (.slice Ao40 t916.length co40)) (fun _ h_ => h_.1))) hb); have n2_ := Aside0.mk (Kd.R_below (by (with_reducible repeat (first | apply Kd.R_alloc | apply Kd.R_drewN | apply Kd.R_drew)); exact (Kd.R_mono (Kd.R_far (p := ⟨gb920, 2, none⟩) (Kd.R_far (p := ⟨gb920, 1, none⟩) (Kd.R_far (p := ⟨gb920, 0, none⟩) (Kd.R_types HO897.out BK920.out (by decide)) (fun _ hk => hk.2) (.slice Ao35 t912.length co35)) (fun _ hk => hk.2) (.int .i64 t915)) (fun _ hk => hk.2) (.slice Ao40 t916.length co40)) (fun _ h_ => h_.1))) hb); have n3_ := Aside0.mk (Kd.R_below (by (with_reducible repeat (first | apply Kd.R_alloc | apply Kd.R_drewN | apply Kd.R_drew)); exact (Kd.R_mono (Kd.R_far (p := ⟨gb920, 2, none⟩) (Kd.R_far (p := ⟨gb920, 1, none⟩) (Kd.R_far (p := ⟨gb920, 0, none⟩) (Kd.R_types HO901.out BK920.out (by decide)) (fun _ hk => hk.2) (.slice Ao35 t912.length co35)) (fun _ hk => hk.2) (.int .i64 t915)) (fun _ hk => hk.2) (.slice Ao40 t916.length co40)) (fun _ h_ => h_.1))) hb); have n4_ := Aside0.mk (Kd.R_below (by (with_reducible repeat (first | apply Kd.R_alloc | apply Kd.R_drewN | apply Kd.R_drew)); exact (Kd.R_mono (Kd.R_far (p := ⟨gb920, 2, none⟩) (Kd.R_far (p := ⟨gb920, 1, none⟩) (Kd.R_far (p := ⟨gb920, 0, none⟩) (Kd.R_types HO906.out BK920.out (by decide)) (fun _ hk => hk.2) (.slice Ao35 t912.length co35)) (fun _ hk => hk.2) (.int .i64 t915)) (fun _ hk => hk.2) (.slice Ao40 t916.length co40)) (fun _ h_ => h_.1))) hb); have n5_ := Aside0.mk (Kd.R_below (by (with_reducible repeat (first | apply Kd.R_alloc | apply Kd.R_drewN | apply Kd.R_drew)); exact (Kd.R_mono (Kd.R_far (p := ⟨gb920, 2, none⟩) (Kd.R_far (p := ⟨gb920, 1, none⟩) (Kd.R_far (p := ⟨gb920, 0, none⟩) (Kd.R_types HO910.out BK920.out (by decide)) (fun _ hk => hk.2) (.slice Ao35 t912.length co35)) (fun _ hk => hk.2) (.int .i64 t915)) (fun _ hk => hk.2) (.slice Ao40 t916.length co40)) (fun _ h_ => h_.1))) hb); have n6_ := Aside0.mk (Kd.R_below (by (with_reducible repeat (first | apply Kd.R_alloc | apply Kd.R_drewN | apply Kd.R_drew)); exact (Kd.R_mono (Kd.R_far (p := ⟨gb920, 2, none⟩) (Kd.R_far (p := ⟨gb920, 1, none⟩) (Kd.R_far (p := ⟨gb920, 0, none⟩) (Kd.R_types HO914.out BK920.out (by decide)) (fun _ hk => hk.2) (.slice Ao35 t912.length co35)) (fun _ hk => hk.2) (.int .i64 t915)) (fun _ hk => hk.2) (.slice Ao40 t916.length co40)) (fun _ h_ => h_.1))) hb); have n7_ := Aside0.mk (Kd.R_below (by (with_reducible repeat (first | apply Kd.R_alloc | apply Kd.R_drewN | apply Kd.R_drew)); exact (Kd.R_mono (Kd.R_far (p := ⟨gb920, 2, none⟩) (Kd.R_far (p := ⟨gb920, 1, none⟩) (Kd.R_far (p := ⟨gb920, 0, none⟩) (Kd.R_types HO918.out BK920.out (by decide)) (fun _ hk => hk.2) (.slice Ao35 t912.length co35)) (fun _ hk => hk.2) (.int .i64 t915)) (fun _ hk => hk.2) (.slice Ao40 t916.length co40)) (fun _ h_ => h_.1))) hb); have n8_ := Aside0.mk (blk_below (g := gb886) (o := .cells #[.slice A0_0 l0_0.length c0_0, .int .i64 a0_1, .slice A0_2 l0_2.length c0_2] 25 (0, 0)) (by (with_reducible repeat (first | refine blk_drewN ?_ _ | refine blk_drew ?_ | refine blk_alloc ?_ _)); refine blk_far ?_ NB886_920.out _; (with_reducible repeat (first | refine blk_drewN ?_ _ | refine blk_drew ?_ | refine blk_alloc ?_ _)); refine blk_far ?_ NB886_920.out _; (with_reducible repeat (first | refine blk_drewN ?_ _ | refine blk_drew ?_ | refine blk_alloc ?_ _)); refine blk_far ?_ NB886_920.out _; (with_reducible repeat (first | refine blk_drewN ?_ _ | refine blk_drew ?_ | refine blk_alloc ?_ _)); exact BK886.out) hb); have n9_ := Aside0.mk (blk_below (g := gb903) (o := .cells #[.slice Ao21 t895.length co21, .int .i64 t898, .slice Ao24 t899.length co24] 30 (0, 0)) (by (with_reducible repeat (first | refine blk_drewN ?_ _ | refine blk_drew ?_ | refine blk_alloc ?_ _)); refine blk_far ?_ NB903_920.out _; (with_reducible repeat (first | refine blk_drewN ?_ _ | refine blk_drew ?_ | refine blk_alloc ?_ _)); refine blk_far ?_ NB903_920.out _; (with_reducible repeat (first | refine blk_drewN ?_ _ | refine blk_drew ?_ | refine blk_alloc ?_ _)); refine blk_far ?_ NB903_920.out _; (with_reducible repeat (first | refine blk_drewN ?_ _ | refine blk_drew ?_ | refine blk_alloc ?_ _)); exact BK903.out) hb); have n10_ := Aside0.mk (blk_below (g := gb911) (o := .cells #[.slice Ao28 t904.length co28, .int .i64 t907, .slice Ao32 t908.length co32] 30 (0, 0)) (by (with_reducible repeat (first | refine blk_drewN ?_ _ | refine blk_drew ?_ | refine blk_alloc ?_ _)); refine blk_far ?_ NB911_920.out _; (with_reducible repeat (first | refine blk_drewN ?_ _ | refine blk_drew ?_ | refine blk_alloc ?_ _)); refine blk_far ?_ NB911_920.out _; (with_reducible repeat (first | refine blk_drewN ?_ _ | refine blk_drew ?_ | refine blk_alloc ?_ _)); refine blk_far ?_ NB911_920.out _; (with_reducible repeat (first | refine blk_drewN ?_ _ | refine blk_drew ?_ | refine blk_alloc ?_ _)); exact BK911.out) hb); have n11_ := Aside0.mk (blk_below (g := gb920) (o := .cells #[.slice Ao35 t912.length co35, .int .i64 t915, .slice Ao40 t916.length co40] 30 (0, 0)) (by (with_reducible repeat (first | refine blk_drewN ?_ _ | refine blk_drew ?_ | refine blk_alloc ?_ _)); refine blk_put (cs := #[.slice Ao35 t912.length co35, .int .i64 t915, .slice none 0 0]) ?_ 2 _ rfl; (with_reducible repeat (first | refine blk_drewN ?_ _ | refine blk_drew ?_ | refine blk_alloc ?_ _)); refine blk_put (cs := #[.slice Ao35 t912.length co35, .int .i64 0, .slice none 0 0]) ?_ 1 _ rfl; (with_reducible repeat (first | refine blk_drewN ?_ _ | refine blk_drew ?_ | refine blk_alloc ?_ _)); refine blk_put (cs := #[.slice none 0 0, .int .i64 0, .slice none 0 0]) ?_ 0 _ rfl; (with_reducible repeat (first | refine blk_drewN ?_ _ | refine blk_drew ?_ | refine blk_alloc ?_ _)); exact BK920.out) hb); have n12_ := Aside0.mk (below_step (oB HB) hb); clear HO890; clear HO894; clear HO897; clear HO901; clear HO906; clear HO910; clear HO914; clear HO918; clear BK886; clear BK903; clear BK911; clear BK920; clear HB; have HO890 := n0_; have HO894 := n1_; have HO897 := n2_; have HO901 := n3_; have HO906 := n4_; have HO910 := n5_; have HO914 := n6_; have HO918 := n7_; have BK886 := n8_; have BK903 := n9_; have BK911 := n10_; have BK920 := n11_; have HB := n12_; clear n0_ n1_ n2_ n3_ n4_ n5_ n6_ n7_ n8_ n9_ n10_ n11_ n12_; (try clear hb); (try clear hb2); (try clear hk); (try clear hi)))
        go_meet
        case rel => exact ⟨_, ((t919 != t902)), (by first | rfl | (simp; done) | (simp [*]; done)), H', ⟨by first | omega | exact Nat.le_refl _⟩, ⟨by (with_reducible repeat (first | apply Kd.R_alloc | apply Kd.R_drewN | apply Kd.R_drew)); exact Kd.R_mono HO897.out (fun _ hk => ⟨hk.1.2, hk.2⟩)⟩, ⟨by (with_reducible repeat (first | apply Kd.R_alloc | apply Kd.R_drewN | apply Kd.R_drew)); exact Kd.R_mono HO901.out (fun _ hk => ⟨hk.1.2, hk.2⟩)⟩, ⟨by (with_reducible repeat (first | apply Kd.R_alloc | apply Kd.R_drewN | apply Kd.R_drew)); exact Kd.R_mono HO906.out (fun _ hk => ⟨hk.1.2, hk.2⟩)⟩, ⟨by (with_reducible repeat (first | apply Kd.R_alloc | apply Kd.R_drewN | apply Kd.R_drew)); exact Kd.R_mono HO910.out (fun _ hk => ⟨hk.1.2, hk.2⟩)⟩, ⟨by (with_reducible repeat (first | apply Kd.R_alloc | apply Kd.R_drewN | apply Kd.R_drew)); exact Kd.R_mono HO914.out (fun _ hk => ⟨hk.1.2, hk.2⟩)⟩, ⟨by (with_reducible repeat (first | apply Kd.R_alloc | apply Kd.R_drewN | apply Kd.R_drew)); exact Kd.R_mono HO918.out (fun _ hk => ⟨hk.1.2, hk.2⟩)⟩, ⟨oK BK886⟩, ⟨oK BK903⟩, ⟨oK BK911⟩, ⟨oK BK920⟩, ⟨oB HB⟩⟩
      · replace c42 := Bool.eq_false_iff.mpr c42
        subst c42
        rw [if_neg (show ¬ (false = true) by decide)] at H
        have H' := Aside0.mk H
        clear H
        have hnb51 := NB920_886.out
        have hnc51 := NB886_920.out
        have hnb52 := NB920_903.out
        have hnc52 := NB903_920.out
        have hnb53 := NB920_911.out
        have hnc53 := NB911_920.out
        have hcz54_0 : w34.cell? ⟨gb920, 0, none⟩ = some (.slice none 0 0) := (blk_cell BK920.out 0).trans rfl
        have hcz54_1 : w34.cell? ⟨gb920, 1, none⟩ = some (.int .i64 0) := (blk_cell BK920.out 1).trans rfl
        have hcz54_2 : w34.cell? ⟨gb920, 2, none⟩ = some (.slice none 0 0) := (blk_cell BK920.out 2).trans rfl
        have hfz54_0 := blk_frozen BK920.out 0
        have hfz54_1 := blk_frozen BK920.out 1
        have hfz54_2 := blk_frozen BK920.out 2
        have hnb55 := NB903_886.out
        have hnc55 := NB886_903.out
        have hnb56 := NB903_911.out
        have hnc56 := NB911_903.out
        have hcz57_0 : w34.cell? ⟨gb903, 0, none⟩ = some (.slice Ao21 t895.length co21) := (blk_cell BK903.out 0).trans rfl
        have hcz57_1 : w34.cell? ⟨gb903, 1, none⟩ = some (.int .i64 t898) := (blk_cell BK903.out 1).trans rfl
        have hcz57_2 : w34.cell? ⟨gb903, 2, none⟩ = some (.slice Ao24 t899.length co24) := (blk_cell BK903.out 2).trans rfl
        have hfz57_0 := blk_frozen BK903.out 0
        have hfz57_1 := blk_frozen BK903.out 1
        have hfz57_2 := blk_frozen BK903.out 2
        go_wp2_with (first | ((with_reducible refine gate_callee (f := 19) rfl ?_); refine goesL_ (some 34) rfl rfl Try.func19 (by kernel_rfl) rfl #[.agg #[.slice Ao35 t912.length co35, .int .i64 t915, .slice Ao40 t916.length co40], .agg #[.slice Ao21 t895.length co21, .int .i64 t898, .slice Ao24 t899.length co24]] rfl (by (try simp only [List.map_toArray, List.map_cons, List.map_nil]); first | done | rfl | (simp only [List.length_drop, List.length_take]; rfl)) ?_; (with_reducible refine (laws_eqWork.calls k _ _ t912 t915 _ _ t916 _ _ t895 t898 _ _ t899 false _ ?side1 ?side2 ?side3 ?side4 ?side5 ?side6 ?side7 ?side8 A41.out).mono ?_); (case side1 => refine (Kd.R_reads' (e := 67) (base := w.heap.size) (ok := fun k_ => (((True ∧ some k_ ≠ (.slice Ao17 t888.length co17 : Value).ownBlock) ∧ some k_ ≠ (.slice Ao21 t895.length co21 : Value).ownBlock) ∧ some k_ ≠ (.slice Ao28 t904.length co28 : Value).ownBlock)) (n := t912.length) (c := co35) ?_).2.2; exact (by (with_reducible repeat (first | apply Kd.R_alloc | apply Kd.R_drewN | apply Kd.R_drew)); exact (Kd.R_mono (Kd.R_far (p := ⟨gb920, 2, none⟩) (Kd.R_far (p := ⟨gb920, 1, none⟩) (Kd.R_far (p := ⟨gb920, 0, none⟩) (Kd.R_types HO914.out BK920.out (by decide)) (fun _ hk => hk.2) (.slice Ao35 t912.length co35)) (fun _ hk => hk.2) (.int .i64 t915)) (fun _ hk => hk.2) (.slice Ao40 t916.length co40)) (fun _ h_ => h_.1)))); (case side2 => exact (Kd.R_reads' HO914.out).2.1); (case side3 => refine (Kd.R_reads' (e := 3) (base := w.heap.size) (ok := fun k_ => (((True ∧ some k_ ≠ (.slice Ao18 t892.length co18 : Value).ownBlock) ∧ some k_ ≠ (.slice Ao24 t899.length co24 : Value).ownBlock) ∧ some k_ ≠ (.slice Ao32 t908.length co32 : Value).ownBlock)) (n := t916.length) (c := co40) ?_).2.2; exact (by (with_reducible repeat (first | apply Kd.R_alloc | apply Kd.R_drewN | apply Kd.R_drew)); exact (Kd.R_mono (Kd.R_far (p := ⟨gb920, 2, none⟩) (Kd.R_far (p := ⟨gb920, 1, none⟩) (Kd.R_far (p := ⟨gb920, 0, none⟩) (Kd.R_types HO918.out BK920.out (by decide)) (fun _ hk => hk.2) (.slice Ao35 t912.length co35)) (fun _ hk => hk.2) (.int .i64 t915)) (fun _ hk => hk.2) (.slice Ao40 t916.length co40)) (fun _ h_ => h_.1)))); (case side4 => exact (Kd.R_reads' HO918.out).2.1); (case side5 => refine (Kd.R_reads' (e := 67) (base := w.heap.size) (ok := fun k_ => (((True ∧ some k_ ≠ (.slice Ao17 t888.length co17 : Value).ownBlock) ∧ some k_ ≠ (.slice Ao28 t904.length co28 : Value).ownBlock) ∧ some k_ ≠ (.slice Ao35 t912.length co35 : Value).ownBlock)) (n := t895.length) (c := co21) ?_).2.2; exact (by (with_reducible repeat (first | apply Kd.R_alloc | apply Kd.R_drewN | apply Kd.R_drew)); exact (Kd.R_mono (Kd.R_far (p := ⟨gb920, 2, none⟩) (Kd.R_far (p := ⟨gb920, 1, none⟩) (Kd.R_far (p := ⟨gb920, 0, none⟩) (Kd.R_types HO897.out BK920.out (by decide)) (fun _ hk => hk.2) (.slice Ao35 t912.length co35)) (fun _ hk => hk.2) (.int .i64 t915)) (fun _ hk => hk.2) (.slice Ao40 t916.length co40)) (fun _ h_ => h_.1)))); (case side6 => exact (Kd.R_reads' HO897.out).2.1); (case side7 => refine (Kd.R_reads' (e := 3) (base := w.heap.size) (ok := fun k_ => (((True ∧ some k_ ≠ (.slice Ao18 t892.length co18 : Value).ownBlock) ∧ some k_ ≠ (.slice Ao32 t908.length co32 : Value).ownBlock) ∧ some k_ ≠ (.slice Ao40 t916.length co40 : Value).ownBlock)) (n := t899.length) (c := co24) ?_).2.2; exact (by (with_reducible repeat (first | apply Kd.R_alloc | apply Kd.R_drewN | apply Kd.R_drew)); exact (Kd.R_mono (Kd.R_far (p := ⟨gb920, 2, none⟩) (Kd.R_far (p := ⟨gb920, 1, none⟩) (Kd.R_far (p := ⟨gb920, 0, none⟩) (Kd.R_types HO901.out BK920.out (by decide)) (fun _ hk => hk.2) (.slice Ao35 t912.length co35)) (fun _ hk => hk.2) (.int .i64 t915)) (fun _ hk => hk.2) (.slice Ao40 t916.length co40)) (fun _ h_ => h_.1)))); (case side8 => exact (Kd.R_reads' HO901.out).2.1); rintro e w58 ⟨rfl, hb⟩; refine ⟨_, rfl, ?_⟩; have n0_ := Aside0.mk (Kd.R_below (by (with_reducible repeat (first | apply Kd.R_alloc | apply Kd.R_drewN | apply Kd.R_drew)); exact (Kd.R_mono (Kd.R_far (p := ⟨gb920, 2, none⟩) (Kd.R_far (p := ⟨gb920, 1, none⟩) (Kd.R_far (p := ⟨gb920, 0, none⟩) (Kd.R_types HO890.out BK920.out (by decide)) (fun _ hk => hk.2) (.slice Ao35 t912.length co35)) (fun _ hk => hk.2) (.int .i64 t915)) (fun _ hk => hk.2) (.slice Ao40 t916.length co40)) (fun _ h_ => h_.1))) hb); have n1_ := Aside0.mk (Kd.R_below (by (with_reducible repeat (first | apply Kd.R_alloc | apply Kd.R_drewN | apply Kd.R_drew)); exact (Kd.R_mono (Kd.R_far (p := ⟨gb920, 2, none⟩) (Kd.R_far (p := ⟨gb920, 1, none⟩) (Kd.R_far (p := ⟨gb920, 0, none⟩) (Kd.R_types HO894.out BK920.out (by decide)) (fun _ hk => hk.2) (.slice Ao35 t912.length co35)) (fun _ hk => hk.2) (.int .i64 t915)) (fun _ hk => hk.2) (.slice Ao40 t916.length co40)) (fun _ h_ => h_.1))) hb); have n2_ := Aside0.mk (Kd.R_below (by (with_reducible repeat (first | apply Kd.R_alloc | apply Kd.R_drewN | apply Kd.R_drew)); exact (Kd.R_mono (Kd.R_far (p := ⟨gb920, 2, none⟩) (Kd.R_far (p := ⟨gb920, 1, none⟩) (Kd.R_far (p := ⟨gb920, 0, none⟩) (Kd.R_types HO897.out BK920.out (by decide)) (fun _ hk => hk.2) (.slice Ao35 t912.length co35)) (fun _ hk => hk.2) (.int .i64 t915)) (fun _ hk => hk.2) (.slice Ao40 t916.length co40)) (fun _ h_ => h_.1))) hb); have n3_ := Aside0.mk (Kd.R_below (by (with_reducible repeat (first | apply Kd.R_alloc | apply Kd.R_drewN | apply Kd.R_drew)); exact (Kd.R_mono (Kd.R_far (p := ⟨gb920, 2, none⟩) (Kd.R_far (p := ⟨gb920, 1, none⟩) (Kd.R_far (p := ⟨gb920, 0, none⟩) (Kd.R_types HO901.out BK920.out (by decide)) (fun _ hk => hk.2) (.slice Ao35 t912.length co35)) (fun _ hk => hk.2) (.int .i64 t915)) (fun _ hk => hk.2) (.slice Ao40 t916.length co40)) (fun _ h_ => h_.1))) hb); have n4_ := Aside0.mk (Kd.R_below (by (with_reducible repeat (first | apply Kd.R_alloc | apply Kd.R_drewN | apply Kd.R_drew)); exact (Kd.R_mono (Kd.R_far (p := ⟨gb920, 2, none⟩) (Kd.R_far (p := ⟨gb920, 1, none⟩) (Kd.R_far (p := ⟨gb920, 0, none⟩) (Kd.R_types HO906.out BK920.out (by decide)) (fun _ hk => hk.2) (.slice Ao35 t912.length co35)) (fun _ hk => hk.2) (.int .i64 t915)) (fun _ hk => hk.2) (.slice Ao40 t916.length co40)) (fun _ h_ => h_.1))) hb); have n5_ := Aside0.mk (Kd.R_below (by (with_reducible repeat (first | apply Kd.R_alloc | apply Kd.R_drewN | apply Kd.R_drew)); exact (Kd.R_mono (Kd.R_far (p := ⟨gb920, 2, none⟩) (Kd.R_far (p := ⟨gb920, 1, none⟩) (Kd.R_far (p := ⟨gb920, 0, none⟩) (Kd.R_types HO910.out BK920.out (by decide)) (fun _ hk => hk.2) (.slice Ao35 t912.length co35)) (fun _ hk => hk.2) (.int .i64 t915)) (fun _ hk => hk.2) (.slice Ao40 t916.length co40)) (fun _ h_ => h_.1))) hb); have n6_ := Aside0.mk (Kd.R_below (by (with_reducible repeat (first | apply Kd.R_alloc | apply Kd.R_drewN | apply Kd.R_drew)); exact (Kd.R_mono (Kd.R_far (p := ⟨gb920, 2, none⟩) (Kd.R_far (p := ⟨gb920, 1, none⟩) (Kd.R_far (p := ⟨gb920, 0, none⟩) (Kd.R_types HO914.out BK920.out (by decide)) (fun _ hk => hk.2) (.slice Ao35 t912.length co35)) (fun _ hk => hk.2) (.int .i64 t915)) (fun _ hk => hk.2) (.slice Ao40 t916.length co40)) (fun _ h_ => h_.1))) hb); have n7_ := Aside0.mk (Kd.R_below (by (with_reducible repeat (first | apply Kd.R_alloc | apply Kd.R_drewN | apply Kd.R_drew)); exact (Kd.R_mono (Kd.R_far (p := ⟨gb920, 2, none⟩) (Kd.R_far (p := ⟨gb920, 1, none⟩) (Kd.R_far (p := ⟨gb920, 0, none⟩) (Kd.R_types HO918.out BK920.out (by decide)) (fun _ hk => hk.2) (.slice Ao35 t912.length co35)) (fun _ hk => hk.2) (.int .i64 t915)) (fun _ hk => hk.2) (.slice Ao40 t916.length co40)) (fun _ h_ => h_.1))) hb); have n8_ := Aside0.mk (blk_below (g := gb886) (o := .cells #[.slice A0_0 l0_0.length c0_0, .int .i64 a0_1, .slice A0_2 l0_2.length c0_2] 25 (0, 0)) (by (with_reducible repeat (first | refine blk_drewN ?_ _ | refine blk_drew ?_ | refine blk_alloc ?_ _)); refine blk_far ?_ NB886_920.out _; (with_reducible repeat (first | refine blk_drewN ?_ _ | refine blk_drew ?_ | refine blk_alloc ?_ _)); refine blk_far ?_ NB886_920.out _; (with_reducible repeat (first | refine blk_drewN ?_ _ | refine blk_drew ?_ | refine blk_alloc ?_ _)); refine blk_far ?_ NB886_920.out _; (with_reducible repeat (first | refine blk_drewN ?_ _ | refine blk_drew ?_ | refine blk_alloc ?_ _)); exact BK886.out) hb); have n9_ := Aside0.mk (blk_below (g := gb903) (o := .cells #[.slice Ao21 t895.length co21, .int .i64 t898, .slice Ao24 t899.length co24] 30 (0, 0)) (by (with_reducible repeat (first | refine blk_drewN ?_ _ | refine blk_drew ?_ | refine blk_alloc ?_ _)); refine blk_far ?_ NB903_920.out _; (with_reducible repeat (first | refine blk_drewN ?_ _ | refine blk_drew ?_ | refine blk_alloc ?_ _)); refine blk_far ?_ NB903_920.out _; (with_reducible repeat (first | refine blk_drewN ?_ _ | refine blk_drew ?_ | refine blk_alloc ?_ _)); refine blk_far ?_ NB903_920.out _; (with_reducible repeat (first | refine blk_drewN ?_ _ | refine blk_drew ?_ | refine blk_alloc ?_ _)); exact BK903.out) hb); have n10_ := Aside0.mk (blk_below (g := gb911) (o := .cells #[.slice Ao28 t904.length co28, .int .i64 t907, .slice Ao32 t908.length co32] 30 (0, 0)) (by (with_reducible repeat (first | refine blk_drewN ?_ _ | refine blk_drew ?_ | refine blk_alloc ?_ _)); refine blk_far ?_ NB911_920.out _; (with_reducible repeat (first | refine blk_drewN ?_ _ | refine blk_drew ?_ | refine blk_alloc ?_ _)); refine blk_far ?_ NB911_920.out _; (with_reducible repeat (first | refine blk_drewN ?_ _ | refine blk_drew ?_ | refine blk_alloc ?_ _)); refine blk_far ?_ NB911_920.out _; (with_reducible repeat (first | refine blk_drewN ?_ _ | refine blk_drew ?_ | refine blk_alloc ?_ _)); exact BK911.out) hb); have n11_ := Aside0.mk (blk_below (g := gb920) (o := .cells #[.slice Ao35 t912.length co35, .int .i64 t915, .slice Ao40 t916.length co40] 30 (0, 0)) (by (with_reducible repeat (first | refine blk_drewN ?_ _ | refine blk_drew ?_ | refine blk_alloc ?_ _)); refine blk_put (cs := #[.slice Ao35 t912.length co35, .int .i64 t915, .slice none 0 0]) ?_ 2 _ rfl; (with_reducible repeat (first | refine blk_drewN ?_ _ | refine blk_drew ?_ | refine blk_alloc ?_ _)); refine blk_put (cs := #[.slice Ao35 t912.length co35, .int .i64 0, .slice none 0 0]) ?_ 1 _ rfl; (with_reducible repeat (first | refine blk_drewN ?_ _ | refine blk_drew ?_ | refine blk_alloc ?_ _)); refine blk_put (cs := #[.slice none 0 0, .int .i64 0, .slice none 0 0]) ?_ 0 _ rfl; (with_reducible repeat (first | refine blk_drewN ?_ _ | refine blk_drew ?_ | refine blk_alloc ?_ _)); exact BK920.out) hb); have n12_ := Aside0.mk (below_step (oB HB) hb); clear HO890; clear HO894; clear HO897; clear HO901; clear HO906; clear HO910; clear HO914; clear HO918; clear BK886; clear BK903; clear BK911; clear BK920; clear HB; have HO890 := n0_; have HO894 := n1_; have HO897 := n2_; have HO901 := n3_; have HO906 := n4_; have HO910 := n5_; have HO914 := n6_; have HO918 := n7_; have BK886 := n8_; have BK903 := n9_; have BK911 := n10_; have BK920 := n11_; have HB := n12_; clear n0_ n1_ n2_ n3_ n4_ n5_ n6_ n7_ n8_ n9_ n10_ n11_ n12_; (try clear hb); (try clear hb2); (try clear hk); (try clear hi)))
        go_meet
        case rel => exact ⟨_, (true), (by first | rfl | (simp; done) | (simp [*]; done)), H', ⟨by first | omega | exact Nat.le_refl _⟩, ⟨by (with_reducible repeat (first | apply Kd.R_alloc | apply Kd.R_drewN | apply Kd.R_drew)); exact Kd.R_mono HO897.out (fun _ hk => ⟨hk.1.2, hk.2⟩)⟩, ⟨by (with_reducible repeat (first | apply Kd.R_alloc | apply Kd.R_drewN | apply Kd.R_drew)); exact Kd.R_mono HO901.out (fun _ hk => ⟨hk.1.2, hk.2⟩)⟩, ⟨by (with_reducible repeat (first | apply Kd.R_alloc | apply Kd.R_drewN | apply Kd.R_drew)); exact Kd.R_mono HO906.out (fun _ hk => ⟨hk.1.2, hk.2⟩)⟩, ⟨by (with_reducible repeat (first | apply Kd.R_alloc | apply Kd.R_drewN | apply Kd.R_drew)); exact Kd.R_mono HO910.out (fun _ hk => ⟨hk.1.2, hk.2⟩)⟩, ⟨by (with_reducible repeat (first | apply Kd.R_alloc | apply Kd.R_drewN | apply Kd.R_drew)); exact Kd.R_mono HO914.out (fun _ hk => ⟨hk.1.2, hk.2⟩)⟩, ⟨by (with_reducible repeat (first | apply Kd.R_alloc | apply Kd.R_drewN | apply Kd.R_drew)); exact Kd.R_mono HO918.out (fun _ hk => ⟨hk.1.2, hk.2⟩)⟩, ⟨oK BK886⟩, ⟨oK BK903⟩, ⟨oK BK911⟩, ⟨oK BK920⟩, ⟨oB HB⟩⟩
    case rest =>
      clear HC11
      try clear c1
      try clear c2
      try clear p2
      try clear c3
      try clear c3b0
      try clear c4
      try clear c5
      try clear c11
      try clear c15
      try clear c17
      try clear c19
      try clear c22
      try clear c29
      try clear c30
      try clear c36
      try clear c37
      try clear c38
      try clear c42
      try clear c43
      try clear c44
      try clear c45
      try clear c47
      try clear c48
      try clear c51
      try clear c52
      try clear c53
      try clear c55
      try clear c56
      try clear hcz13_0
      try clear hcz13_1
      try clear hcz13_2
      try clear hcz15_0
      try clear hcz15_1
      try clear hcz15_2
      try clear hcz23_0
      try clear hcz23_1
      try clear hcz23_2
      try clear hcz25_0
      try clear hcz25_1
      try clear hcz25_2
      try clear hcz31_0
      try clear hcz31_1
      try clear hcz31_2
      try clear hcz39_0
      try clear hcz39_1
      try clear hcz39_2
      try clear hcz46_0
      try clear hcz46_1
      try clear hcz46_2
      try clear hcz49_0
      try clear hcz49_1
      try clear hcz49_2
      try clear hcz54_0
      try clear hcz54_1
      try clear hcz54_2
      try clear hcz57_0
      try clear hcz57_1
      try clear hcz57_2
      try clear hcz5_0
      try clear hcz5_1
      try clear hcz5_2
      try clear hfz13_0
      try clear hfz13_1
      try clear hfz13_2
      try clear hfz15_0
      try clear hfz15_1
      try clear hfz15_2
      try clear hfz23_0
      try clear hfz23_1
      try clear hfz23_2
      try clear hfz25_0
      try clear hfz25_1
      try clear hfz25_2
      try clear hfz31_0
      try clear hfz31_1
      try clear hfz31_2
      try clear hfz39_0
      try clear hfz39_1
      try clear hfz39_2
      try clear hfz46_0
      try clear hfz46_1
      try clear hfz46_2
      try clear hfz49_0
      try clear hfz49_1
      try clear hfz49_2
      try clear hfz54_0
      try clear hfz54_1
      try clear hfz54_2
      try clear hfz57_0
      try clear hfz57_1
      try clear hfz57_2
      try clear hfz5_0
      try clear hfz5_1
      try clear hfz5_2
      obtain ⟨kq, x40_10, rfl, HA, HJ10, HO_904000, HO_904002, HO_912000, HO_912002, HO_921000, HO_921002, BK886, BK903, BK911, BK920, HB⟩ := hcut
      cases kq with
      | zero => exact absurd HA.out (by simp [laws_FnExactMendStep.j0])
      | succ kj10 =>
        have H := HA.out
        clear HA
        simp only [laws_FnExactMendStep.j0] at H
        by_cases c59 : x40_10 = true
        · subst c59
          rw [if_pos rfl] at H
          exact absurd ((Option.some.inj H).trans hrt_.out) (by decide)
        · replace c59 := Bool.eq_false_iff.mpr c59
          subst c59
          rw [if_neg (show ¬ (false = true) by decide)] at H
          replace H := Option.bind_eq_some_iff.mp H
          obtain ⟨⟨t922, t925, t926⟩, A600, H⟩ := H
          (try dsimp only at H)
          have A60 := Aside0.mk A600
          clear A600
          replace H := Option.bind_eq_some_iff.mp H
          obtain ⟨t929, A610, H⟩ := H
          (try dsimp only at H)
          have A61 := Aside0.mk A610
          clear A610
          by_cases c62 : t929 = true
          · subst c62
            rw [if_pos rfl] at H
            replace H := Option.bind_eq_some_iff.mp H
            obtain ⟨⟨t930, t931, t932⟩, A630, H⟩ := H
            (try dsimp only at H)
            have A63 := Aside0.mk A630
            clear A630
            have HC64 := Aside0.mk H
            clear H
            try go_wp2
            have n0_ := Aside0.mk (Kd.R_drew HO_904000.out)
            have n1_ := Aside0.mk (Kd.R_drew HO_904002.out)
            have n2_ := Aside0.mk (Kd.R_drew HO_912000.out)
            have n3_ := Aside0.mk (Kd.R_drew HO_912002.out)
            have n4_ := Aside0.mk (Kd.R_drew HO_921000.out)
            have n5_ := Aside0.mk (Kd.R_drew HO_921002.out)
            have n6_ := Aside0.mk (blk_drew BK886.out)
            have n7_ := Aside0.mk (blk_drew BK903.out)
            have n8_ := Aside0.mk (blk_drew BK911.out)
            have n9_ := Aside0.mk (blk_drew BK920.out)
            have n10_ := Aside0.mk (below_drew1 HB.out)
            clear HO_904000
            clear HO_904002
            clear HO_912000
            clear HO_912002
            clear HO_921000
            clear HO_921002
            clear BK886
            clear BK903
            clear BK911
            clear BK920
            clear HB
            have HO_904000 := n0_
            have HO_904002 := n1_
            have HO_912000 := n2_
            have HO_912002 := n3_
            have HO_921000 := n4_
            have HO_921002 := n5_
            have BK886 := n6_
            have BK903 := n7_
            have BK911 := n8_
            have BK920 := n9_
            have HB := n10_
            clear n0_ n1_ n2_ n3_ n4_ n5_ n6_ n7_ n8_ n9_ n10_
            refine start_ (n := 5) (S := fun w' => w'.cell? ⟨gb911, 0, none⟩ = some (.slice Ao28 t904.length co28) ∧ w'.cell? ⟨gb911, 1, none⟩ = some (.int .i64 t907) ∧ w'.cell? ⟨gb911, 2, none⟩ = some (.slice Ao32 t908.length co32) ∧ w'.cell? ⟨gb886, 0, none⟩ = some (.slice A0_0 l0_0.length c0_0) ∧ w'.cell? ⟨gb886, 1, none⟩ = some (.int .i64 a0_1) ∧ w'.cell? ⟨gb886, 2, none⟩ = some (.slice A0_2 l0_2.length c0_2)) (ds := []) #[false, false, false, false, false] (by kernel_rfl) rfl rfl ⟨(blk_cell BK911.out 0).trans rfl, (blk_cell BK911.out 1).trans rfl, (blk_cell BK911.out 2).trans rfl, (blk_cell BK886.out 0).trans rfl, (blk_cell BK886.out 1).trans rfl, (blk_cell BK886.out 2).trans rfl⟩ (fun hHeld => ?_)
            generalize wc.drew = w65 at HO_904000 HO_904002 HO_912000 HO_912002 HO_921000 HO_921002 BK886 BK903 BK911 BK920 HB hHeld ⊢
            refine take_ (i := 0) (N := some 41) (v := ?_) (a' := ?_) #[true, false, false, false, false] rfl rfl (by kernel_rfl) (fun _ _ _ h => h) (Or.inl ⟨by rfl, ?_⟩) hHeld ?_ ?_
            rotate_left
            · rintro w' ⟨s0, s1, s2, s3, s4, s5⟩
              go_simp
              with_reducible rfl
            rotate_left
            · simp only [Act.put, List.setIfInBounds_toArray, List.set_cons_zero, List.set_cons_succ, i64_w, i32_w]
              rfl
            refine take_ (i := 1) (N := some 42) (v := ?_) (a' := ?_) #[true, true, false, false, false] rfl rfl (by kernel_rfl) (fun _ _ _ h => h) (Or.inl ⟨by rfl, ?_⟩) hHeld ?_ ?_
            rotate_left
            · rintro w' ⟨s0, s1, s2, s3, s4, s5⟩
              go_simp
              with_reducible rfl
            rotate_left
            · simp only [Act.put, List.setIfInBounds_toArray, List.set_cons_zero, List.set_cons_succ, i64_w, i32_w]
              rfl
            refine one_ (i := 2) (N := some 43) #[true, true, true, false, false] rfl rfl (by kernel_rfl) (by decide) (fun K hK => ?_)
            refine goes_ Try.func17 (by kernel_rfl) rfl #[.agg #[.slice A0_0 l0_0.length c0_0, .int .i64 a0_1, .slice A0_2 l0_2.length c0_2]] (by rfl) rfl rfl (by (try simp only [List.map_toArray, List.map_cons, List.map_nil]); first | done | rfl | (simp only [List.length_drop, List.length_take]; rfl)) ?_
            with_reducible refine (laws_toWork.calls kj10 _ _ l0_0 a0_1 _ _ l0_2 t922 t925 t926 _ ?side1 ?side2 ?side3 ?side4 A60.out).mono ?_
            (case side1 => exact oc_ HR0_0.out)
            (case side2 => exact HC0_0.out)
            (case side3 => exact oc_ HR0_2.out)
            (case side4 => exact HC0_2.out)
            rintro e w66 ⟨v923, v927, rfl, ho0, ho1, hb⟩
            refine ⟨_, rfl, ?_⟩
            have n0_ := Aside0.mk (Kd.R_elder' (oR HO_904000) (Kd.R_base ho0) hb)
            have n1_ := Aside0.mk (Kd.R_elder' (oR HO_904002) (Kd.R_base ho1) hb)
            have n2_ := Aside0.mk (Kd.R_elder' (oR HO_912000) (Kd.R_base ho0) hb)
            have n3_ := Aside0.mk (Kd.R_elder' (oR HO_912002) (Kd.R_base ho1) hb)
            have n4_ := Aside0.mk (Kd.R_elder' (oR HO_921000) (Kd.R_base ho0) hb)
            have n5_ := Aside0.mk (Kd.R_elder' (oR HO_921002) (Kd.R_base ho1) hb)
            have n6_ := Aside0.mk (Kd.R_lower (Kd.R_new' (Kd.R_new' (Kd.R_new' ho0 (Kd.R_lt (oR HO_904000))) (Kd.R_lt (oR HO_912000))) (Kd.R_lt (oR HO_921000))) (below_size (oB HB)))
            have n7_ := Aside0.mk (Kd.R_lower (Kd.R_new' (Kd.R_new' (Kd.R_new' ho1 (Kd.R_lt (oR HO_904002))) (Kd.R_lt (oR HO_912002))) (Kd.R_lt (oR HO_921002))) (below_size (oB HB)))
            have n8_ := Aside0.mk (blk_below (g := gb886) (o := .cells #[.slice A0_0 l0_0.length c0_0, .int .i64 a0_1, .slice A0_2 l0_2.length c0_2] 25 (0, 0)) (oK BK886) hb)
            have n9_ := Aside0.mk (blk_below (g := gb903) (o := .cells #[.slice Ao21 t895.length co21, .int .i64 t898, .slice Ao24 t899.length co24] 30 (0, 0)) (oK BK903) hb)
            have n10_ := Aside0.mk (blk_below (g := gb911) (o := .cells #[.slice Ao28 t904.length co28, .int .i64 t907, .slice Ao32 t908.length co32] 30 (0, 0)) (oK BK911) hb)
            have n11_ := Aside0.mk (blk_below (g := gb920) (o := .cells #[.slice Ao35 t912.length co35, .int .i64 t915, .slice Ao40 t916.length co40] 30 (0, 0)) (oK BK920) hb)
            have n12_ := Aside0.mk (below_step (oB HB) hb)
            clear HO_904000
            clear HO_904002
            clear HO_912000
            clear HO_912002
            clear HO_921000
            clear HO_921002
            clear BK886
            clear BK903
            clear BK911
            clear BK920
            clear HB
            have HO_904000 := n0_
            have HO_904002 := n1_
            have HO_912000 := n2_
            have HO_912002 := n3_
            have HO_921000 := n4_
            have HO_921002 := n5_
            have HO924 := n6_
            have HO928 := n7_
            have BK886 := n8_
            have BK903 := n9_
            have BK911 := n10_
            have BK920 := n11_
            have HB := n12_
            clear n0_ n1_ n2_ n3_ n4_ n5_ n6_ n7_ n8_ n9_ n10_ n11_ n12_
            (try clear hb)
            (try clear hb2)
            (try clear hk)
            (try clear hi)
            (try clear ho0)
            (try clear ho1)
            obtain ⟨Ao67, co67, eo67⟩ := Kd.R_slice HO924.out
            (first | subst eo67 | (injection eo67 with f1_ f2_ f3_; have f4_ := f1_.symm; have f5_ := f3_.symm; clear f1_ f2_ f3_; subst f4_; subst f5_))
            obtain ⟨Ao68, co68, eo68⟩ := Kd.R_slice HO928.out
            (first | subst eo68 | (injection eo68 with f1_ f2_ f3_; have f4_ := f1_.symm; have f5_ := f3_.symm; clear f1_ f2_ f3_; subst f4_; subst f5_))
            refine hK.out _ _ ⟨(blk_cell BK911.out 0).trans rfl, (blk_cell BK911.out 1).trans rfl, (blk_cell BK911.out 2).trans rfl, (blk_cell BK886.out 0).trans rfl, (blk_cell BK886.out 1).trans rfl, (blk_cell BK886.out 2).trans rfl⟩ (fun hHeld => ?_)
            clear hK K
            refine norm_ (a' := ?_) ?_ ?_
            rotate_left
            · show Act.put _ (some 43) _ = _
              simp only [Act.put, List.setIfInBounds_toArray, List.set_cons_zero, List.set_cons_succ, i64_w, i32_w]
              rfl
            refine one_ (i := 3) (N := some 44) #[true, true, true, true, false] rfl rfl (by kernel_rfl) (by decide) (fun K hK => ?_)
            refine goes_ Try.func19 (by kernel_rfl) rfl #[.agg #[.slice Ao28 t904.length co28, .int .i64 t907, .slice Ao32 t908.length co32], .agg #[.slice Ao67 t922.length co67, .int .i64 t925, .slice Ao68 t926.length co68]] (by rfl) rfl rfl (by (try simp only [List.map_toArray, List.map_cons, List.map_nil]); first | done | rfl | (simp only [List.length_drop, List.length_take]; rfl)) ?_
            with_reducible refine (laws_eqWork.calls kj10 _ _ t904 t907 _ _ t908 _ _ t922 t925 _ _ t926 true _ ?side1 ?side2 ?side3 ?side4 ?side5 ?side6 ?side7 ?side8 A61.out).mono ?_
            (case side1 => repeat (first | exact (Kd.R_reads' HO_912000.out).2.2 | (with_reducible refine Kd.C_alloc ?_ _) | (with_reducible refine Kd.C_drewN ?_ _) | (with_reducible refine Kd.C_drew ?_)))
            (case side2 => exact (Kd.R_reads' HO_912000.out).2.1)
            (case side3 => repeat (first | exact (Kd.R_reads' HO_912002.out).2.2 | (with_reducible refine Kd.C_alloc ?_ _) | (with_reducible refine Kd.C_drewN ?_ _) | (with_reducible refine Kd.C_drew ?_)))
            (case side4 => exact (Kd.R_reads' HO_912002.out).2.1)
            (case side5 => repeat (first | exact (Kd.R_reads' HO924.out).2.2 | (with_reducible refine Kd.C_alloc ?_ _) | (with_reducible refine Kd.C_drewN ?_ _) | (with_reducible refine Kd.C_drew ?_)))
            (case side6 => exact (Kd.R_reads' HO924.out).2.1)
            (case side7 => repeat (first | exact (Kd.R_reads' HO928.out).2.2 | (with_reducible refine Kd.C_alloc ?_ _) | (with_reducible refine Kd.C_drewN ?_ _) | (with_reducible refine Kd.C_drew ?_)))
            (case side8 => exact (Kd.R_reads' HO928.out).2.1)
            rintro e w69 ⟨rfl, hb⟩
            refine ⟨_, rfl, ?_⟩
            have n0_ := Aside0.mk (Kd.R_below (oR HO_904000) hb)
            have n1_ := Aside0.mk (Kd.R_below (oR HO_904002) hb)
            have n2_ := Aside0.mk (Kd.R_below (oR HO_912000) hb)
            have n3_ := Aside0.mk (Kd.R_below (oR HO_912002) hb)
            have n4_ := Aside0.mk (Kd.R_below (oR HO_921000) hb)
            have n5_ := Aside0.mk (Kd.R_below (oR HO_921002) hb)
            have n6_ := Aside0.mk (Kd.R_below (oR HO924) hb)
            have n7_ := Aside0.mk (Kd.R_below (oR HO928) hb)
            have n8_ := Aside0.mk (blk_below (g := gb886) (o := .cells #[.slice A0_0 l0_0.length c0_0, .int .i64 a0_1, .slice A0_2 l0_2.length c0_2] 25 (0, 0)) (oK BK886) hb)
            have n9_ := Aside0.mk (blk_below (g := gb903) (o := .cells #[.slice Ao21 t895.length co21, .int .i64 t898, .slice Ao24 t899.length co24] 30 (0, 0)) (oK BK903) hb)
            have n10_ := Aside0.mk (blk_below (g := gb911) (o := .cells #[.slice Ao28 t904.length co28, .int .i64 t907, .slice Ao32 t908.length co32] 30 (0, 0)) (oK BK911) hb)
            have n11_ := Aside0.mk (blk_below (g := gb920) (o := .cells #[.slice Ao35 t912.length co35, .int .i64 t915, .slice Ao40 t916.length co40] 30 (0, 0)) (oK BK920) hb)
            have n12_ := Aside0.mk (below_step (oB HB) hb)
            clear HO_904000
            clear HO_904002
            clear HO_912000
            clear HO_912002
            clear HO_921000
            clear HO_921002
            clear HO924
            clear HO928
            clear BK886
            clear BK903
            clear BK911
            clear BK920
            clear HB
            have HO_904000 := n0_
            have HO_904002 := n1_
            have HO_912000 := n2_
            have HO_912002 := n3_
            have HO_921000 := n4_
            have HO_921002 := n5_
            have HO924 := n6_
            have HO928 := n7_
            have BK886 := n8_
            have BK903 := n9_
            have BK911 := n10_
            have BK920 := n11_
            have HB := n12_
            clear n0_ n1_ n2_ n3_ n4_ n5_ n6_ n7_ n8_ n9_ n10_ n11_ n12_
            (try clear hb)
            (try clear hb2)
            (try clear hk)
            (try clear hi)
            refine hK.out _ _ ⟨(blk_cell BK911.out 0).trans rfl, (blk_cell BK911.out 1).trans rfl, (blk_cell BK911.out 2).trans rfl, (blk_cell BK886.out 0).trans rfl, (blk_cell BK886.out 1).trans rfl, (blk_cell BK886.out 2).trans rfl⟩ (fun hHeld => ?_)
            clear hK K
            refine norm_ (a' := ?_) ?_ ?_
            rotate_left
            · show Act.put _ (some 44) _ = _
              simp only [Act.put, List.setIfInBounds_toArray, List.set_cons_zero, List.set_cons_succ, i64_w, i32_w]
              rfl
            refine pure_ (i := 4) (N := some 45) (v := ?_) (a' := ?_) #[true, true, true, true, true] rfl rfl (by kernel_rfl) (fun _ _ _ h => h) (Or.inl ⟨by rfl, ?_⟩) ?_ ?_
            rotate_left
            · intro w'
              go_simp
              with_reducible rfl
            rotate_left
            · simp only [Act.put, List.setIfInBounds_toArray, List.set_cons_zero, List.set_cons_succ, i64_w, i32_w]
              rfl
            refine done_ (by kernel_rfl) ?_
            have hnb70 := NB911_886.out
            have hnc70 := NB886_911.out
            have hnb71 := NB911_903.out
            have hnc71 := NB903_911.out
            have hnb72 := NB911_920.out
            have hnc72 := NB920_911.out
            have hcz73_0 : w69.cell? ⟨gb911, 0, none⟩ = some (.slice Ao28 t904.length co28) := (blk_cell BK911.out 0).trans rfl
            have hcz73_1 : w69.cell? ⟨gb911, 1, none⟩ = some (.int .i64 t907) := (blk_cell BK911.out 1).trans rfl
            have hcz73_2 : w69.cell? ⟨gb911, 2, none⟩ = some (.slice Ao32 t908.length co32) := (blk_cell BK911.out 2).trans rfl
            have hfz73_0 := blk_frozen BK911.out 0
            have hfz73_1 := blk_frozen BK911.out 1
            have hfz73_2 := blk_frozen BK911.out 2
            go_upto_region 14 with (first | ((with_reducible refine gate_callee (f := 28) rfl ?_); refine goesL_ (some 48) rfl rfl Try.func28 (by kernel_rfl) rfl #[.agg #[.slice Ao28 t904.length co28, .int .i64 t907, .slice Ao32 t908.length co32], .int .i64 1] rfl (by (try simp only [List.map_toArray, List.map_cons, List.map_nil]); first | done | rfl | (simp only [List.length_drop, List.length_take]; rfl)) ?_; (with_reducible refine (laws_markWork.calls kj10 (fun k_ => some k_ = (.slice Ao28 t904.length co28 : Value).ownBlock) (.slice Ao28 t904.length co28) t904 t907 (fun k_ => some k_ = (.slice Ao32 t908.length co32 : Value).ownBlock) (.slice Ao32 t908.length co32) t908 1 t930 t931 t932 w _ ?side1 ?side2 ?side3 A63.out).mono ?_); (case side1 => repeat (first | (with_reducible first | exact HB.out | apply below_alloc | apply pw_below_drewN | apply below_drew1 | refine below_set ?_ GE886.out | refine below_set ?_ GE903.out | refine below_set ?_ GE911.out | refine below_set ?_ GE920.out) | exact HB.out)); (case side2 => exact Kd.R_tight rfl HO_912000.out); (case side3 => exact Kd.R_tight rfl HO_912002.out); rintro e w74 ⟨rfl, hy0, hy1, hb, hkp⟩; refine ⟨_, rfl, ?_⟩; have n0_ := Aside0.mk (Kd.R_mono (ok' := fun k_ => some k_ ≠ (.slice Ao28 t904.length co28 : Value).ownBlock ∧ some k_ ≠ (.slice Ao35 t912.length co35 : Value).ownBlock ∧ some k_ ≠ (.slice Ao67 t922.length co67 : Value).ownBlock) (Kd.R_keptB ((Kd.R_apart' HO_904000.out (Kd.R_typed HO_912002.out) (by decide))) hkp (fun k_ hk_ hs_ => Or.elim hs_ (fun e_ => (hk_.1.1.1) e_) (fun e_ => (hk_.2) e_))) (fun k_ hk_ => ⟨hk_.1.1.1.1, hk_.1.1.1.2, hk_.1.1.2⟩)); have n1_ := Aside0.mk (Kd.R_mono (ok' := fun k_ => some k_ ≠ (.slice Ao32 t908.length co32 : Value).ownBlock ∧ some k_ ≠ (.slice Ao40 t916.length co40 : Value).ownBlock ∧ some k_ ≠ (.slice Ao68 t926.length co68 : Value).ownBlock) (Kd.R_keptB ((Kd.R_apart' HO_904002.out (Kd.R_typed HO_912000.out) (by decide))) hkp (fun k_ hk_ hs_ => Or.elim hs_ (fun e_ => (hk_.2) e_) (fun e_ => (hk_.1.1.1) e_))) (fun k_ hk_ => ⟨hk_.1.1.1.1, hk_.1.1.1.2, hk_.1.1.2⟩)); have n2_ := Aside0.mk (Kd.R_reok rfl hy0 (fun k_ e_ => HO_912000.out.1 k_ e_)); have n3_ := Aside0.mk (Kd.R_reok rfl hy1 (fun k_ e_ => HO_912002.out.1 k_ e_)); have n4_ := Aside0.mk (Kd.R_mono (ok' := fun k_ => some k_ ≠ (.slice Ao21 t895.length co21 : Value).ownBlock ∧ some k_ ≠ (.slice Ao28 t904.length co28 : Value).ownBlock ∧ some k_ ≠ (.slice Ao67 t922.length co67 : Value).ownBlock) (Kd.R_keptB ((Kd.R_apart' HO_921000.out (Kd.R_typed HO_912002.out) (by decide))) hkp (fun k_ hk_ hs_ => Or.elim hs_ (fun e_ => (hk_.1.1.2) e_) (fun e_ => (hk_.2) e_))) (fun k_ hk_ => ⟨hk_.1.1.1.1, hk_.1.1.1.2, hk_.1.1.2⟩)); have n5_ := Aside0.mk (Kd.R_mono (ok' := fun k_ => some k_ ≠ (.slice Ao24 t899.length co24 : Value).ownBlock ∧ some k_ ≠ (.slice Ao32 t908.length co32 : Value).ownBlock ∧ some k_ ≠ (.slice Ao68 t926.length co68 : Value).ownBlock) (Kd.R_keptB ((Kd.R_apart' HO_921002.out (Kd.R_typed HO_912000.out) (by decide))) hkp (fun k_ hk_ hs_ => Or.elim hs_ (fun e_ => (hk_.2) e_) (fun e_ => (hk_.1.1.2) e_))) (fun k_ hk_ => ⟨hk_.1.1.1.1, hk_.1.1.1.2, hk_.1.1.2⟩)); have n6_ := Aside0.mk (blk_kept (oK BK886) hkp (fun hs_ => Or.elim hs_ (fun e_ => (fun e_ => (Kd.R_ne HO_912000.out BK886.out (by decide)) e_) e_) (fun e_ => (fun e_ => (Kd.R_ne HO_912002.out BK886.out (by decide)) e_) e_))); have n7_ := Aside0.mk (blk_kept (oK BK903) hkp (fun hs_ => Or.elim hs_ (fun e_ => (fun e_ => (Kd.R_ne HO_912000.out BK903.out (by decide)) e_) e_) (fun e_ => (fun e_ => (Kd.R_ne HO_912002.out BK903.out (by decide)) e_) e_))); have n8_ := Aside0.mk (blk_kept (oK BK911) hkp (fun hs_ => Or.elim hs_ (fun e_ => (fun e_ => (Kd.R_ne HO_912000.out BK911.out (by decide)) e_) e_) (fun e_ => (fun e_ => (Kd.R_ne HO_912002.out BK911.out (by decide)) e_) e_))); have n9_ := Aside0.mk (blk_kept (oK BK920) hkp (fun hs_ => Or.elim hs_ (fun e_ => (fun e_ => (Kd.R_ne HO_912000.out BK920.out (by decide)) e_) e_) (fun e_ => (fun e_ => (Kd.R_ne HO_912002.out BK920.out (by decide)) e_) e_))); have n10_ := Aside0.mk (Kd.R_mono (ok' := fun k_ => some k_ ≠ (.slice Ao21 t895.length co21 : Value).ownBlock ∧ some k_ ≠ (.slice Ao28 t904.length co28 : Value).ownBlock ∧ some k_ ≠ (.slice Ao35 t912.length co35 : Value).ownBlock) (Kd.R_keptB ((Kd.R_apart' HO924.out (Kd.R_typed HO_912002.out) (by decide))) hkp (fun k_ hk_ hs_ => Or.elim hs_ (fun e_ => (hk_.1.1.2) e_) (fun e_ => (hk_.2) e_))) (fun k_ hk_ => ⟨hk_.1.1.1.1.2, hk_.1.1.1.2, hk_.1.1.2⟩)); have n11_ := Aside0.mk (Kd.R_mono (ok' := fun k_ => some k_ ≠ (.slice Ao24 t899.length co24 : Value).ownBlock ∧ some k_ ≠ (.slice Ao32 t908.length co32 : Value).ownBlock ∧ some k_ ≠ (.slice Ao40 t916.length co40 : Value).ownBlock) (Kd.R_keptB ((Kd.R_apart' HO928.out (Kd.R_typed HO_912000.out) (by decide))) hkp (fun k_ hk_ hs_ => Or.elim hs_ (fun e_ => (hk_.2) e_) (fun e_ => (hk_.1.1.2) e_))) (fun k_ hk_ => ⟨hk_.1.1.1.1.2, hk_.1.1.1.2, hk_.1.1.2⟩)); have n12_ := Aside0.mk (hb); clear HO_904000; clear HO_904002; clear HO_912000; clear HO_912002; clear HO_921000; clear HO_921002; clear BK886; clear BK903; clear BK911; clear BK920; clear HO924; clear HO928; clear HB; have HO_904000 := n0_; have HO_904002 := n1_; have HO_912000 := n2_; have HO_912002 := n3_; have HO_921000 := n4_; have HO_921002 := n5_; have BK886 := n6_; have BK903 := n7_; have BK911 := n8_; have BK920 := n9_; have HO924 := n10_; have HO928 := n11_; have HB := n12_; clear n0_ n1_ n2_ n3_ n4_ n5_ n6_ n7_ n8_ n9_ n10_ n11_ n12_; (try clear hb); (try clear hkp); (try clear hy0); (try clear hy1)))
            (try simp only [Act.put, List.setIfInBounds_toArray, List.set_cons_zero, List.set_cons_succ])
            go_cut [61] (fun v61 wc => ∃ (kq : Nat) (x61_63 : Bool), v61 = .bool x61_63 ∧ Aside0 (laws_FnExactMendStep.j1 kq t902 x61_63 l0_0 a0_1 l0_2 t895 t898 t899 t912 t915 t916 = some r) ∧ Aside0 (kq ≤ kj10) ∧ Aside0 (Kd.R k67 67 wc w.heap.size (fun k_ => some k_ ≠ ((.slice Ao28 t904.length co28) : Value).ownBlock ∧ some k_ ≠ ((.slice Ao35 t912.length co35) : Value).ownBlock) (.slice Ao21 t895.length co21) t895) ∧ Aside0 (Kd.R (Kd.int .i64) 3 wc w.heap.size (fun k_ => some k_ ≠ ((.slice Ao32 t908.length co32) : Value).ownBlock ∧ some k_ ≠ ((.slice Ao40 t916.length co40) : Value).ownBlock) (.slice Ao24 t899.length co24) t899) ∧ Aside0 (Kd.R k67 67 wc w.heap.size (fun k_ => some k_ ≠ ((.slice Ao21 t895.length co21) : Value).ownBlock ∧ some k_ ≠ ((.slice Ao35 t912.length co35) : Value).ownBlock) (.slice Ao28 t904.length co28) t931) ∧ Aside0 (Kd.R (Kd.int .i64) 3 wc w.heap.size (fun k_ => some k_ ≠ ((.slice Ao24 t899.length co24) : Value).ownBlock ∧ some k_ ≠ ((.slice Ao40 t916.length co40) : Value).ownBlock) (.slice Ao32 t908.length co32) t932) ∧ Aside0 (Kd.R k67 67 wc w.heap.size (fun k_ => some k_ ≠ ((.slice Ao21 t895.length co21) : Value).ownBlock ∧ some k_ ≠ ((.slice Ao28 t904.length co28) : Value).ownBlock) (.slice Ao35 t912.length co35) t912) ∧ Aside0 (Kd.R (Kd.int .i64) 3 wc w.heap.size (fun k_ => some k_ ≠ ((.slice Ao24 t899.length co24) : Value).ownBlock ∧ some k_ ≠ ((.slice Ao32 t908.length co32) : Value).ownBlock) (.slice Ao40 t916.length co40) t916) ∧ Aside0 (wc.heap[gb886]? = some (.cells #[(.slice A0_0 l0_0.length c0_0), .int .i64 a0_1, (.slice A0_2 l0_2.length c0_2)] 25 (0, 0))) ∧ Aside0 (wc.heap[gb903]? = some (.cells #[(.slice Ao21 t895.length co21), .int .i64 t898, (.slice Ao24 t899.length co24)] 30 (0, 0))) ∧ Aside0 (wc.heap[gb911]? = some (.cells #[(.slice Ao28 t904.length co28), .int .i64 t907, (.slice Ao32 t908.length co32)] 30 (0, 0))) ∧ Aside0 (wc.heap[gb920]? = some (.cells #[(.slice Ao35 t912.length co35), .int .i64 t915, (.slice Ao40 t916.length co40)] 30 (0, 0))) ∧ Aside0 (Below w.heap.size w wc))
            case first =>
              have H := HC64.out
              clear HC64
              by_cases c75 : t930 < 0
              · rw [if_pos c75] at H
                have c75b0 : decide (t930 < 0) = true := decide_eq_true c75
                clear c75
                (first | rw [c75b0] | (simp only [i64_w, i32_w]; rw [c75b0]) | skip)
                have H' := Aside0.mk H
                clear H
                go_wp2
                go_meet
                case rel => exact ⟨_, (true), (by first | rfl | (simp; done) | (simp [*]; done)), H', ⟨by have := HJ10.out; first | omega | exact Nat.le_refl _⟩, ⟨by (with_reducible repeat (first | apply Kd.R_alloc | apply Kd.R_drewN | apply Kd.R_drew)); exact Kd.R_mono HO_904000.out (fun _ hk => ⟨hk.1, hk.2.1⟩)⟩, ⟨by (with_reducible repeat (first | apply Kd.R_alloc | apply Kd.R_drewN | apply Kd.R_drew)); exact Kd.R_mono HO_904002.out (fun _ hk => ⟨hk.1, hk.2.1⟩)⟩, ⟨by (with_reducible repeat (first | apply Kd.R_alloc | apply Kd.R_drewN | apply Kd.R_drew)); exact Kd.R_mono HO_912000.out (fun _ hk => ⟨hk.1.1, hk.1.2⟩)⟩, ⟨by (with_reducible repeat (first | apply Kd.R_alloc | apply Kd.R_drewN | apply Kd.R_drew)); exact Kd.R_mono HO_912002.out (fun _ hk => ⟨hk.1.1, hk.1.2⟩)⟩, ⟨by (with_reducible repeat (first | apply Kd.R_alloc | apply Kd.R_drewN | apply Kd.R_drew)); exact Kd.R_mono HO_921000.out (fun _ hk => ⟨hk.1, hk.2.1⟩)⟩, ⟨by (with_reducible repeat (first | apply Kd.R_alloc | apply Kd.R_drewN | apply Kd.R_drew)); exact Kd.R_mono HO_921002.out (fun _ hk => ⟨hk.1, hk.2.1⟩)⟩, ⟨oK BK886⟩, ⟨oK BK903⟩, ⟨oK BK911⟩, ⟨oK BK920⟩, ⟨oB HB⟩⟩
              · rw [if_neg c75] at H
                have c75b0 : decide (t930 < 0) = false := decide_eq_false c75
                clear c75
                (first | rw [c75b0] | (simp only [i64_w, i32_w]; rw [c75b0]) | skip)
                replace H := Option.bind_eq_some_iff.mp H
                obtain ⟨t933, A760, H⟩ := H
                (try dsimp only at H)
                have A76 := Aside0.mk A760
                clear A760
                by_cases c77 : t933 = true
                · subst c77
                  rw [if_pos rfl] at H
                  have H' := Aside0.mk H
                  clear H
                  have hnb78 := NB920_886.out
                  have hnc78 := NB886_920.out
                  have hnb79 := NB920_903.out
                  have hnc79 := NB903_920.out
                  have hnb80 := NB920_911.out
                  have hnc80 := NB911_920.out
                  have hcz81_0 : w74.cell? ⟨gb920, 0, none⟩ = some (.slice Ao35 t912.length co35) := (blk_cell BK920.out 0).trans rfl
                  have hcz81_1 : w74.cell? ⟨gb920, 1, none⟩ = some (.int .i64 t915) := (blk_cell BK920.out 1).trans rfl
                  have hcz81_2 : w74.cell? ⟨gb920, 2, none⟩ = some (.slice Ao40 t916.length co40) := (blk_cell BK920.out 2).trans rfl
                  have hfz81_0 := blk_frozen BK920.out 0
                  have hfz81_1 := blk_frozen BK920.out 1
                  have hfz81_2 := blk_frozen BK920.out 2
                  have hnb82 := NB903_886.out
                  have hnc82 := NB886_903.out
                  have hnb83 := NB903_911.out
                  have hnc83 := NB911_903.out
                  have hcz84_0 : w74.cell? ⟨gb903, 0, none⟩ = some (.slice Ao21 t895.length co21) := (blk_cell BK903.out 0).trans rfl
                  have hcz84_1 : w74.cell? ⟨gb903, 1, none⟩ = some (.int .i64 t898) := (blk_cell BK903.out 1).trans rfl
                  have hcz84_2 : w74.cell? ⟨gb903, 2, none⟩ = some (.slice Ao24 t899.length co24) := (blk_cell BK903.out 2).trans rfl
                  have hfz84_0 := blk_frozen BK903.out 0
                  have hfz84_1 := blk_frozen BK903.out 1
                  have hfz84_2 := blk_frozen BK903.out 2
                  go_wp2_with (first | (go_at_call 19; (with_reducible refine (laws_eqWork.calls kj10 _ _ t912 t915 _ _ t916 _ _ t895 t898 _ _ t899 true _ ?side1 ?side2 ?side3 ?side4 ?side5 ?side6 ?side7 ?side8 A76.out).mono ?_); (case side1 => repeat (first | exact (Kd.R_reads' HO_921000.out).2.2 | (with_reducible refine Kd.C_alloc ?_ _) | (with_reducible refine Kd.C_drewN ?_ _) | (with_reducible refine Kd.C_drew ?_))); (case side2 => exact (Kd.R_reads' HO_921000.out).2.1); (case side3 => repeat (first | exact (Kd.R_reads' HO_921002.out).2.2 | (with_reducible refine Kd.C_alloc ?_ _) | (with_reducible refine Kd.C_drewN ?_ _) | (with_reducible refine Kd.C_drew ?_))); (case side4 => exact (Kd.R_reads' HO_921002.out).2.1); (case side5 => repeat (first | exact (Kd.R_reads' HO_904000.out).2.2 | (with_reducible refine Kd.C_alloc ?_ _) | (with_reducible refine Kd.C_drewN ?_ _) | (with_reducible refine Kd.C_drew ?_))); (case side6 => exact (Kd.R_reads' HO_904000.out).2.1); (case side7 => repeat (first | exact (Kd.R_reads' HO_904002.out).2.2 | (with_reducible refine Kd.C_alloc ?_ _) | (with_reducible refine Kd.C_drewN ?_ _) | (with_reducible refine Kd.C_drew ?_))); (case side8 => exact (Kd.R_reads' HO_904002.out).2.1); rintro e w85 ⟨rfl, hb⟩; have n0_ := Aside0.mk (Kd.R_below (oR HO_904000) hb); have n1_ := Aside0.mk (Kd.R_below (oR HO_904002) hb); have n2_ := Aside0.mk (Kd.R_below (oR HO_912000) hb); have n3_ := Aside0.mk (Kd.R_below (oR HO_912002) hb); have n4_ := Aside0.mk (Kd.R_below (oR HO_921000) hb); have n5_ := Aside0.mk (Kd.R_below (oR HO_921002) hb); have n6_ := Aside0.mk (Kd.R_below (oR HO924) hb); have n7_ := Aside0.mk (Kd.R_below (oR HO928) hb); have n8_ := Aside0.mk (blk_below (g := gb886) (o := .cells #[.slice A0_0 l0_0.length c0_0, .int .i64 a0_1, .slice A0_2 l0_2.length c0_2] 25 (0, 0)) (oK BK886) hb); have n9_ := Aside0.mk (blk_below (g := gb903) (o := .cells #[.slice Ao21 t895.length co21, .int .i64 t898, .slice Ao24 t899.length co24] 30 (0, 0)) (oK BK903) hb); have n10_ := Aside0.mk (blk_below (g := gb911) (o := .cells #[.slice Ao28 t904.length co28, .int .i64 t907, .slice Ao32 t908.length co32] 30 (0, 0)) (oK BK911) hb); have n11_ := Aside0.mk (blk_below (g := gb920) (o := .cells #[.slice Ao35 t912.length co35, .int .i64 t915, .slice Ao40 t916.length co40] 30 (0, 0)) (oK BK920) hb); have n12_ := Aside0.mk (below_step (oB HB) hb); clear HO_904000; clear HO_904002; clear HO_912000; clear HO_912002; clear HO_921000; clear HO_921002; clear HO924; clear HO928; clear BK886; clear BK903; clear BK911; clear BK920; clear HB; have HO_904000 := n0_; have HO_904002 := n1_; have HO_912000 := n2_; have HO_912002 := n3_; have HO_921000 := n4_; have HO_921002 := n5_; have HO924 := n6_; have HO928 := n7_; have BK886 := n8_; have BK903 := n9_; have BK911 := n10_; have BK920 := n11_; have HB := n12_; clear n0_ n1_ n2_ n3_ n4_ n5_ n6_ n7_ n8_ n9_ n10_ n11_ n12_; (try clear hb); (try clear hb2); (try clear hk); (try clear hi)))
                  go_meet
                  case rel => exact ⟨_, ((t919 != t902)), (by first | rfl | (simp; done) | (simp [*]; done)), H', ⟨by have := HJ10.out; first | omega | exact Nat.le_refl _⟩, ⟨by (with_reducible repeat (first | apply Kd.R_alloc | apply Kd.R_drewN | apply Kd.R_drew)); exact Kd.R_mono HO_904000.out (fun _ hk => ⟨hk.1, hk.2.1⟩)⟩, ⟨by (with_reducible repeat (first | apply Kd.R_alloc | apply Kd.R_drewN | apply Kd.R_drew)); exact Kd.R_mono HO_904002.out (fun _ hk => ⟨hk.1, hk.2.1⟩)⟩, ⟨by (with_reducible repeat (first | apply Kd.R_alloc | apply Kd.R_drewN | apply Kd.R_drew)); exact Kd.R_mono HO_912000.out (fun _ hk => ⟨hk.1.1, hk.1.2⟩)⟩, ⟨by (with_reducible repeat (first | apply Kd.R_alloc | apply Kd.R_drewN | apply Kd.R_drew)); exact Kd.R_mono HO_912002.out (fun _ hk => ⟨hk.1.1, hk.1.2⟩)⟩, ⟨by (with_reducible repeat (first | apply Kd.R_alloc | apply Kd.R_drewN | apply Kd.R_drew)); exact Kd.R_mono HO_921000.out (fun _ hk => ⟨hk.1, hk.2.1⟩)⟩, ⟨by (with_reducible repeat (first | apply Kd.R_alloc | apply Kd.R_drewN | apply Kd.R_drew)); exact Kd.R_mono HO_921002.out (fun _ hk => ⟨hk.1, hk.2.1⟩)⟩, ⟨oK BK886⟩, ⟨oK BK903⟩, ⟨oK BK911⟩, ⟨oK BK920⟩, ⟨oB HB⟩⟩
                · replace c77 := Bool.eq_false_iff.mpr c77
                  subst c77
                  rw [if_neg (show ¬ (false = true) by decide)] at H
                  have H' := Aside0.mk H
                  clear H
                  have hnb86 := NB920_886.out
                  have hnc86 := NB886_920.out
                  have hnb87 := NB920_903.out
                  have hnc87 := NB903_920.out
                  have hnb88 := NB920_911.out
                  have hnc88 := NB911_920.out
                  have hcz89_0 : w74.cell? ⟨gb920, 0, none⟩ = some (.slice Ao35 t912.length co35) := (blk_cell BK920.out 0).trans rfl
                  have hcz89_1 : w74.cell? ⟨gb920, 1, none⟩ = some (.int .i64 t915) := (blk_cell BK920.out 1).trans rfl
                  have hcz89_2 : w74.cell? ⟨gb920, 2, none⟩ = some (.slice Ao40 t916.length co40) := (blk_cell BK920.out 2).trans rfl
                  have hfz89_0 := blk_frozen BK920.out 0
                  have hfz89_1 := blk_frozen BK920.out 1
                  have hfz89_2 := blk_frozen BK920.out 2
                  have hnb90 := NB903_886.out
                  have hnc90 := NB886_903.out
                  have hnb91 := NB903_911.out
                  have hnc91 := NB911_903.out
                  have hcz92_0 : w74.cell? ⟨gb903, 0, none⟩ = some (.slice Ao21 t895.length co21) := (blk_cell BK903.out 0).trans rfl
                  have hcz92_1 : w74.cell? ⟨gb903, 1, none⟩ = some (.int .i64 t898) := (blk_cell BK903.out 1).trans rfl
                  have hcz92_2 : w74.cell? ⟨gb903, 2, none⟩ = some (.slice Ao24 t899.length co24) := (blk_cell BK903.out 2).trans rfl
                  have hfz92_0 := blk_frozen BK903.out 0
                  have hfz92_1 := blk_frozen BK903.out 1
                  have hfz92_2 := blk_frozen BK903.out 2
                  go_wp2_with (first | (go_at_call 19; (with_reducible refine (laws_eqWork.calls kj10 _ _ t912 t915 _ _ t916 _ _ t895 t898 _ _ t899 false _ ?side1 ?side2 ?side3 ?side4 ?side5 ?side6 ?side7 ?side8 A76.out).mono ?_); (case side1 => repeat (first | exact (Kd.R_reads' HO_921000.out).2.2 | (with_reducible refine Kd.C_alloc ?_ _) | (with_reducible refine Kd.C_drewN ?_ _) | (with_reducible refine Kd.C_drew ?_))); (case side2 => exact (Kd.R_reads' HO_921000.out).2.1); (case side3 => repeat (first | exact (Kd.R_reads' HO_921002.out).2.2 | (with_reducible refine Kd.C_alloc ?_ _) | (with_reducible refine Kd.C_drewN ?_ _) | (with_reducible refine Kd.C_drew ?_))); (case side4 => exact (Kd.R_reads' HO_921002.out).2.1); (case side5 => repeat (first | exact (Kd.R_reads' HO_904000.out).2.2 | (with_reducible refine Kd.C_alloc ?_ _) | (with_reducible refine Kd.C_drewN ?_ _) | (with_reducible refine Kd.C_drew ?_))); (case side6 => exact (Kd.R_reads' HO_904000.out).2.1); (case side7 => repeat (first | exact (Kd.R_reads' HO_904002.out).2.2 | (with_reducible refine Kd.C_alloc ?_ _) | (with_reducible refine Kd.C_drewN ?_ _) | (with_reducible refine Kd.C_drew ?_))); (case side8 => exact (Kd.R_reads' HO_904002.out).2.1); rintro e w93 ⟨rfl, hb⟩; have n0_ := Aside0.mk (Kd.R_below (oR HO_904000) hb); have n1_ := Aside0.mk (Kd.R_below (oR HO_904002) hb); have n2_ := Aside0.mk (Kd.R_below (oR HO_912000) hb); have n3_ := Aside0.mk (Kd.R_below (oR HO_912002) hb); have n4_ := Aside0.mk (Kd.R_below (oR HO_921000) hb); have n5_ := Aside0.mk (Kd.R_below (oR HO_921002) hb); have n6_ := Aside0.mk (Kd.R_below (oR HO924) hb); have n7_ := Aside0.mk (Kd.R_below (oR HO928) hb); have n8_ := Aside0.mk (blk_below (g := gb886) (o := .cells #[.slice A0_0 l0_0.length c0_0, .int .i64 a0_1, .slice A0_2 l0_2.length c0_2] 25 (0, 0)) (oK BK886) hb); have n9_ := Aside0.mk (blk_below (g := gb903) (o := .cells #[.slice Ao21 t895.length co21, .int .i64 t898, .slice Ao24 t899.length co24] 30 (0, 0)) (oK BK903) hb); have n10_ := Aside0.mk (blk_below (g := gb911) (o := .cells #[.slice Ao28 t904.length co28, .int .i64 t907, .slice Ao32 t908.length co32] 30 (0, 0)) (oK BK911) hb); have n11_ := Aside0.mk (blk_below (g := gb920) (o := .cells #[.slice Ao35 t912.length co35, .int .i64 t915, .slice Ao40 t916.length co40] 30 (0, 0)) (oK BK920) hb); have n12_ := Aside0.mk (below_step (oB HB) hb); clear HO_904000; clear HO_904002; clear HO_912000; clear HO_912002; clear HO_921000; clear HO_921002; clear HO924; clear HO928; clear BK886; clear BK903; clear BK911; clear BK920; clear HB; have HO_904000 := n0_; have HO_904002 := n1_; have HO_912000 := n2_; have HO_912002 := n3_; have HO_921000 := n4_; have HO_921002 := n5_; have HO924 := n6_; have HO928 := n7_; have BK886 := n8_; have BK903 := n9_; have BK911 := n10_; have BK920 := n11_; have HB := n12_; clear n0_ n1_ n2_ n3_ n4_ n5_ n6_ n7_ n8_ n9_ n10_ n11_ n12_; (try clear hb); (try clear hb2); (try clear hk); (try clear hi)))
                  go_meet
                  case rel => exact ⟨_, (true), (by first | rfl | (simp; done) | (simp [*]; done)), H', ⟨by have := HJ10.out; first | omega | exact Nat.le_refl _⟩, ⟨by (with_reducible repeat (first | apply Kd.R_alloc | apply Kd.R_drewN | apply Kd.R_drew)); exact Kd.R_mono HO_904000.out (fun _ hk => ⟨hk.1, hk.2.1⟩)⟩, ⟨by (with_reducible repeat (first | apply Kd.R_alloc | apply Kd.R_drewN | apply Kd.R_drew)); exact Kd.R_mono HO_904002.out (fun _ hk => ⟨hk.1, hk.2.1⟩)⟩, ⟨by (with_reducible repeat (first | apply Kd.R_alloc | apply Kd.R_drewN | apply Kd.R_drew)); exact Kd.R_mono HO_912000.out (fun _ hk => ⟨hk.1.1, hk.1.2⟩)⟩, ⟨by (with_reducible repeat (first | apply Kd.R_alloc | apply Kd.R_drewN | apply Kd.R_drew)); exact Kd.R_mono HO_912002.out (fun _ hk => ⟨hk.1.1, hk.1.2⟩)⟩, ⟨by (with_reducible repeat (first | apply Kd.R_alloc | apply Kd.R_drewN | apply Kd.R_drew)); exact Kd.R_mono HO_921000.out (fun _ hk => ⟨hk.1, hk.2.1⟩)⟩, ⟨by (with_reducible repeat (first | apply Kd.R_alloc | apply Kd.R_drewN | apply Kd.R_drew)); exact Kd.R_mono HO_921002.out (fun _ hk => ⟨hk.1, hk.2.1⟩)⟩, ⟨oK BK886⟩, ⟨oK BK903⟩, ⟨oK BK911⟩, ⟨oK BK920⟩, ⟨oB HB⟩⟩
            case rest =>
              clear HC64
              try clear c1
              try clear c2
              try clear p2
              try clear c3
              try clear c3b0
              try clear c4
              try clear c5
              try clear c6
              try clear c7
              try clear c8
              try clear c9
              try clear c11
              try clear c15
              try clear c17
              try clear c19
              try clear c22
              try clear c28
              try clear c29
              try clear c30
              try clear c36
              try clear c37
              try clear c38
              try clear c42
              try clear c43
              try clear c44
              try clear c45
              try clear c47
              try clear c48
              try clear c51
              try clear c52
              try clear c53
              try clear c55
              try clear c56
              try clear c59
              try clear c62
              try clear c70
              try clear c71
              try clear c72
              try clear c75
              try clear c75b0
              try clear c77
              try clear c78
              try clear c79
              try clear c80
              try clear c82
              try clear c83
              try clear c86
              try clear c87
              try clear c88
              try clear c90
              try clear c91
              try clear hcz13_0
              try clear hcz13_1
              try clear hcz13_2
              try clear hcz15_0
              try clear hcz15_1
              try clear hcz15_2
              try clear hcz23_0
              try clear hcz23_1
              try clear hcz23_2
              try clear hcz25_0
              try clear hcz25_1
              try clear hcz25_2
              try clear hcz31_0
              try clear hcz31_1
              try clear hcz31_2
              try clear hcz39_0
              try clear hcz39_1
              try clear hcz39_2
              try clear hcz46_0
              try clear hcz46_1
              try clear hcz46_2
              try clear hcz49_0
              try clear hcz49_1
              try clear hcz49_2
              try clear hcz54_0
              try clear hcz54_1
              try clear hcz54_2
              try clear hcz57_0
              try clear hcz57_1
              try clear hcz57_2
              try clear hcz5_0
              try clear hcz5_1
              try clear hcz5_2
              try clear hcz73_0
              try clear hcz73_1
              try clear hcz73_2
              try clear hcz81_0
              try clear hcz81_1
              try clear hcz81_2
              try clear hcz84_0
              try clear hcz84_1
              try clear hcz84_2
              try clear hcz89_0
              try clear hcz89_1
              try clear hcz89_2
              try clear hcz92_0
              try clear hcz92_1
              try clear hcz92_2
              try clear hfz13_0
              try clear hfz13_1
              try clear hfz13_2
              try clear hfz15_0
              try clear hfz15_1
              try clear hfz15_2
              try clear hfz23_0
              try clear hfz23_1
              try clear hfz23_2
              try clear hfz25_0
              try clear hfz25_1
              try clear hfz25_2
              try clear hfz31_0
              try clear hfz31_1
              try clear hfz31_2
              try clear hfz39_0
              try clear hfz39_1
              try clear hfz39_2
              try clear hfz46_0
              try clear hfz46_1
              try clear hfz46_2
              try clear hfz49_0
              try clear hfz49_1
              try clear hfz49_2
              try clear hfz54_0
              try clear hfz54_1
              try clear hfz54_2
              try clear hfz57_0
              try clear hfz57_1
              try clear hfz57_2
              try clear hfz5_0
              try clear hfz5_1
              try clear hfz5_2
              try clear hfz73_0
              try clear hfz73_1
              try clear hfz73_2
              try clear hfz81_0
              try clear hfz81_1
              try clear hfz81_2
              try clear hfz84_0
              try clear hfz84_1
              try clear hfz84_2
              try clear hfz89_0
              try clear hfz89_1
              try clear hfz89_2
              try clear hfz92_0
              try clear hfz92_1
              try clear hfz92_2
              try clear p2
              obtain ⟨kq, x61_63, rfl, HA, HJ63, HO_904000, HO_904002, HO_912000, HO_912002, HO_921000, HO_921002, BK886, BK903, BK911, BK920, HB⟩ := hcut
              have hl912000_63 := (Kd.R_reads' HO_912000.out).1
              rw [hl912000_63] at HO_912000
              (try simp only [hl912000_63])
              (try simp only [hl912000_63] at BK886)
              (try simp only [hl912000_63] at BK903)
              (try simp only [hl912000_63] at BK911)
              (try simp only [hl912000_63] at BK920)
              (try simp only [hl912000_63] at HO_904000)
              (try simp only [hl912000_63] at HO_904002)
              (try simp only [hl912000_63] at HO_912002)
              (try simp only [hl912000_63] at HO_921000)
              (try simp only [hl912000_63] at HO_921002)
              have hl912002_63 := (Kd.R_reads' HO_912002.out).1
              rw [hl912002_63] at HO_912002
              (try simp only [hl912002_63])
              (try simp only [hl912002_63] at BK886)
              (try simp only [hl912002_63] at BK903)
              (try simp only [hl912002_63] at BK911)
              (try simp only [hl912002_63] at BK920)
              (try simp only [hl912002_63] at HO_904000)
              (try simp only [hl912002_63] at HO_904002)
              (try simp only [hl912002_63] at HO_912000)
              (try simp only [hl912002_63] at HO_921000)
              (try simp only [hl912002_63] at HO_921002)
              cases kq with
              | zero => exact absurd HA.out (by simp [laws_FnExactMendStep.j1])
              | succ kj63 =>
                have H := HA.out
                clear HA
                simp only [laws_FnExactMendStep.j1] at H
                by_cases c94 : x61_63 = true
                · subst c94
                  rw [if_pos rfl] at H
                  exact absurd ((Option.some.inj H).trans hrt_.out) (by decide)
                · replace c94 := Bool.eq_false_iff.mpr c94
                  subst c94
                  rw [if_neg (show ¬ (false = true) by decide)] at H
                  replace H := Option.bind_eq_some_iff.mp H
                  obtain ⟨⟨t934, t935, t936⟩, A950, H⟩ := H
                  (try dsimp only at H)
                  have A95 := Aside0.mk A950
                  clear A950
                  replace H := Option.bind_eq_some_iff.mp H
                  obtain ⟨t937, A960, H⟩ := H
                  (try dsimp only at H)
                  have A96 := Aside0.mk A960
                  clear A960
                  by_cases c97 : t937 < 0
                  · rw [if_pos c97] at H
                    have c97b0 : decide (t937 < 0) = true := decide_eq_true c97
                    clear c97
                    exact absurd ((Option.some.inj H).trans hrt_.out) (by decide)
                  · rw [if_neg c97] at H
                    have c97b0 : decide (t937 < 0) = false := decide_eq_false c97
                    clear c97
                    by_cases c98 : t937 = t934
                    · rw [if_pos c98] at H
                      have c98b0 : (t937 == t934) = true := beq_iff_eq.mpr c98
                      have c98b1 : (t937 != t934) = false := bne_eq_false_iff_eq.mpr c98
                      clear c98
                      replace H := Option.bind_eq_some_iff.mp H
                      obtain ⟨⟨t938, t941, t942⟩, A990, H⟩ := H
                      (try dsimp only at H)
                      have A99 := Aside0.mk A990
                      clear A990
                      replace H := Option.bind_eq_some_iff.mp H
                      obtain ⟨⟨t945, t948, t949, t952⟩, A1000, H⟩ := H
                      (try dsimp only at H)
                      have A100 := Aside0.mk A1000
                      clear A1000
                      have HC101 := Aside0.mk H
                      clear H
                      have hnb102 := NB920_886.out
                      have hnc102 := NB886_920.out
                      have hnb103 := NB920_903.out
                      have hnc103 := NB903_920.out
                      have hnb104 := NB920_911.out
                      have hnc104 := NB911_920.out
                      have hcz105_0 : wc.cell? ⟨gb920, 0, none⟩ = some (.slice Ao35 t912.length co35) := (blk_cell BK920.out 0).trans rfl
                      have hcz105_1 : wc.cell? ⟨gb920, 1, none⟩ = some (.int .i64 t915) := (blk_cell BK920.out 1).trans rfl
                      have hcz105_2 : wc.cell? ⟨gb920, 2, none⟩ = some (.slice Ao40 t916.length co40) := (blk_cell BK920.out 2).trans rfl
                      have hfz105_0 := blk_frozen BK920.out 0
                      have hfz105_1 := blk_frozen BK920.out 1
                      have hfz105_2 := blk_frozen BK920.out 2
                      go_upto_region 25 with (first | ((with_reducible refine gate_callee (f := 28) rfl ?_); refine goesL_ (some 64) rfl rfl Try.func28 (by kernel_rfl) rfl #[.agg #[.slice Ao35 t912.length co35, .int .i64 t915, .slice Ao40 t916.length co40], .int .i64 1] rfl (by (try simp only [List.map_toArray, List.map_cons, List.map_nil]); first | done | rfl | (simp only [List.length_drop, List.length_take]; rfl)) ?_; (with_reducible refine (laws_markWork.calls kj63 (fun k_ => some k_ = (.slice Ao35 t912.length co35 : Value).ownBlock) (.slice Ao35 t912.length co35) t912 t915 (fun k_ => some k_ = (.slice Ao40 t916.length co40 : Value).ownBlock) (.slice Ao40 t916.length co40) t916 1 t934 t935 t936 w _ ?side1 ?side2 ?side3 A95.out).mono ?_); (case side1 => repeat (first | (with_reducible first | exact HB.out | apply below_alloc | apply pw_below_drewN | apply below_drew1 | refine below_set ?_ GE886.out | refine below_set ?_ GE903.out | refine below_set ?_ GE911.out | refine below_set ?_ GE920.out) | exact HB.out)); (case side2 => exact Kd.R_tight rfl HO_921000.out); (case side3 => exact Kd.R_tight rfl HO_921002.out); rintro e w106 ⟨rfl, hy0, hy1, hb, hkp⟩; refine ⟨_, rfl, ?_⟩; have n0_ := Aside0.mk (Kd.R_mono (ok' := fun k_ => some k_ ≠ (.slice Ao28 t931.length co28 : Value).ownBlock ∧ some k_ ≠ (.slice Ao35 t912.length co35 : Value).ownBlock) (Kd.R_keptB ((Kd.R_apart' HO_904000.out (Kd.R_typed HO_921002.out) (by decide))) hkp (fun k_ hk_ hs_ => Or.elim hs_ (fun e_ => (hk_.1.2) e_) (fun e_ => (hk_.2) e_))) (fun k_ hk_ => ⟨hk_.1.1.1, hk_.1.1.2⟩)); have n1_ := Aside0.mk (Kd.R_mono (ok' := fun k_ => some k_ ≠ (.slice Ao32 t932.length co32 : Value).ownBlock ∧ some k_ ≠ (.slice Ao40 t916.length co40 : Value).ownBlock) (Kd.R_keptB ((Kd.R_apart' HO_904002.out (Kd.R_typed HO_921000.out) (by decide))) hkp (fun k_ hk_ hs_ => Or.elim hs_ (fun e_ => (hk_.2) e_) (fun e_ => (hk_.1.2) e_))) (fun k_ hk_ => ⟨hk_.1.1.1, hk_.1.1.2⟩)); have n2_ := Aside0.mk (Kd.R_mono (ok' := fun k_ => some k_ ≠ (.slice Ao21 t895.length co21 : Value).ownBlock ∧ some k_ ≠ (.slice Ao35 t912.length co35 : Value).ownBlock) (Kd.R_keptB ((Kd.R_apart' HO_912000.out (Kd.R_typed HO_921002.out) (by decide))) hkp (fun k_ hk_ hs_ => Or.elim hs_ (fun e_ => (hk_.1.2) e_) (fun e_ => (hk_.2) e_))) (fun k_ hk_ => ⟨hk_.1.1.1, hk_.1.1.2⟩)); have n3_ := Aside0.mk (Kd.R_mono (ok' := fun k_ => some k_ ≠ (.slice Ao24 t899.length co24 : Value).ownBlock ∧ some k_ ≠ (.slice Ao40 t916.length co40 : Value).ownBlock) (Kd.R_keptB ((Kd.R_apart' HO_912002.out (Kd.R_typed HO_921000.out) (by decide))) hkp (fun k_ hk_ hs_ => Or.elim hs_ (fun e_ => (hk_.2) e_) (fun e_ => (hk_.1.2) e_))) (fun k_ hk_ => ⟨hk_.1.1.1, hk_.1.1.2⟩)); have n4_ := Aside0.mk (Kd.R_reok rfl hy0 (fun k_ e_ => HO_921000.out.1 k_ e_)); have n5_ := Aside0.mk (Kd.R_reok rfl hy1 (fun k_ e_ => HO_921002.out.1 k_ e_)); have n6_ := Aside0.mk (blk_kept (oK BK886) hkp (fun hs_ => Or.elim hs_ (fun e_ => (fun e_ => (Kd.R_ne HO_921000.out BK886.out (by decide)) e_) e_) (fun e_ => (fun e_ => (Kd.R_ne HO_921002.out BK886.out (by decide)) e_) e_))); have n7_ := Aside0.mk (blk_kept (oK BK903) hkp (fun hs_ => Or.elim hs_ (fun e_ => (fun e_ => (Kd.R_ne HO_921000.out BK903.out (by decide)) e_) e_) (fun e_ => (fun e_ => (Kd.R_ne HO_921002.out BK903.out (by decide)) e_) e_))); have n8_ := Aside0.mk (blk_kept (oK BK911) hkp (fun hs_ => Or.elim hs_ (fun e_ => (fun e_ => (Kd.R_ne HO_921000.out BK911.out (by decide)) e_) e_) (fun e_ => (fun e_ => (Kd.R_ne HO_921002.out BK911.out (by decide)) e_) e_))); have n9_ := Aside0.mk (blk_kept (oK BK920) hkp (fun hs_ => Or.elim hs_ (fun e_ => (fun e_ => (Kd.R_ne HO_921000.out BK920.out (by decide)) e_) e_) (fun e_ => (fun e_ => (Kd.R_ne HO_921002.out BK920.out (by decide)) e_) e_))); have n10_ := Aside0.mk (hb); clear HO_904000; clear HO_904002; clear HO_912000; clear HO_912002; clear HO_921000; clear HO_921002; clear BK886; clear BK903; clear BK911; clear BK920; clear HB; have HO_904000 := n0_; have HO_904002 := n1_; have HO_912000 := n2_; have HO_912002 := n3_; have HO_921000 := n4_; have HO_921002 := n5_; have BK886 := n6_; have BK903 := n7_; have BK911 := n8_; have BK920 := n9_; have HB := n10_; clear n0_ n1_ n2_ n3_ n4_ n5_ n6_ n7_ n8_ n9_ n10_; (try clear hb); (try clear hkp); (try clear hy0); (try clear hy1); have hcz107_0 : w106.cell? ⟨gb920, 0, none⟩ = some (.slice Ao35 t912.length co35) := (blk_cell BK920.out 0).trans rfl; have hcz107_1 : w106.cell? ⟨gb920, 1, none⟩ = some (.int .i64 t915) := (blk_cell BK920.out 1).trans rfl; have hcz107_2 : w106.cell? ⟨gb920, 2, none⟩ = some (.slice Ao40 t916.length co40) := (blk_cell BK920.out 2).trans rfl; have hfz107_0 := blk_frozen BK920.out 0; have hfz107_1 := blk_frozen BK920.out 1; have hfz107_2 := blk_frozen BK920.out 2) | ((with_reducible refine gate_callee (f := 29) rfl ?_); refine goesL_ (some 67) rfl rfl Try.func29 (by kernel_rfl) rfl #[.agg #[.slice Ao35 t935.length co35, .int .i64 t915, .slice Ao40 t936.length co40], .int .i64 1] rfl (by (try simp only [List.map_toArray, List.map_cons, List.map_nil]); first | done | (rw [show t935.length = t912.length from (Kd.R_reads' HO_921000.out).1.symm, show t936.length = t916.length from (Kd.R_reads' HO_921002.out).1.symm] <;> rfl) | rfl | (simp only [List.length_drop, List.length_take]; rfl)) ?_; (with_reducible refine (laws_heldWork.calls kj63 _ _ t935 t915 _ _ t936 1 t937 _ ?side1 ?side2 ?side3 ?side4 A96.out).mono ?_); (case side1 => repeat (first | exact (Kd.R_reads' HO_921000.out).2.2 | (with_reducible refine Kd.C_alloc ?_ _) | (with_reducible refine Kd.C_drewN ?_ _) | (with_reducible refine Kd.C_drew ?_))); (case side2 => rw [show t935.length = t912.length from (Kd.R_reads' HO_921000.out).1.symm]; exact (Kd.R_reads' HO_921000.out).2.1); (case side3 => repeat (first | exact (Kd.R_reads' HO_921002.out).2.2 | (with_reducible refine Kd.C_alloc ?_ _) | (with_reducible refine Kd.C_drewN ?_ _) | (with_reducible refine Kd.C_drew ?_))); (case side4 => rw [show t936.length = t916.length from (Kd.R_reads' HO_921002.out).1.symm]; exact (Kd.R_reads' HO_921002.out).2.1); rintro e w108 ⟨rfl, hb⟩; refine ⟨_, rfl, ?_⟩; have n0_ := Aside0.mk (Kd.R_below (oR HO_904000) hb); have n1_ := Aside0.mk (Kd.R_below (oR HO_904002) hb); have n2_ := Aside0.mk (Kd.R_below (oR HO_912000) hb); have n3_ := Aside0.mk (Kd.R_below (oR HO_912002) hb); have n4_ := Aside0.mk (Kd.R_below (oR HO_921000) hb); have n5_ := Aside0.mk (Kd.R_below (oR HO_921002) hb); have n6_ := Aside0.mk (blk_below (g := gb886) (o := .cells #[.slice A0_0 l0_0.length c0_0, .int .i64 a0_1, .slice A0_2 l0_2.length c0_2] 25 (0, 0)) (oK BK886) hb); have n7_ := Aside0.mk (blk_below (g := gb903) (o := .cells #[.slice Ao21 t895.length co21, .int .i64 t898, .slice Ao24 t899.length co24] 30 (0, 0)) (oK BK903) hb); have n8_ := Aside0.mk (blk_below (g := gb911) (o := .cells #[.slice Ao28 t931.length co28, .int .i64 t907, .slice Ao32 t932.length co32] 30 (0, 0)) (oK BK911) hb); have n9_ := Aside0.mk (blk_below (g := gb920) (o := .cells #[.slice Ao35 t912.length co35, .int .i64 t915, .slice Ao40 t916.length co40] 30 (0, 0)) (oK BK920) hb); have n10_ := Aside0.mk (below_step (oB HB) hb); clear HO_904000; clear HO_904002; clear HO_912000; clear HO_912002; clear HO_921000; clear HO_921002; clear BK886; clear BK903; clear BK911; clear BK920; clear HB; have HO_904000 := n0_; have HO_904002 := n1_; have HO_912000 := n2_; have HO_912002 := n3_; have HO_921000 := n4_; have HO_921002 := n5_; have BK886 := n6_; have BK903 := n7_; have BK911 := n8_; have BK920 := n9_; have HB := n10_; clear n0_ n1_ n2_ n3_ n4_ n5_ n6_ n7_ n8_ n9_ n10_; (try clear hb); (try clear hb2); (try clear hk); (try clear hi); have hnb109 := NB886_903.out; have hnc109 := NB903_886.out; have hnb110 := NB886_911.out; have hnc110 := NB911_886.out; have hcz111_0 : w108.cell? ⟨gb886, 0, none⟩ = some (.slice A0_0 l0_0.length c0_0) := (blk_cell BK886.out 0).trans rfl; have hcz111_1 : w108.cell? ⟨gb886, 1, none⟩ = some (.int .i64 a0_1) := (blk_cell BK886.out 1).trans rfl; have hcz111_2 : w108.cell? ⟨gb886, 2, none⟩ = some (.slice A0_2 l0_2.length c0_2) := (blk_cell BK886.out 2).trans rfl; have hfz111_0 := blk_frozen BK886.out 0; have hfz111_1 := blk_frozen BK886.out 1; have hfz111_2 := blk_frozen BK886.out 2) | ((with_reducible refine gate_callee (f := 17) rfl ?_); refine goesL_ (some 75) rfl rfl Try.func17 (by kernel_rfl) rfl #[.agg #[.slice A0_0 l0_0.length c0_0, .int .i64 a0_1, .slice A0_2 l0_2.length c0_2]] rfl (by (try simp only [List.map_toArray, List.map_cons, List.map_nil]); first | done | rfl | (simp only [List.length_drop, List.length_take]; rfl)) ?_; (with_reducible refine (laws_toWork.calls kj63 _ _ l0_0 a0_1 _ _ l0_2 t938 t941 t942 _ ?side1 ?side2 ?side3 ?side4 A99.out).mono ?_); (case side1 => exact oc_ HR0_0.out); (case side2 => exact HC0_0.out); (case side3 => exact oc_ HR0_2.out); (case side4 => exact HC0_2.out); rintro e w112 ⟨v939, v943, rfl, ho0, ho1, hb⟩; refine ⟨_, rfl, ?_⟩; have n0_ := Aside0.mk (Kd.R_elder' (oR HO_904000) (Kd.R_base ho0) hb); have n1_ := Aside0.mk (Kd.R_elder' (oR HO_904002) (Kd.R_base ho1) hb); have n2_ := Aside0.mk (Kd.R_elder' (oR HO_912000) (Kd.R_base ho0) hb); have n3_ := Aside0.mk (Kd.R_elder' (oR HO_912002) (Kd.R_base ho1) hb); have n4_ := Aside0.mk (Kd.R_elder' (oR HO_921000) (Kd.R_base ho0) hb); have n5_ := Aside0.mk (Kd.R_elder' (oR HO_921002) (Kd.R_base ho1) hb); have n6_ := Aside0.mk (Kd.R_lower (Kd.R_new' (Kd.R_new' (Kd.R_new' ho0 (Kd.R_lt (oR HO_904000))) (Kd.R_lt (oR HO_912000))) (Kd.R_lt (oR HO_921000))) (below_size (oB HB))); have n7_ := Aside0.mk (Kd.R_lower (Kd.R_new' (Kd.R_new' (Kd.R_new' ho1 (Kd.R_lt (oR HO_904002))) (Kd.R_lt (oR HO_912002))) (Kd.R_lt (oR HO_921002))) (below_size (oB HB))); have n8_ := Aside0.mk (blk_below (g := gb886) (o := .cells #[.slice A0_0 l0_0.length c0_0, .int .i64 a0_1, .slice A0_2 l0_2.length c0_2] 25 (0, 0)) (oK BK886) hb); have n9_ := Aside0.mk (blk_below (g := gb903) (o := .cells #[.slice Ao21 t895.length co21, .int .i64 t898, .slice Ao24 t899.length co24] 30 (0, 0)) (oK BK903) hb); have n10_ := Aside0.mk (blk_below (g := gb911) (o := .cells #[.slice Ao28 t931.length co28, .int .i64 t907, .slice Ao32 t932.length co32] 30 (0, 0)) (oK BK911) hb); have n11_ := Aside0.mk (blk_below (g := gb920) (o := .cells #[.slice Ao35 t912.length co35, .int .i64 t915, .slice Ao40 t916.length co40] 30 (0, 0)) (oK BK920) hb); have n12_ := Aside0.mk (below_step (oB HB) hb); clear HO_904000; clear HO_904002; clear HO_912000; clear HO_912002; clear HO_921000; clear HO_921002; clear BK886; clear BK903; clear BK911; clear BK920; clear HB; have HO_904000 := n0_; have HO_904002 := n1_; have HO_912000 := n2_; have HO_912002 := n3_; have HO_921000 := n4_; have HO_921002 := n5_; have HO940 := n6_; have HO944 := n7_; have BK886 := n8_; have BK903 := n9_; have BK911 := n10_; have BK920 := n11_; have HB := n12_; clear n0_ n1_ n2_ n3_ n4_ n5_ n6_ n7_ n8_ n9_ n10_ n11_ n12_; (try clear hb); (try clear hb2); (try clear hk); (try clear hi); (try clear ho0); (try clear ho1); obtain ⟨Ao113, co113, eo113⟩ := Kd.R_slice HO940.out; subst eo113; obtain ⟨Ao114, co114, eo114⟩ := Kd.R_slice HO944.out; subst eo114) | ((with_reducible refine gate_callee (f := 44) rfl ?_); refine goesL_ (some 76) rfl rfl Try.func44 (by kernel_rfl) rfl #[.agg #[.slice Ao113 t938.length co113, .int .i64 t941, .slice Ao114 t942.length co114]] rfl (by (try simp only [List.map_toArray, List.map_cons, List.map_nil]); first | done | rfl | (simp only [List.length_drop, List.length_take]; rfl)) ?_; (with_reducible refine (impl_MendStep.calls kj63 _ _ t938 t941 _ _ t942 t945 t948 t949 t952 _ ?side1 ?side2 ?side3 ?side4 A100.out).mono ?_); (case side1 => repeat (first | exact (Kd.R_reads' HO940.out).2.2 | (with_reducible refine Kd.C_alloc ?_ _) | (with_reducible refine Kd.C_drewN ?_ _) | (with_reducible refine Kd.C_drew ?_))); (case side2 => exact (Kd.R_reads' HO940.out).2.1); (case side3 => repeat (first | exact (Kd.R_reads' HO944.out).2.2 | (with_reducible refine Kd.C_alloc ?_ _) | (with_reducible refine Kd.C_drewN ?_ _) | (with_reducible refine Kd.C_drew ?_))); (case side4 => exact (Kd.R_reads' HO944.out).2.1); rintro e w115 ⟨v946, v950, rfl, ho0, ho1, hb⟩; refine ⟨_, rfl, ?_⟩; have n0_ := Aside0.mk (Kd.R_elder' (oR HO_904000) (Kd.R_base ho0) hb); have n1_ := Aside0.mk (Kd.R_elder' (oR HO_904002) (Kd.R_base ho1) hb); have n2_ := Aside0.mk (Kd.R_elder' (oR HO_912000) (Kd.R_base ho0) hb); have n3_ := Aside0.mk (Kd.R_elder' (oR HO_912002) (Kd.R_base ho1) hb); have n4_ := Aside0.mk (Kd.R_elder' (oR HO_921000) (Kd.R_base ho0) hb); have n5_ := Aside0.mk (Kd.R_elder' (oR HO_921002) (Kd.R_base ho1) hb); have n6_ := Aside0.mk (Kd.R_elder' (oR HO940) (Kd.R_base ho0) hb); have n7_ := Aside0.mk (Kd.R_elder' (oR HO944) (Kd.R_base ho1) hb); have n8_ := Aside0.mk (Kd.R_lower (Kd.R_new' (Kd.R_new' (Kd.R_new' (Kd.R_new' ho0 (Kd.R_lt (oR HO_904000))) (Kd.R_lt (oR HO_912000))) (Kd.R_lt (oR HO_921000))) (Kd.R_lt (oR HO940))) (below_size (oB HB))); have n9_ := Aside0.mk (Kd.R_lower (Kd.R_new' (Kd.R_new' (Kd.R_new' (Kd.R_new' ho1 (Kd.R_lt (oR HO_904002))) (Kd.R_lt (oR HO_912002))) (Kd.R_lt (oR HO_921002))) (Kd.R_lt (oR HO944))) (below_size (oB HB))); have n10_ := Aside0.mk (blk_below (g := gb886) (o := .cells #[.slice A0_0 l0_0.length c0_0, .int .i64 a0_1, .slice A0_2 l0_2.length c0_2] 25 (0, 0)) (oK BK886) hb); have n11_ := Aside0.mk (blk_below (g := gb903) (o := .cells #[.slice Ao21 t895.length co21, .int .i64 t898, .slice Ao24 t899.length co24] 30 (0, 0)) (oK BK903) hb); have n12_ := Aside0.mk (blk_below (g := gb911) (o := .cells #[.slice Ao28 t931.length co28, .int .i64 t907, .slice Ao32 t932.length co32] 30 (0, 0)) (oK BK911) hb); have n13_ := Aside0.mk (blk_below (g := gb920) (o := .cells #[.slice Ao35 t912.length co35, .int .i64 t915, .slice Ao40 t916.length co40] 30 (0, 0)) (oK BK920) hb); have n14_ := Aside0.mk (below_step (oB HB) hb); clear HO_904000; clear HO_904002; clear HO_912000; clear HO_912002; clear HO_921000; clear HO_921002; clear HO940; clear HO944; clear BK886; clear BK903; clear BK911; clear BK920; clear HB; have HO_904000 := n0_; have HO_904002 := n1_; have HO_912000 := n2_; have HO_912002 := n3_; have HO_921000 := n4_; have HO_921002 := n5_; have HO940 := n6_; have HO944 := n7_; have HO947 := n8_; have HO951 := n9_; have BK886 := n10_; have BK903 := n11_; have BK911 := n12_; have BK920 := n13_; have HB := n14_; clear n0_ n1_ n2_ n3_ n4_ n5_ n6_ n7_ n8_ n9_ n10_ n11_ n12_ n13_ n14_; (try clear hb); (try clear hb2); (try clear hk); (try clear hi); (try clear ho0); (try clear ho1)) | ((with_reducible refine gate_dst (N := 12) rfl ?_); refine box_event ?hg (N := 12) ?hd (cs := #[.slice none 0 0, .int .i64 0, .slice none 0 0]) (t := 30) ?hr ?_; (case hd => rfl); (case hg => rfl); (case hr => first | (go_simp; done) | (go_simp; rfl)); intro gb953 hg w116 hbox hb; have n0_ := Aside0.mk (Kd.R_below (oR HO_904000) hb); have n1_ := Aside0.mk (Kd.R_below (oR HO_904002) hb); have n2_ := Aside0.mk (Kd.R_below (oR HO_912000) hb); have n3_ := Aside0.mk (Kd.R_below (oR HO_912002) hb); have n4_ := Aside0.mk (Kd.R_below (oR HO_921000) hb); have n5_ := Aside0.mk (Kd.R_below (oR HO_921002) hb); have n6_ := Aside0.mk (Kd.R_below (oR HO940) hb); have n7_ := Aside0.mk (Kd.R_below (oR HO944) hb); have n8_ := Aside0.mk (Kd.R_below (oR HO947) hb); have n9_ := Aside0.mk (Kd.R_below (oR HO951) hb); have n10_ := Aside0.mk (blk_below (g := gb886) (o := .cells #[.slice A0_0 l0_0.length c0_0, .int .i64 a0_1, .slice A0_2 l0_2.length c0_2] 25 (0, 0)) (oK BK886) hb); have n11_ := Aside0.mk (blk_below (g := gb903) (o := .cells #[.slice Ao21 t895.length co21, .int .i64 t898, .slice Ao24 t899.length co24] 30 (0, 0)) (oK BK903) hb); have n12_ := Aside0.mk (blk_below (g := gb911) (o := .cells #[.slice Ao28 t931.length co28, .int .i64 t907, .slice Ao32 t932.length co32] 30 (0, 0)) (oK BK911) hb); have n13_ := Aside0.mk (blk_below (g := gb920) (o := .cells #[.slice Ao35 t912.length co35, .int .i64 t915, .slice Ao40 t916.length co40] 30 (0, 0)) (oK BK920) hb); have n14_ := Aside0.mk (below_step (oB HB) hb); have n15_ := Aside0.mk (hbox); have n16_ := Aside0.mk ((by rw [hg]; exact (below_size (oB HB)) : w.heap.size ≤ gb953)); have n17_ := Aside0.mk ((by rw [hg]; exact (below_size (oB HB)) : w.heap.size ≤ gb953)); have n18_ := Aside0.mk ((by rw [hg]; exact Nat.ne_of_lt (blk_lt (g := gb886) (o := .cells #[.slice A0_0 l0_0.length c0_0, .int .i64 a0_1, .slice A0_2 l0_2.length c0_2] 25 (0, 0)) (oK BK886)) : gb886 ≠ gb953)); have n19_ := Aside0.mk ((by rw [hg]; exact Nat.ne_of_gt (blk_lt (g := gb886) (o := .cells #[.slice A0_0 l0_0.length c0_0, .int .i64 a0_1, .slice A0_2 l0_2.length c0_2] 25 (0, 0)) (oK BK886)) : gb953 ≠ gb886)); have n20_ := Aside0.mk ((by rw [hg]; exact Nat.ne_of_lt (blk_lt (g := gb903) (o := .cells #[.slice Ao21 t895.length co21, .int .i64 t898, .slice Ao24 t899.length co24] 30 (0, 0)) (oK BK903)) : gb903 ≠ gb953)); have n21_ := Aside0.mk ((by rw [hg]; exact Nat.ne_of_gt (blk_lt (g := gb903) (o := .cells #[.slice Ao21 t895.length co21, .int .i64 t898, .slice Ao24 t899.length co24] 30 (0, 0)) (oK BK903)) : gb953 ≠ gb903)); have n22_ := Aside0.mk ((by rw [hg]; exact Nat.ne_of_lt (blk_lt (g := gb911) (o := .cells #[.slice Ao28 t931.length co28, .int .i64 t907, .slice Ao32 t932.length co32] 30 (0, 0)) (oK BK911)) : gb911 ≠ gb953)); have n23_ := Aside0.mk ((by rw [hg]; exact Nat.ne_of_gt (blk_lt (g := gb911) (o := .cells #[.slice Ao28 t931.length co28, .int .i64 t907, .slice Ao32 t932.length co32] 30 (0, 0)) (oK BK911)) : gb953 ≠ gb911)); have n24_ := Aside0.mk ((by rw [hg]; exact Nat.ne_of_lt (blk_lt (g := gb920) (o := .cells #[.slice Ao35 t912.length co35, .int .i64 t915, .slice Ao40 t916.length co40] 30 (0, 0)) (oK BK920)) : gb920 ≠ gb953)); have n25_ := Aside0.mk ((by rw [hg]; exact Nat.ne_of_gt (blk_lt (g := gb920) (o := .cells #[.slice Ao35 t912.length co35, .int .i64 t915, .slice Ao40 t916.length co40] 30 (0, 0)) (oK BK920)) : gb953 ≠ gb920)); clear HO_904000; clear HO_904002; clear HO_912000; clear HO_912002; clear HO_921000; clear HO_921002; clear HO940; clear HO944; clear HO947; clear HO951; clear BK886; clear BK903; clear BK911; clear BK920; clear HB; have HO_904000 := n0_; have HO_904002 := n1_; have HO_912000 := n2_; have HO_912002 := n3_; have HO_921000 := n4_; have HO_921002 := n5_; have HO940 := n6_; have HO944 := n7_; have HO947 := n8_; have HO951 := n9_; have BK886 := n10_; have BK903 := n11_; have BK911 := n12_; have BK920 := n13_; have HB := n14_; have BK953 := n15_; have GW953 := n16_; have GE953 := n17_; have NB886_953 := n18_; have NB953_886 := n19_; have NB903_953 := n20_; have NB953_903 := n21_; have NB911_953 := n22_; have NB953_911 := n23_; have NB920_953 := n24_; have NB953_920 := n25_; clear n0_ n1_ n2_ n3_ n4_ n5_ n6_ n7_ n8_ n9_ n10_ n11_ n12_ n13_ n14_ n15_ n16_ n17_ n18_ n19_ n20_ n21_ n22_ n23_ n24_ n25_; clear hb hbox hg; obtain ⟨Ao117, co117, eo117⟩ := Kd.R_slice HO947.out; subst eo117; have hnb118 := NB953_886.out; have hnc118 := NB886_953.out; have hnb119 := NB953_903.out; have hnc119 := NB903_953.out; have hnb120 := NB953_911.out; have hnc120 := NB911_953.out; have hnb121 := NB953_920.out; have hnc121 := NB920_953.out; have hcz122_0 : w116.cell? ⟨gb953, 0, none⟩ = some (.slice none 0 0) := (blk_cell BK953.out 0).trans rfl; have hcz122_1 : w116.cell? ⟨gb953, 1, none⟩ = some (.int .i64 0) := (blk_cell BK953.out 1).trans rfl; have hcz122_2 : w116.cell? ⟨gb953, 2, none⟩ = some (.slice none 0 0) := (blk_cell BK953.out 2).trans rfl; have hfz122_0 := blk_frozen BK953.out 0; have hfz122_1 := blk_frozen BK953.out 1; have hfz122_2 := blk_frozen BK953.out 2; obtain ⟨Ao123, co123, eo123⟩ := Kd.R_slice HO951.out; subst eo123))
                      (try simp only [Act.put, List.setIfInBounds_toArray, List.set_cons_zero, List.set_cons_succ])
                      go_cut [87] (fun v87 wc => ∃ (kq : Nat) (x87_100 : Bool), v87 = .bool x87_100 ∧ Aside0 (laws_FnExactMendStep.j2 kq t934 x87_100 t935 t915 t936 = some r) ∧ Aside0 (kq ≤ kj63) ∧ Aside0 (Kd.R k67 67 wc w.heap.size (fun k_ => some k_ ≠ ((.slice Ao28 t931.length co28) : Value).ownBlock ∧ some k_ ≠ ((.slice Ao35 t912.length co35) : Value).ownBlock ∧ some k_ ≠ ((.slice Ao117 t945.length co117) : Value).ownBlock) (.slice Ao21 t895.length co21) t895) ∧ Aside0 (Kd.R (Kd.int .i64) 3 wc w.heap.size (fun k_ => some k_ ≠ ((.slice Ao32 t932.length co32) : Value).ownBlock ∧ some k_ ≠ ((.slice Ao40 t916.length co40) : Value).ownBlock ∧ some k_ ≠ ((.slice Ao123 t949.length co123) : Value).ownBlock) (.slice Ao24 t899.length co24) t899) ∧ Aside0 (Kd.R k67 67 wc w.heap.size (fun k_ => some k_ ≠ ((.slice Ao21 t895.length co21) : Value).ownBlock ∧ some k_ ≠ ((.slice Ao35 t912.length co35) : Value).ownBlock ∧ some k_ ≠ ((.slice Ao117 t945.length co117) : Value).ownBlock) (.slice Ao28 t931.length co28) t931) ∧ Aside0 (Kd.R (Kd.int .i64) 3 wc w.heap.size (fun k_ => some k_ ≠ ((.slice Ao24 t899.length co24) : Value).ownBlock ∧ some k_ ≠ ((.slice Ao40 t916.length co40) : Value).ownBlock ∧ some k_ ≠ ((.slice Ao123 t949.length co123) : Value).ownBlock) (.slice Ao32 t932.length co32) t932) ∧ Aside0 (Kd.R k67 67 wc w.heap.size (fun k_ => some k_ ≠ ((.slice Ao21 t895.length co21) : Value).ownBlock ∧ some k_ ≠ ((.slice Ao28 t931.length co28) : Value).ownBlock ∧ some k_ ≠ ((.slice Ao117 t945.length co117) : Value).ownBlock) (.slice Ao35 t912.length co35) t935) ∧ Aside0 (Kd.R (Kd.int .i64) 3 wc w.heap.size (fun k_ => some k_ ≠ ((.slice Ao24 t899.length co24) : Value).ownBlock ∧ some k_ ≠ ((.slice Ao32 t932.length co32) : Value).ownBlock ∧ some k_ ≠ ((.slice Ao123 t949.length co123) : Value).ownBlock) (.slice Ao40 t916.length co40) t936) ∧ Aside0 (Kd.R k67 67 wc w.heap.size (fun k_ => some k_ ≠ ((.slice Ao21 t895.length co21) : Value).ownBlock ∧ some k_ ≠ ((.slice Ao28 t931.length co28) : Value).ownBlock ∧ some k_ ≠ ((.slice Ao35 t912.length co35) : Value).ownBlock) (.slice Ao117 t945.length co117) t945) ∧ Aside0 (Kd.R (Kd.int .i64) 3 wc w.heap.size (fun k_ => some k_ ≠ ((.slice Ao24 t899.length co24) : Value).ownBlock ∧ some k_ ≠ ((.slice Ao32 t932.length co32) : Value).ownBlock ∧ some k_ ≠ ((.slice Ao40 t916.length co40) : Value).ownBlock) (.slice Ao123 t949.length co123) t949) ∧ Aside0 (wc.heap[gb886]? = some (.cells #[(.slice A0_0 l0_0.length c0_0), .int .i64 a0_1, (.slice A0_2 l0_2.length c0_2)] 25 (0, 0))) ∧ Aside0 (wc.heap[gb903]? = some (.cells #[(.slice Ao21 t895.length co21), .int .i64 t898, (.slice Ao24 t899.length co24)] 30 (0, 0))) ∧ Aside0 (wc.heap[gb911]? = some (.cells #[(.slice Ao28 t931.length co28), .int .i64 t907, (.slice Ao32 t932.length co32)] 30 (0, 0))) ∧ Aside0 (wc.heap[gb920]? = some (.cells #[(.slice Ao35 t912.length co35), .int .i64 t915, (.slice Ao40 t916.length co40)] 30 (0, 0))) ∧ Aside0 (wc.heap[gb953]? = some (.cells #[(.slice Ao117 t945.length co117), .int .i64 t948, (.slice Ao123 t949.length co123)] 30 (0, 0))) ∧ Aside0 (Below w.heap.size w wc))
                      case first =>
                        have H := HC101.out
                        clear HC101
                        replace H := Option.bind_eq_some_iff.mp H
                        obtain ⟨t954, A1240, H⟩ := H
                        (try dsimp only at H)
                        have A124 := Aside0.mk A1240
                        clear A1240
                        by_cases c125 : t954 = true
                        · subst c125
                          rw [if_pos rfl] at H
                          have H' := Aside0.mk H
                          clear H
                          have hnb126 := NB953_886.out
                          have hnc126 := NB886_953.out
                          have hnb127 := NB953_903.out
                          have hnc127 := NB903_953.out
                          have hnb128 := NB953_911.out
                          have hnc128 := NB911_953.out
                          have hnb129 := NB953_920.out
                          have hnc129 := NB920_953.out
                          have hcz130_0 : w116.cell? ⟨gb953, 0, none⟩ = some (.slice none 0 0) := (blk_cell BK953.out 0).trans rfl
                          have hcz130_1 : w116.cell? ⟨gb953, 1, none⟩ = some (.int .i64 0) := (blk_cell BK953.out 1).trans rfl
                          have hcz130_2 : w116.cell? ⟨gb953, 2, none⟩ = some (.slice none 0 0) := (blk_cell BK953.out 2).trans rfl
                          have hfz130_0 := blk_frozen BK953.out 0
                          have hfz130_1 := blk_frozen BK953.out 1
                          have hfz130_2 := blk_frozen BK953.out 2
                          have hnb131 := NB903_886.out
                          have hnc131 := NB886_903.out
                          have hnb132 := NB903_911.out
                          have hnc132 := NB911_903.out
                          have hnb133 := NB903_920.out
                          have hnc133 := NB920_903.out
                          have hcz134_0 : w116.cell? ⟨gb903, 0, none⟩ = some (.slice Ao21 t895.length co21) := (blk_cell BK903.out 0).trans rfl
                          have hcz134_1 : w116.cell? ⟨gb903, 1, none⟩ = some (.int .i64 t898) := (blk_cell BK903.out 1).trans rfl
                          have hcz134_2 : w116.cell? ⟨gb903, 2, none⟩ = some (.slice Ao24 t899.length co24) := (blk_cell BK903.out 2).trans rfl
                          have hfz134_0 := blk_frozen BK903.out 0
                          have hfz134_1 := blk_frozen BK903.out 1
                          have hfz134_2 := blk_frozen BK903.out 2
                          go_wp2_with (first | ((with_reducible refine gate_callee (f := 19) rfl ?_); refine goesL_ (some 81) rfl rfl Try.func19 (by kernel_rfl) rfl #[.agg #[.slice Ao117 t945.length co117, .int .i64 t948, .slice Ao123 t949.length co123], .agg #[.slice Ao21 t895.length co21, .int .i64 t898, .slice Ao24 t899.length co24]] rfl (by (try simp only [List.map_toArray, List.map_cons, List.map_nil]); first | done | rfl | (simp only [List.length_drop, List.length_take]; rfl)) ?_; (with_reducible refine (laws_eqWork.calls kj63 _ _ t945 t948 _ _ t949 _ _ t895 t898 _ _ t899 true _ ?side1 ?side2 ?side3 ?side4 ?side5 ?side6 ?side7 ?side8 A124.out).mono ?_); (case side1 => refine (Kd.R_reads' (e := 67) (base := w.heap.size) (ok := fun k_ => ((((True ∧ some k_ ≠ (.slice Ao21 t895.length co21 : Value).ownBlock) ∧ some k_ ≠ (.slice Ao28 t931.length co28 : Value).ownBlock) ∧ some k_ ≠ (.slice Ao35 t912.length co35 : Value).ownBlock) ∧ some k_ ≠ (.slice Ao113 t938.length co113 : Value).ownBlock)) (n := t945.length) (c := co117) ?_).2.2; exact (by (with_reducible repeat (first | apply Kd.R_alloc | apply Kd.R_drewN | apply Kd.R_drew)); exact (Kd.R_mono (Kd.R_far (p := ⟨gb953, 2, none⟩) (Kd.R_far (p := ⟨gb953, 1, none⟩) (Kd.R_far (p := ⟨gb953, 0, none⟩) (Kd.R_types HO947.out BK953.out (by decide)) (fun _ hk => hk.2) (.slice Ao117 t945.length co117)) (fun _ hk => hk.2) (.int .i64 t948)) (fun _ hk => hk.2) (.slice Ao123 t949.length co123)) (fun _ h_ => h_.1)))); (case side2 => exact (Kd.R_reads' HO947.out).2.1); (case side3 => refine (Kd.R_reads' (e := 3) (base := w.heap.size) (ok := fun k_ => ((((True ∧ some k_ ≠ (.slice Ao24 t899.length co24 : Value).ownBlock) ∧ some k_ ≠ (.slice Ao32 t932.length co32 : Value).ownBlock) ∧ some k_ ≠ (.slice Ao40 t916.length co40 : Value).ownBlock) ∧ some k_ ≠ (.slice Ao114 t942.length co114 : Value).ownBlock)) (n := t949.length) (c := co123) ?_).2.2; exact (by (with_reducible repeat (first | apply Kd.R_alloc | apply Kd.R_drewN | apply Kd.R_drew)); exact (Kd.R_mono (Kd.R_far (p := ⟨gb953, 2, none⟩) (Kd.R_far (p := ⟨gb953, 1, none⟩) (Kd.R_far (p := ⟨gb953, 0, none⟩) (Kd.R_types HO951.out BK953.out (by decide)) (fun _ hk => hk.2) (.slice Ao117 t945.length co117)) (fun _ hk => hk.2) (.int .i64 t948)) (fun _ hk => hk.2) (.slice Ao123 t949.length co123)) (fun _ h_ => h_.1)))); (case side4 => exact (Kd.R_reads' HO951.out).2.1); (case side5 => refine (Kd.R_reads' (e := 67) (base := w.heap.size) (ok := fun k_ => (((some k_ ≠ (.slice Ao28 t931.length co28 : Value).ownBlock ∧ some k_ ≠ (.slice Ao35 t912.length co35 : Value).ownBlock) ∧ some k_ ≠ (.slice Ao113 t938.length co113 : Value).ownBlock) ∧ some k_ ≠ (.slice Ao117 t945.length co117 : Value).ownBlock)) (n := t895.length) (c := co21) ?_).2.2; exact (by (with_reducible repeat (first | apply Kd.R_alloc | apply Kd.R_drewN | apply Kd.R_drew)); exact (Kd.R_mono (Kd.R_far (p := ⟨gb953, 2, none⟩) (Kd.R_far (p := ⟨gb953, 1, none⟩) (Kd.R_far (p := ⟨gb953, 0, none⟩) (Kd.R_types HO_904000.out BK953.out (by decide)) (fun _ hk => hk.2) (.slice Ao117 t945.length co117)) (fun _ hk => hk.2) (.int .i64 t948)) (fun _ hk => hk.2) (.slice Ao123 t949.length co123)) (fun _ h_ => h_.1)))); (case side6 => exact (Kd.R_reads' HO_904000.out).2.1); (case side7 => refine (Kd.R_reads' (e := 3) (base := w.heap.size) (ok := fun k_ => (((some k_ ≠ (.slice Ao32 t932.length co32 : Value).ownBlock ∧ some k_ ≠ (.slice Ao40 t916.length co40 : Value).ownBlock) ∧ some k_ ≠ (.slice Ao114 t942.length co114 : Value).ownBlock) ∧ some k_ ≠ (.slice Ao123 t949.length co123 : Value).ownBlock)) (n := t899.length) (c := co24) ?_).2.2; exact (by (with_reducible repeat (first | apply Kd.R_alloc | apply Kd.R_drewN | apply Kd.R_drew)); exact (Kd.R_mono (Kd.R_far (p := ⟨gb953, 2, none⟩) (Kd.R_far (p := ⟨gb953, 1, none⟩) (Kd.R_far (p := ⟨gb953, 0, none⟩) (Kd.R_types HO_904002.out BK953.out (by decide)) (fun _ hk => hk.2) (.slice Ao117 t945.length co117)) (fun _ hk => hk.2) (.int .i64 t948)) (fun _ hk => hk.2) (.slice Ao123 t949.length co123)) (fun _ h_ => h_.1)))); (case side8 => exact (Kd.R_reads' HO_904002.out).2.1); rintro e w135 ⟨rfl, hb⟩; refine ⟨_, rfl, ?_⟩; have n0_ := Aside0.mk (Kd.R_below (by (with_reducible repeat (first | apply Kd.R_alloc | apply Kd.R_drewN | apply Kd.R_drew)); exact (Kd.R_mono (Kd.R_far (p := ⟨gb953, 2, none⟩) (Kd.R_far (p := ⟨gb953, 1, none⟩) (Kd.R_far (p := ⟨gb953, 0, none⟩) (Kd.R_types HO_904000.out BK953.out (by decide)) (fun _ hk => hk.2) (.slice Ao117 t945.length co117)) (fun _ hk => hk.2) (.int .i64 t948)) (fun _ hk => hk.2) (.slice Ao123 t949.length co123)) (fun _ h_ => h_.1))) hb); have n1_ := Aside0.mk (Kd.R_below (by (with_reducible repeat (first | apply Kd.R_alloc | apply Kd.R_drewN | apply Kd.R_drew)); exact (Kd.R_mono (Kd.R_far (p := ⟨gb953, 2, none⟩) (Kd.R_far (p := ⟨gb953, 1, none⟩) (Kd.R_far (p := ⟨gb953, 0, none⟩) (Kd.R_types HO_904002.out BK953.out (by decide)) (fun _ hk => hk.2) (.slice Ao117 t945.length co117)) (fun _ hk => hk.2) (.int .i64 t948)) (fun _ hk => hk.2) (.slice Ao123 t949.length co123)) (fun _ h_ => h_.1))) hb); have n2_ := Aside0.mk (Kd.R_below (by (with_reducible repeat (first | apply Kd.R_alloc | apply Kd.R_drewN | apply Kd.R_drew)); exact (Kd.R_mono (Kd.R_far (p := ⟨gb953, 2, none⟩) (Kd.R_far (p := ⟨gb953, 1, none⟩) (Kd.R_far (p := ⟨gb953, 0, none⟩) (Kd.R_types HO_912000.out BK953.out (by decide)) (fun _ hk => hk.2) (.slice Ao117 t945.length co117)) (fun _ hk => hk.2) (.int .i64 t948)) (fun _ hk => hk.2) (.slice Ao123 t949.length co123)) (fun _ h_ => h_.1))) hb); have n3_ := Aside0.mk (Kd.R_below (by (with_reducible repeat (first | apply Kd.R_alloc | apply Kd.R_drewN | apply Kd.R_drew)); exact (Kd.R_mono (Kd.R_far (p := ⟨gb953, 2, none⟩) (Kd.R_far (p := ⟨gb953, 1, none⟩) (Kd.R_far (p := ⟨gb953, 0, none⟩) (Kd.R_types HO_912002.out BK953.out (by decide)) (fun _ hk => hk.2) (.slice Ao117 t945.length co117)) (fun _ hk => hk.2) (.int .i64 t948)) (fun _ hk => hk.2) (.slice Ao123 t949.length co123)) (fun _ h_ => h_.1))) hb); have n4_ := Aside0.mk (Kd.R_below (by (with_reducible repeat (first | apply Kd.R_alloc | apply Kd.R_drewN | apply Kd.R_drew)); exact (Kd.R_mono (Kd.R_far (p := ⟨gb953, 2, none⟩) (Kd.R_far (p := ⟨gb953, 1, none⟩) (Kd.R_far (p := ⟨gb953, 0, none⟩) (Kd.R_types HO_921000.out BK953.out (by decide)) (fun _ hk => hk.2) (.slice Ao117 t945.length co117)) (fun _ hk => hk.2) (.int .i64 t948)) (fun _ hk => hk.2) (.slice Ao123 t949.length co123)) (fun _ h_ => h_.1))) hb); have n5_ := Aside0.mk (Kd.R_below (by (with_reducible repeat (first | apply Kd.R_alloc | apply Kd.R_drewN | apply Kd.R_drew)); exact (Kd.R_mono (Kd.R_far (p := ⟨gb953, 2, none⟩) (Kd.R_far (p := ⟨gb953, 1, none⟩) (Kd.R_far (p := ⟨gb953, 0, none⟩) (Kd.R_types HO_921002.out BK953.out (by decide)) (fun _ hk => hk.2) (.slice Ao117 t945.length co117)) (fun _ hk => hk.2) (.int .i64 t948)) (fun _ hk => hk.2) (.slice Ao123 t949.length co123)) (fun _ h_ => h_.1))) hb); have n6_ := Aside0.mk (Kd.R_below (by (with_reducible repeat (first | apply Kd.R_alloc | apply Kd.R_drewN | apply Kd.R_drew)); exact (Kd.R_mono (Kd.R_far (p := ⟨gb953, 2, none⟩) (Kd.R_far (p := ⟨gb953, 1, none⟩) (Kd.R_far (p := ⟨gb953, 0, none⟩) (Kd.R_types HO940.out BK953.out (by decide)) (fun _ hk => hk.2) (.slice Ao117 t945.length co117)) (fun _ hk => hk.2) (.int .i64 t948)) (fun _ hk => hk.2) (.slice Ao123 t949.length co123)) (fun _ h_ => h_.1))) hb); have n7_ := Aside0.mk (Kd.R_below (by (with_reducible repeat (first | apply Kd.R_alloc | apply Kd.R_drewN | apply Kd.R_drew)); exact (Kd.R_mono (Kd.R_far (p := ⟨gb953, 2, none⟩) (Kd.R_far (p := ⟨gb953, 1, none⟩) (Kd.R_far (p := ⟨gb953, 0, none⟩) (Kd.R_types HO944.out BK953.out (by decide)) (fun _ hk => hk.2) (.slice Ao117 t945.length co117)) (fun _ hk => hk.2) (.int .i64 t948)) (fun _ hk => hk.2) (.slice Ao123 t949.length co123)) (fun _ h_ => h_.1))) hb); have n8_ := Aside0.mk (Kd.R_below (by (with_reducible repeat (first | apply Kd.R_alloc | apply Kd.R_drewN | apply Kd.R_drew)); exact (Kd.R_mono (Kd.R_far (p := ⟨gb953, 2, none⟩) (Kd.R_far (p := ⟨gb953, 1, none⟩) (Kd.R_far (p := ⟨gb953, 0, none⟩) (Kd.R_types HO947.out BK953.out (by decide)) (fun _ hk => hk.2) (.slice Ao117 t945.length co117)) (fun _ hk => hk.2) (.int .i64 t948)) (fun _ hk => hk.2) (.slice Ao123 t949.length co123)) (fun _ h_ => h_.1))) hb); have n9_ := Aside0.mk (Kd.R_below (by (with_reducible repeat (first | apply Kd.R_alloc | apply Kd.R_drewN | apply Kd.R_drew)); exact (Kd.R_mono (Kd.R_far (p := ⟨gb953, 2, none⟩) (Kd.R_far (p := ⟨gb953, 1, none⟩) (Kd.R_far (p := ⟨gb953, 0, none⟩) (Kd.R_types HO951.out BK953.out (by decide)) (fun _ hk => hk.2) (.slice Ao117 t945.length co117)) (fun _ hk => hk.2) (.int .i64 t948)) (fun _ hk => hk.2) (.slice Ao123 t949.length co123)) (fun _ h_ => h_.1))) hb); have n10_ := Aside0.mk (blk_below (g := gb886) (o := .cells #[.slice A0_0 l0_0.length c0_0, .int .i64 a0_1, .slice A0_2 l0_2.length c0_2] 25 (0, 0)) (by (with_reducible repeat (first | refine blk_drewN ?_ _ | refine blk_drew ?_ | refine blk_alloc ?_ _)); refine blk_far ?_ NB886_953.out _; (with_reducible repeat (first | refine blk_drewN ?_ _ | refine blk_drew ?_ | refine blk_alloc ?_ _)); refine blk_far ?_ NB886_953.out _; (with_reducible repeat (first | refine blk_drewN ?_ _ | refine blk_drew ?_ | refine blk_alloc ?_ _)); refine blk_far ?_ NB886_953.out _; (with_reducible repeat (first | refine blk_drewN ?_ _ | refine blk_drew ?_ | refine blk_alloc ?_ _)); exact BK886.out) hb); have n11_ := Aside0.mk (blk_below (g := gb903) (o := .cells #[.slice Ao21 t895.length co21, .int .i64 t898, .slice Ao24 t899.length co24] 30 (0, 0)) (by (with_reducible repeat (first | refine blk_drewN ?_ _ | refine blk_drew ?_ | refine blk_alloc ?_ _)); refine blk_far ?_ NB903_953.out _; (with_reducible repeat (first | refine blk_drewN ?_ _ | refine blk_drew ?_ | refine blk_alloc ?_ _)); refine blk_far ?_ NB903_953.out _; (with_reducible repeat (first | refine blk_drewN ?_ _ | refine blk_drew ?_ | refine blk_alloc ?_ _)); refine blk_far ?_ NB903_953.out _; (with_reducible repeat (first | refine blk_drewN ?_ _ | refine blk_drew ?_ | refine blk_alloc ?_ _)); exact BK903.out) hb); have n12_ := Aside0.mk (blk_below (g := gb911) (o := .cells #[.slice Ao28 t931.length co28, .int .i64 t907, .slice Ao32 t932.length co32] 30 (0, 0)) (by (with_reducible repeat (first | refine blk_drewN ?_ _ | refine blk_drew ?_ | refine blk_alloc ?_ _)); refine blk_far ?_ NB911_953.out _; (with_reducible repeat (first | refine blk_drewN ?_ _ | refine blk_drew ?_ | refine blk_alloc ?_ _)); refine blk_far ?_ NB911_953.out _; (with_reducible repeat (first | refine blk_drewN ?_ _ | refine blk_drew ?_ | refine blk_alloc ?_ _)); refine blk_far ?_ NB911_953.out _; (with_reducible repeat (first | refine blk_drewN ?_ _ | refine blk_drew ?_ | refine blk_alloc ?_ _)); exact BK911.out) hb); have n13_ := Aside0.mk (blk_below (g := gb920) (o := .cells #[.slice Ao35 t912.length co35, .int .i64 t915, .slice Ao40 t916.length co40] 30 (0, 0)) (by (with_reducible repeat (first | refine blk_drewN ?_ _ | refine blk_drew ?_ | refine blk_alloc ?_ _)); refine blk_far ?_ NB920_953.out _; (with_reducible repeat (first | refine blk_drewN ?_ _ | refine blk_drew ?_ | refine blk_alloc ?_ _)); refine blk_far ?_ NB920_953.out _; (with_reducible repeat (first | refine blk_drewN ?_ _ | refine blk_drew ?_ | refine blk_alloc ?_ _)); refine blk_far ?_ NB920_953.out _; (with_reducible repeat (first | refine blk_drewN ?_ _ | refine blk_drew ?_ | refine blk_alloc ?_ _)); exact BK920.out) hb); have n14_ := Aside0.mk (blk_below (g := gb953) (o := .cells #[.slice Ao117 t945.length co117, .int .i64 t948, .slice Ao123 t949.length co123] 30 (0, 0)) (by (with_reducible repeat (first | refine blk_drewN ?_ _ | refine blk_drew ?_ | refine blk_alloc ?_ _)); refine blk_put (cs := #[.slice Ao117 t945.length co117, .int .i64 t948, .slice none 0 0]) ?_ 2 _ rfl; (with_reducible repeat (first | refine blk_drewN ?_ _ | refine blk_drew ?_ | refine blk_alloc ?_ _)); refine blk_put (cs := #[.slice Ao117 t945.length co117, .int .i64 0, .slice none 0 0]) ?_ 1 _ rfl; (with_reducible repeat (first | refine blk_drewN ?_ _ | refine blk_drew ?_ | refine blk_alloc ?_ _)); refine blk_put (cs := #[.slice none 0 0, .int .i64 0, .slice none 0 0]) ?_ 0 _ rfl; (with_reducible repeat (first | refine blk_drewN ?_ _ | refine blk_drew ?_ | refine blk_alloc ?_ _)); exact BK953.out) hb); have n15_ := Aside0.mk (below_step (oB HB) hb); clear HO_904000; clear HO_904002; clear HO_912000; clear HO_912002; clear HO_921000; clear HO_921002; clear HO940; clear HO944; clear HO947; clear HO951; clear BK886; clear BK903; clear BK911; clear BK920; clear BK953; clear HB; have HO_904000 := n0_; have HO_904002 := n1_; have HO_912000 := n2_; have HO_912002 := n3_; have HO_921000 := n4_; have HO_921002 := n5_; have HO940 := n6_; have HO944 := n7_; have HO947 := n8_; have HO951 := n9_; have BK886 := n10_; have BK903 := n11_; have BK911 := n12_; have BK920 := n13_; have BK953 := n14_; have HB := n15_; clear n0_ n1_ n2_ n3_ n4_ n5_ n6_ n7_ n8_ n9_ n10_ n11_ n12_ n13_ n14_ n15_; (try clear hb); (try clear hb2); (try clear hk); (try clear hi)))
                          go_meet
                          case rel => exact ⟨_, ((t952 != t902)), (by first | rfl | (simp; done) | (simp [*]; done)), H', ⟨by have := HJ10.out; have := HJ63.out; first | omega | exact Nat.le_refl _⟩, ⟨by (try simp only [hl912000_63]); (try simp only [hl912002_63]); (with_reducible repeat (first | apply Kd.R_alloc | apply Kd.R_drewN | apply Kd.R_drew)); exact Kd.R_mono HO_904000.out (fun _ hk => ⟨hk.1.1.1, ⟨hk.1.1.2, hk.2⟩⟩)⟩, ⟨by (try simp only [hl912000_63]); (try simp only [hl912002_63]); (with_reducible repeat (first | apply Kd.R_alloc | apply Kd.R_drewN | apply Kd.R_drew)); exact Kd.R_mono HO_904002.out (fun _ hk => ⟨hk.1.1.1, ⟨hk.1.1.2, hk.2⟩⟩)⟩, ⟨by (try simp only [hl912000_63]); (try simp only [hl912002_63]); (with_reducible repeat (first | apply Kd.R_alloc | apply Kd.R_drewN | apply Kd.R_drew)); exact Kd.R_mono HO_912000.out (fun _ hk => ⟨hk.1.1.1, ⟨hk.1.1.2, hk.2⟩⟩)⟩, ⟨by (try simp only [hl912000_63]); (try simp only [hl912002_63]); (with_reducible repeat (first | apply Kd.R_alloc | apply Kd.R_drewN | apply Kd.R_drew)); exact Kd.R_mono HO_912002.out (fun _ hk => ⟨hk.1.1.1, ⟨hk.1.1.2, hk.2⟩⟩)⟩, ⟨by (try simp only [hl912000_63]); (try simp only [hl912002_63]); (with_reducible repeat (first | apply Kd.R_alloc | apply Kd.R_drewN | apply Kd.R_drew)); exact Kd.R_mono HO_921000.out (fun _ hk => ⟨hk.1.1.1, ⟨hk.1.1.2, hk.2⟩⟩)⟩, ⟨by (try simp only [hl912000_63]); (try simp only [hl912002_63]); (with_reducible repeat (first | apply Kd.R_alloc | apply Kd.R_drewN | apply Kd.R_drew)); exact Kd.R_mono HO_921002.out (fun _ hk => ⟨hk.1.1.1, ⟨hk.1.1.2, hk.2⟩⟩)⟩, ⟨by (try simp only [hl912000_63]); (try simp only [hl912002_63]); (with_reducible repeat (first | apply Kd.R_alloc | apply Kd.R_drewN | apply Kd.R_drew)); exact Kd.R_mono HO947.out (fun _ hk => ⟨hk.1.1.1.2, ⟨hk.1.1.2, hk.1.2⟩⟩)⟩, ⟨by (try simp only [hl912000_63]); (try simp only [hl912002_63]); (with_reducible repeat (first | apply Kd.R_alloc | apply Kd.R_drewN | apply Kd.R_drew)); exact Kd.R_mono HO951.out (fun _ hk => ⟨hk.1.1.1.2, ⟨hk.1.1.2, hk.1.2⟩⟩)⟩, ⟨by (try simp only [hl912000_63]); (try simp only [hl912002_63]); (with_reducible repeat (first | refine blk_drewN ?_ _ | refine blk_drew ?_ | refine blk_alloc ?_ _)); exact BK886.out⟩, ⟨by (try simp only [hl912000_63]); (try simp only [hl912002_63]); (with_reducible repeat (first | refine blk_drewN ?_ _ | refine blk_drew ?_ | refine blk_alloc ?_ _)); exact BK903.out⟩, ⟨by (try simp only [hl912000_63]); (try simp only [hl912002_63]); (with_reducible repeat (first | refine blk_drewN ?_ _ | refine blk_drew ?_ | refine blk_alloc ?_ _)); exact BK911.out⟩, ⟨by (try simp only [hl912000_63]); (try simp only [hl912002_63]); (with_reducible repeat (first | refine blk_drewN ?_ _ | refine blk_drew ?_ | refine blk_alloc ?_ _)); exact BK920.out⟩, ⟨by (try simp only [hl912000_63]); (try simp only [hl912002_63]); (with_reducible repeat (first | refine blk_drewN ?_ _ | refine blk_drew ?_ | refine blk_alloc ?_ _)); exact BK953.out⟩, ⟨oB HB⟩⟩
                        · replace c125 := Bool.eq_false_iff.mpr c125
                          subst c125
                          rw [if_neg (show ¬ (false = true) by decide)] at H
                          have H' := Aside0.mk H
                          clear H
                          have hnb136 := NB953_886.out
                          have hnc136 := NB886_953.out
                          have hnb137 := NB953_903.out
                          have hnc137 := NB903_953.out
                          have hnb138 := NB953_911.out
                          have hnc138 := NB911_953.out
                          have hnb139 := NB953_920.out
                          have hnc139 := NB920_953.out
                          have hcz140_0 : w116.cell? ⟨gb953, 0, none⟩ = some (.slice none 0 0) := (blk_cell BK953.out 0).trans rfl
                          have hcz140_1 : w116.cell? ⟨gb953, 1, none⟩ = some (.int .i64 0) := (blk_cell BK953.out 1).trans rfl
                          have hcz140_2 : w116.cell? ⟨gb953, 2, none⟩ = some (.slice none 0 0) := (blk_cell BK953.out 2).trans rfl
                          have hfz140_0 := blk_frozen BK953.out 0
                          have hfz140_1 := blk_frozen BK953.out 1
                          have hfz140_2 := blk_frozen BK953.out 2
                          have hnb141 := NB903_886.out
                          have hnc141 := NB886_903.out
                          have hnb142 := NB903_911.out
                          have hnc142 := NB911_903.out
                          have hnb143 := NB903_920.out
                          have hnc143 := NB920_903.out
                          have hcz144_0 : w116.cell? ⟨gb903, 0, none⟩ = some (.slice Ao21 t895.length co21) := (blk_cell BK903.out 0).trans rfl
                          have hcz144_1 : w116.cell? ⟨gb903, 1, none⟩ = some (.int .i64 t898) := (blk_cell BK903.out 1).trans rfl
                          have hcz144_2 : w116.cell? ⟨gb903, 2, none⟩ = some (.slice Ao24 t899.length co24) := (blk_cell BK903.out 2).trans rfl
                          have hfz144_0 := blk_frozen BK903.out 0
                          have hfz144_1 := blk_frozen BK903.out 1
                          have hfz144_2 := blk_frozen BK903.out 2
                          go_wp2_with (first | ((with_reducible refine gate_callee (f := 19) rfl ?_); refine goesL_ (some 81) rfl rfl Try.func19 (by kernel_rfl) rfl #[.agg #[.slice Ao117 t945.length co117, .int .i64 t948, .slice Ao123 t949.length co123], .agg #[.slice Ao21 t895.length co21, .int .i64 t898, .slice Ao24 t899.length co24]] rfl (by (try simp only [List.map_toArray, List.map_cons, List.map_nil]); first | done | rfl | (simp only [List.length_drop, List.length_take]; rfl)) ?_; (with_reducible refine (laws_eqWork.calls kj63 _ _ t945 t948 _ _ t949 _ _ t895 t898 _ _ t899 false _ ?side1 ?side2 ?side3 ?side4 ?side5 ?side6 ?side7 ?side8 A124.out).mono ?_); (case side1 => refine (Kd.R_reads' (e := 67) (base := w.heap.size) (ok := fun k_ => ((((True ∧ some k_ ≠ (.slice Ao21 t895.length co21 : Value).ownBlock) ∧ some k_ ≠ (.slice Ao28 t931.length co28 : Value).ownBlock) ∧ some k_ ≠ (.slice Ao35 t912.length co35 : Value).ownBlock) ∧ some k_ ≠ (.slice Ao113 t938.length co113 : Value).ownBlock)) (n := t945.length) (c := co117) ?_).2.2; exact (by (with_reducible repeat (first | apply Kd.R_alloc | apply Kd.R_drewN | apply Kd.R_drew)); exact (Kd.R_mono (Kd.R_far (p := ⟨gb953, 2, none⟩) (Kd.R_far (p := ⟨gb953, 1, none⟩) (Kd.R_far (p := ⟨gb953, 0, none⟩) (Kd.R_types HO947.out BK953.out (by decide)) (fun _ hk => hk.2) (.slice Ao117 t945.length co117)) (fun _ hk => hk.2) (.int .i64 t948)) (fun _ hk => hk.2) (.slice Ao123 t949.length co123)) (fun _ h_ => h_.1)))); (case side2 => exact (Kd.R_reads' HO947.out).2.1); (case side3 => refine (Kd.R_reads' (e := 3) (base := w.heap.size) (ok := fun k_ => ((((True ∧ some k_ ≠ (.slice Ao24 t899.length co24 : Value).ownBlock) ∧ some k_ ≠ (.slice Ao32 t932.length co32 : Value).ownBlock) ∧ some k_ ≠ (.slice Ao40 t916.length co40 : Value).ownBlock) ∧ some k_ ≠ (.slice Ao114 t942.length co114 : Value).ownBlock)) (n := t949.length) (c := co123) ?_).2.2; exact (by (with_reducible repeat (first | apply Kd.R_alloc | apply Kd.R_drewN | apply Kd.R_drew)); exact (Kd.R_mono (Kd.R_far (p := ⟨gb953, 2, none⟩) (Kd.R_far (p := ⟨gb953, 1, none⟩) (Kd.R_far (p := ⟨gb953, 0, none⟩) (Kd.R_types HO951.out BK953.out (by decide)) (fun _ hk => hk.2) (.slice Ao117 t945.length co117)) (fun _ hk => hk.2) (.int .i64 t948)) (fun _ hk => hk.2) (.slice Ao123 t949.length co123)) (fun _ h_ => h_.1)))); (case side4 => exact (Kd.R_reads' HO951.out).2.1); (case side5 => refine (Kd.R_reads' (e := 67) (base := w.heap.size) (ok := fun k_ => (((some k_ ≠ (.slice Ao28 t931.length co28 : Value).ownBlock ∧ some k_ ≠ (.slice Ao35 t912.length co35 : Value).ownBlock) ∧ some k_ ≠ (.slice Ao113 t938.length co113 : Value).ownBlock) ∧ some k_ ≠ (.slice Ao117 t945.length co117 : Value).ownBlock)) (n := t895.length) (c := co21) ?_).2.2; exact (by (with_reducible repeat (first | apply Kd.R_alloc | apply Kd.R_drewN | apply Kd.R_drew)); exact (Kd.R_mono (Kd.R_far (p := ⟨gb953, 2, none⟩) (Kd.R_far (p := ⟨gb953, 1, none⟩) (Kd.R_far (p := ⟨gb953, 0, none⟩) (Kd.R_types HO_904000.out BK953.out (by decide)) (fun _ hk => hk.2) (.slice Ao117 t945.length co117)) (fun _ hk => hk.2) (.int .i64 t948)) (fun _ hk => hk.2) (.slice Ao123 t949.length co123)) (fun _ h_ => h_.1)))); (case side6 => exact (Kd.R_reads' HO_904000.out).2.1); (case side7 => refine (Kd.R_reads' (e := 3) (base := w.heap.size) (ok := fun k_ => (((some k_ ≠ (.slice Ao32 t932.length co32 : Value).ownBlock ∧ some k_ ≠ (.slice Ao40 t916.length co40 : Value).ownBlock) ∧ some k_ ≠ (.slice Ao114 t942.length co114 : Value).ownBlock) ∧ some k_ ≠ (.slice Ao123 t949.length co123 : Value).ownBlock)) (n := t899.length) (c := co24) ?_).2.2; exact (by (with_reducible repeat (first | apply Kd.R_alloc | apply Kd.R_drewN | apply Kd.R_drew)); exact (Kd.R_mono (Kd.R_far (p := ⟨gb953, 2, none⟩) (Kd.R_far (p := ⟨gb953, 1, none⟩) (Kd.R_far (p := ⟨gb953, 0, none⟩) (Kd.R_types HO_904002.out BK953.out (by decide)) (fun _ hk => hk.2) (.slice Ao117 t945.length co117)) (fun _ hk => hk.2) (.int .i64 t948)) (fun _ hk => hk.2) (.slice Ao123 t949.length co123)) (fun _ h_ => h_.1)))); (case side8 => exact (Kd.R_reads' HO_904002.out).2.1); rintro e w145 ⟨rfl, hb⟩; refine ⟨_, rfl, ?_⟩; have n0_ := Aside0.mk (Kd.R_below (by (with_reducible repeat (first | apply Kd.R_alloc | apply Kd.R_drewN | apply Kd.R_drew)); exact (Kd.R_mono (Kd.R_far (p := ⟨gb953, 2, none⟩) (Kd.R_far (p := ⟨gb953, 1, none⟩) (Kd.R_far (p := ⟨gb953, 0, none⟩) (Kd.R_types HO_904000.out BK953.out (by decide)) (fun _ hk => hk.2) (.slice Ao117 t945.length co117)) (fun _ hk => hk.2) (.int .i64 t948)) (fun _ hk => hk.2) (.slice Ao123 t949.length co123)) (fun _ h_ => h_.1))) hb); have n1_ := Aside0.mk (Kd.R_below (by (with_reducible repeat (first | apply Kd.R_alloc | apply Kd.R_drewN | apply Kd.R_drew)); exact (Kd.R_mono (Kd.R_far (p := ⟨gb953, 2, none⟩) (Kd.R_far (p := ⟨gb953, 1, none⟩) (Kd.R_far (p := ⟨gb953, 0, none⟩) (Kd.R_types HO_904002.out BK953.out (by decide)) (fun _ hk => hk.2) (.slice Ao117 t945.length co117)) (fun _ hk => hk.2) (.int .i64 t948)) (fun _ hk => hk.2) (.slice Ao123 t949.length co123)) (fun _ h_ => h_.1))) hb); have n2_ := Aside0.mk (Kd.R_below (by (with_reducible repeat (first | apply Kd.R_alloc | apply Kd.R_drewN | apply Kd.R_drew)); exact (Kd.R_mono (Kd.R_far (p := ⟨gb953, 2, none⟩) (Kd.R_far (p := ⟨gb953, 1, none⟩) (Kd.R_far (p := ⟨gb953, 0, none⟩) (Kd.R_types HO_912000.out BK953.out (by decide)) (fun _ hk => hk.2) (.slice Ao117 t945.length co117)) (fun _ hk => hk.2) (.int .i64 t948)) (fun _ hk => hk.2) (.slice Ao123 t949.length co123)) (fun _ h_ => h_.1))) hb); have n3_ := Aside0.mk (Kd.R_below (by (with_reducible repeat (first | apply Kd.R_alloc | apply Kd.R_drewN | apply Kd.R_drew)); exact (Kd.R_mono (Kd.R_far (p := ⟨gb953, 2, none⟩) (Kd.R_far (p := ⟨gb953, 1, none⟩) (Kd.R_far (p := ⟨gb953, 0, none⟩) (Kd.R_types HO_912002.out BK953.out (by decide)) (fun _ hk => hk.2) (.slice Ao117 t945.length co117)) (fun _ hk => hk.2) (.int .i64 t948)) (fun _ hk => hk.2) (.slice Ao123 t949.length co123)) (fun _ h_ => h_.1))) hb); have n4_ := Aside0.mk (Kd.R_below (by (with_reducible repeat (first | apply Kd.R_alloc | apply Kd.R_drewN | apply Kd.R_drew)); exact (Kd.R_mono (Kd.R_far (p := ⟨gb953, 2, none⟩) (Kd.R_far (p := ⟨gb953, 1, none⟩) (Kd.R_far (p := ⟨gb953, 0, none⟩) (Kd.R_types HO_921000.out BK953.out (by decide)) (fun _ hk => hk.2) (.slice Ao117 t945.length co117)) (fun _ hk => hk.2) (.int .i64 t948)) (fun _ hk => hk.2) (.slice Ao123 t949.length co123)) (fun _ h_ => h_.1))) hb); have n5_ := Aside0.mk (Kd.R_below (by (with_reducible repeat (first | apply Kd.R_alloc | apply Kd.R_drewN | apply Kd.R_drew)); exact (Kd.R_mono (Kd.R_far (p := ⟨gb953, 2, none⟩) (Kd.R_far (p := ⟨gb953, 1, none⟩) (Kd.R_far (p := ⟨gb953, 0, none⟩) (Kd.R_types HO_921002.out BK953.out (by decide)) (fun _ hk => hk.2) (.slice Ao117 t945.length co117)) (fun _ hk => hk.2) (.int .i64 t948)) (fun _ hk => hk.2) (.slice Ao123 t949.length co123)) (fun _ h_ => h_.1))) hb); have n6_ := Aside0.mk (Kd.R_below (by (with_reducible repeat (first | apply Kd.R_alloc | apply Kd.R_drewN | apply Kd.R_drew)); exact (Kd.R_mono (Kd.R_far (p := ⟨gb953, 2, none⟩) (Kd.R_far (p := ⟨gb953, 1, none⟩) (Kd.R_far (p := ⟨gb953, 0, none⟩) (Kd.R_types HO940.out BK953.out (by decide)) (fun _ hk => hk.2) (.slice Ao117 t945.length co117)) (fun _ hk => hk.2) (.int .i64 t948)) (fun _ hk => hk.2) (.slice Ao123 t949.length co123)) (fun _ h_ => h_.1))) hb); have n7_ := Aside0.mk (Kd.R_below (by (with_reducible repeat (first | apply Kd.R_alloc | apply Kd.R_drewN | apply Kd.R_drew)); exact (Kd.R_mono (Kd.R_far (p := ⟨gb953, 2, none⟩) (Kd.R_far (p := ⟨gb953, 1, none⟩) (Kd.R_far (p := ⟨gb953, 0, none⟩) (Kd.R_types HO944.out BK953.out (by decide)) (fun _ hk => hk.2) (.slice Ao117 t945.length co117)) (fun _ hk => hk.2) (.int .i64 t948)) (fun _ hk => hk.2) (.slice Ao123 t949.length co123)) (fun _ h_ => h_.1))) hb); have n8_ := Aside0.mk (Kd.R_below (by (with_reducible repeat (first | apply Kd.R_alloc | apply Kd.R_drewN | apply Kd.R_drew)); exact (Kd.R_mono (Kd.R_far (p := ⟨gb953, 2, none⟩) (Kd.R_far (p := ⟨gb953, 1, none⟩) (Kd.R_far (p := ⟨gb953, 0, none⟩) (Kd.R_types HO947.out BK953.out (by decide)) (fun _ hk => hk.2) (.slice Ao117 t945.length co117)) (fun _ hk => hk.2) (.int .i64 t948)) (fun _ hk => hk.2) (.slice Ao123 t949.length co123)) (fun _ h_ => h_.1))) hb); have n9_ := Aside0.mk (Kd.R_below (by (with_reducible repeat (first | apply Kd.R_alloc | apply Kd.R_drewN | apply Kd.R_drew)); exact (Kd.R_mono (Kd.R_far (p := ⟨gb953, 2, none⟩) (Kd.R_far (p := ⟨gb953, 1, none⟩) (Kd.R_far (p := ⟨gb953, 0, none⟩) (Kd.R_types HO951.out BK953.out (by decide)) (fun _ hk => hk.2) (.slice Ao117 t945.length co117)) (fun _ hk => hk.2) (.int .i64 t948)) (fun _ hk => hk.2) (.slice Ao123 t949.length co123)) (fun _ h_ => h_.1))) hb); have n10_ := Aside0.mk (blk_below (g := gb886) (o := .cells #[.slice A0_0 l0_0.length c0_0, .int .i64 a0_1, .slice A0_2 l0_2.length c0_2] 25 (0, 0)) (by (with_reducible repeat (first | refine blk_drewN ?_ _ | refine blk_drew ?_ | refine blk_alloc ?_ _)); refine blk_far ?_ NB886_953.out _; (with_reducible repeat (first | refine blk_drewN ?_ _ | refine blk_drew ?_ | refine blk_alloc ?_ _)); refine blk_far ?_ NB886_953.out _; (with_reducible repeat (first | refine blk_drewN ?_ _ | refine blk_drew ?_ | refine blk_alloc ?_ _)); refine blk_far ?_ NB886_953.out _; (with_reducible repeat (first | refine blk_drewN ?_ _ | refine blk_drew ?_ | refine blk_alloc ?_ _)); exact BK886.out) hb); have n11_ := Aside0.mk (blk_below (g := gb903) (o := .cells #[.slice Ao21 t895.length co21, .int .i64 t898, .slice Ao24 t899.length co24] 30 (0, 0)) (by (with_reducible repeat (first | refine blk_drewN ?_ _ | refine blk_drew ?_ | refine blk_alloc ?_ _)); refine blk_far ?_ NB903_953.out _; (with_reducible repeat (first | refine blk_drewN ?_ _ | refine blk_drew ?_ | refine blk_alloc ?_ _)); refine blk_far ?_ NB903_953.out _; (with_reducible repeat (first | refine blk_drewN ?_ _ | refine blk_drew ?_ | refine blk_alloc ?_ _)); refine blk_far ?_ NB903_953.out _; (with_reducible repeat (first | refine blk_drewN ?_ _ | refine blk_drew ?_ | refine blk_alloc ?_ _)); exact BK903.out) hb); have n12_ := Aside0.mk (blk_below (g := gb911) (o := .cells #[.slice Ao28 t931.length co28, .int .i64 t907, .slice Ao32 t932.length co32] 30 (0, 0)) (by (with_reducible repeat (first | refine blk_drewN ?_ _ | refine blk_drew ?_ | refine blk_alloc ?_ _)); refine blk_far ?_ NB911_953.out _; (with_reducible repeat (first | refine blk_drewN ?_ _ | refine blk_drew ?_ | refine blk_alloc ?_ _)); refine blk_far ?_ NB911_953.out _; (with_reducible repeat (first | refine blk_drewN ?_ _ | refine blk_drew ?_ | refine blk_alloc ?_ _)); refine blk_far ?_ NB911_953.out _; (with_reducible repeat (first | refine blk_drewN ?_ _ | refine blk_drew ?_ | refine blk_alloc ?_ _)); exact BK911.out) hb); have n13_ := Aside0.mk (blk_below (g := gb920) (o := .cells #[.slice Ao35 t912.length co35, .int .i64 t915, .slice Ao40 t916.length co40] 30 (0, 0)) (by (with_reducible repeat (first | refine blk_drewN ?_ _ | refine blk_drew ?_ | refine blk_alloc ?_ _)); refine blk_far ?_ NB920_953.out _; (with_reducible repeat (first | refine blk_drewN ?_ _ | refine blk_drew ?_ | refine blk_alloc ?_ _)); refine blk_far ?_ NB920_953.out _; (with_reducible repeat (first | refine blk_drewN ?_ _ | refine blk_drew ?_ | refine blk_alloc ?_ _)); refine blk_far ?_ NB920_953.out _; (with_reducible repeat (first | refine blk_drewN ?_ _ | refine blk_drew ?_ | refine blk_alloc ?_ _)); exact BK920.out) hb); have n14_ := Aside0.mk (blk_below (g := gb953) (o := .cells #[.slice Ao117 t945.length co117, .int .i64 t948, .slice Ao123 t949.length co123] 30 (0, 0)) (by (with_reducible repeat (first | refine blk_drewN ?_ _ | refine blk_drew ?_ | refine blk_alloc ?_ _)); refine blk_put (cs := #[.slice Ao117 t945.length co117, .int .i64 t948, .slice none 0 0]) ?_ 2 _ rfl; (with_reducible repeat (first | refine blk_drewN ?_ _ | refine blk_drew ?_ | refine blk_alloc ?_ _)); refine blk_put (cs := #[.slice Ao117 t945.length co117, .int .i64 0, .slice none 0 0]) ?_ 1 _ rfl; (with_reducible repeat (first | refine blk_drewN ?_ _ | refine blk_drew ?_ | refine blk_alloc ?_ _)); refine blk_put (cs := #[.slice none 0 0, .int .i64 0, .slice none 0 0]) ?_ 0 _ rfl; (with_reducible repeat (first | refine blk_drewN ?_ _ | refine blk_drew ?_ | refine blk_alloc ?_ _)); exact BK953.out) hb); have n15_ := Aside0.mk (below_step (oB HB) hb); clear HO_904000; clear HO_904002; clear HO_912000; clear HO_912002; clear HO_921000; clear HO_921002; clear HO940; clear HO944; clear HO947; clear HO951; clear BK886; clear BK903; clear BK911; clear BK920; clear BK953; clear HB; have HO_904000 := n0_; have HO_904002 := n1_; have HO_912000 := n2_; have HO_912002 := n3_; have HO_921000 := n4_; have HO_921002 := n5_; have HO940 := n6_; have HO944 := n7_; have HO947 := n8_; have HO951 := n9_; have BK886 := n10_; have BK903 := n11_; have BK911 := n12_; have BK920 := n13_; have BK953 := n14_; have HB := n15_; clear n0_ n1_ n2_ n3_ n4_ n5_ n6_ n7_ n8_ n9_ n10_ n11_ n12_ n13_ n14_ n15_; (try clear hb); (try clear hb2); (try clear hk); (try clear hi)))
                          go_meet
                          case rel => exact ⟨_, (true), (by first | rfl | (simp; done) | (simp [*]; done)), H', ⟨by have := HJ10.out; have := HJ63.out; first | omega | exact Nat.le_refl _⟩, ⟨by (try simp only [hl912000_63]); (try simp only [hl912002_63]); (with_reducible repeat (first | apply Kd.R_alloc | apply Kd.R_drewN | apply Kd.R_drew)); exact Kd.R_mono HO_904000.out (fun _ hk => ⟨hk.1.1.1, ⟨hk.1.1.2, hk.2⟩⟩)⟩, ⟨by (try simp only [hl912000_63]); (try simp only [hl912002_63]); (with_reducible repeat (first | apply Kd.R_alloc | apply Kd.R_drewN | apply Kd.R_drew)); exact Kd.R_mono HO_904002.out (fun _ hk => ⟨hk.1.1.1, ⟨hk.1.1.2, hk.2⟩⟩)⟩, ⟨by (try simp only [hl912000_63]); (try simp only [hl912002_63]); (with_reducible repeat (first | apply Kd.R_alloc | apply Kd.R_drewN | apply Kd.R_drew)); exact Kd.R_mono HO_912000.out (fun _ hk => ⟨hk.1.1.1, ⟨hk.1.1.2, hk.2⟩⟩)⟩, ⟨by (try simp only [hl912000_63]); (try simp only [hl912002_63]); (with_reducible repeat (first | apply Kd.R_alloc | apply Kd.R_drewN | apply Kd.R_drew)); exact Kd.R_mono HO_912002.out (fun _ hk => ⟨hk.1.1.1, ⟨hk.1.1.2, hk.2⟩⟩)⟩, ⟨by (try simp only [hl912000_63]); (try simp only [hl912002_63]); (with_reducible repeat (first | apply Kd.R_alloc | apply Kd.R_drewN | apply Kd.R_drew)); exact Kd.R_mono HO_921000.out (fun _ hk => ⟨hk.1.1.1, ⟨hk.1.1.2, hk.2⟩⟩)⟩, ⟨by (try simp only [hl912000_63]); (try simp only [hl912002_63]); (with_reducible repeat (first | apply Kd.R_alloc | apply Kd.R_drewN | apply Kd.R_drew)); exact Kd.R_mono HO_921002.out (fun _ hk => ⟨hk.1.1.1, ⟨hk.1.1.2, hk.2⟩⟩)⟩, ⟨by (try simp only [hl912000_63]); (try simp only [hl912002_63]); (with_reducible repeat (first | apply Kd.R_alloc | apply Kd.R_drewN | apply Kd.R_drew)); exact Kd.R_mono HO947.out (fun _ hk => ⟨hk.1.1.1.2, ⟨hk.1.1.2, hk.1.2⟩⟩)⟩, ⟨by (try simp only [hl912000_63]); (try simp only [hl912002_63]); (with_reducible repeat (first | apply Kd.R_alloc | apply Kd.R_drewN | apply Kd.R_drew)); exact Kd.R_mono HO951.out (fun _ hk => ⟨hk.1.1.1.2, ⟨hk.1.1.2, hk.1.2⟩⟩)⟩, ⟨by (try simp only [hl912000_63]); (try simp only [hl912002_63]); (with_reducible repeat (first | refine blk_drewN ?_ _ | refine blk_drew ?_ | refine blk_alloc ?_ _)); exact BK886.out⟩, ⟨by (try simp only [hl912000_63]); (try simp only [hl912002_63]); (with_reducible repeat (first | refine blk_drewN ?_ _ | refine blk_drew ?_ | refine blk_alloc ?_ _)); exact BK903.out⟩, ⟨by (try simp only [hl912000_63]); (try simp only [hl912002_63]); (with_reducible repeat (first | refine blk_drewN ?_ _ | refine blk_drew ?_ | refine blk_alloc ?_ _)); exact BK911.out⟩, ⟨by (try simp only [hl912000_63]); (try simp only [hl912002_63]); (with_reducible repeat (first | refine blk_drewN ?_ _ | refine blk_drew ?_ | refine blk_alloc ?_ _)); exact BK920.out⟩, ⟨by (try simp only [hl912000_63]); (try simp only [hl912002_63]); (with_reducible repeat (first | refine blk_drewN ?_ _ | refine blk_drew ?_ | refine blk_alloc ?_ _)); exact BK953.out⟩, ⟨oB HB⟩⟩
                      case rest =>
                        clear HC101
                        try clear c1
                        try clear c2
                        try clear p2
                        try clear c3
                        try clear c3b0
                        try clear c4
                        try clear c5
                        try clear c6
                        try clear c7
                        try clear c8
                        try clear c9
                        try clear c10
                        try clear c11
                        try clear c12
                        try clear c13
                        try clear c14
                        try clear c15
                        try clear c17
                        try clear c19
                        try clear c22
                        try clear c28
                        try clear c29
                        try clear c30
                        try clear c36
                        try clear c37
                        try clear c38
                        try clear c42
                        try clear c43
                        try clear c44
                        try clear c45
                        try clear c47
                        try clear c48
                        try clear c51
                        try clear c52
                        try clear c53
                        try clear c55
                        try clear c56
                        try clear c59
                        try clear c62
                        try clear c70
                        try clear c71
                        try clear c72
                        try clear c75
                        try clear c75b0
                        try clear c77
                        try clear c78
                        try clear c79
                        try clear c80
                        try clear c82
                        try clear c83
                        try clear c86
                        try clear c87
                        try clear c88
                        try clear c90
                        try clear c91
                        try clear c94
                        try clear c97
                        try clear c97b0
                        try clear c98
                        try clear c98b0
                        try clear c98b1
                        try clear c102
                        try clear c103
                        try clear c104
                        try clear c109
                        try clear c110
                        try clear c118
                        try clear c119
                        try clear c120
                        try clear c121
                        try clear c125
                        try clear c126
                        try clear c127
                        try clear c128
                        try clear c129
                        try clear c131
                        try clear c132
                        try clear c133
                        try clear c136
                        try clear c137
                        try clear c138
                        try clear c139
                        try clear c141
                        try clear c142
                        try clear c143
                        try clear hcz105_0
                        try clear hcz105_1
                        try clear hcz105_2
                        try clear hcz107_0
                        try clear hcz107_1
                        try clear hcz107_2
                        try clear hcz111_0
                        try clear hcz111_1
                        try clear hcz111_2
                        try clear hcz122_0
                        try clear hcz122_1
                        try clear hcz122_2
                        try clear hcz130_0
                        try clear hcz130_1
                        try clear hcz130_2
                        try clear hcz134_0
                        try clear hcz134_1
                        try clear hcz134_2
                        try clear hcz13_0
                        try clear hcz13_1
                        try clear hcz13_2
                        try clear hcz140_0
                        try clear hcz140_1
                        try clear hcz140_2
                        try clear hcz144_0
                        try clear hcz144_1
                        try clear hcz144_2
                        try clear hcz15_0
                        try clear hcz15_1
                        try clear hcz15_2
                        try clear hcz23_0
                        try clear hcz23_1
                        try clear hcz23_2
                        try clear hcz25_0
                        try clear hcz25_1
                        try clear hcz25_2
                        try clear hcz31_0
                        try clear hcz31_1
                        try clear hcz31_2
                        try clear hcz39_0
                        try clear hcz39_1
                        try clear hcz39_2
                        try clear hcz46_0
                        try clear hcz46_1
                        try clear hcz46_2
                        try clear hcz49_0
                        try clear hcz49_1
                        try clear hcz49_2
                        try clear hcz54_0
                        try clear hcz54_1
                        try clear hcz54_2
                        try clear hcz57_0
                        try clear hcz57_1
                        try clear hcz57_2
                        try clear hcz5_0
                        try clear hcz5_1
                        try clear hcz5_2
                        try clear hcz73_0
                        try clear hcz73_1
                        try clear hcz73_2
                        try clear hcz81_0
                        try clear hcz81_1
                        try clear hcz81_2
                        try clear hcz84_0
                        try clear hcz84_1
                        try clear hcz84_2
                        try clear hcz89_0
                        try clear hcz89_1
                        try clear hcz89_2
                        try clear hcz92_0
                        try clear hcz92_1
                        try clear hcz92_2
                        try clear hfz105_0
                        try clear hfz105_1
                        try clear hfz105_2
                        try clear hfz107_0
                        try clear hfz107_1
                        try clear hfz107_2
                        try clear hfz111_0
                        try clear hfz111_1
                        try clear hfz111_2
                        try clear hfz122_0
                        try clear hfz122_1
                        try clear hfz122_2
                        try clear hfz130_0
                        try clear hfz130_1
                        try clear hfz130_2
                        try clear hfz134_0
                        try clear hfz134_1
                        try clear hfz134_2
                        try clear hfz13_0
                        try clear hfz13_1
                        try clear hfz13_2
                        try clear hfz140_0
                        try clear hfz140_1
                        try clear hfz140_2
                        try clear hfz144_0
                        try clear hfz144_1
                        try clear hfz144_2
                        try clear hfz15_0
                        try clear hfz15_1
                        try clear hfz15_2
                        try clear hfz23_0
                        try clear hfz23_1
                        try clear hfz23_2
                        try clear hfz25_0
                        try clear hfz25_1
                        try clear hfz25_2
                        try clear hfz31_0
                        try clear hfz31_1
                        try clear hfz31_2
                        try clear hfz39_0
                        try clear hfz39_1
                        try clear hfz39_2
                        try clear hfz46_0
                        try clear hfz46_1
                        try clear hfz46_2
                        try clear hfz49_0
                        try clear hfz49_1
                        try clear hfz49_2
                        try clear hfz54_0
                        try clear hfz54_1
                        try clear hfz54_2
                        try clear hfz57_0
                        try clear hfz57_1
                        try clear hfz57_2
                        try clear hfz5_0
                        try clear hfz5_1
                        try clear hfz5_2
                        try clear hfz73_0
                        try clear hfz73_1
                        try clear hfz73_2
                        try clear hfz81_0
                        try clear hfz81_1
                        try clear hfz81_2
                        try clear hfz84_0
                        try clear hfz84_1
                        try clear hfz84_2
                        try clear hfz89_0
                        try clear hfz89_1
                        try clear hfz89_2
                        try clear hfz92_0
                        try clear hfz92_1
                        try clear hfz92_2
                        try clear p2
                        obtain ⟨kq, x87_100, rfl, HA, HJ100, HO_904000, HO_904002, HO_912000, HO_912002, HO_921000, HO_921002, HO_954000, HO_954002, BK886, BK903, BK911, BK920, BK953, HB⟩ := hcut
                        have hl921000_100 := (Kd.R_reads' HO_921000.out).1
                        rw [hl921000_100] at HO_921000
                        (try simp only [hl921000_100])
                        (try simp only [hl921000_100] at BK886)
                        (try simp only [hl921000_100] at BK903)
                        (try simp only [hl921000_100] at BK911)
                        (try simp only [hl921000_100] at BK920)
                        (try simp only [hl921000_100] at BK953)
                        (try simp only [hl921000_100] at HO_904000)
                        (try simp only [hl921000_100] at HO_904002)
                        (try simp only [hl921000_100] at HO_912000)
                        (try simp only [hl921000_100] at HO_912002)
                        (try simp only [hl921000_100] at HO_921002)
                        (try simp only [hl921000_100] at HO_954000)
                        (try simp only [hl921000_100] at HO_954002)
                        have hl921002_100 := (Kd.R_reads' HO_921002.out).1
                        rw [hl921002_100] at HO_921002
                        (try simp only [hl921002_100])
                        (try simp only [hl921002_100] at BK886)
                        (try simp only [hl921002_100] at BK903)
                        (try simp only [hl921002_100] at BK911)
                        (try simp only [hl921002_100] at BK920)
                        (try simp only [hl921002_100] at BK953)
                        (try simp only [hl921002_100] at HO_904000)
                        (try simp only [hl921002_100] at HO_904002)
                        (try simp only [hl921002_100] at HO_912000)
                        (try simp only [hl921002_100] at HO_912002)
                        (try simp only [hl921002_100] at HO_921000)
                        (try simp only [hl921002_100] at HO_954000)
                        (try simp only [hl921002_100] at HO_954002)
                        cases kq with
                        | zero => exact absurd HA.out (by simp [laws_FnExactMendStep.j2])
                        | succ kj100 =>
                          have H := HA.out
                          clear HA
                          simp only [laws_FnExactMendStep.j2] at H
                          by_cases c146 : x87_100 = true
                          · subst c146
                            rw [if_pos rfl] at H
                            exact absurd ((Option.some.inj H).trans hrt_.out) (by decide)
                          · replace c146 := Bool.eq_false_iff.mpr c146
                            subst c146
                            rw [if_neg (show ¬ (false = true) by decide)] at H
                            replace H := Option.bind_eq_some_iff.mp H
                            obtain ⟨t955, A1470, H⟩ := H
                            (try dsimp only at H)
                            have A147 := Aside0.mk A1470
                            clear A1470
                            by_cases c148 : t955 < 0
                            · rw [if_pos c148] at H
                              have c148b0 : decide (t955 < 0) = true := decide_eq_true c148
                              clear c148
                              exact absurd ((Option.some.inj H).trans hrt_.out) (by decide)
                            · rw [if_neg c148] at H
                              have c148b0 : decide (t955 < 0) = false := decide_eq_false c148
                              clear c148
                              by_cases c149 : t955 = t934
                              · rw [if_pos c149] at H
                                have c149b0 : (t955 == t934) = true := beq_iff_eq.mpr c149
                                have c149b1 : (t955 != t934) = false := bne_eq_false_iff_eq.mpr c149
                                clear c149
                                obtain rfl := Option.some.inj H
                                have hnb150 := NB920_886.out
                                have hnc150 := NB886_920.out
                                have hnb151 := NB920_903.out
                                have hnc151 := NB903_920.out
                                have hnb152 := NB920_911.out
                                have hnc152 := NB911_920.out
                                have hnb153 := NB920_953.out
                                have hnc153 := NB953_920.out
                                have hcz154_0 : wc.cell? ⟨gb920, 0, none⟩ = some (.slice Ao35 t935.length co35) := (blk_cell BK920.out 0).trans rfl
                                have hcz154_1 : wc.cell? ⟨gb920, 1, none⟩ = some (.int .i64 t915) := (blk_cell BK920.out 1).trans rfl
                                have hcz154_2 : wc.cell? ⟨gb920, 2, none⟩ = some (.slice Ao40 t936.length co40) := (blk_cell BK920.out 2).trans rfl
                                have hfz154_0 := blk_frozen BK920.out 0
                                have hfz154_1 := blk_frozen BK920.out 1
                                have hfz154_2 := blk_frozen BK920.out 2
                                go_wp2_with (first | ((with_reducible refine gate_callee (f := 29) rfl ?_); refine goesL_ (some 90) rfl rfl Try.func29 (by kernel_rfl) rfl #[.agg #[.slice Ao35 t935.length co35, .int .i64 t915, .slice Ao40 t936.length co40], .int .i64 1] rfl (by (try simp only [List.map_toArray, List.map_cons, List.map_nil]); first | done | rfl | (simp only [List.length_drop, List.length_take]; rfl)) ?_; (with_reducible refine (laws_heldWork.calls kj100 _ _ t935 t915 _ _ t936 1 t955 _ ?side1 ?side2 ?side3 ?side4 A147.out).mono ?_); (case side1 => repeat (first | exact (Kd.R_reads' HO_921000.out).2.2 | (with_reducible refine Kd.C_alloc ?_ _) | (with_reducible refine Kd.C_drewN ?_ _) | (with_reducible refine Kd.C_drew ?_))); (case side2 => exact (Kd.R_reads' HO_921000.out).2.1); (case side3 => repeat (first | exact (Kd.R_reads' HO_921002.out).2.2 | (with_reducible refine Kd.C_alloc ?_ _) | (with_reducible refine Kd.C_drewN ?_ _) | (with_reducible refine Kd.C_drew ?_))); (case side4 => exact (Kd.R_reads' HO_921002.out).2.1); rintro e w155 ⟨rfl, hb⟩; refine ⟨_, rfl, ?_⟩; have n0_ := Aside0.mk (Kd.R_below (oR HO_904000) hb); have n1_ := Aside0.mk (Kd.R_below (oR HO_904002) hb); have n2_ := Aside0.mk (Kd.R_below (oR HO_912000) hb); have n3_ := Aside0.mk (Kd.R_below (oR HO_912002) hb); have n4_ := Aside0.mk (Kd.R_below (oR HO_921000) hb); have n5_ := Aside0.mk (Kd.R_below (oR HO_921002) hb); have n6_ := Aside0.mk (Kd.R_below (oR HO_954000) hb); have n7_ := Aside0.mk (Kd.R_below (oR HO_954002) hb); have n8_ := Aside0.mk (blk_below (g := gb886) (o := .cells #[.slice A0_0 l0_0.length c0_0, .int .i64 a0_1, .slice A0_2 l0_2.length c0_2] 25 (0, 0)) (oK BK886) hb); have n9_ := Aside0.mk (blk_below (g := gb903) (o := .cells #[.slice Ao21 t895.length co21, .int .i64 t898, .slice Ao24 t899.length co24] 30 (0, 0)) (oK BK903) hb); have n10_ := Aside0.mk (blk_below (g := gb911) (o := .cells #[.slice Ao28 t931.length co28, .int .i64 t907, .slice Ao32 t932.length co32] 30 (0, 0)) (oK BK911) hb); have n11_ := Aside0.mk (blk_below (g := gb920) (o := .cells #[.slice Ao35 t935.length co35, .int .i64 t915, .slice Ao40 t936.length co40] 30 (0, 0)) (oK BK920) hb); have n12_ := Aside0.mk (blk_below (g := gb953) (o := .cells #[.slice Ao117 t945.length co117, .int .i64 t948, .slice Ao123 t949.length co123] 30 (0, 0)) (oK BK953) hb); have n13_ := Aside0.mk (below_step (oB HB) hb); clear HO_904000; clear HO_904002; clear HO_912000; clear HO_912002; clear HO_921000; clear HO_921002; clear HO_954000; clear HO_954002; clear BK886; clear BK903; clear BK911; clear BK920; clear BK953; clear HB; have HO_904000 := n0_; have HO_904002 := n1_; have HO_912000 := n2_; have HO_912002 := n3_; have HO_921000 := n4_; have HO_921002 := n5_; have HO_954000 := n6_; have HO_954002 := n7_; have BK886 := n8_; have BK903 := n9_; have BK911 := n10_; have BK920 := n11_; have BK953 := n12_; have HB := n13_; clear n0_ n1_ n2_ n3_ n4_ n5_ n6_ n7_ n8_ n9_ n10_ n11_ n12_ n13_; (try clear hb); (try clear hb2); (try clear hk); (try clear hi)))
                                go_ret
                                exact ⟨by first | rfl | (simp [errW_none, errW_some] <;> rfl) | (simp [*, errW_none, errW_some] <;> rfl), oB HB⟩
                              · rw [if_neg c149] at H
                                have c149b0 : (t955 == t934) = false := beq_eq_false_iff_ne.mpr c149
                                have c149b1 : (t955 != t934) = true := bne_iff_ne.mpr c149
                                exact absurd ((Option.some.inj H).trans hrt_.out) (by decide)
                    · rw [if_neg c98] at H
                      have c98b0 : (t937 == t934) = false := beq_eq_false_iff_ne.mpr c98
                      have c98b1 : (t937 != t934) = true := bne_iff_ne.mpr c98
                      exact absurd ((Option.some.inj H).trans hrt_.out) (by decide)
          · replace c62 := Bool.eq_false_iff.mpr c62
            subst c62
            rw [if_neg (show ¬ (false = true) by decide)] at H
            exact absurd ((Option.some.inj H).trans hrt_.out) (by decide)
end Go.Proofs.Ytlhlmjklajdejaa.P

namespace Go.Proofs.Ytlhlmjklajdejaa.Q
set_option linter.unusedVariables false
set_option linter.unusedSimpArgs false
open Go.RowKit Go.Proofs.YtlhlmjklajdejaaW.PrintWords
theorem evp {α : Type} {c : Prop} [Decidable c] (h : c) {f g : Nat → Option α} {r : α} (k : Ev f r) : Ev (fun n => if c then f n else g n) r := by
  simp only [if_pos h]; exact k
theorem evn {α : Type} {c : Prop} [Decidable c] (h : ¬ c) {f g : Nat → Option α} {r : α} (k : Ev g r) : Ev (fun n => if c then f n else g n) r := by
  simp only [if_neg h]; exact k
theorem evi {α : Type} {c : Prop} [Decidable c] {f g : Nat → Option α} {r : α} (k1 : c → Ev f r) (k2 : ¬ c → Ev g r) : Ev (fun n => if c then f n else g n) r := by
  by_cases h : c
  · exact evp h (k1 h)
  · exact evn h (k2 h)
theorem evb {α β : Type} {x : Option α} {f : Nat → α → Option β} {a : α} {r : β} (h : x = some a) (k : Ev (fun n => f n a) r) : Ev (fun n => x.bind (f n)) r := by
  simp only [h, Option.bind_some]; exact k
theorem evs {α : Type} {a b : α} (h : a = b) : Ev (fun _ => some a) b := h ▸ Ev.now a
theorem evr {α : Type} {g : Nat → Option α} {a b : α} (h : Ev g a) (e : a = b) : Ev g b := e ▸ h
theorem rpos {α : Type} {c : Prop} [Decidable c] (h : c) {f : Nat → Option α} {r s : α} (k : Ev f r) : Ev f (if c then r else s) := by rw [if_pos h]; exact k
theorem rneg {α : Type} {c : Prop} [Decidable c] (h : ¬ c) {f : Nat → Option α} {r s : α} (k : Ev f s) : Ev f (if c then r else s) := by rw [if_neg h]; exact k
theorem btrue {c : Prop} [Decidable c] (h : c) : decide c = true := decide_eq_true h
theorem bfalse {c : Prop} [Decidable c] (h : ¬ c) : ¬ decide c = true := by simpa using h
theorem down {P : Nat → Prop} {n : Nat} (he : P n) (hs : ∀ i, i < n → P (i + 1) → P i) (i : Nat) (h : i ≤ n) : P i := by
  obtain ⟨d, rfl⟩ : ∃ d, n = i + d := ⟨n - i, by omega⟩
  clear h
  induction d generalizing i with
  | zero => exact he
  | succ d ih =>
    refine hs i (by omega) (ih (i + 1) ?_ ?_)
    · rw [show i + 1 + d = i + (d + 1) by omega]; exact he
    · intro j hj; exact hs j (by omega)
theorem w64 {n : Int} (h1 : -9223372036854775808 ≤ n) (h2 : n ≤ 9223372036854775807) : wrap64 n = n := by unfold wrap64; omega
theorem wf64 {n : Int} (h : (Lit.int .i64 n).wf = true) : -9223372036854775808 ≤ n ∧ n ≤ 9223372036854775807 := by
  simp [Lit.wf, IntKind.min, IntKind.max, IntKind.signed, IntKind.bits] at h
  omega
theorem rd_nat (l : List Int) (i : Nat) (h : i < l.length) : rd l (i : Int) = l[i] := by
  unfold rd; simp [List.getD_eq_getElem?_getD, h]
theorem drop_cons {α : Type} (l : List α) (i : Nat) (h : i < l.length) : l.drop i = l[i] :: l.drop (i + 1) := List.drop_eq_getElem_cons h
theorem drop_end {α : Type} (l : List α) : l.drop l.length = [] := List.drop_eq_nil_of_le (Nat.le_refl _)
theorem set_take {α : Type} (l : List α) (i : Nat) (v : α) (h : i < l.length) : (l.set i v).take (i + 1) = l.take i ++ [v] := by
  rw [List.take_set, List.take_succ_eq_append_getElem h, List.set_append_right _ _ (by simp; omega)]
  simp [Nat.min_eq_left (Nat.le_of_lt h)]
theorem set_drop {α : Type} (l : List α) (i : Nat) (v : α) (h : i < l.length) : (l.set i v).drop (i + 1) = l.drop (i + 1) := by
  rw [List.drop_set, if_pos (by omega)]
end Go.Proofs.Ytlhlmjklajdejaa.Q

namespace Go.Proofs.Ytlhlmjklajdejaa.Q
set_option linter.unusedVariables false
set_option linter.unusedSimpArgs false
open Go.RowKit Go.Proofs.Ytlhlmjklajdejaa.P Go.Proofs.YtlhlmjklajdejaaW.PrintWords
theorem within_eq (a b c : Int) : impl_within.f a b c = some (decide (b ≤ a ∧ a ≤ c)) := by
  unfold impl_within.f; by_cases h : b ≤ a <;> simp [h]
theorem l01In_eq (a b c : Int) : spec_l01In.f a b c = some (decide (b ≤ a ∧ a ≤ c)) := by
  unfold spec_l01In.f; by_cases h : a ≥ b
  · rw [if_pos h]; simp [show b ≤ a from h]
  · rw [if_neg h]; simp [show ¬ b ≤ a from h]
end Go.Proofs.Ytlhlmjklajdejaa.Q

namespace Go.Proofs.Ytlhlmjklajdejaa.Q
set_option linter.unusedVariables false
set_option linter.unusedSimpArgs false
open Go.RowKit Go.Proofs.Ytlhlmjklajdejaa.P Go.Proofs.YtlhlmjklajdejaaW.PrintWords Go.Proofs.YtlhlmjklajdejaaW.PrintMore
def fine (n : Int) : Bool := decide (1 ≤ n ∧ n ≤ 10000000)
theorem pitch_eq (n : Int) : spec_l18Pitch.f n = some (fine n) := by unfold spec_l18Pitch.f; rw [l01In_eq]; rfl
theorem isFine_eq (n : Int) : impl_isFine.f n = some (fine n) := by unfold impl_isFine.f; rw [within_eq]; rfl
def orZero (n : Int) : Int := if fine n = true then n else 0
def tunedPitch (a k b : Int) : Int :=
  if fine a = true then
    if 0 ≤ b ∧ b ≤ 100000 then
      if k = 1 then orZero (wrap64 (Int.tdiv (mx (wrap64 ((wrap64 (3 * a)) - b)) 0) 2))
      else if k = 2 then orZero (wrap64 (Int.tdiv (mx (wrap64 ((wrap64 (3 * a)) - b)) 0) 4))
      else if k = 3 then if b = 0 then orZero (wrap64 (2 * a)) else 0
      else if k = 4 then if b = 0 then orZero (wrap64 (Int.tdiv a 2)) else 0
      else 0
    else 0
  else 0
theorem mx_comm (a b : Int) : mx a b = mx b a := by unfold mx; split <;> split <;> omega
theorem fine_zero : fine 0 = false := by decide
theorem evz {n : Int} {x : Option Bool} (h : x = some (fine n)) : Ev (fun _ => x.bind fun t => if t = true then some n else some 0) (orZero n) := by
  subst h; simp only [Option.bind_some]; unfold orZero; by_cases h : fine n = true
  · rw [if_pos h, if_pos h]; exact Ev.now _
  · rw [if_neg h, if_neg h]; exact Ev.now _
theorem tuned_impl (a k b : Int) : Ev (fun n => impl_TunedPitch.f n a k b) (tunedPitch a k b) := by
  have jt : Ev (fun n => impl_TunedPitch.j0 n a k b true) 0 := Ev.step (fun n => by rw [impl_TunedPitch.j0]) (evp rfl (Ev.now _))
  unfold impl_TunedPitch.f
  refine evb (isFine_eq a) ?_
  unfold tunedPitch
  by_cases ha : fine a = true
  rotate_left
  · exact rneg ha <| evn ha jt
  refine rpos ha <| evp ha (evb (within_eq _ _ _) ?_)
  by_cases hb : 0 ≤ b ∧ b ≤ 100000
  rotate_left
  · exact rneg hb <| evn (by simpa using hb) jt
  refine rpos hb <| evp (by simpa using hb) ?_
  have jf : (k = 3 ∨ k = 4 → b = 0) → Ev (fun n => impl_TunedPitch.j0 n a k b false) (if k = 1 then orZero (wrap64 (Int.tdiv (mx (wrap64 ((wrap64 (3 * a)) - b)) 0) 2))
      else if k = 2 then orZero (wrap64 (Int.tdiv (mx (wrap64 ((wrap64 (3 * a)) - b)) 0) 4))
      else if k = 3 then if b = 0 then orZero (wrap64 (2 * a)) else 0
      else if k = 4 then if b = 0 then orZero (wrap64 (Int.tdiv a 2)) else 0
      else 0) := by
    intro h0
    refine Ev.step (fun n => by rw [impl_TunedPitch.j0]) (evn (by decide) ?_)
    by_cases h1 : k = 1
    · exact rpos h1 <| evp h1 (evz (isFine_eq _))
    refine rneg h1 <| evn h1 ?_
    by_cases h2 : k = 2
    · exact rpos h2 <| evp h2 (evz (isFine_eq _))
    refine rneg h2 <| evn h2 ?_
    by_cases h3 : k = 3
    · exact rpos h3 <| rpos (h0 (.inl h3)) <| evp h3 (evz (isFine_eq _))
    refine rneg h3 <| evn h3 ?_
    by_cases h4 : k = 4
    · exact rpos h4 <| rpos (h0 (.inr h4)) <| evp h4 (evz (isFine_eq _))
    refine rneg h4 <| evn h4 ?_
    refine evb (isFine_eq _) (evn (by decide) (Ev.now _))
  by_cases b0 : b = 0
  · exact evp b0 (jf fun _ => b0)
  refine evn b0 ?_
  by_cases h3 : k = 3
  · refine evp h3 ?_
    exact rneg (by omega) <| rneg (by omega) <| rpos h3 <| rneg b0 jt
  refine evn h3 ?_
  by_cases h4 : k = 4
  · rw [show (k == 4) = true by simp [h4]]; exact rneg (by omega) <| rneg (by omega) <| rneg (by omega) <| rpos h4 <| rneg b0 jt
  · rw [show (k == 4) = false by simp [h4]]; exact jf (by omega)
theorem tuned_spec (a k b : Int) : Ev (fun n => spec_TunedPitch.f n a k b) (tunedPitch a k b) := by
  have jt : Ev (fun n => spec_TunedPitch.j0 n a k b true) 0 := Ev.step (fun n => by rw [spec_TunedPitch.j0]) (evp rfl (Ev.now _))
  unfold spec_TunedPitch.f
  refine evb (pitch_eq a) ?_
  unfold tunedPitch
  by_cases ha : fine a = true
  rotate_left
  · exact rneg ha <| evn ha jt
  refine rpos ha <| evp ha (evb (l01In_eq _ _ _) ?_)
  by_cases hb : 0 ≤ b ∧ b ≤ 100000
  rotate_left
  · rw [show (!decide (0 ≤ b ∧ b ≤ 100000)) = true by rw [decide_eq_false hb]; rfl]; exact rneg hb jt
  rw [show (!decide (0 ≤ b ∧ b ≤ 100000)) = false by rw [decide_eq_true hb]; rfl]
  refine rpos hb ?_
  have j2t : Ev (fun n => spec_TunedPitch.j2 n a 0 true) (orZero (wrap64 (Int.tdiv a 2))) := Ev.step (fun n => by rw [spec_TunedPitch.j2]) (evp rfl (evz (pitch_eq _)))
  have j2f : Ev (fun n => spec_TunedPitch.j2 n a 0 false) 0 := Ev.step (fun n => by rw [spec_TunedPitch.j2]) (evn (by decide) (evz (pitch_eq 0)))
  refine Ev.step (fun n => by rw [spec_TunedPitch.j0]) (evn (by decide) ?_)
  by_cases h1 : k = 1
  · rw [mx_comm 0]; exact rpos h1 <| evp h1 (evz (pitch_eq _))
  refine rneg h1 <| evn h1 ?_
  by_cases h2 : k = 2
  · rw [mx_comm 0]; exact rpos h2 <| evp h2 (evz (pitch_eq _))
  refine rneg h2 <| evn h2 ?_
  have j1f : Ev (fun n => spec_TunedPitch.j1 n a k b 0 false) (if k = 4 then if b = 0 then orZero (wrap64 (Int.tdiv a 2)) else 0 else 0) := by
    refine Ev.step (fun n => by rw [spec_TunedPitch.j1]) (evn (by decide) ?_)
    by_cases h4 : k = 4
    · refine rpos h4 <| evp h4 ?_
      by_cases b0 : b = 0
      · rw [show (b == 0) = true by simp [b0]]; exact rpos b0 j2t
      · rw [show (b == 0) = false by simp [b0]]; exact rneg b0 j2f
    · exact rneg h4 <| evn h4 j2f
  by_cases h3 : k = 3
  · refine rpos h3 <| evp h3 ?_
    by_cases b0 : b = 0
    · rw [show (b == 0) = true by simp [b0]]
      exact rpos b0 <| Ev.step (fun n => by rw [spec_TunedPitch.j1]) (evp rfl (evz (pitch_eq _)))
    · rw [show (b == 0) = false by simp [b0]]
      rw [if_neg (by omega)] at j1f
      exact rneg b0 j1f
  exact rneg h3 <| evn h3 j1f
end Go.Proofs.Ytlhlmjklajdejaa.Q

namespace Go.Proofs.Ytlhlmjklajdejaa.Q
set_option linter.unusedVariables false
set_option linter.unusedSimpArgs false
open Go.RowKit Go.Proofs.Ytlhlmjklajdejaa.P Go.Proofs.YtlhlmjklajdejaaW.PrintWords Go.Proofs.YtlhlmjklajdejaaW.PrintMore
def cStep (x : S70) : S67 := ⟨x.f0, x.f1, x.f2, x.f3⟩
theorem rdS (l : List S67) (i : Nat) (h : i < l.length) : rd_T67 l (i : Int) = l[i] := by
  unfold rd_T67; simp [List.getD_eq_getElem?_getD, h]
theorem rdLS (l : List S70) (i : Nat) (h : i < l.length) : rd_T70 l (i : Int) = l[i] := by
  unfold rd_T70; simp [List.getD_eq_getElem?_getD, h]
theorem toStepS_ev (l : List S70) (hl : l.length ≤ 1048576) : Ev (fun k => laws_toStepS.f k l) (l.map cStep) := by
  have key : ∀ i, i ≤ l.length → ∀ acc : List S67, acc.length = l.length → Ev (fun k => laws_toStepS.l0 k l acc (i : Int)) (acc.take i ++ (l.drop i).map cStep) := by
    refine down (n := l.length) ?_ ?_
    · intro acc ha
      refine Ev.step (fun k => by rw [laws_toStepS.l0]) (evn (by omega) (evs ?_))
      rw [drop_end, List.map_nil, List.append_nil, List.take_of_length_le (by omega)]
    · intro i hi ih acc ha
      refine Ev.step (fun k => by rw [laws_toStepS.l0]) (evp (by omega) (evp (by omega) ?_))
      rw [rdLS l i hi]
      refine evb (a := (l[i].f0, l[i].f1, l[i].f2, l[i].f3)) rfl (evp (by omega) ?_)
      rw [w64 (by omega) (by omega), Int.toNat_natCast]
      have := ih (acc.set i (cStep l[i])) (by simpa using ha)
      rw [set_take _ _ _ (by omega), List.append_assoc] at this
      rw [drop_cons l i hi, List.map_cons]
      exact this
  have := key 0 (Nat.zero_le _) (List.replicate l.length z67) (by simp)
  unfold laws_toStepS.f
  refine evp (by omega) (evp (by omega) ?_)
  simpa using this
theorem eqStep_self (a b c d : Int) : laws_eqStep.f a b c d a b c d = some true := by unfold laws_eqStep.f; simp
theorem eqStepS_ev (l : List S67) (hl : l.length ≤ 9000000000000000000) : Ev (fun k => laws_eqStepS.f k l l) true := by
  have key : ∀ i, i ≤ l.length → Ev (fun k => laws_eqStepS.l0 k l l (i : Int)) true := by
    refine down (n := l.length) ?_ ?_
    · refine Ev.step (fun k => by rw [laws_eqStepS.l0]) (evn (by omega) ?_)
      exact Ev.now _
    · intro i hi ih
      refine Ev.step (fun k => by rw [laws_eqStepS.l0]) (evp (by omega) (evp (by omega) (evp (by omega) ?_)))
      refine evb (eqStep_self _ _ _ _) (evp rfl ?_)
      rw [w64 (by omega) (by omega)]
      exact ih
  unfold laws_eqStepS.f
  refine evp rfl ?_
  exact key 0 (Nat.zero_le _)
theorem szStepS_eq (l : List S70) (m : Int) (h0 : 0 ≤ m) (hm : m ≤ 1048576) (hl : l.length ≤ 9223372036854775807) : laws_szStepS.f l m = some (if m < l.length then -1 else m - l.length) := by
  unfold laws_szStepS.f
  rw [w64 (by omega) (by omega)]
  by_cases h : m < l.length
  · rw [if_pos (by omega), if_pos h]
  · rw [if_neg (by omega), if_neg h]
def runsS (m : Int) (n : Nat) : List S67 := (List.range n).map (fun (j : Nat) => ⟨m + 4 * j, m + 4 * j + 1, m + 4 * j + 2, m + 4 * j + 3⟩)
theorem runsS_len (m : Int) (n : Nat) : (runsS m n).length = n := by simp [runsS]
theorem rd_set_self (l : List S67) (i : Nat) (v : S67) (h : i < l.length) : rd_T67 (l.set i v) (i : Int) = v := by
  rw [rdS _ _ (by simpa using h)]; simp
theorem markStepS_ev (l : List S67) (m : Int) (h0 : 0 ≤ m) (hm : m + 4 * l.length ≤ 4000000000000000000) : Ev (fun k => laws_markStepS.f k l m) (m + 4 * l.length, runsS m l.length) := by
  have key : ∀ i, i ≤ l.length → ∀ acc : List S67, acc.length = l.length → acc.take i = runsS m i → Ev (fun k => laws_markStepS.l0 k acc (m + 4 * i) (i : Int)) (m + 4 * l.length, runsS m l.length) := by
    refine down (n := l.length) ?_ ?_
    · intro acc ha ht
      refine Ev.step (fun k => by rw [laws_markStepS.l0]) (evn (by omega) (evs ?_))
      rw [← ht, List.take_of_length_le (by omega)]
    · intro i hi ih acc ha ht
      refine Ev.step (fun k => by rw [laws_markStepS.l0]) ?_
      refine evp (by omega) (evp (by omega) ?_)
      simp only [Option.bind_some]
      rw [w64 (n := m + 4 * i + 1) (by omega) (by omega), w64 (n := m + 4 * i + 1 + 1) (by omega) (by omega), w64 (n := m + 4 * i + 1 + 1 + 1) (by omega) (by omega), w64 (n := m + 4 * i + 1 + 1 + 1 + 1) (by omega) (by omega), w64 (n := (i : Int) + 1) (by omega) (by omega), Int.toNat_natCast]
      have := ih (acc.set i ⟨m + 4 * i, m + 4 * i + 1, m + 4 * i + 2, m + 4 * i + 3⟩) (by simpa using ha) (by
        rw [set_take _ _ _ (by omega), ht]
        simp [runsS, List.range_succ])
      have rs : ∀ (L : List S67) (v : S67), L.length = l.length → rd_T67 (L.set i v) (i : Int) = v := fun L v hL => rd_set_self L i v (by omega)
      simp only [rs _ _ ha, List.set_set]
      rw [show m + 4 * (i : Int) + 1 + 1 = m + 4 * i + 2 by omega, show m + 4 * (i : Int) + 2 + 1 = m + 4 * i + 3 by omega, show m + 4 * (i : Int) + 3 + 1 = m + 4 * ((i + 1 : Nat) : Int) by omega]
      exact this
  have := key 0 (Nat.zero_le _) l rfl (by simp [runsS])
  unfold laws_markStepS.f
  simpa using this
theorem heldStepS_ev (n : Nat) (m : Int) (h0 : 0 ≤ m) (hm : m + 4 * n ≤ 4000000000000000000) : Ev (fun k => laws_heldStepS.f k (runsS m n) m) (m + 4 * n) := by
  have key : ∀ i, i ≤ n → Ev (fun k => laws_heldStepS.l0 k (runsS m n) (m + 4 * i) (i : Int)) (m + 4 * n) := by
    refine down (n := n) ?_ ?_
    · exact Ev.step (fun k => by rw [laws_heldStepS.l0]) (evn (by rw [runsS_len]; omega) (evs rfl))
    · intro i hi ih
      refine Ev.step (fun k => by rw [laws_heldStepS.l0]) (evp (by rw [runsS_len]; omega) (evp (by omega) ?_))
      rw [rdS _ _ (by rw [runsS_len]; exact hi), show (runsS m n)[i]'(by rw [runsS_len]; exact hi) = ⟨m + 4 * i, m + 4 * i + 1, m + 4 * i + 2, m + 4 * i + 3⟩ by simp [runsS]]
      rw [w64 (n := m + 4 * i + 1) (by omega) (by omega), w64 (n := m + 4 * i + 1 + 1) (by omega) (by omega), w64 (n := m + 4 * i + 1 + 1 + 1) (by omega) (by omega), w64 (n := m + 4 * i + 1 + 1 + 1 + 1) (by omega) (by omega), w64 (n := (i : Int) + 1) (by omega) (by omega)]
      refine evp rfl (evp rfl (evp ?_ (evp ?_ ?_)))
      · show m + 4 * (i : Int) + 2 = _; omega
      · show m + 4 * (i : Int) + 3 = _; omega
      rw [show m + 4 * (i : Int) + 1 + 1 + 1 + 1 = m + 4 * ((i + 1 : Nat) : Int) by omega]
      exact ih
  have := key 0 (Nat.zero_le _)
  unfold laws_heldStepS.f
  simpa using this
end Go.Proofs.Ytlhlmjklajdejaa.Q
