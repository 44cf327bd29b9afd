/- What functions of the program come to (f), that their calls come to just this (calls), and the plain laws over lists and numbers. No condition but those of the given row. -/
import Derived.Test.YtlhlmjklajdejaaC1
namespace Go.Proofs.Ytlhlmjklajdejaa.P
open Go.RowKit Go.Proofs.YtlhlmjklajdejaaW.PrintWords Go.Proofs.YtlhlmjklajdejaaW.PrintLast Go.Proofs.YtlhlmjklajdejaaW.PrintMore
attribute [local go_sem] max2_int min2_int max_two min_two max_three min_three max_four min_four
set_option linter.unusedVariables false
set_option linter.unusedSimpArgs false
def spec_l02Copy.f (l0 : List Int) : Option (List Int) := (some (([] : List Int) : List Int)).bind fun y364 => (if y364.length + l0.length < 17592186044416 then (some (y364 ++ l0)) else (none))
set_option maxHeartbeats 8000000 in
set_option maxRecDepth 100000 in
theorem spec_l02Copy.calls (A0 : Option Addr) (c0 : Nat) (l0 : List Int) (r : List Int) (w : World) (hr0 : Kd.C (Kd.int .i64) w A0 l0.length l0) (hc0 : l0.length ≤ c0) (h : spec_l02Copy.f l0 = some r) :
    Calls Try.prog 79 #[.slice A0 l0.length c0] w fun e w' => ∃ v0_ : Value, e = .returned (v0_) ∧ Kd.R (Kd.int .i64) 3 w' w.heap.size (fun _ => True) v0_ r ∧ Below w.heap.size w w' := by
  have HR0 := Aside0.mk hr0
  have HC0 := Aside0.mk hc0
  clear hr0 hc0
  have HB := Aside0.mk (Below.refl w.heap.size w)
  have H : ((some (([] : List Int) : List Int)).bind fun y364 => (if y364.length + l0.length < 17592186044416 then (some (y364 ++ l0)) else (none))) = some r := h
  clear h
  obtain ⟨y364, hy364⟩ : ∃ y_ : List Int, y_ = (([] : List Int)) := ⟨_, rfl⟩
  replace H : (if y364.length + l0.length < 17592186044416 then (some (y364 ++ l0)) else (none)) = some r := by first | (rw [hy364]; with_reducible exact H) | (have H2_ := (Option.bind_some _ _).symm.trans H; rw [hy364]; with_reducible exact H2_) | (have H2_ := (Option.bind_some _ _).symm.trans H; with_reducible exact H2_) | with_reducible exact H | (rw [hy364]; exact H) | exact H
  have Ny364 := Aside0.mk hy364
  clear hy364
  by_cases c2 : y364.length + l0.length < 17592186044416
  · rw [if_pos c2] at H
    have LMc2 := Aside0.mk c2
    clear c2
    obtain ⟨y367, hy367⟩ : ∃ y_ : List Int, y_ = (y364 ++ l0) := ⟨_, rfl⟩
    replace H : (some y367) = some r := by first | (rw [hy367]; with_reducible exact H) | (have H2_ := (Option.bind_some _ _).symm.trans H; rw [hy367]; with_reducible exact H2_) | (have H2_ := (Option.bind_some _ _).symm.trans H; with_reducible exact H2_) | with_reducible exact H | (rw [hy367]; exact H) | exact H
    have Ny367 := Aside0.mk hy367
    clear hy367
    obtain rfl := Option.some.inj H
    go_enter Try.func79, Try.ntmps79
    go_wp2_with (first | ((with_reducible refine gate_dst (N := 3) rfl ?_); refine Kd.R_lit (Kd.int .i64) _ 3 ?hg (N := 3) ?hd (xs := ([] : List Int)) (inner := []) (ok := fun _ => True) (okp := fun _ => True) ?hr ?hp (fun _ hk => hk) trivial (Below.refl _ _) (Nat.le_refl _) (by simp) ?_; (case hd => rfl); (case hg => rfl); (case hr => first | (go_simp; done) | (go_simp; rfl)); (case hp => exact (Reps.none _ _)); intro v365 w3 ho4 hb hg_ hnew_; clear hg_ hnew_; (first | rw [← Ny364.out] at ho4 | (simp only [Int.reduceToNat] at ho4; rw [← Ny364.out] at ho4)); have n0_ := Aside0.mk (Kd.R_lower ho4 (below_size (oB HB))); have n1_ := Aside0.mk (below_step (oB HB) hb); clear HB; have HO366 := n0_; have HB := n1_; clear n0_ n1_; clear hb ho4) | ((with_reducible refine gate_builtin (b := .append) (xs := #[.tmp 3, .tmp 4]) rfl ?_); at_builtin; refine Kd.R_append_rows (Kd.int .i64) (w0 := w) w.heap.size rfl (.tmp 3) (.tmp 4) 23 3 (.int .i64 0) 8 rfl Try.underlying23 info3 rfl (by decide) (by omega) v365 y364 l0 _ _ _ (fun _ => True) (fun _ => False) rfl rfl ?aO ?aR (fun _ _ h => h) (fun _ h => h.elim) ?aF ?aB ?aS ?aL ?_; (case aR => exact oc_ HR0.out); (case aB => exact (oB HB)); (case aF => exact (fun _ _ => trivial)); (case aO => exact (oR HO366)); (case aS => exact (below_size (oB HB))); (case aL => have := LMc2.out; omega); intro v368 w5 ho hb hg hat; rw [← Ny367.out] at ho; have n0_ := Aside0.mk (hb); have n1_ := Aside0.mk (ho); clear HB; clear HO366; have HB := n0_; have HO369 := n1_; clear n0_ n1_; clear ho hb hg hat))
    go_ret
    exact ⟨_, by first | rfl | (simp [errW_none, errW_some] <;> rfl) | (simp [*, errW_none, errW_some] <;> rfl), oR HO369, oB HB⟩
  · rw [if_neg c2] at H
    exact absurd H (by simp)
end Go.Proofs.Ytlhlmjklajdejaa.P


namespace Go.Proofs.Ytlhlmjklajdejaa.P
open Go.RowKit Go.Proofs.YtlhlmjklajdejaaW.PrintWords Go.Proofs.YtlhlmjklajdejaaW.PrintLast Go.Proofs.YtlhlmjklajdejaaW.PrintMore
attribute [local go_sem] max2_int min2_int max_two min_two max_three min_three max_four min_four
set_option linter.unusedVariables false
set_option linter.unusedSimpArgs false
def spec_l36Copy.f (l0_0 : List (S67)) (a0_1 : Int) (l0_2 : List Int) : Option ((List (S67)) × Int × List Int) := (spec_l19Copy.f l0_0).bind fun t372 => ((spec_l02Copy.f l0_2).bind fun t375 => (some (t372, a0_1, t375)))
def spec_l36Copy.T1 : Bool × List (List Nat × List Nat) := (true, [([], []), ([0], [0]), ([1], [1]), ([], []), ([3], [3]), ([], []), ([5], [5]), ([6, 2], [6]), ([2, 4, 7], [2, 4, 7]), ([8, 7, 0, 1, 2, 3, 4, 5, 6, 7, 8], [8])])
def spec_l36Copy.B1 : List Nat := [0, 1, 3, 0, 8, 0, 32, 103, 255, 511]
theorem spec_l36Copy.tab1 : rtab .any (opsOf Try.f68 1) = spec_l36Copy.T1 := by kernel_rfl
theorem spec_l36Copy.bits1 : waitsOk spec_l36Copy.T1.2 spec_l36Copy.B1 = true := by kernel_rfl
set_option maxHeartbeats 8000000 in
set_option maxRecDepth 100000 in
theorem spec_l36Copy.calls (A0_0 : Option Addr) (c0_0 : Nat) (l0_0 : List (S67)) (a0_1 : Int) (A0_2 : Option Addr) (c0_2 : Nat) (l0_2 : List Int) (r1 : List (S67)) (r2 : Int) (r3 : List Int) (w : World) (hr0_0 : Kd.C k67 w A0_0 l0_0.length l0_0) (hc0_0 : l0_0.length ≤ c0_0) (hr0_2 : Kd.C (Kd.int .i64) w A0_2 l0_2.length l0_2) (hc0_2 : l0_2.length ≤ c0_2) (h : spec_l36Copy.f l0_0 a0_1 l0_2 = some (r1, r2, r3)) :
    Calls Try.prog 68 #[.agg #[.slice A0_0 l0_0.length c0_0, .int .i64 a0_1, .slice A0_2 l0_2.length c0_2]] w fun e w' => ∃ v0_ v2_ : Value, e = .returned (.agg #[v0_, .int .i64 r2, v2_]) ∧ Kd.R k67 67 w' w.heap.size (fun _ => True) v0_ r1 ∧ Kd.R (Kd.int .i64) 3 w' w.heap.size (fun _ => True) v2_ r3 ∧ Below w.heap.size w w' := by
  have hu30 := Try.underlying30
  have HR0_0 := Aside0.mk hr0_0
  have HC0_0 := Aside0.mk hc0_0
  clear hr0_0 hc0_0
  have HR0_2 := Aside0.mk hr0_2
  have HC0_2 := Aside0.mk hc0_2
  clear hr0_2 hc0_2
  have HB := Aside0.mk (Below.refl w.heap.size w)
  have H : ((spec_l19Copy.f l0_0).bind fun t372 => ((spec_l02Copy.f l0_2).bind fun t375 => (some (t372, a0_1, t375)))) = some (r1, r2, r3) := h
  clear h
  replace H := Option.bind_eq_some_iff.mp H
  obtain ⟨t372, A20, H⟩ := H
  (try dsimp only at H)
  have A2 := Aside0.mk A20
  clear A20
  replace H := Option.bind_eq_some_iff.mp H
  obtain ⟨t375, A30, H⟩ := H
  (try dsimp only at H)
  have A3 := Aside0.mk A30
  clear A30
  simp only [Option.some.injEq, Prod.mk.injEq] at H
  obtain ⟨rfl, rfl, rfl⟩ := H
  go_enter Try.func68, Try.ntmps68
  try go_wp2_with (first | ((with_reducible refine gate_dst (N := 1) rfl ?_); refine box_event ?hg (N := 1) ?hd (cs := #[.slice A0_0 l0_0.length c0_0, .int .i64 a0_1, .slice A0_2 l0_2.length c0_2]) (t := 30) ?hr ?_; (case hd => rfl); (case hg => rfl); (case hr => first | (go_simp; done) | (go_simp; rfl)); intro gb370 hg w4 hbox hb; have n0_ := Aside0.mk (below_step (oB HB) hb); have n1_ := Aside0.mk (hbox); have n2_ := Aside0.mk ((by rw [hg]; exact (below_size (oB HB)) : w.heap.size ≤ gb370)); have n3_ := Aside0.mk ((by rw [hg]; exact (below_size (oB HB)) : w.heap.size ≤ gb370)); clear HB; have HB := n0_; have BK370 := n1_; have GW370 := n2_; have GE370 := n3_; clear n0_ n1_ n2_ n3_; clear hb hbox hg) | ((with_reducible refine gate_dst (N := 2) rfl ?_); refine box_event ?hg (N := 2) ?hd (cs := #[.slice none 0 0, .int .i64 0, .slice none 0 0]) (t := 30) ?hr ?_; (case hd => rfl); (case hg => rfl); (case hr => first | (go_simp; done) | (go_simp; rfl)); intro gb371 hg w5 hbox hb; have n0_ := Aside0.mk (blk_below (g := gb370) (o := .cells #[.slice A0_0 l0_0.length c0_0, .int .i64 a0_1, .slice A0_2 l0_2.length c0_2] 30 (0, 0)) (oK BK370) hb); have n1_ := Aside0.mk (below_step (oB HB) hb); have n2_ := Aside0.mk (hbox); have n3_ := Aside0.mk ((by rw [hg]; exact (below_size (oB HB)) : w.heap.size ≤ gb371)); have n4_ := Aside0.mk ((by rw [hg]; exact (below_size (oB HB)) : w.heap.size ≤ gb371)); have n5_ := Aside0.mk ((by rw [hg]; exact Nat.ne_of_lt (blk_lt (g := gb370) (o := .cells #[.slice A0_0 l0_0.length c0_0, .int .i64 a0_1, .slice A0_2 l0_2.length c0_2] 30 (0, 0)) (oK BK370)) : gb370 ≠ gb371)); have n6_ := Aside0.mk ((by rw [hg]; exact Nat.ne_of_gt (blk_lt (g := gb370) (o := .cells #[.slice A0_0 l0_0.length c0_0, .int .i64 a0_1, .slice A0_2 l0_2.length c0_2] 30 (0, 0)) (oK BK370)) : gb371 ≠ gb370)); clear BK370; clear HB; have BK370 := n0_; have HB := n1_; have BK371 := n2_; have GW371 := n3_; have GE371 := n4_; have NB370_371 := n5_; have NB371_370 := n6_; clear n0_ n1_ n2_ n3_ n4_ n5_ n6_; clear hb hbox hg))
  have n0_ := Aside0.mk (blk_drew BK370.out)
  have n1_ := Aside0.mk (blk_drew BK371.out)
  have n2_ := Aside0.mk (below_drew1 HB.out)
  clear BK370
  clear BK371
  clear HB
  have BK370 := n0_
  have BK371 := n1_
  have HB := n2_
  clear n0_ n1_ n2_
  refine start_ (n := 10) (S := fun w' => w'.cell? ⟨gb370, 0, none⟩ = some (.slice A0_0 l0_0.length c0_0) ∧ w'.cell? ⟨gb370, 1, none⟩ = some (.int .i64 a0_1) ∧ w'.cell? ⟨gb370, 2, none⟩ = some (.slice A0_2 l0_2.length c0_2)) (ds := []) #[false, false, false, false, false, false, false, false, false, false] (by kernel_rfl) rfl rfl ⟨(blk_cell BK370.out 0).trans rfl, (blk_cell BK370.out 1).trans rfl, (blk_cell BK370.out 2).trans rfl⟩ (fun hHeld => ?_); refine with_tabW spec_l36Copy.tab1 spec_l36Copy.bits1 (fun HT_ HW_ => ?_)
  generalize w5.drew = w6 at BK370 BK371 HB hHeld ⊢
  refine pure_ (i := 0) (N := some 3) (v := ?_) (a' := ?_) #[true, false, false, false, false, false, false, false, false, false] rfl rfl (any_of HT_.out (by kernel_rfl)) (fun _ _ _ h => h) (Or.inl ⟨by rfl, ?_⟩) ?_ ?_
  rotate_left
  · intro w'
    go_simp
    with_reducible rfl
  rotate_left
  · simp only [Act.put, List.setIfInBounds_toArray, List.set_cons_zero, List.set_cons_succ, i64_w, i32_w]
    rfl
  refine pure_ (i := 3) (N := some 6) (v := ?_) (a' := ?_) #[true, false, false, true, false, false, false, false, false, false] rfl rfl (any_of HT_.out (by kernel_rfl)) (fun _ _ _ h => h) (Or.inl ⟨by rfl, ?_⟩) ?_ ?_
  rotate_left
  · intro w'
    go_simp
    with_reducible rfl
  rotate_left
  · simp only [Act.put, List.setIfInBounds_toArray, List.set_cons_zero, List.set_cons_succ, i64_w, i32_w]
    rfl
  refine pure_ (i := 5) (N := some 8) (v := ?_) (a' := ?_) #[true, false, false, true, false, true, false, false, false, false] rfl rfl (any_of HT_.out (by kernel_rfl)) (fun _ _ _ h => h) (Or.inl ⟨by rfl, ?_⟩) ?_ ?_
  rotate_left
  · intro w'
    go_simp
    with_reducible rfl
  rotate_left
  · simp only [Act.put, List.setIfInBounds_toArray, List.set_cons_zero, List.set_cons_succ, i64_w, i32_w]
    rfl
  refine take_ (i := 1) (N := some 4) (v := ?_) (a' := ?_) #[true, true, false, true, false, true, false, false, false, false] rfl rfl (take_ofW HT_.out HW_.out (by kernel_rfl)) (fun _ _ _ h => h) (Or.inl ⟨by rfl, ?_⟩) hHeld ?_ ?_
  rotate_left
  · rintro w' ⟨s0, s1, s2⟩
    go_simp
    with_reducible rfl
  rotate_left
  · simp only [Act.put, List.setIfInBounds_toArray, List.set_cons_zero, List.set_cons_succ, i64_w, i32_w]
    rfl
  refine take_ (i := 4) (N := some 7) (v := ?_) (a' := ?_) #[true, true, false, true, true, true, false, false, false, false] rfl rfl (take_ofW HT_.out HW_.out (by kernel_rfl)) (fun _ _ _ h => h) (Or.inl ⟨by rfl, ?_⟩) hHeld ?_ ?_
  rotate_left
  · rintro w' ⟨s0, s1, s2⟩
    go_simp
    with_reducible rfl
  rotate_left
  · simp only [Act.put, List.setIfInBounds_toArray, List.set_cons_zero, List.set_cons_succ, i64_w, i32_w]
    rfl
  refine take_ (i := 6) (N := some 9) (v := ?_) (a' := ?_) #[true, true, false, true, true, true, true, false, false, false] rfl rfl (take_ofW HT_.out HW_.out (by kernel_rfl)) (fun _ _ _ h => h) (Or.inl ⟨by rfl, ?_⟩) hHeld ?_ ?_
  rotate_left
  · rintro w' ⟨s0, s1, s2⟩
    go_simp
    with_reducible rfl
  rotate_left
  · simp only [Act.put, List.setIfInBounds_toArray, List.set_cons_zero, List.set_cons_succ, i64_w, i32_w]
    rfl
  refine one_ (i := 2) (N := some 5) #[true, true, true, true, true, true, true, false, false, false] rfl rfl (one_of HT_.out (by kernel_rfl)) (by decide) (fun K hK => ?_)
  refine goes_ Try.func63 (by kernel_rfl) rfl #[.slice A0_0 l0_0.length c0_0] (by rfl) rfl rfl (by (try simp only [List.map_toArray, List.map_cons, List.map_nil]); first | done | rfl | (simp only [List.length_drop, List.length_take]; rfl)) ?_
  with_reducible refine (spec_l19Copy.calls _ _ l0_0 t372 _ ?side1 ?side2 A2.out).mono ?_
  (case side1 => exact oc_ HR0_0.out)
  (case side2 => exact HC0_0.out)
  rintro e w7 ⟨v373, rfl, ho0, hb⟩
  refine ⟨_, rfl, ?_⟩
  have n0_ := Aside0.mk (Kd.R_lower ho0 (below_size (oB HB)))
  have n1_ := Aside0.mk (blk_below (g := gb370) (o := .cells #[.slice A0_0 l0_0.length c0_0, .int .i64 a0_1, .slice A0_2 l0_2.length c0_2] 30 (0, 0)) (oK BK370) hb)
  have n2_ := Aside0.mk (blk_below (g := gb371) (o := .cells #[.slice none 0 0, .int .i64 0, .slice none 0 0] 30 (0, 0)) (oK BK371) hb)
  have n3_ := Aside0.mk (below_step (oB HB) hb)
  clear BK370
  clear BK371
  clear HB
  have HO374 := n0_
  have BK370 := n1_
  have BK371 := n2_
  have HB := n3_
  clear n0_ n1_ n2_ n3_
  (try clear hb)
  (try clear hb2)
  (try clear hk)
  (try clear hi)
  (try clear ho0)
  refine hK.out _ _ ⟨(blk_cell BK370.out 0).trans rfl, (blk_cell BK370.out 1).trans rfl, (blk_cell BK370.out 2).trans rfl⟩ (fun hHeld => ?_)
  clear hK K
  refine norm_ (a' := ?_) ?_ ?_
  rotate_left
  · show Act.put _ (some 5) _ = _
    simp only [Act.put, List.setIfInBounds_toArray, List.set_cons_zero, List.set_cons_succ, i64_w, i32_w]
    rfl
  refine one_ (i := 7) (N := some 10) #[true, true, true, true, true, true, true, true, false, false] rfl rfl (one_of HT_.out (by kernel_rfl)) (by decide) (fun K hK => ?_)
  refine goes_ Try.func79 (by kernel_rfl) rfl #[.slice A0_2 l0_2.length c0_2] (by rfl) rfl rfl (by (try simp only [List.map_toArray, List.map_cons, List.map_nil]); first | done | rfl | (simp only [List.length_drop, List.length_take]; rfl)) ?_
  with_reducible refine (spec_l02Copy.calls _ _ l0_2 t375 _ ?side1 ?side2 A3.out).mono ?_
  (case side1 => exact oc_ HR0_2.out)
  (case side2 => exact HC0_2.out)
  rintro e w8 ⟨v376, rfl, ho0, hb⟩
  refine ⟨_, rfl, ?_⟩
  have n0_ := Aside0.mk (Kd.R_below (oR HO374) hb)
  have n1_ := Aside0.mk (Kd.R_lower ho0 (below_size (oB HB)))
  have n2_ := Aside0.mk (blk_below (g := gb370) (o := .cells #[.slice A0_0 l0_0.length c0_0, .int .i64 a0_1, .slice A0_2 l0_2.length c0_2] 30 (0, 0)) (oK BK370) hb)
  have n3_ := Aside0.mk (blk_below (g := gb371) (o := .cells #[.slice none 0 0, .int .i64 0, .slice none 0 0] 30 (0, 0)) (oK BK371) hb)
  have n4_ := Aside0.mk (below_step (oB HB) hb)
  clear HO374
  clear BK370
  clear BK371
  clear HB
  have HO374 := n0_
  have HO377 := n1_
  have BK370 := n2_
  have BK371 := n3_
  have HB := n4_
  clear n0_ n1_ n2_ n3_ n4_
  (try clear hb)
  (try clear hb2)
  (try clear hk)
  (try clear hi)
  (try clear ho0)
  obtain ⟨Ao9, co9, eo9⟩ := Kd.R_slice HO377.out
  (first | subst eo9 | (injection eo9 with f1_ f2_ f3_; have f4_ := f1_.symm; have f5_ := f3_.symm; clear f1_ f2_ f3_; subst f4_; subst f5_))
  obtain ⟨Ao10, co10, eo10⟩ := Kd.R_slice HO374.out
  (first | subst eo10 | (injection eo10 with f1_ f2_ f3_; have f4_ := f1_.symm; have f5_ := f3_.symm; clear f1_ f2_ f3_; subst f4_; subst f5_))
  refine hK.out _ _ ⟨(blk_cell BK370.out 0).trans rfl, (blk_cell BK370.out 1).trans rfl, (blk_cell BK370.out 2).trans rfl⟩ (fun hHeld => ?_)
  clear hK K
  refine norm_ (a' := ?_) ?_ ?_
  rotate_left
  · show Act.put _ (some 10) _ = _
    simp only [Act.put, List.setIfInBounds_toArray, List.set_cons_zero, List.set_cons_succ, i64_w, i32_w]
    rfl
  refine pure_ (i := 8) (N := some 11) (v := ?_) (a' := ?_) #[true, true, true, true, true, true, true, true, true, false] rfl rfl (any_of HT_.out (by kernel_rfl)) (fun _ _ _ h => h) (Or.inl ⟨by rfl, ?_⟩) ?_ ?_
  rotate_left
  · intro w'
    go_simp
    with_reducible rfl
  rotate_left
  · simp only [Act.put, List.setIfInBounds_toArray, List.set_cons_zero, List.set_cons_succ, i64_w, i32_w]
    rfl
  refine one_ (i := 9) (N := none) #[true, true, true, true, true, true, true, true, true, true] rfl rfl (one_of HT_.out (by kernel_rfl)) (by decide) (fun K hK => ?_)
  have hs11 : w8.cell? ⟨gb371, 0, none⟩ = some (.slice none 0 0) := (blk_cell BK371.out 0).trans rfl
  have hfs11 := blk_frozen BK371.out 0
  have hns11_0 := NB370_371.out
  have hms11_0 := NB371_370.out
  have hs12 : w8.cell? ⟨gb371, 1, none⟩ = some (.int .i64 0) := (blk_cell BK371.out 1).trans rfl
  have hfs12 := blk_frozen BK371.out 1
  have hns12_0 := NB370_371.out
  have hms12_0 := NB371_370.out
  have hs13 : w8.cell? ⟨gb371, 2, none⟩ = some (.slice none 0 0) := (blk_cell BK371.out 2).trans rfl
  have hfs13 := blk_frozen BK371.out 2
  have hns13_0 := NB370_371.out
  have hms13_0 := NB371_370.out
  refine skip_ (w1 := ?_) (by rfl) rfl ?_ ?_
  rotate_left
  · go_simp
    rfl
  refine hK.out _ _ ⟨((cell_far (p := ⟨gb371, _, none⟩) NB370_371.out _).trans (((cell_far (p := ⟨gb371, _, none⟩) NB370_371.out _).trans (((cell_far (p := ⟨gb371, _, none⟩) NB370_371.out _).trans (hHeld.1)))))), ((cell_far (p := ⟨gb371, _, none⟩) NB370_371.out _).trans (((cell_far (p := ⟨gb371, _, none⟩) NB370_371.out _).trans (((cell_far (p := ⟨gb371, _, none⟩) NB370_371.out _).trans (hHeld.2.1)))))), ((cell_far (p := ⟨gb371, _, none⟩) NB370_371.out _).trans (((cell_far (p := ⟨gb371, _, none⟩) NB370_371.out _).trans (((cell_far (p := ⟨gb371, _, none⟩) NB370_371.out _).trans (hHeld.2.2))))))⟩ (fun hHeld => ?_)
  clear hK K
  refine done_ (done_of HT_.out (by kernel_rfl)) ?_
  try go_wp2
  refine bodyPost_ret (results_cell_row rfl _ _ gb371 30 #[.slice Ao10 t372.length co10, .int .i64 a0_1, .slice Ao9 t375.length co9] (0, 0) _ rfl (by (with_reducible repeat (first | refine blk_drewN ?_ _ | refine blk_drew ?_ | refine blk_alloc ?_ _)); refine blk_put (cs := #[.slice Ao10 t372.length co10, .int .i64 a0_1, .slice none 0 0]) ?_ 2 _ rfl; (with_reducible repeat (first | refine blk_drewN ?_ _ | refine blk_drew ?_ | refine blk_alloc ?_ _)); refine blk_put (cs := #[.slice Ao10 t372.length co10, .int .i64 0, .slice none 0 0]) ?_ 1 _ rfl; (with_reducible repeat (first | refine blk_drewN ?_ _ | refine blk_drew ?_ | refine blk_alloc ?_ _)); refine blk_put (cs := #[.slice none 0 0, .int .i64 0, .slice none 0 0]) ?_ 0 _ rfl; (with_reducible repeat (first | refine blk_drewN ?_ _ | refine blk_drew ?_ | refine blk_alloc ?_ _)); exact BK371.out) Try.underlying30 rfl (by kernel_rfl)) rfl ?_
  exact ⟨_, _, by first | rfl | (simp [errW_none, errW_some] <;> rfl) | (simp [*, errW_none, errW_some] <;> rfl), by (with_reducible repeat (first | apply Kd.R_alloc | apply Kd.R_drewN | apply Kd.R_drew)); exact Kd.R_mono (Kd.R_far (p := ⟨gb371, 2, none⟩) (Kd.R_far (p := ⟨gb371, 1, none⟩) (Kd.R_far (p := ⟨gb371, 0, none⟩) (Kd.R_types HO374.out BK371.out (by decide)) (fun _ hk => hk.2) (.slice Ao10 t372.length co10)) (fun _ hk => hk.2) (.int .i64 a0_1)) (fun _ hk => hk.2) (.slice Ao9 t375.length co9)) (fun _ hk => trivial), by (with_reducible repeat (first | apply Kd.R_alloc | apply Kd.R_drewN | apply Kd.R_drew)); exact Kd.R_mono (Kd.R_far (p := ⟨gb371, 2, none⟩) (Kd.R_far (p := ⟨gb371, 1, none⟩) (Kd.R_far (p := ⟨gb371, 0, none⟩) (Kd.R_types HO377.out BK371.out (by decide)) (fun _ hk => hk.2) (.slice Ao10 t372.length co10)) (fun _ hk => hk.2) (.int .i64 a0_1)) (fun _ hk => hk.2) (.slice Ao9 t375.length co9)) (fun _ hk => trivial), oB HB⟩
end Go.Proofs.Ytlhlmjklajdejaa.P


namespace Go.Proofs.Ytlhlmjklajdejaa.P
open Go.RowKit Go.Proofs.YtlhlmjklajdejaaW.PrintWords Go.Proofs.YtlhlmjklajdejaaW.PrintLast Go.Proofs.YtlhlmjklajdejaaW.PrintMore
attribute [local go_sem] max2_int min2_int max_two min_two max_three min_three max_four min_four
set_option linter.unusedVariables false
set_option linter.unusedSimpArgs false
def spec_KnockKey.j0 : Nat → Int → Int → Bool → List (S67) → Int → List Int → List (S67) → Int → List Int → Option ((List (S67)) × Int × List Int × Bool)
  | 0, _, _, _, _, _, _, _, _, _ => none
  | k + 1, x1, x2, x31, x379000, x379001, x379002, x388000, x388001, x388002 => if x31 = true then (some (x388000, x388001, x388002, false)) else (if 0 ≤ x1 then (if x1 < (x388002.length : Int) then ((some (x388002.set (x1 : Int).toNat (wrap64 ((rd x388002 x1) + x2)) : List Int)).bind fun y393 => ((spec_WorkOk.f k x388000 x388001 y393).bind fun t394 => (if t394 = true then (some (x388000, x388001, y393, true)) else ((spec_l36Copy.f x379000 x379001 x379002).bind fun bt395 => (some (bt395.1, bt395.2.1, bt395.2.2, false)))))) else (none)) else (none))
def spec_KnockKey.f (k : Nat) (l0_0 : List (S67)) (a0_1 : Int) (l0_2 : List Int) (a1 : Int) (a2 : Int) : Option ((List (S67)) × Int × List Int × Bool) := (spec_l36Copy.f l0_0 a0_1 l0_2).bind fun bt380 => ((spec_WorkOk.f k l0_0 a0_1 l0_2).bind fun t388 => (if t388 = true then ((spec_l01In.f a1 0 11).bind fun t389 => (if t389 = true then ((spec_l01In.f a2 (-100000) 100000).bind fun t390 => (if t390 = true then (if 0 ≤ a1 then (if a1 < (l0_2.length : Int) then (spec_KnockKey.j0 k a1 a2 ((rd l0_2 a1) == 0) l0_0 a0_1 l0_2 bt380.1 bt380.2.1 bt380.2.2) else (none)) else (none)) else (spec_KnockKey.j0 k a1 a2 true l0_0 a0_1 l0_2 bt380.1 bt380.2.1 bt380.2.2))) else (spec_KnockKey.j0 k a1 a2 true l0_0 a0_1 l0_2 bt380.1 bt380.2.1 bt380.2.2))) else (spec_KnockKey.j0 k a1 a2 true l0_0 a0_1 l0_2 bt380.1 bt380.2.1 bt380.2.2)))
def spec_KnockKey.T4 : Bool × List (List Nat × List Nat) := (true, [([], []), ([0], [0]), ([], []), ([], []), ([3], [3]), ([], []), ([4, 5], [4, 5]), ([6], [6]), ([], []), ([7, 8], [7, 8]), ([1, 2, 0, 1, 2, 3, 4, 5, 6, 7, 8, 9], [1, 2]), ([10, 9, 0, 1, 2, 3, 4, 5, 6, 7, 8, 9], [9, 10])])
def spec_KnockKey.B4 : List Nat := [0, 1, 0, 0, 8, 0, 56, 120, 0, 504, 1023, 2047]
theorem spec_KnockKey.tab4 : rtab .any (opsOf Try.f30 4) = spec_KnockKey.T4 := by kernel_rfl
theorem spec_KnockKey.bits4 : waitsOk spec_KnockKey.T4.2 spec_KnockKey.B4 = true := by kernel_rfl
set_option maxHeartbeats 8000000 in
set_option maxRecDepth 100000 in
theorem spec_KnockKey.calls (k : Nat) (A0_0 : Option Addr) (c0_0 : Nat) (l0_0 : List (S67)) (a0_1 : Int) (A0_2 : Option Addr) (c0_2 : Nat) (l0_2 : List Int) (a1 : Int) (a2 : Int) (r1 : List (S67)) (r2 : Int) (r3 : List Int) (r4 : Bool) (w : World) (hr0_0 : Kd.C k67 w A0_0 l0_0.length l0_0) (hc0_0 : l0_0.length ≤ c0_0) (hr0_2 : Kd.C (Kd.int .i64) w A0_2 l0_2.length l0_2) (hc0_2 : l0_2.length ≤ c0_2) (h : spec_KnockKey.f k l0_0 a0_1 l0_2 a1 a2 = some (r1, r2, r3, r4)) :
    Calls Try.prog 30 #[.agg #[.slice A0_0 l0_0.length c0_0, .int .i64 a0_1, .slice A0_2 l0_2.length c0_2], .int .i64 a1, .int .i64 a2] w fun e w' => ∃ v0_ v2_ : Value, e = .returned (.tuple #[.agg #[v0_, .int .i64 r2, v2_], .bool r4]) ∧ Kd.R k67 67 w' w.heap.size (fun _ => True) v0_ r1 ∧ Kd.R (Kd.int .i64) 3 w' w.heap.size (fun _ => True) v2_ r3 ∧ Below w.heap.size w w' := by
  have hu30 := Try.underlying30
  have HR0_0 := Aside0.mk hr0_0
  have HC0_0 := Aside0.mk hc0_0
  clear hr0_0 hc0_0
  have HR0_2 := Aside0.mk hr0_2
  have HC0_2 := Aside0.mk hc0_2
  clear hr0_2 hc0_2
  have HB := Aside0.mk (Below.refl w.heap.size w)
  have H : ((spec_l36Copy.f l0_0 a0_1 l0_2).bind fun bt380 => ((spec_WorkOk.f k l0_0 a0_1 l0_2).bind fun t388 => (if t388 = true then ((spec_l01In.f a1 0 11).bind fun t389 => (if t389 = true then ((spec_l01In.f a2 (-100000) 100000).bind fun t390 => (if t390 = true then (if 0 ≤ a1 then (if a1 < (l0_2.length : Int) then (spec_KnockKey.j0 k a1 a2 ((rd l0_2 a1) == 0) l0_0 a0_1 l0_2 bt380.1 bt380.2.1 bt380.2.2) else (none)) else (none)) else (spec_KnockKey.j0 k a1 a2 true l0_0 a0_1 l0_2 bt380.1 bt380.2.1 bt380.2.2))) else (spec_KnockKey.j0 k a1 a2 true l0_0 a0_1 l0_2 bt380.1 bt380.2.1 bt380.2.2))) else (spec_KnockKey.j0 k a1 a2 true l0_0 a0_1 l0_2 bt380.1 bt380.2.1 bt380.2.2)))) = some (r1, r2, r3, r4) := h
  clear h
  replace H := Option.bind_eq_some_iff.mp H
  obtain ⟨⟨t380, t383, t384⟩, A40, H⟩ := H
  (try dsimp only at H)
  have A4 := Aside0.mk A40
  clear A40
  have HC5 := Aside0.mk H
  clear H
  go_enter Try.func30, Try.ntmps30
  go_upto_region 2 with (first | ((with_reducible refine gate_dst (N := 3) rfl ?_); refine box_event ?hg (N := 3) ?hd (cs := #[.slice A0_0 l0_0.length c0_0, .int .i64 a0_1, .slice A0_2 l0_2.length c0_2]) (t := 30) ?hr ?_; (case hd => rfl); (case hg => rfl); (case hr => first | (go_simp; done) | (go_simp; rfl)); intro gb378 hg w6 hbox hb; have n0_ := Aside0.mk (below_step (oB HB) hb); have n1_ := Aside0.mk (hbox); have n2_ := Aside0.mk ((by rw [hg]; exact (below_size (oB HB)) : w.heap.size ≤ gb378)); have n3_ := Aside0.mk ((by rw [hg]; exact (below_size (oB HB)) : w.heap.size ≤ gb378)); clear HB; have HB := n0_; have BK378 := n1_; have GW378 := n2_; have GE378 := n3_; clear n0_ n1_ n2_ n3_; clear hb hbox hg) | ((with_reducible refine gate_dst (N := 6) rfl ?_); refine box_event ?hg (N := 6) ?hd (cs := #[.slice none 0 0, .int .i64 0, .slice none 0 0]) (t := 30) ?hr ?_; (case hd => rfl); (case hg => rfl); (case hr => first | (go_simp; done) | (go_simp; rfl)); intro gb379 hg w7 hbox hb; have n0_ := Aside0.mk (blk_below (g := gb378) (o := .cells #[.slice A0_0 l0_0.length c0_0, .int .i64 a0_1, .slice A0_2 l0_2.length c0_2] 30 (0, 0)) (oK BK378) hb); have n1_ := Aside0.mk (below_step (oB HB) hb); have n2_ := Aside0.mk (hbox); have n3_ := Aside0.mk ((by rw [hg]; exact (below_size (oB HB)) : w.heap.size ≤ gb379)); have n4_ := Aside0.mk ((by rw [hg]; exact (below_size (oB HB)) : w.heap.size ≤ gb379)); have n5_ := Aside0.mk ((by rw [hg]; exact Nat.ne_of_lt (blk_lt (g := gb378) (o := .cells #[.slice A0_0 l0_0.length c0_0, .int .i64 a0_1, .slice A0_2 l0_2.length c0_2] 30 (0, 0)) (oK BK378)) : gb378 ≠ gb379)); have n6_ := Aside0.mk ((by rw [hg]; exact Nat.ne_of_gt (blk_lt (g := gb378) (o := .cells #[.slice A0_0 l0_0.length c0_0, .int .i64 a0_1, .slice A0_2 l0_2.length c0_2] 30 (0, 0)) (oK BK378)) : gb379 ≠ gb378)); clear BK378; clear HB; have BK378 := n0_; have HB := n1_; have BK379 := n2_; have GW379 := n3_; have GE379 := n4_; have NB378_379 := n5_; have NB379_378 := n6_; clear n0_ n1_ n2_ n3_ n4_ n5_ n6_; clear hb hbox hg; have hnb8 := NB378_379.out; have hnc8 := NB379_378.out; have hcz9_0 : w7.cell? ⟨gb378, 0, none⟩ = some (.slice A0_0 l0_0.length c0_0) := (blk_cell BK378.out 0).trans rfl; have hcz9_1 : w7.cell? ⟨gb378, 1, none⟩ = some (.int .i64 a0_1) := (blk_cell BK378.out 1).trans rfl; have hcz9_2 : w7.cell? ⟨gb378, 2, none⟩ = some (.slice A0_2 l0_2.length c0_2) := (blk_cell BK378.out 2).trans rfl; have hfz9_0 := blk_frozen BK378.out 0; have hfz9_1 := blk_frozen BK378.out 1; have hfz9_2 := blk_frozen BK378.out 2) | ((with_reducible refine gate_callee (f := 68) rfl ?_); refine goesL_ (some 10) rfl rfl Try.func68 (by kernel_rfl) rfl #[.agg #[.slice A0_0 l0_0.length c0_0, .int .i64 a0_1, .slice A0_2 l0_2.length c0_2]] rfl (by (try simp only [List.map_toArray, List.map_cons, List.map_nil]); first | done | rfl | (simp only [List.length_drop, List.length_take]; rfl)) ?_; (with_reducible refine (spec_l36Copy.calls _ _ l0_0 a0_1 _ _ l0_2 t380 t383 t384 _ ?side1 ?side2 ?side3 ?side4 A4.out).mono ?_); (case side1 => exact oc_ HR0_0.out); (case side2 => exact HC0_0.out); (case side3 => exact oc_ HR0_2.out); (case side4 => exact HC0_2.out); rintro e w10 ⟨v381, v385, rfl, ho0, ho1, hb⟩; refine ⟨_, rfl, ?_⟩; have n0_ := Aside0.mk (Kd.R_lower ho0 (below_size (oB HB))); have n1_ := Aside0.mk (Kd.R_lower ho1 (below_size (oB HB))); have n2_ := Aside0.mk (blk_below (g := gb378) (o := .cells #[.slice A0_0 l0_0.length c0_0, .int .i64 a0_1, .slice A0_2 l0_2.length c0_2] 30 (0, 0)) (oK BK378) hb); have n3_ := Aside0.mk (blk_below (g := gb379) (o := .cells #[.slice none 0 0, .int .i64 0, .slice none 0 0] 30 (0, 0)) (oK BK379) hb); have n4_ := Aside0.mk (below_step (oB HB) hb); clear BK378; clear BK379; clear HB; have HO382 := n0_; have HO386 := n1_; have BK378 := n2_; have BK379 := n3_; have HB := n4_; clear n0_ n1_ n2_ n3_ n4_; (try clear hb); (try clear hb2); (try clear hk); (try clear hi); (try clear ho0); (try clear ho1)) | ((with_reducible refine gate_dst (N := 8) rfl ?_); refine box_event ?hg (N := 8) ?hd (cs := #[.slice none 0 0, .int .i64 0, .slice none 0 0]) (t := 30) ?hr ?_; (case hd => rfl); (case hg => rfl); (case hr => first | (go_simp; done) | (go_simp; rfl)); intro gb387 hg w11 hbox hb; have n0_ := Aside0.mk (Kd.R_below (oR HO382) hb); have n1_ := Aside0.mk (Kd.R_below (oR HO386) hb); have n2_ := Aside0.mk (blk_below (g := gb378) (o := .cells #[.slice A0_0 l0_0.length c0_0, .int .i64 a0_1, .slice A0_2 l0_2.length c0_2] 30 (0, 0)) (oK BK378) hb); have n3_ := Aside0.mk (blk_below (g := gb379) (o := .cells #[.slice none 0 0, .int .i64 0, .slice none 0 0] 30 (0, 0)) (oK BK379) hb); have n4_ := Aside0.mk (below_step (oB HB) hb); have n5_ := Aside0.mk (hbox); have n6_ := Aside0.mk ((by rw [hg]; exact (below_size (oB HB)) : w.heap.size ≤ gb387)); have n7_ := Aside0.mk ((by rw [hg]; exact (below_size (oB HB)) : w.heap.size ≤ gb387)); have n8_ := Aside0.mk ((by rw [hg]; exact Nat.ne_of_lt (blk_lt (g := gb378) (o := .cells #[.slice A0_0 l0_0.length c0_0, .int .i64 a0_1, .slice A0_2 l0_2.length c0_2] 30 (0, 0)) (oK BK378)) : gb378 ≠ gb387)); have n9_ := Aside0.mk ((by rw [hg]; exact Nat.ne_of_gt (blk_lt (g := gb378) (o := .cells #[.slice A0_0 l0_0.length c0_0, .int .i64 a0_1, .slice A0_2 l0_2.length c0_2] 30 (0, 0)) (oK BK378)) : gb387 ≠ gb378)); have n10_ := Aside0.mk ((by rw [hg]; exact Nat.ne_of_lt (blk_lt (g := gb379) (o := .cells #[.slice none 0 0, .int .i64 0, .slice none 0 0] 30 (0, 0)) (oK BK379)) : gb379 ≠ gb387)); have n11_ := Aside0.mk ((by rw [hg]; exact Nat.ne_of_gt (blk_lt (g := gb379) (o := .cells #[.slice none 0 0, .int .i64 0, .slice none 0 0] 30 (0, 0)) (oK BK379)) : gb387 ≠ gb379)); clear HO382; clear HO386; clear BK378; clear BK379; clear HB; have HO382 := n0_; have HO386 := n1_; have BK378 := n2_; have BK379 := n3_; have HB := n4_; have BK387 := n5_; have GW387 := n6_; have GE387 := n7_; have NB378_387 := n8_; have NB387_378 := n9_; have NB379_387 := n10_; have NB387_379 := n11_; clear n0_ n1_ n2_ n3_ n4_ n5_ n6_ n7_ n8_ n9_ n10_ n11_; clear hb hbox hg; obtain ⟨Ao12, co12, eo12⟩ := Kd.R_slice HO382.out; subst eo12; have hnb13 := NB387_378.out; have hnc13 := NB378_387.out; have hnb14 := NB387_379.out; have hnc14 := NB379_387.out; have hcz15_0 : w11.cell? ⟨gb387, 0, none⟩ = some (.slice none 0 0) := (blk_cell BK387.out 0).trans rfl; have hcz15_1 : w11.cell? ⟨gb387, 1, none⟩ = some (.int .i64 0) := (blk_cell BK387.out 1).trans rfl; have hcz15_2 : w11.cell? ⟨gb387, 2, none⟩ = some (.slice none 0 0) := (blk_cell BK387.out 2).trans rfl; have hfz15_0 := blk_frozen BK387.out 0; have hfz15_1 := blk_frozen BK387.out 1; have hfz15_2 := blk_frozen BK387.out 2; obtain ⟨Ao16, co16, eo16⟩ := Kd.R_slice HO386.out; subst eo16))
  (try simp only [Act.put, List.setIfInBounds_toArray, List.set_cons_zero, List.set_cons_succ])
  go_cut [31] (fun v31 wc => ∃ (kq : Nat) (x31_4 : Bool), v31 = .bool x31_4 ∧ Aside0 (spec_KnockKey.j0 kq a1 a2 x31_4 l0_0 a0_1 l0_2 t380 t383 t384 = some (r1, r2, r3, r4)) ∧ Aside0 (kq ≤ k) ∧ Aside0 (Kd.R k67 67 wc w.heap.size (fun _ => True) (.slice Ao12 t380.length co12) t380) ∧ Aside0 (Kd.R (Kd.int .i64) 3 wc w.heap.size (fun _ => True) (.slice Ao16 t384.length co16) t384) ∧ Aside0 (wc.heap[gb378]? = some (.cells #[(.slice A0_0 l0_0.length c0_0), .int .i64 a0_1, (.slice A0_2 l0_2.length c0_2)] 30 (0, 0))) ∧ Aside0 (wc.heap[gb379]? = some (.cells #[(.slice none 0 0), .int .i64 0, (.slice none 0 0)] 30 (0, 0))) ∧ Aside0 (wc.heap[gb387]? = some (.cells #[(.slice Ao12 t380.length co12), .int .i64 t383, (.slice Ao16 t384.length co16)] 30 (0, 0))) ∧ Aside0 (Below w.heap.size w wc))
  case first =>
    have H := HC5.out
    clear HC5
    replace H := Option.bind_eq_some_iff.mp H
    obtain ⟨t388, A170, H⟩ := H
    (try dsimp only at H)
    have A17 := Aside0.mk A170
    clear A170
    by_cases c18 : t388 = true
    · subst c18
      rw [if_pos rfl] at H
      replace H := Option.bind_eq_some_iff.mp H
      obtain ⟨t389, A190, H⟩ := H
      (try dsimp only at H)
      have A19 := Aside0.mk A190
      clear A190
      by_cases c20 : t389 = true
      · subst c20
        rw [if_pos rfl] at H
        replace H := Option.bind_eq_some_iff.mp H
        obtain ⟨t390, A210, H⟩ := H
        (try dsimp only at H)
        have A21 := Aside0.mk A210
        clear A210
        by_cases c22 : t390 = true
        · subst c22
          rw [if_pos rfl] at H
          by_cases c23 : 0 ≤ a1
          · rw [if_pos c23] at H
            have c23b0 : decide (0 ≤ a1) = true := decide_eq_true c23
            clear c23
            (first | rw [c23b0] | (simp only [i64_w, i32_w]; rw [c23b0]) | skip)
            by_cases c24 : a1 < (l0_2.length : Int)
            · rw [if_pos c24] at H
              have c24b0 : decide (a1 < (l0_2.length : Int)) = true := decide_eq_true c24
              clear c24
              have H' := Aside0.mk H
              clear H
              have hnb25 := NB378_379.out
              have hnc25 := NB379_378.out
              have hnb26 := NB378_387.out
              have hnc26 := NB387_378.out
              have hcz27_0 : w11.cell? ⟨gb378, 0, none⟩ = some (.slice A0_0 l0_0.length c0_0) := (blk_cell BK378.out 0).trans rfl
              have hcz27_1 : w11.cell? ⟨gb378, 1, none⟩ = some (.int .i64 a0_1) := (blk_cell BK378.out 1).trans rfl
              have hcz27_2 : w11.cell? ⟨gb378, 2, none⟩ = some (.slice A0_2 l0_2.length c0_2) := (blk_cell BK378.out 2).trans rfl
              have hfz27_0 := blk_frozen BK378.out 0
              have hfz27_1 := blk_frozen BK378.out 1
              have hfz27_2 := blk_frozen BK378.out 2
              go_wp2_with (first | ((with_reducible refine gate_callee (f := 16) rfl ?_); refine goesL_ (some 12) rfl rfl Try.func16 (by kernel_rfl) rfl #[.agg #[.slice A0_0 l0_0.length c0_0, .int .i64 a0_1, .slice A0_2 l0_2.length c0_2]] rfl (by (try simp only [List.map_toArray, List.map_cons, List.map_nil]); first | done | rfl | (simp only [List.length_drop, List.length_take]; rfl)) ?_; (with_reducible refine (spec_WorkOk.calls k _ _ l0_0 a0_1 _ _ l0_2 true _ ?side1 ?side2 ?side3 ?side4 A17.out).mono ?_); (case side1 => exact Kd.C_below HR0_0.out (oB HB)); (case side2 => exact HC0_0.out); (case side3 => exact Kd.C_below HR0_2.out (oB HB)); (case side4 => exact HC0_2.out); rintro e w28 ⟨rfl, hb⟩; refine ⟨_, rfl, ?_⟩; have n0_ := Aside0.mk (Kd.R_below (by (with_reducible repeat (first | apply Kd.R_alloc | apply Kd.R_drewN | apply Kd.R_drew)); exact (Kd.R_mono (Kd.R_far (p := ⟨gb387, 2, none⟩) (Kd.R_far (p := ⟨gb387, 1, none⟩) (Kd.R_far (p := ⟨gb387, 0, none⟩) (Kd.R_types HO382.out BK387.out (by decide)) (fun _ hk => hk.2) (.slice Ao12 t380.length co12)) (fun _ hk => hk.2) (.int .i64 t383)) (fun _ hk => hk.2) (.slice Ao16 t384.length co16)) (fun _ h_ => h_.1))) hb); have n1_ := Aside0.mk (Kd.R_below (by (with_reducible repeat (first | apply Kd.R_alloc | apply Kd.R_drewN | apply Kd.R_drew)); exact (Kd.R_mono (Kd.R_far (p := ⟨gb387, 2, none⟩) (Kd.R_far (p := ⟨gb387, 1, none⟩) (Kd.R_far (p := ⟨gb387, 0, none⟩) (Kd.R_types HO386.out BK387.out (by decide)) (fun _ hk => hk.2) (.slice Ao12 t380.length co12)) (fun _ hk => hk.2) (.int .i64 t383)) (fun _ hk => hk.2) (.slice Ao16 t384.length co16)) (fun _ h_ => h_.1))) hb); have n2_ := Aside0.mk (blk_below (g := gb378) (o := .cells #[.slice A0_0 l0_0.length c0_0, .int .i64 a0_1, .slice A0_2 l0_2.length c0_2] 30 (0, 0)) (by (with_reducible repeat (first | refine blk_drewN ?_ _ | refine blk_drew ?_ | refine blk_alloc ?_ _)); refine blk_far ?_ NB378_387.out _; (with_reducible repeat (first | refine blk_drewN ?_ _ | refine blk_drew ?_ | refine blk_alloc ?_ _)); refine blk_far ?_ NB378_387.out _; (with_reducible repeat (first | refine blk_drewN ?_ _ | refine blk_drew ?_ | refine blk_alloc ?_ _)); refine blk_far ?_ NB378_387.out _; (with_reducible repeat (first | refine blk_drewN ?_ _ | refine blk_drew ?_ | refine blk_alloc ?_ _)); exact BK378.out) hb); have n3_ := Aside0.mk (blk_below (g := gb379) (o := .cells #[.slice none 0 0, .int .i64 0, .slice none 0 0] 30 (0, 0)) (by (with_reducible repeat (first | refine blk_drewN ?_ _ | refine blk_drew ?_ | refine blk_alloc ?_ _)); refine blk_far ?_ NB379_387.out _; (with_reducible repeat (first | refine blk_drewN ?_ _ | refine blk_drew ?_ | refine blk_alloc ?_ _)); refine blk_far ?_ NB379_387.out _; (with_reducible repeat (first | refine blk_drewN ?_ _ | refine blk_drew ?_ | refine blk_alloc ?_ _)); refine blk_far ?_ NB379_387.out _; (with_reducible repeat (first | refine blk_drewN ?_ _ | refine blk_drew ?_ | refine blk_alloc ?_ _)); exact BK379.out) hb); have n4_ := Aside0.mk (blk_below (g := gb387) (o := .cells #[.slice Ao12 t380.length co12, .int .i64 t383, .slice Ao16 t384.length co16] 30 (0, 0)) (by (with_reducible repeat (first | refine blk_drewN ?_ _ | refine blk_drew ?_ | refine blk_alloc ?_ _)); refine blk_put (cs := #[.slice Ao12 t380.length co12, .int .i64 t383, .slice none 0 0]) ?_ 2 _ rfl; (with_reducible repeat (first | refine blk_drewN ?_ _ | refine blk_drew ?_ | refine blk_alloc ?_ _)); refine blk_put (cs := #[.slice Ao12 t380.length co12, .int .i64 0, .slice none 0 0]) ?_ 1 _ rfl; (with_reducible repeat (first | refine blk_drewN ?_ _ | refine blk_drew ?_ | refine blk_alloc ?_ _)); refine blk_put (cs := #[.slice none 0 0, .int .i64 0, .slice none 0 0]) ?_ 0 _ rfl; (with_reducible repeat (first | refine blk_drewN ?_ _ | refine blk_drew ?_ | refine blk_alloc ?_ _)); exact BK387.out) hb); have n5_ := Aside0.mk (below_step (oB HB) hb); clear HO382; clear HO386; clear BK378; clear BK379; clear BK387; clear HB; have HO382 := n0_; have HO386 := n1_; have BK378 := n2_; have BK379 := n3_; have BK387 := n4_; have HB := n5_; clear n0_ n1_ n2_ n3_ n4_ n5_; (try clear hb); (try clear hb2); (try clear hk); (try clear hi)) | (go_at_call 55; (with_reducible refine (spec_l01In.calls a1 0 11 true _ A19.out).mono ?_); rintro e w' ⟨rfl, ⟨nd, rfl⟩⟩) | (go_at_call 55; (with_reducible refine (spec_l01In.calls a2 (-100000) 100000 true _ A21.out).mono ?_); rintro e w' ⟨rfl, ⟨nd, rfl⟩⟩; have hcz29_0 : w28.cell? ⟨gb378, 0, none⟩ = some (.slice A0_0 l0_0.length c0_0) := (blk_cell BK378.out 0).trans rfl; have hcz29_1 : w28.cell? ⟨gb378, 1, none⟩ = some (.int .i64 a0_1) := (blk_cell BK378.out 1).trans rfl; have hcz29_2 : w28.cell? ⟨gb378, 2, none⟩ = some (.slice A0_2 l0_2.length c0_2) := (blk_cell BK378.out 2).trans rfl; have hfz29_0 := blk_frozen BK378.out 0; have hfz29_1 := blk_frozen BK378.out 1; have hfz29_2 := blk_frozen BK378.out 2; have p391 : 0 ≤ (a1 : Int) := of_decide_eq_true (by first | (with_reducible assumption) | assumption); have q391 : a1 < (l0_2.length : Int) := of_decide_eq_true (by first | (with_reducible assumption) | assumption); obtain ⟨ad391, e391, hx391_0⟩ := Kd.at_int HR0_2.out a1 p391 q391; cases e391; replace hx391_0 := (HB.out.cell (World.block_lt_of_cell? w _ hx391_0)).trans hx391_0; replace p391 := eq_true p391; replace q391 := eq_true q391))
              go_meet
              case rel => exact ⟨_, (((rd l0_2 a1) == 0)), (by first | rfl | (simp; done) | (simp [*]; done)), H', ⟨by first | omega | exact Nat.le_refl _⟩, ⟨oR HO382⟩, ⟨oR HO386⟩, ⟨oK BK378⟩, ⟨oK BK379⟩, ⟨oK BK387⟩, ⟨oB HB⟩⟩
            · rw [if_neg c24] at H
              exact absurd H (by simp)
          · rw [if_neg c23] at H
            exact absurd H (by simp)
        · replace c22 := Bool.eq_false_iff.mpr c22
          subst c22
          rw [if_neg (show ¬ (false = true) by decide)] at H
          have H' := Aside0.mk H
          clear H
          have hnb30 := NB378_379.out
          have hnc30 := NB379_378.out
          have hnb31 := NB378_387.out
          have hnc31 := NB387_378.out
          have hcz32_0 : w11.cell? ⟨gb378, 0, none⟩ = some (.slice A0_0 l0_0.length c0_0) := (blk_cell BK378.out 0).trans rfl
          have hcz32_1 : w11.cell? ⟨gb378, 1, none⟩ = some (.int .i64 a0_1) := (blk_cell BK378.out 1).trans rfl
          have hcz32_2 : w11.cell? ⟨gb378, 2, none⟩ = some (.slice A0_2 l0_2.length c0_2) := (blk_cell BK378.out 2).trans rfl
          have hfz32_0 := blk_frozen BK378.out 0
          have hfz32_1 := blk_frozen BK378.out 1
          have hfz32_2 := blk_frozen BK378.out 2
          go_wp2_with (first | ((with_reducible refine gate_callee (f := 16) rfl ?_); refine goesL_ (some 12) rfl rfl Try.func16 (by kernel_rfl) rfl #[.agg #[.slice A0_0 l0_0.length c0_0, .int .i64 a0_1, .slice A0_2 l0_2.length c0_2]] rfl (by (try simp only [List.map_toArray, List.map_cons, List.map_nil]); first | done | rfl | (simp only [List.length_drop, List.length_take]; rfl)) ?_; (with_reducible refine (spec_WorkOk.calls k _ _ l0_0 a0_1 _ _ l0_2 true _ ?side1 ?side2 ?side3 ?side4 A17.out).mono ?_); (case side1 => exact Kd.C_below HR0_0.out (oB HB)); (case side2 => exact HC0_0.out); (case side3 => exact Kd.C_below HR0_2.out (oB HB)); (case side4 => exact HC0_2.out); rintro e w33 ⟨rfl, hb⟩; refine ⟨_, rfl, ?_⟩; have n0_ := Aside0.mk (Kd.R_below (by (with_reducible repeat (first | apply Kd.R_alloc | apply Kd.R_drewN | apply Kd.R_drew)); exact (Kd.R_mono (Kd.R_far (p := ⟨gb387, 2, none⟩) (Kd.R_far (p := ⟨gb387, 1, none⟩) (Kd.R_far (p := ⟨gb387, 0, none⟩) (Kd.R_types HO382.out BK387.out (by decide)) (fun _ hk => hk.2) (.slice Ao12 t380.length co12)) (fun _ hk => hk.2) (.int .i64 t383)) (fun _ hk => hk.2) (.slice Ao16 t384.length co16)) (fun _ h_ => h_.1))) hb); have n1_ := Aside0.mk (Kd.R_below (by (with_reducible repeat (first | apply Kd.R_alloc | apply Kd.R_drewN | apply Kd.R_drew)); exact (Kd.R_mono (Kd.R_far (p := ⟨gb387, 2, none⟩) (Kd.R_far (p := ⟨gb387, 1, none⟩) (Kd.R_far (p := ⟨gb387, 0, none⟩) (Kd.R_types HO386.out BK387.out (by decide)) (fun _ hk => hk.2) (.slice Ao12 t380.length co12)) (fun _ hk => hk.2) (.int .i64 t383)) (fun _ hk => hk.2) (.slice Ao16 t384.length co16)) (fun _ h_ => h_.1))) hb); have n2_ := Aside0.mk (blk_below (g := gb378) (o := .cells #[.slice A0_0 l0_0.length c0_0, .int .i64 a0_1, .slice A0_2 l0_2.length c0_2] 30 (0, 0)) (by (with_reducible repeat (first | refine blk_drewN ?_ _ | refine blk_drew ?_ | refine blk_alloc ?_ _)); refine blk_far ?_ NB378_387.out _; (with_reducible repeat (first | refine blk_drewN ?_ _ | refine blk_drew ?_ | refine blk_alloc ?_ _)); refine blk_far ?_ NB378_387.out _; (with_reducible repeat (first | refine blk_drewN ?_ _ | refine blk_drew ?_ | refine blk_alloc ?_ _)); refine blk_far ?_ NB378_387.out _; (with_reducible repeat (first | refine blk_drewN ?_ _ | refine blk_drew ?_ | refine blk_alloc ?_ _)); exact BK378.out) hb); have n3_ := Aside0.mk (blk_below (g := gb379) (o := .cells #[.slice none 0 0, .int .i64 0, .slice none 0 0] 30 (0, 0)) (by (with_reducible repeat (first | refine blk_drewN ?_ _ | refine blk_drew ?_ | refine blk_alloc ?_ _)); refine blk_far ?_ NB379_387.out _; (with_reducible repeat (first | refine blk_drewN ?_ _ | refine blk_drew ?_ | refine blk_alloc ?_ _)); refine blk_far ?_ NB379_387.out _; (with_reducible repeat (first | refine blk_drewN ?_ _ | refine blk_drew ?_ | refine blk_alloc ?_ _)); refine blk_far ?_ NB379_387.out _; (with_reducible repeat (first | refine blk_drewN ?_ _ | refine blk_drew ?_ | refine blk_alloc ?_ _)); exact BK379.out) hb); have n4_ := Aside0.mk (blk_below (g := gb387) (o := .cells #[.slice Ao12 t380.length co12, .int .i64 t383, .slice Ao16 t384.length co16] 30 (0, 0)) (by (with_reducible repeat (first | refine blk_drewN ?_ _ | refine blk_drew ?_ | refine blk_alloc ?_ _)); refine blk_put (cs := #[.slice Ao12 t380.length co12, .int .i64 t383, .slice none 0 0]) ?_ 2 _ rfl; (with_reducible repeat (first | refine blk_drewN ?_ _ | refine blk_drew ?_ | refine blk_alloc ?_ _)); refine blk_put (cs := #[.slice Ao12 t380.length co12, .int .i64 0, .slice none 0 0]) ?_ 1 _ rfl; (with_reducible repeat (first | refine blk_drewN ?_ _ | refine blk_drew ?_ | refine blk_alloc ?_ _)); refine blk_put (cs := #[.slice none 0 0, .int .i64 0, .slice none 0 0]) ?_ 0 _ rfl; (with_reducible repeat (first | refine blk_drewN ?_ _ | refine blk_drew ?_ | refine blk_alloc ?_ _)); exact BK387.out) hb); have n5_ := Aside0.mk (below_step (oB HB) hb); clear HO382; clear HO386; clear BK378; clear BK379; clear BK387; clear HB; have HO382 := n0_; have HO386 := n1_; have BK378 := n2_; have BK379 := n3_; have BK387 := n4_; have HB := n5_; clear n0_ n1_ n2_ n3_ n4_ n5_; (try clear hb); (try clear hb2); (try clear hk); (try clear hi)) | (go_at_call 55; (with_reducible refine (spec_l01In.calls a1 0 11 true _ A19.out).mono ?_); rintro e w' ⟨rfl, ⟨nd, rfl⟩⟩) | (go_at_call 55; (with_reducible refine (spec_l01In.calls a2 (-100000) 100000 false _ A21.out).mono ?_); rintro e w' ⟨rfl, ⟨nd, rfl⟩⟩))
          go_meet
          case rel => exact ⟨_, (true), (by first | rfl | (simp; done) | (simp [*]; done)), H', ⟨by first | omega | exact Nat.le_refl _⟩, ⟨oR HO382⟩, ⟨oR HO386⟩, ⟨oK BK378⟩, ⟨oK BK379⟩, ⟨oK BK387⟩, ⟨oB HB⟩⟩
      · replace c20 := Bool.eq_false_iff.mpr c20
        subst c20
        rw [if_neg (show ¬ (false = true) by decide)] at H
        have H' := Aside0.mk H
        clear H
        have hnb34 := NB378_379.out
        have hnc34 := NB379_378.out
        have hnb35 := NB378_387.out
        have hnc35 := NB387_378.out
        have hcz36_0 : w11.cell? ⟨gb378, 0, none⟩ = some (.slice A0_0 l0_0.length c0_0) := (blk_cell BK378.out 0).trans rfl
        have hcz36_1 : w11.cell? ⟨gb378, 1, none⟩ = some (.int .i64 a0_1) := (blk_cell BK378.out 1).trans rfl
        have hcz36_2 : w11.cell? ⟨gb378, 2, none⟩ = some (.slice A0_2 l0_2.length c0_2) := (blk_cell BK378.out 2).trans rfl
        have hfz36_0 := blk_frozen BK378.out 0
        have hfz36_1 := blk_frozen BK378.out 1
        have hfz36_2 := blk_frozen BK378.out 2
        go_wp2_with (first | ((with_reducible refine gate_callee (f := 16) rfl ?_); refine goesL_ (some 12) rfl rfl Try.func16 (by kernel_rfl) rfl #[.agg #[.slice A0_0 l0_0.length c0_0, .int .i64 a0_1, .slice A0_2 l0_2.length c0_2]] rfl (by (try simp only [List.map_toArray, List.map_cons, List.map_nil]); first | done | rfl | (simp only [List.length_drop, List.length_take]; rfl)) ?_; (with_reducible refine (spec_WorkOk.calls k _ _ l0_0 a0_1 _ _ l0_2 true _ ?side1 ?side2 ?side3 ?side4 A17.out).mono ?_); (case side1 => exact Kd.C_below HR0_0.out (oB HB)); (case side2 => exact HC0_0.out); (case side3 => exact Kd.C_below HR0_2.out (oB HB)); (case side4 => exact HC0_2.out); rintro e w37 ⟨rfl, hb⟩; refine ⟨_, rfl, ?_⟩; have n0_ := Aside0.mk (Kd.R_below (by (with_reducible repeat (first | apply Kd.R_alloc | apply Kd.R_drewN | apply Kd.R_drew)); exact (Kd.R_mono (Kd.R_far (p := ⟨gb387, 2, none⟩) (Kd.R_far (p := ⟨gb387, 1, none⟩) (Kd.R_far (p := ⟨gb387, 0, none⟩) (Kd.R_types HO382.out BK387.out (by decide)) (fun _ hk => hk.2) (.slice Ao12 t380.length co12)) (fun _ hk => hk.2) (.int .i64 t383)) (fun _ hk => hk.2) (.slice Ao16 t384.length co16)) (fun _ h_ => h_.1))) hb); have n1_ := Aside0.mk (Kd.R_below (by (with_reducible repeat (first | apply Kd.R_alloc | apply Kd.R_drewN | apply Kd.R_drew)); exact (Kd.R_mono (Kd.R_far (p := ⟨gb387, 2, none⟩) (Kd.R_far (p := ⟨gb387, 1, none⟩) (Kd.R_far (p := ⟨gb387, 0, none⟩) (Kd.R_types HO386.out BK387.out (by decide)) (fun _ hk => hk.2) (.slice Ao12 t380.length co12)) (fun _ hk => hk.2) (.int .i64 t383)) (fun _ hk => hk.2) (.slice Ao16 t384.length co16)) (fun _ h_ => h_.1))) hb); have n2_ := Aside0.mk (blk_below (g := gb378) (o := .cells #[.slice A0_0 l0_0.length c0_0, .int .i64 a0_1, .slice A0_2 l0_2.length c0_2] 30 (0, 0)) (by (with_reducible repeat (first | refine blk_drewN ?_ _ | refine blk_drew ?_ | refine blk_alloc ?_ _)); refine blk_far ?_ NB378_387.out _; (with_reducible repeat (first | refine blk_drewN ?_ _ | refine blk_drew ?_ | refine blk_alloc ?_ _)); refine blk_far ?_ NB378_387.out _; (with_reducible repeat (first | refine blk_drewN ?_ _ | refine blk_drew ?_ | refine blk_alloc ?_ _)); refine blk_far ?_ NB378_387.out _; (with_reducible repeat (first | refine blk_drewN ?_ _ | refine blk_drew ?_ | refine blk_alloc ?_ _)); exact BK378.out) hb); have n3_ := Aside0.mk (blk_below (g := gb379) (o := .cells #[.slice none 0 0, .int .i64 0, .slice none 0 0] 30 (0, 0)) (by (with_reducible repeat (first | refine blk_drewN ?_ _ | refine blk_drew ?_ | refine blk_alloc ?_ _)); refine blk_far ?_ NB379_387.out _; (with_reducible repeat (first | refine blk_drewN ?_ _ | refine blk_drew ?_ | refine blk_alloc ?_ _)); refine blk_far ?_ NB379_387.out _; (with_reducible repeat (first | refine blk_drewN ?_ _ | refine blk_drew ?_ | refine blk_alloc ?_ _)); refine blk_far ?_ NB379_387.out _; (with_reducible repeat (first | refine blk_drewN ?_ _ | refine blk_drew ?_ | refine blk_alloc ?_ _)); exact BK379.out) hb); have n4_ := Aside0.mk (blk_below (g := gb387) (o := .cells #[.slice Ao12 t380.length co12, .int .i64 t383, .slice Ao16 t384.length co16] 30 (0, 0)) (by (with_reducible repeat (first | refine blk_drewN ?_ _ | refine blk_drew ?_ | refine blk_alloc ?_ _)); refine blk_put (cs := #[.slice Ao12 t380.length co12, .int .i64 t383, .slice none 0 0]) ?_ 2 _ rfl; (with_reducible repeat (first | refine blk_drewN ?_ _ | refine blk_drew ?_ | refine blk_alloc ?_ _)); refine blk_put (cs := #[.slice Ao12 t380.length co12, .int .i64 0, .slice none 0 0]) ?_ 1 _ rfl; (with_reducible repeat (first | refine blk_drewN ?_ _ | refine blk_drew ?_ | refine blk_alloc ?_ _)); refine blk_put (cs := #[.slice none 0 0, .int .i64 0, .slice none 0 0]) ?_ 0 _ rfl; (with_reducible repeat (first | refine blk_drewN ?_ _ | refine blk_drew ?_ | refine blk_alloc ?_ _)); exact BK387.out) hb); have n5_ := Aside0.mk (below_step (oB HB) hb); clear HO382; clear HO386; clear BK378; clear BK379; clear BK387; clear HB; have HO382 := n0_; have HO386 := n1_; have BK378 := n2_; have BK379 := n3_; have BK387 := n4_; have HB := n5_; clear n0_ n1_ n2_ n3_ n4_ n5_; (try clear hb); (try clear hb2); (try clear hk); (try clear hi)) | (go_at_call 55; (with_reducible refine (spec_l01In.calls a1 0 11 false _ A19.out).mono ?_); rintro e w' ⟨rfl, ⟨nd, rfl⟩⟩))
        go_meet
        case rel => exact ⟨_, (true), (by first | rfl | (simp; done) | (simp [*]; done)), H', ⟨by first | omega | exact Nat.le_refl _⟩, ⟨oR HO382⟩, ⟨oR HO386⟩, ⟨oK BK378⟩, ⟨oK BK379⟩, ⟨oK BK387⟩, ⟨oB HB⟩⟩
    · replace c18 := Bool.eq_false_iff.mpr c18
      subst c18
      rw [if_neg (show ¬ (false = true) by decide)] at H
      have H' := Aside0.mk H
      clear H
      have hnb38 := NB378_379.out
      have hnc38 := NB379_378.out
      have hnb39 := NB378_387.out
      have hnc39 := NB387_378.out
      have hcz40_0 : w11.cell? ⟨gb378, 0, none⟩ = some (.slice A0_0 l0_0.length c0_0) := (blk_cell BK378.out 0).trans rfl
      have hcz40_1 : w11.cell? ⟨gb378, 1, none⟩ = some (.int .i64 a0_1) := (blk_cell BK378.out 1).trans rfl
      have hcz40_2 : w11.cell? ⟨gb378, 2, none⟩ = some (.slice A0_2 l0_2.length c0_2) := (blk_cell BK378.out 2).trans rfl
      have hfz40_0 := blk_frozen BK378.out 0
      have hfz40_1 := blk_frozen BK378.out 1
      have hfz40_2 := blk_frozen BK378.out 2
      go_wp2_with (first | ((with_reducible refine gate_callee (f := 16) rfl ?_); refine goesL_ (some 12) rfl rfl Try.func16 (by kernel_rfl) rfl #[.agg #[.slice A0_0 l0_0.length c0_0, .int .i64 a0_1, .slice A0_2 l0_2.length c0_2]] rfl (by (try simp only [List.map_toArray, List.map_cons, List.map_nil]); first | done | rfl | (simp only [List.length_drop, List.length_take]; rfl)) ?_; (with_reducible refine (spec_WorkOk.calls k _ _ l0_0 a0_1 _ _ l0_2 false _ ?side1 ?side2 ?side3 ?side4 A17.out).mono ?_); (case side1 => exact Kd.C_below HR0_0.out (oB HB)); (case side2 => exact HC0_0.out); (case side3 => exact Kd.C_below HR0_2.out (oB HB)); (case side4 => exact HC0_2.out); rintro e w41 ⟨rfl, hb⟩; refine ⟨_, rfl, ?_⟩; have n0_ := Aside0.mk (Kd.R_below (by (with_reducible repeat (first | apply Kd.R_alloc | apply Kd.R_drewN | apply Kd.R_drew)); exact (Kd.R_mono (Kd.R_far (p := ⟨gb387, 2, none⟩) (Kd.R_far (p := ⟨gb387, 1, none⟩) (Kd.R_far (p := ⟨gb387, 0, none⟩) (Kd.R_types HO382.out BK387.out (by decide)) (fun _ hk => hk.2) (.slice Ao12 t380.length co12)) (fun _ hk => hk.2) (.int .i64 t383)) (fun _ hk => hk.2) (.slice Ao16 t384.length co16)) (fun _ h_ => h_.1))) hb); have n1_ := Aside0.mk (Kd.R_below (by (with_reducible repeat (first | apply Kd.R_alloc | apply Kd.R_drewN | apply Kd.R_drew)); exact (Kd.R_mono (Kd.R_far (p := ⟨gb387, 2, none⟩) (Kd.R_far (p := ⟨gb387, 1, none⟩) (Kd.R_far (p := ⟨gb387, 0, none⟩) (Kd.R_types HO386.out BK387.out (by decide)) (fun _ hk => hk.2) (.slice Ao12 t380.length co12)) (fun _ hk => hk.2) (.int .i64 t383)) (fun _ hk => hk.2) (.slice Ao16 t384.length co16)) (fun _ h_ => h_.1))) hb); have n2_ := Aside0.mk (blk_below (g := gb378) (o := .cells #[.slice A0_0 l0_0.length c0_0, .int .i64 a0_1, .slice A0_2 l0_2.length c0_2] 30 (0, 0)) (by (with_reducible repeat (first | refine blk_drewN ?_ _ | refine blk_drew ?_ | refine blk_alloc ?_ _)); refine blk_far ?_ NB378_387.out _; (with_reducible repeat (first | refine blk_drewN ?_ _ | refine blk_drew ?_ | refine blk_alloc ?_ _)); refine blk_far ?_ NB378_387.out _; (with_reducible repeat (first | refine blk_drewN ?_ _ | refine blk_drew ?_ | refine blk_alloc ?_ _)); refine blk_far ?_ NB378_387.out _; (with_reducible repeat (first | refine blk_drewN ?_ _ | refine blk_drew ?_ | refine blk_alloc ?_ _)); exact BK378.out) hb); have n3_ := Aside0.mk (blk_below (g := gb379) (o := .cells #[.slice none 0 0, .int .i64 0, .slice none 0 0] 30 (0, 0)) (by (with_reducible repeat (first | refine blk_drewN ?_ _ | refine blk_drew ?_ | refine blk_alloc ?_ _)); refine blk_far ?_ NB379_387.out _; (with_reducible repeat (first | refine blk_drewN ?_ _ | refine blk_drew ?_ | refine blk_alloc ?_ _)); refine blk_far ?_ NB379_387.out _; (with_reducible repeat (first | refine blk_drewN ?_ _ | refine blk_drew ?_ | refine blk_alloc ?_ _)); refine blk_far ?_ NB379_387.out _; (with_reducible repeat (first | refine blk_drewN ?_ _ | refine blk_drew ?_ | refine blk_alloc ?_ _)); exact BK379.out) hb); have n4_ := Aside0.mk (blk_below (g := gb387) (o := .cells #[.slice Ao12 t380.length co12, .int .i64 t383, .slice Ao16 t384.length co16] 30 (0, 0)) (by (with_reducible repeat (first | refine blk_drewN ?_ _ | refine blk_drew ?_ | refine blk_alloc ?_ _)); refine blk_put (cs := #[.slice Ao12 t380.length co12, .int .i64 t383, .slice none 0 0]) ?_ 2 _ rfl; (with_reducible repeat (first | refine blk_drewN ?_ _ | refine blk_drew ?_ | refine blk_alloc ?_ _)); refine blk_put (cs := #[.slice Ao12 t380.length co12, .int .i64 0, .slice none 0 0]) ?_ 1 _ rfl; (with_reducible repeat (first | refine blk_drewN ?_ _ | refine blk_drew ?_ | refine blk_alloc ?_ _)); refine blk_put (cs := #[.slice none 0 0, .int .i64 0, .slice none 0 0]) ?_ 0 _ rfl; (with_reducible repeat (first | refine blk_drewN ?_ _ | refine blk_drew ?_ | refine blk_alloc ?_ _)); exact BK387.out) hb); have n5_ := Aside0.mk (below_step (oB HB) hb); clear HO382; clear HO386; clear BK378; clear BK379; clear BK387; clear HB; have HO382 := n0_; have HO386 := n1_; have BK378 := n2_; have BK379 := n3_; have BK387 := n4_; have HB := n5_; clear n0_ n1_ n2_ n3_ n4_ n5_; (try clear hb); (try clear hb2); (try clear hk); (try clear hi)))
      go_meet
      case rel => exact ⟨_, (true), (by first | rfl | (simp; done) | (simp [*]; done)), H', ⟨by first | omega | exact Nat.le_refl _⟩, ⟨oR HO382⟩, ⟨oR HO386⟩, ⟨oK BK378⟩, ⟨oK BK379⟩, ⟨oK BK387⟩, ⟨oB HB⟩⟩
  case rest =>
    clear HC5
    try clear c1
    try clear c2
    try clear p2
    try clear c3
    try clear p3
    try clear q3
    try clear hx3
    try clear c6
    try clear c8
    try clear c13
    try clear c14
    try clear c16
    try clear c18
    try clear c20
    try clear c22
    try clear c23
    try clear c23b0
    try clear c24
    try clear c24b0
    try clear c25
    try clear c26
    try clear c30
    try clear c31
    try clear c34
    try clear c35
    try clear c38
    try clear c39
    try clear p39
    try clear q39
    try clear hx39
    try clear hcz15_0
    try clear hcz15_1
    try clear hcz15_2
    try clear hcz27_0
    try clear hcz27_1
    try clear hcz27_2
    try clear hcz29_0
    try clear hcz29_1
    try clear hcz29_2
    try clear hcz32_0
    try clear hcz32_1
    try clear hcz32_2
    try clear hcz36_0
    try clear hcz36_1
    try clear hcz36_2
    try clear hcz40_0
    try clear hcz40_1
    try clear hcz40_2
    try clear hcz9_0
    try clear hcz9_1
    try clear hcz9_2
    try clear hfz15_0
    try clear hfz15_1
    try clear hfz15_2
    try clear hfz27_0
    try clear hfz27_1
    try clear hfz27_2
    try clear hfz29_0
    try clear hfz29_1
    try clear hfz29_2
    try clear hfz32_0
    try clear hfz32_1
    try clear hfz32_2
    try clear hfz36_0
    try clear hfz36_1
    try clear hfz36_2
    try clear hfz40_0
    try clear hfz40_1
    try clear hfz40_2
    try clear hfz9_0
    try clear hfz9_1
    try clear hfz9_2
    try clear hx391_0
    try clear p391
    try clear q391
    obtain ⟨kq, x31_4, rfl, HA, HJ4, HO_388000, HO_388002, BK378, BK379, BK387, HB⟩ := hcut
    cases kq with
    | zero => exact absurd HA.out (by simp [spec_KnockKey.j0])
    | succ kj4 =>
      have H := HA.out
      clear HA
      simp only [spec_KnockKey.j0] at H
      by_cases c42 : x31_4 = true
      · subst c42
        rw [if_pos rfl] at H
        simp only [Option.some.injEq, Prod.mk.injEq] at H
        obtain ⟨rfl, rfl, rfl, rfl⟩ := H
        have hnb43 := NB387_378.out
        have hnc43 := NB378_387.out
        have hnb44 := NB387_379.out
        have hnc44 := NB379_387.out
        have hcz45_0 : wc.cell? ⟨gb387, 0, none⟩ = some (.slice Ao12 t380.length co12) := (blk_cell BK387.out 0).trans rfl
        have hcz45_1 : wc.cell? ⟨gb387, 1, none⟩ = some (.int .i64 t383) := (blk_cell BK387.out 1).trans rfl
        have hcz45_2 : wc.cell? ⟨gb387, 2, none⟩ = some (.slice Ao16 t384.length co16) := (blk_cell BK387.out 2).trans rfl
        have hfz45_0 := blk_frozen BK387.out 0
        have hfz45_1 := blk_frozen BK387.out 1
        have hfz45_2 := blk_frozen BK387.out 2
        have hnb46 := NB379_378.out
        have hnc46 := NB378_379.out
        have hcz47_0 : wc.cell? ⟨gb379, 0, none⟩ = some (.slice none 0 0) := (blk_cell BK379.out 0).trans rfl
        have hcz47_1 : wc.cell? ⟨gb379, 1, none⟩ = some (.int .i64 0) := (blk_cell BK379.out 1).trans rfl
        have hcz47_2 : wc.cell? ⟨gb379, 2, none⟩ = some (.slice none 0 0) := (blk_cell BK379.out 2).trans rfl
        have hfz47_0 := blk_frozen BK379.out 0
        have hfz47_1 := blk_frozen BK379.out 1
        have hfz47_2 := blk_frozen BK379.out 2
        go_wp2
        refine bodyPost_ret (results_ct rfl _ _ gb379 30 #[.slice Ao12 t380.length co12, .int .i64 t383, .slice Ao16 t384.length co16] (0, 0) _ rfl (by (with_reducible repeat (first | refine blk_drewN ?_ _ | refine blk_drew ?_ | refine blk_alloc ?_ _)); refine blk_put (cs := #[.slice Ao12 t380.length co12, .int .i64 t383, .slice none 0 0]) ?_ 2 _ rfl; (with_reducible repeat (first | refine blk_drewN ?_ _ | refine blk_drew ?_ | refine blk_alloc ?_ _)); refine blk_put (cs := #[.slice Ao12 t380.length co12, .int .i64 0, .slice none 0 0]) ?_ 1 _ rfl; (with_reducible repeat (first | refine blk_drewN ?_ _ | refine blk_drew ?_ | refine blk_alloc ?_ _)); refine blk_put (cs := #[.slice none 0 0, .int .i64 0, .slice none 0 0]) ?_ 0 _ rfl; (with_reducible repeat (first | refine blk_drewN ?_ _ | refine blk_drew ?_ | refine blk_alloc ?_ _)); exact BK379.out) Try.underlying30 rfl (by kernel_rfl)) rfl ?_
        exact ⟨_, _, by first | rfl | (simp [errW_none, errW_some] <;> rfl) | (simp [*, errW_none, errW_some] <;> rfl), by (with_reducible repeat (first | apply Kd.R_alloc | apply Kd.R_drewN | apply Kd.R_drew)); exact Kd.R_mono (Kd.R_far (p := ⟨gb379, 2, none⟩) (Kd.R_far (p := ⟨gb379, 1, none⟩) (Kd.R_far (p := ⟨gb379, 0, none⟩) (Kd.R_types HO_388000.out BK379.out (by decide)) (fun _ hk => hk.2) (.slice Ao12 t380.length co12)) (fun _ hk => hk.2) (.int .i64 t383)) (fun _ hk => hk.2) (.slice Ao16 t384.length co16)) (fun _ hk => trivial), by (with_reducible repeat (first | apply Kd.R_alloc | apply Kd.R_drewN | apply Kd.R_drew)); exact Kd.R_mono (Kd.R_far (p := ⟨gb379, 2, none⟩) (Kd.R_far (p := ⟨gb379, 1, none⟩) (Kd.R_far (p := ⟨gb379, 0, none⟩) (Kd.R_types HO_388002.out BK379.out (by decide)) (fun _ hk => hk.2) (.slice Ao12 t380.length co12)) (fun _ hk => hk.2) (.int .i64 t383)) (fun _ hk => hk.2) (.slice Ao16 t384.length co16)) (fun _ hk => trivial), oB HB⟩
      · replace c42 := Bool.eq_false_iff.mpr c42
        subst c42
        rw [if_neg (show ¬ (false = true) by decide)] at H
        by_cases c48 : 0 ≤ a1
        · rw [if_pos c48] at H
          have c48b0 : decide (0 ≤ a1) = true := decide_eq_true c48
          clear c48
          by_cases c49 : a1 < (t384.length : Int)
          · rw [if_pos c49] at H
            have c49b0 : decide (a1 < (t384.length : Int)) = true := decide_eq_true c49
            clear c49
            obtain ⟨y393, hy393⟩ : ∃ y_ : List Int, y_ = (t384.set (a1 : Int).toNat (wrap64 ((rd t384 a1) + a2))) := ⟨_, rfl⟩
            replace H : ((spec_WorkOk.f kj4 t380 t383 y393).bind fun t394 => (if t394 = true then (some (t380, t383, y393, true)) else ((spec_l36Copy.f l0_0 a0_1 l0_2).bind fun bt395 => (some (bt395.1, bt395.2.1, bt395.2.2, false))))) = some (r1, r2, r3, r4) := by first | (rw [hy393]; with_reducible exact H) | (have H2_ := (Option.bind_some _ _).symm.trans H; rw [hy393]; with_reducible exact H2_) | (have H2_ := (Option.bind_some _ _).symm.trans H; with_reducible exact H2_) | with_reducible exact H | (rw [hy393]; exact H) | exact H
            have Ny393 := Aside0.mk hy393
            clear hy393
            replace H := Option.bind_eq_some_iff.mp H
            obtain ⟨t394, A510, H⟩ := H
            (try dsimp only at H)
            have A51 := Aside0.mk A510
            clear A510
            by_cases c52 : t394 = true
            · subst c52
              rw [if_pos rfl] at H
              simp only [Option.some.injEq, Prod.mk.injEq] at H
              obtain ⟨rfl, rfl, rfl, rfl⟩ := H
              try go_wp2
              have n0_ := Aside0.mk (Kd.R_drew HO_388000.out)
              have n1_ := Aside0.mk (Kd.R_drew HO_388002.out)
              have n2_ := Aside0.mk (blk_drew BK378.out)
              have n3_ := Aside0.mk (blk_drew BK379.out)
              have n4_ := Aside0.mk (blk_drew BK387.out)
              have n5_ := Aside0.mk (below_drew1 HB.out)
              clear HO_388000
              clear HO_388002
              clear BK378
              clear BK379
              clear BK387
              clear HB
              have HO_388000 := n0_
              have HO_388002 := n1_
              have BK378 := n2_
              have BK379 := n3_
              have BK387 := n4_
              have HB := n5_
              clear n0_ n1_ n2_ n3_ n4_ n5_
              have p392 : 0 ≤ (a1 : Int) := of_decide_eq_true (by first | (with_reducible assumption) | assumption)
              have q392 : a1 < (t384.length : Int) := of_decide_eq_true (by first | (with_reducible assumption) | assumption)
              obtain ⟨ad392, e392, hx392_0⟩ := Kd.at_int (Kd.R_reads' HO_388002.out).2.2 a1 p392 q392
              cases e392
              replace p392 := eq_true p392
              replace q392 := eq_true q392
              have p50 : 0 ≤ (a1 : Int) := of_decide_eq_true (by first | (with_reducible assumption) | assumption)
              have q50 : (a1 : Int) < ((t384.length : Int) : Int) := of_decide_eq_true (by first | (with_reducible assumption) | assumption)
              obtain ⟨go50, co50, eo50, gb50, gl50, cl50, HG50⟩ := Kd.R_form HO_388002.out (by omega)
              (first | cases eo50 | (injection eo50 with ea_ en_ ec_; (first | subst ea_ | (injection ea_ with ea_; subst ea_)); subst ec_; clear en_))
              have GB50 := Aside0.mk gb50
              have GG50 := Aside0.mk HG50
              clear gb50 gl50 HG50
              (first | simp only [add_plain] at hx392_0 | skip)
              obtain ⟨hx50_0, hf50_0⟩ := Kd.R_celln 0 HO_388002.out (a1 : Int) p50 q50
              replace p50 := eq_true p50
              replace q50 := eq_true q50
              have HP54 := Kd.R_putn HO_388002.out (a1 : Int) (wrap64 ((rd t384 a1) + a2))
              rw [← Ny393.out] at HP54
              have HQ54 := Aside0.mk HP54
              clear HP54
              refine start_ (n := 12) (S := fun w' => w'.cell? ⟨gb387, 0, none⟩ = some (.slice Ao12 t380.length co12) ∧ w'.cell? ⟨gb387, 1, none⟩ = some (.int .i64 t383) ∧ w'.cell? ⟨gb387, 2, none⟩ = some (.slice (some ⟨go50, 0, none⟩) t384.length co16) ∧ w'.cell? ⟨go50, (a1).toNat, none⟩ = some (.int .i64 (rd t384 a1))) (ds := [11]) #[false, false, false, false, false, false, false, false, false, false, false, false] (by kernel_rfl) rfl rfl ⟨(blk_cell BK387.out 0).trans rfl, (blk_cell BK387.out 1).trans rfl, (blk_cell BK387.out 2).trans rfl, hx392_0⟩ (fun hHeld => ?_); refine with_tabW spec_KnockKey.tab4 spec_KnockKey.bits4 (fun HT_ HW_ => ?_)
              generalize wc.drew = w53 at HO_388000 HO_388002 BK378 BK379 BK387 HB GG50 HQ54 hf50_0 hx392_0 hx50_0 hHeld ⊢
              refine pure_ (i := 0) (N := some 33) (v := ?_) (a' := ?_) #[true, false, false, false, false, false, false, false, false, false, false, false] rfl rfl (any_of HT_.out (by kernel_rfl)) (fun _ _ _ h => h) (Or.inl ⟨by rfl, ?_⟩) ?_ ?_
              rotate_left
              · intro w'
                go_simp
                with_reducible rfl
              rotate_left
              · simp only [Act.put, List.setIfInBounds_toArray, List.set_cons_zero, List.set_cons_succ, i64_w, i32_w]
                rfl
              refine pure_ (i := 2) (N := some 35) (v := ?_) (a' := ?_) #[true, false, true, false, false, false, false, false, false, false, false, false] rfl rfl (any_of HT_.out (by kernel_rfl)) (fun _ _ _ h => h) (Or.inl ⟨by rfl, ?_⟩) ?_ ?_
              rotate_left
              · intro w'
                go_simp
                with_reducible rfl
              rotate_left
              · simp only [Act.put, List.setIfInBounds_toArray, List.set_cons_zero, List.set_cons_succ, i64_w, i32_w]
                rfl
              refine pure_ (i := 3) (N := some 36) (v := ?_) (a' := ?_) #[true, false, true, true, false, false, false, false, false, false, false, false] rfl rfl (any_of HT_.out (by kernel_rfl)) (fun _ _ _ h => h) (Or.inl ⟨by rfl, ?_⟩) ?_ ?_
              rotate_left
              · intro w'
                go_simp
                with_reducible rfl
              rotate_left
              · simp only [Act.put, List.setIfInBounds_toArray, List.set_cons_zero, List.set_cons_succ, i64_w, i32_w]
                rfl
              refine pure_ (i := 5) (N := some 38) (v := ?_) (a' := ?_) #[true, false, true, true, false, true, false, false, false, false, false, false] rfl rfl (any_of HT_.out (by kernel_rfl)) (fun _ _ _ h => h) (Or.inl ⟨by rfl, ?_⟩) ?_ ?_
              rotate_left
              · intro w'
                go_simp
                with_reducible rfl
              rotate_left
              · simp only [Act.put, List.setIfInBounds_toArray, List.set_cons_zero, List.set_cons_succ, i64_w, i32_w]
                rfl
              refine pure_ (i := 8) (N := some 41) (v := ?_) (a' := ?_) #[true, false, true, true, false, true, false, false, true, false, false, false] rfl rfl (any_of HT_.out (by kernel_rfl)) (fun _ _ _ h => h) (Or.inl ⟨by rfl, ?_⟩) ?_ ?_
              rotate_left
              · intro w'
                go_simp
                with_reducible rfl
              rotate_left
              · simp only [Act.put, List.setIfInBounds_toArray, List.set_cons_zero, List.set_cons_succ, i64_w, i32_w]
                rfl
              refine take_ (i := 1) (N := some 34) (v := ?_) (a' := ?_) #[true, true, true, true, false, true, false, false, true, false, false, false] rfl rfl (take_ofW HT_.out HW_.out (by kernel_rfl)) (fun _ _ _ h => h) (Or.inl ⟨by rfl, ?_⟩) hHeld ?_ ?_
              rotate_left
              · rintro w' ⟨s0, s1, s2, s3⟩
                go_simp
                with_reducible rfl
              rotate_left
              · simp only [Act.put, List.setIfInBounds_toArray, List.set_cons_zero, List.set_cons_succ, i64_w, i32_w]
                rfl
              refine take_ (i := 4) (N := some 37) (v := ?_) (a' := ?_) #[true, true, true, true, true, true, false, false, true, false, false, false] rfl rfl (take_ofW HT_.out HW_.out (by kernel_rfl)) (fun _ _ _ h => h) (Or.inl ⟨by rfl, ?_⟩) hHeld ?_ ?_
              rotate_left
              · rintro w' ⟨s0, s1, s2, s3⟩
                go_simp
                with_reducible rfl
              rotate_left
              · simp only [Act.put, List.setIfInBounds_toArray, List.set_cons_zero, List.set_cons_succ, i64_w, i32_w]
                rfl
              refine pure_ (i := 6) (N := some 39) (v := ?_) (a' := ?_) #[true, true, true, true, true, true, true, false, true, false, false, false] rfl rfl (any_of HT_.out (by kernel_rfl)) (fun _ _ _ h => h) (Or.inl ⟨by rfl, ?_⟩) ?_ ?_
              rotate_left
              · intro w'
                go_simp
                with_reducible rfl
              rotate_left
              · simp only [Act.put, List.setIfInBounds_toArray, List.set_cons_zero, List.set_cons_succ, i64_w, i32_w]
                rfl
              refine take_ (i := 7) (N := some 40) (v := ?_) (a' := ?_) #[true, true, true, true, true, true, true, true, true, false, false, false] rfl rfl (take_ofW HT_.out HW_.out (by kernel_rfl)) (fun _ _ _ h => h) (Or.inl ⟨by rfl, ?_⟩) hHeld ?_ ?_
              rotate_left
              · rintro w' ⟨s0, s1, s2, s3⟩
                go_simp
                with_reducible rfl
              rotate_left
              · simp only [Act.put, List.setIfInBounds_toArray, List.set_cons_zero, List.set_cons_succ, i64_w, i32_w]
                rfl
              refine pure_ (i := 9) (N := some 42) (v := ?_) (a' := ?_) #[true, true, true, true, true, true, true, true, true, true, false, false] rfl rfl (any_of HT_.out (by kernel_rfl)) (fun _ _ _ h => h) (Or.inl ⟨by rfl, ?_⟩) ?_ ?_
              rotate_left
              · intro w'
                go_simp
                with_reducible rfl
              rotate_left
              · simp only [Act.put, List.setIfInBounds_toArray, List.set_cons_zero, List.set_cons_succ, i64_w, i32_w]
                rfl
              refine pure_ (i := 10) (N := some 43) (v := ?_) (a' := ?_) #[true, true, true, true, true, true, true, true, true, true, true, false] rfl rfl (any_of HT_.out (by kernel_rfl)) (fun _ _ _ h => h) (Or.inl ⟨by rfl, ?_⟩) ?_ ?_
              rotate_left
              · intro w'
                go_simp
                with_reducible rfl
              rotate_left
              · simp only [Act.put, List.setIfInBounds_toArray, List.set_cons_zero, List.set_cons_succ, i64_w, i32_w]
                rfl
              refine last_ (i := 11) (N := none) #[true, true, true, true, true, true, true, true, true, true, true, true] rfl rfl (one_of HT_.out (by kernel_rfl)) (by decide) (fun K hK => ?_)
              refine skip_ (w1 := ?_) (by rfl) rfl ?_ ?_
              rotate_left
              · go_simp
                rfl
              refine hK.out _ _ ?_
              clear hK K
              refine done_ (done_of HT_.out (by kernel_rfl)) ?_
              have n0_ : Aside0 (Kd.R k67 67 (w53.setCell ⟨go50, (a1 : Int).toNat, none⟩ (.int .i64 (wrap64 ((rd t384 a1) + a2)))) w.heap.size (fun _ => True) (.slice Ao12 t380.length co12) t380) := ⟨by (with_reducible repeat (first | apply Kd.R_alloc | apply Kd.R_drewN | apply Kd.R_drew)); exact Kd.R_mono (Kd.R_far (p := ⟨go50, (a1 : Int).toNat, none⟩) (Kd.R_types HO_388000.out GG50.out (by decide)) (fun _ hk => hk.2) (.int .i64 (wrap64 ((rd t384 a1) + a2)))) (fun _ hk => trivial)⟩
              have n1_ : Aside0 (Kd.R (Kd.int .i64) 3 (w53.setCell ⟨go50, (a1 : Int).toNat, none⟩ (.int .i64 (wrap64 ((rd t384 a1) + a2)))) w.heap.size (fun _ => True) (.slice (some ⟨go50, 0, none⟩) t384.length co16) y393) := ⟨by (with_reducible repeat (first | apply Kd.R_alloc | apply Kd.R_drewN | apply Kd.R_drew)); exact HQ54.out⟩
              have n2_ : Aside0 ((w53.setCell ⟨go50, (a1 : Int).toNat, none⟩ (.int .i64 (wrap64 ((rd t384 a1) + a2)))).heap[gb378]? = some (.cells #[.slice A0_0 l0_0.length c0_0, .int .i64 a0_1, .slice A0_2 l0_2.length c0_2] 30 (0, 0))) := ⟨by (with_reducible repeat (first | refine blk_drewN ?_ _ | refine blk_drew ?_ | refine blk_alloc ?_ _)); refine blk_far ?_ (by have h_ := Kd.R_ne HO_388002.out BK378.out (by decide); intro e_; exact h_ (by rw [e_]; rfl)) _; (with_reducible repeat (first | refine blk_drewN ?_ _ | refine blk_drew ?_ | refine blk_alloc ?_ _)); exact BK378.out⟩
              have n3_ : Aside0 ((w53.setCell ⟨go50, (a1 : Int).toNat, none⟩ (.int .i64 (wrap64 ((rd t384 a1) + a2)))).heap[gb379]? = some (.cells #[.slice none 0 0, .int .i64 0, .slice none 0 0] 30 (0, 0))) := ⟨by (with_reducible repeat (first | refine blk_drewN ?_ _ | refine blk_drew ?_ | refine blk_alloc ?_ _)); refine blk_far ?_ (by have h_ := Kd.R_ne HO_388002.out BK379.out (by decide); intro e_; exact h_ (by rw [e_]; rfl)) _; (with_reducible repeat (first | refine blk_drewN ?_ _ | refine blk_drew ?_ | refine blk_alloc ?_ _)); exact BK379.out⟩
              have n4_ : Aside0 ((w53.setCell ⟨go50, (a1 : Int).toNat, none⟩ (.int .i64 (wrap64 ((rd t384 a1) + a2)))).heap[gb387]? = some (.cells #[.slice Ao12 t380.length co12, .int .i64 t383, .slice (some ⟨go50, 0, none⟩) t384.length co16] 30 (0, 0))) := ⟨by (with_reducible repeat (first | refine blk_drewN ?_ _ | refine blk_drew ?_ | refine blk_alloc ?_ _)); refine blk_far ?_ (by have h_ := Kd.R_ne HO_388002.out BK387.out (by decide); intro e_; exact h_ (by rw [e_]; rfl)) _; (with_reducible repeat (first | refine blk_drewN ?_ _ | refine blk_drew ?_ | refine blk_alloc ?_ _)); exact BK387.out⟩
              have n5_ : Aside0 (Below w.heap.size w (w53.setCell ⟨go50, (a1 : Int).toNat, none⟩ (.int .i64 (wrap64 ((rd t384 a1) + a2))))) := ⟨oB HB⟩
              (try clear HO_388000)
              (try clear HO_388002)
              (try clear BK378)
              (try clear BK379)
              (try clear BK387)
              (try clear HB)
              generalize (w53.setCell ⟨go50, (a1 : Int).toNat, none⟩ (.int .i64 (wrap64 ((rd t384 a1) + a2)))) = w55 at n0_ n1_ n2_ n3_ n4_ n5_ ⊢
              have HO_388000 := n0_
              have HO_388002 := n1_
              have BK378 := n2_
              have BK379 := n3_
              have BK387 := n4_
              have HB := n5_
              clear n0_ n1_ n2_ n3_ n4_ n5_
              have hnb56 := NB387_378.out
              have hnc56 := NB378_387.out
              have hnb57 := NB387_379.out
              have hnc57 := NB379_387.out
              have hcz58_0 : w55.cell? ⟨gb387, 0, none⟩ = some (.slice Ao12 t380.length co12) := (blk_cell BK387.out 0).trans rfl
              have hcz58_1 : w55.cell? ⟨gb387, 1, none⟩ = some (.int .i64 t383) := (blk_cell BK387.out 1).trans rfl
              have hcz58_2 : w55.cell? ⟨gb387, 2, none⟩ = some (.slice (some ⟨go50, 0, none⟩) t384.length co16) := (blk_cell BK387.out 2).trans rfl
              have hfz58_0 := blk_frozen BK387.out 0
              have hfz58_1 := blk_frozen BK387.out 1
              have hfz58_2 := blk_frozen BK387.out 2
              try go_wp2_with (first | ((with_reducible refine gate_callee (f := 16) rfl ?_); refine goesL_ (some 45) rfl rfl Try.func16 (by kernel_rfl) rfl #[.agg #[.slice Ao12 t380.length co12, .int .i64 t383, .slice (some ⟨go50, 0, none⟩) y393.length co16]] rfl (by (try simp only [List.map_toArray, List.map_cons, List.map_nil]); first | done | (rw [show y393.length = t384.length from (Kd.R_reads' HO_388002.out).1.symm] <;> rfl) | rfl | (simp only [List.length_drop, List.length_take]; rfl)) ?_; (with_reducible refine (spec_WorkOk.calls kj4 _ _ t380 t383 _ _ y393 true _ ?side1 ?side2 ?side3 ?side4 A51.out).mono ?_); (case side1 => repeat (first | exact (Kd.R_reads' HO_388000.out).2.2 | (with_reducible refine Kd.C_alloc ?_ _) | (with_reducible refine Kd.C_drewN ?_ _) | (with_reducible refine Kd.C_drew ?_))); (case side2 => exact (Kd.R_reads' HO_388000.out).2.1); (case side3 => repeat (first | exact (Kd.R_reads' HO_388002.out).2.2 | (with_reducible refine Kd.C_alloc ?_ _) | (with_reducible refine Kd.C_drewN ?_ _) | (with_reducible refine Kd.C_drew ?_))); (case side4 => rw [show y393.length = t384.length from (Kd.R_reads' HO_388002.out).1.symm]; exact (Kd.R_reads' HO_388002.out).2.1); rintro e w59 ⟨rfl, hb⟩; refine ⟨_, rfl, ?_⟩; have n0_ := Aside0.mk (Kd.R_below (oR HO_388000) hb); have n1_ := Aside0.mk (Kd.R_below (oR HO_388002) hb); have n2_ := Aside0.mk (blk_below (g := gb378) (o := .cells #[.slice A0_0 l0_0.length c0_0, .int .i64 a0_1, .slice A0_2 l0_2.length c0_2] 30 (0, 0)) (oK BK378) hb); have n3_ := Aside0.mk (blk_below (g := gb379) (o := .cells #[.slice none 0 0, .int .i64 0, .slice none 0 0] 30 (0, 0)) (oK BK379) hb); have n4_ := Aside0.mk (blk_below (g := gb387) (o := .cells #[.slice Ao12 t380.length co12, .int .i64 t383, .slice (some ⟨go50, 0, none⟩) t384.length co16] 30 (0, 0)) (oK BK387) hb); have n5_ := Aside0.mk (below_step (oB HB) hb); clear HO_388000; clear HO_388002; clear BK378; clear BK379; clear BK387; clear HB; have HO_388000 := n0_; have HO_388002 := n1_; have BK378 := n2_; have BK379 := n3_; have BK387 := n4_; have HB := n5_; clear n0_ n1_ n2_ n3_ n4_ n5_; (try clear hb); (try clear hb2); (try clear hk); (try clear hi); have hcz60_0 : w59.cell? ⟨gb387, 0, none⟩ = some (.slice Ao12 t380.length co12) := (blk_cell BK387.out 0).trans rfl; have hcz60_1 : w59.cell? ⟨gb387, 1, none⟩ = some (.int .i64 t383) := (blk_cell BK387.out 1).trans rfl; have hcz60_2 : w59.cell? ⟨gb387, 2, none⟩ = some (.slice (some ⟨go50, 0, none⟩) t384.length co16) := (blk_cell BK387.out 2).trans rfl; have hfz60_0 := blk_frozen BK387.out 0; have hfz60_1 := blk_frozen BK387.out 1; have hfz60_2 := blk_frozen BK387.out 2; have hnb61 := NB379_378.out; have hnc61 := NB378_379.out; have hcz62_0 : w59.cell? ⟨gb379, 0, none⟩ = some (.slice none 0 0) := (blk_cell BK379.out 0).trans rfl; have hcz62_1 : w59.cell? ⟨gb379, 1, none⟩ = some (.int .i64 0) := (blk_cell BK379.out 1).trans rfl; have hcz62_2 : w59.cell? ⟨gb379, 2, none⟩ = some (.slice none 0 0) := (blk_cell BK379.out 2).trans rfl; have hfz62_0 := blk_frozen BK379.out 0; have hfz62_1 := blk_frozen BK379.out 1; have hfz62_2 := blk_frozen BK379.out 2))
              refine bodyPost_ret (results_ct rfl _ _ gb379 30 #[.slice Ao12 t380.length co12, .int .i64 t383, .slice (some ⟨go50, 0, none⟩) t384.length co16] (0, 0) _ rfl (by (with_reducible repeat (first | refine blk_drewN ?_ _ | refine blk_drew ?_ | refine blk_alloc ?_ _)); refine blk_put (cs := #[.slice Ao12 t380.length co12, .int .i64 t383, .slice none 0 0]) ?_ 2 _ rfl; (with_reducible repeat (first | refine blk_drewN ?_ _ | refine blk_drew ?_ | refine blk_alloc ?_ _)); refine blk_put (cs := #[.slice Ao12 t380.length co12, .int .i64 0, .slice none 0 0]) ?_ 1 _ rfl; (with_reducible repeat (first | refine blk_drewN ?_ _ | refine blk_drew ?_ | refine blk_alloc ?_ _)); refine blk_put (cs := #[.slice none 0 0, .int .i64 0, .slice none 0 0]) ?_ 0 _ rfl; (with_reducible repeat (first | refine blk_drewN ?_ _ | refine blk_drew ?_ | refine blk_alloc ?_ _)); exact BK379.out) Try.underlying30 rfl (by kernel_rfl)) rfl ?_
              exact ⟨_, _, by first | rfl | (simp [errW_none, errW_some] <;> rfl) | (simp [*, errW_none, errW_some] <;> rfl), by (with_reducible repeat (first | apply Kd.R_alloc | apply Kd.R_drewN | apply Kd.R_drew)); exact Kd.R_mono (Kd.R_far (p := ⟨gb379, 2, none⟩) (Kd.R_far (p := ⟨gb379, 1, none⟩) (Kd.R_far (p := ⟨gb379, 0, none⟩) (Kd.R_types HO_388000.out BK379.out (by decide)) (fun _ hk => hk.2) (.slice Ao12 t380.length co12)) (fun _ hk => hk.2) (.int .i64 t383)) (fun _ hk => hk.2) (.slice (some ⟨go50, 0, none⟩) t384.length co16)) (fun _ hk => trivial), by (with_reducible repeat (first | apply Kd.R_alloc | apply Kd.R_drewN | apply Kd.R_drew)); exact Kd.R_mono (Kd.R_far (p := ⟨gb379, 2, none⟩) (Kd.R_far (p := ⟨gb379, 1, none⟩) (Kd.R_far (p := ⟨gb379, 0, none⟩) (Kd.R_types HO_388002.out BK379.out (by decide)) (fun _ hk => hk.2) (.slice Ao12 t380.length co12)) (fun _ hk => hk.2) (.int .i64 t383)) (fun _ hk => hk.2) (.slice (some ⟨go50, 0, none⟩) t384.length co16)) (fun _ hk => trivial), oB HB⟩
            · replace c52 := Bool.eq_false_iff.mpr c52
              subst c52
              rw [if_neg (show ¬ (false = true) by decide)] at H
              replace H := Option.bind_eq_some_iff.mp H
              obtain ⟨⟨t395, t398, t399⟩, A630, H⟩ := H
              (try dsimp only at H)
              have A63 := Aside0.mk A630
              clear A630
              simp only [Option.some.injEq, Prod.mk.injEq] at H
              obtain ⟨rfl, rfl, rfl, rfl⟩ := H
              try go_wp2
              have n0_ := Aside0.mk (Kd.R_drew HO_388000.out)
              have n1_ := Aside0.mk (Kd.R_drew HO_388002.out)
              have n2_ := Aside0.mk (blk_drew BK378.out)
              have n3_ := Aside0.mk (blk_drew BK379.out)
              have n4_ := Aside0.mk (blk_drew BK387.out)
              have n5_ := Aside0.mk (below_drew1 HB.out)
              clear HO_388000
              clear HO_388002
              clear BK378
              clear BK379
              clear BK387
              clear HB
              have HO_388000 := n0_
              have HO_388002 := n1_
              have BK378 := n2_
              have BK379 := n3_
              have BK387 := n4_
              have HB := n5_
              clear n0_ n1_ n2_ n3_ n4_ n5_
              have p392 : 0 ≤ (a1 : Int) := of_decide_eq_true (by first | (with_reducible assumption) | assumption)
              have q392 : a1 < (t384.length : Int) := of_decide_eq_true (by first | (with_reducible assumption) | assumption)
              obtain ⟨ad392, e392, hx392_0⟩ := Kd.at_int (Kd.R_reads' HO_388002.out).2.2 a1 p392 q392
              cases e392
              replace p392 := eq_true p392
              replace q392 := eq_true q392
              have p50 : 0 ≤ (a1 : Int) := of_decide_eq_true (by first | (with_reducible assumption) | assumption)
              have q50 : (a1 : Int) < ((t384.length : Int) : Int) := of_decide_eq_true (by first | (with_reducible assumption) | assumption)
              obtain ⟨go50, co50, eo50, gb50, gl50, cl50, HG50⟩ := Kd.R_form HO_388002.out (by omega)
              (first | cases eo50 | (injection eo50 with ea_ en_ ec_; (first | subst ea_ | (injection ea_ with ea_; subst ea_)); subst ec_; clear en_))
              have GB50 := Aside0.mk gb50
              have GG50 := Aside0.mk HG50
              clear gb50 gl50 HG50
              (first | simp only [add_plain] at hx392_0 | skip)
              obtain ⟨hx50_0, hf50_0⟩ := Kd.R_celln 0 HO_388002.out (a1 : Int) p50 q50
              replace p50 := eq_true p50
              replace q50 := eq_true q50
              have HP65 := Kd.R_putn HO_388002.out (a1 : Int) (wrap64 ((rd t384 a1) + a2))
              rw [← Ny393.out] at HP65
              have HQ65 := Aside0.mk HP65
              clear HP65
              refine start_ (n := 12) (S := fun w' => w'.cell? ⟨gb387, 0, none⟩ = some (.slice Ao12 t380.length co12) ∧ w'.cell? ⟨gb387, 1, none⟩ = some (.int .i64 t383) ∧ w'.cell? ⟨gb387, 2, none⟩ = some (.slice (some ⟨go50, 0, none⟩) t384.length co16) ∧ w'.cell? ⟨go50, (a1).toNat, none⟩ = some (.int .i64 (rd t384 a1))) (ds := [11]) #[false, false, false, false, false, false, false, false, false, false, false, false] (by kernel_rfl) rfl rfl ⟨(blk_cell BK387.out 0).trans rfl, (blk_cell BK387.out 1).trans rfl, (blk_cell BK387.out 2).trans rfl, hx392_0⟩ (fun hHeld => ?_); refine with_tabW spec_KnockKey.tab4 spec_KnockKey.bits4 (fun HT_ HW_ => ?_)
              generalize wc.drew = w64 at HO_388000 HO_388002 BK378 BK379 BK387 HB GG50 HQ65 hf50_0 hx392_0 hx50_0 hHeld ⊢
              refine pure_ (i := 0) (N := some 33) (v := ?_) (a' := ?_) #[true, false, false, false, false, false, false, false, false, false, false, false] rfl rfl (any_of HT_.out (by kernel_rfl)) (fun _ _ _ h => h) (Or.inl ⟨by rfl, ?_⟩) ?_ ?_
              rotate_left
              · intro w'
                go_simp
                with_reducible rfl
              rotate_left
              · simp only [Act.put, List.setIfInBounds_toArray, List.set_cons_zero, List.set_cons_succ, i64_w, i32_w]
                rfl
              refine pure_ (i := 2) (N := some 35) (v := ?_) (a' := ?_) #[true, false, true, false, false, false, false, false, false, false, false, false] rfl rfl (any_of HT_.out (by kernel_rfl)) (fun _ _ _ h => h) (Or.inl ⟨by rfl, ?_⟩) ?_ ?_
              rotate_left
              · intro w'
                go_simp
                with_reducible rfl
              rotate_left
              · simp only [Act.put, List.setIfInBounds_toArray, List.set_cons_zero, List.set_cons_succ, i64_w, i32_w]
                rfl
              refine pure_ (i := 3) (N := some 36) (v := ?_) (a' := ?_) #[true, false, true, true, false, false, false, false, false, false, false, false] rfl rfl (any_of HT_.out (by kernel_rfl)) (fun _ _ _ h => h) (Or.inl ⟨by rfl, ?_⟩) ?_ ?_
              rotate_left
              · intro w'
                go_simp
                with_reducible rfl
              rotate_left
              · simp only [Act.put, List.setIfInBounds_toArray, List.set_cons_zero, List.set_cons_succ, i64_w, i32_w]
                rfl
              refine pure_ (i := 5) (N := some 38) (v := ?_) (a' := ?_) #[true, false, true, true, false, true, false, false, false, false, false, false] rfl rfl (any_of HT_.out (by kernel_rfl)) (fun _ _ _ h => h) (Or.inl ⟨by rfl, ?_⟩) ?_ ?_
              rotate_left
              · intro w'
                go_simp
                with_reducible rfl
              rotate_left
              · simp only [Act.put, List.setIfInBounds_toArray, List.set_cons_zero, List.set_cons_succ, i64_w, i32_w]
                rfl
              refine pure_ (i := 8) (N := some 41) (v := ?_) (a' := ?_) #[true, false, true, true, false, true, false, false, true, false, false, false] rfl rfl (any_of HT_.out (by kernel_rfl)) (fun _ _ _ h => h) (Or.inl ⟨by rfl, ?_⟩) ?_ ?_
              rotate_left
              · intro w'
                go_simp
                with_reducible rfl
              rotate_left
              · simp only [Act.put, List.setIfInBounds_toArray, List.set_cons_zero, List.set_cons_succ, i64_w, i32_w]
                rfl
              refine take_ (i := 1) (N := some 34) (v := ?_) (a' := ?_) #[true, true, true, true, false, true, false, false, true, false, false, false] rfl rfl (take_ofW HT_.out HW_.out (by kernel_rfl)) (fun _ _ _ h => h) (Or.inl ⟨by rfl, ?_⟩) hHeld ?_ ?_
              rotate_left
              · rintro w' ⟨s0, s1, s2, s3⟩
                go_simp
                with_reducible rfl
              rotate_left
              · simp only [Act.put, List.setIfInBounds_toArray, List.set_cons_zero, List.set_cons_succ, i64_w, i32_w]
                rfl
              refine take_ (i := 4) (N := some 37) (v := ?_) (a' := ?_) #[true, true, true, true, true, true, false, false, true, false, false, false] rfl rfl (take_ofW HT_.out HW_.out (by kernel_rfl)) (fun _ _ _ h => h) (Or.inl ⟨by rfl, ?_⟩) hHeld ?_ ?_
              rotate_left
              · rintro w' ⟨s0, s1, s2, s3⟩
                go_simp
                with_reducible rfl
              rotate_left
              · simp only [Act.put, List.setIfInBounds_toArray, List.set_cons_zero, List.set_cons_succ, i64_w, i32_w]
                rfl
              refine pure_ (i := 6) (N := some 39) (v := ?_) (a' := ?_) #[true, true, true, true, true, true, true, false, true, false, false, false] rfl rfl (any_of HT_.out (by kernel_rfl)) (fun _ _ _ h => h) (Or.inl ⟨by rfl, ?_⟩) ?_ ?_
              rotate_left
              · intro w'
                go_simp
                with_reducible rfl
              rotate_left
              · simp only [Act.put, List.setIfInBounds_toArray, List.set_cons_zero, List.set_cons_succ, i64_w, i32_w]
                rfl
              refine take_ (i := 7) (N := some 40) (v := ?_) (a' := ?_) #[true, true, true, true, true, true, true, true, true, false, false, false] rfl rfl (take_ofW HT_.out HW_.out (by kernel_rfl)) (fun _ _ _ h => h) (Or.inl ⟨by rfl, ?_⟩) hHeld ?_ ?_
              rotate_left
              · rintro w' ⟨s0, s1, s2, s3⟩
                go_simp
                with_reducible rfl
              rotate_left
              · simp only [Act.put, List.setIfInBounds_toArray, List.set_cons_zero, List.set_cons_succ, i64_w, i32_w]
                rfl
              refine pure_ (i := 9) (N := some 42) (v := ?_) (a' := ?_) #[true, true, true, true, true, true, true, true, true, true, false, false] rfl rfl (any_of HT_.out (by kernel_rfl)) (fun _ _ _ h => h) (Or.inl ⟨by rfl, ?_⟩) ?_ ?_
              rotate_left
              · intro w'
                go_simp
                with_reducible rfl
              rotate_left
              · simp only [Act.put, List.setIfInBounds_toArray, List.set_cons_zero, List.set_cons_succ, i64_w, i32_w]
                rfl
              refine pure_ (i := 10) (N := some 43) (v := ?_) (a' := ?_) #[true, true, true, true, true, true, true, true, true, true, true, false] rfl rfl (any_of HT_.out (by kernel_rfl)) (fun _ _ _ h => h) (Or.inl ⟨by rfl, ?_⟩) ?_ ?_
              rotate_left
              · intro w'
                go_simp
                with_reducible rfl
              rotate_left
              · simp only [Act.put, List.setIfInBounds_toArray, List.set_cons_zero, List.set_cons_succ, i64_w, i32_w]
                rfl
              refine last_ (i := 11) (N := none) #[true, true, true, true, true, true, true, true, true, true, true, true] rfl rfl (one_of HT_.out (by kernel_rfl)) (by decide) (fun K hK => ?_)
              refine skip_ (w1 := ?_) (by rfl) rfl ?_ ?_
              rotate_left
              · go_simp
                rfl
              refine hK.out _ _ ?_
              clear hK K
              refine done_ (done_of HT_.out (by kernel_rfl)) ?_
              have n0_ : Aside0 (Kd.R k67 67 (w64.setCell ⟨go50, (a1 : Int).toNat, none⟩ (.int .i64 (wrap64 ((rd t384 a1) + a2)))) w.heap.size (fun _ => True) (.slice Ao12 t380.length co12) t380) := ⟨by (with_reducible repeat (first | apply Kd.R_alloc | apply Kd.R_drewN | apply Kd.R_drew)); exact Kd.R_mono (Kd.R_far (p := ⟨go50, (a1 : Int).toNat, none⟩) (Kd.R_types HO_388000.out GG50.out (by decide)) (fun _ hk => hk.2) (.int .i64 (wrap64 ((rd t384 a1) + a2)))) (fun _ hk => trivial)⟩
              have n1_ : Aside0 (Kd.R (Kd.int .i64) 3 (w64.setCell ⟨go50, (a1 : Int).toNat, none⟩ (.int .i64 (wrap64 ((rd t384 a1) + a2)))) w.heap.size (fun _ => True) (.slice (some ⟨go50, 0, none⟩) t384.length co16) y393) := ⟨by (with_reducible repeat (first | apply Kd.R_alloc | apply Kd.R_drewN | apply Kd.R_drew)); exact HQ65.out⟩
              have n2_ : Aside0 ((w64.setCell ⟨go50, (a1 : Int).toNat, none⟩ (.int .i64 (wrap64 ((rd t384 a1) + a2)))).heap[gb378]? = some (.cells #[.slice A0_0 l0_0.length c0_0, .int .i64 a0_1, .slice A0_2 l0_2.length c0_2] 30 (0, 0))) := ⟨by (with_reducible repeat (first | refine blk_drewN ?_ _ | refine blk_drew ?_ | refine blk_alloc ?_ _)); refine blk_far ?_ (by have h_ := Kd.R_ne HO_388002.out BK378.out (by decide); intro e_; exact h_ (by rw [e_]; rfl)) _; (with_reducible repeat (first | refine blk_drewN ?_ _ | refine blk_drew ?_ | refine blk_alloc ?_ _)); exact BK378.out⟩
              have n3_ : Aside0 ((w64.setCell ⟨go50, (a1 : Int).toNat, none⟩ (.int .i64 (wrap64 ((rd t384 a1) + a2)))).heap[gb379]? = some (.cells #[.slice none 0 0, .int .i64 0, .slice none 0 0] 30 (0, 0))) := ⟨by (with_reducible repeat (first | refine blk_drewN ?_ _ | refine blk_drew ?_ | refine blk_alloc ?_ _)); refine blk_far ?_ (by have h_ := Kd.R_ne HO_388002.out BK379.out (by decide); intro e_; exact h_ (by rw [e_]; rfl)) _; (with_reducible repeat (first | refine blk_drewN ?_ _ | refine blk_drew ?_ | refine blk_alloc ?_ _)); exact BK379.out⟩
              have n4_ : Aside0 ((w64.setCell ⟨go50, (a1 : Int).toNat, none⟩ (.int .i64 (wrap64 ((rd t384 a1) + a2)))).heap[gb387]? = some (.cells #[.slice Ao12 t380.length co12, .int .i64 t383, .slice (some ⟨go50, 0, none⟩) t384.length co16] 30 (0, 0))) := ⟨by (with_reducible repeat (first | refine blk_drewN ?_ _ | refine blk_drew ?_ | refine blk_alloc ?_ _)); refine blk_far ?_ (by have h_ := Kd.R_ne HO_388002.out BK387.out (by decide); intro e_; exact h_ (by rw [e_]; rfl)) _; (with_reducible repeat (first | refine blk_drewN ?_ _ | refine blk_drew ?_ | refine blk_alloc ?_ _)); exact BK387.out⟩
              have n5_ : Aside0 (Below w.heap.size w (w64.setCell ⟨go50, (a1 : Int).toNat, none⟩ (.int .i64 (wrap64 ((rd t384 a1) + a2))))) := ⟨oB HB⟩
              (try clear HO_388000)
              (try clear HO_388002)
              (try clear BK378)
              (try clear BK379)
              (try clear BK387)
              (try clear HB)
              generalize (w64.setCell ⟨go50, (a1 : Int).toNat, none⟩ (.int .i64 (wrap64 ((rd t384 a1) + a2)))) = w66 at n0_ n1_ n2_ n3_ n4_ n5_ ⊢
              have HO_388000 := n0_
              have HO_388002 := n1_
              have BK378 := n2_
              have BK379 := n3_
              have BK387 := n4_
              have HB := n5_
              clear n0_ n1_ n2_ n3_ n4_ n5_
              have hnb67 := NB387_378.out
              have hnc67 := NB378_387.out
              have hnb68 := NB387_379.out
              have hnc68 := NB379_387.out
              have hcz69_0 : w66.cell? ⟨gb387, 0, none⟩ = some (.slice Ao12 t380.length co12) := (blk_cell BK387.out 0).trans rfl
              have hcz69_1 : w66.cell? ⟨gb387, 1, none⟩ = some (.int .i64 t383) := (blk_cell BK387.out 1).trans rfl
              have hcz69_2 : w66.cell? ⟨gb387, 2, none⟩ = some (.slice (some ⟨go50, 0, none⟩) t384.length co16) := (blk_cell BK387.out 2).trans rfl
              have hfz69_0 := blk_frozen BK387.out 0
              have hfz69_1 := blk_frozen BK387.out 1
              have hfz69_2 := blk_frozen BK387.out 2
              try go_wp2_with (first | ((with_reducible refine gate_callee (f := 16) rfl ?_); refine goesL_ (some 45) rfl rfl Try.func16 (by kernel_rfl) rfl #[.agg #[.slice Ao12 t380.length co12, .int .i64 t383, .slice (some ⟨go50, 0, none⟩) y393.length co16]] rfl (by (try simp only [List.map_toArray, List.map_cons, List.map_nil]); first | done | (rw [show y393.length = t384.length from (Kd.R_reads' HO_388002.out).1.symm] <;> rfl) | rfl | (simp only [List.length_drop, List.length_take]; rfl)) ?_; (with_reducible refine (spec_WorkOk.calls kj4 _ _ t380 t383 _ _ y393 false _ ?side1 ?side2 ?side3 ?side4 A51.out).mono ?_); (case side1 => repeat (first | exact (Kd.R_reads' HO_388000.out).2.2 | (with_reducible refine Kd.C_alloc ?_ _) | (with_reducible refine Kd.C_drewN ?_ _) | (with_reducible refine Kd.C_drew ?_))); (case side2 => exact (Kd.R_reads' HO_388000.out).2.1); (case side3 => repeat (first | exact (Kd.R_reads' HO_388002.out).2.2 | (with_reducible refine Kd.C_alloc ?_ _) | (with_reducible refine Kd.C_drewN ?_ _) | (with_reducible refine Kd.C_drew ?_))); (case side4 => rw [show y393.length = t384.length from (Kd.R_reads' HO_388002.out).1.symm]; exact (Kd.R_reads' HO_388002.out).2.1); rintro e w70 ⟨rfl, hb⟩; refine ⟨_, rfl, ?_⟩; have n0_ := Aside0.mk (Kd.R_below (oR HO_388000) hb); have n1_ := Aside0.mk (Kd.R_below (oR HO_388002) hb); have n2_ := Aside0.mk (blk_below (g := gb378) (o := .cells #[.slice A0_0 l0_0.length c0_0, .int .i64 a0_1, .slice A0_2 l0_2.length c0_2] 30 (0, 0)) (oK BK378) hb); have n3_ := Aside0.mk (blk_below (g := gb379) (o := .cells #[.slice none 0 0, .int .i64 0, .slice none 0 0] 30 (0, 0)) (oK BK379) hb); have n4_ := Aside0.mk (blk_below (g := gb387) (o := .cells #[.slice Ao12 t380.length co12, .int .i64 t383, .slice (some ⟨go50, 0, none⟩) t384.length co16] 30 (0, 0)) (oK BK387) hb); have n5_ := Aside0.mk (below_step (oB HB) hb); clear HO_388000; clear HO_388002; clear BK378; clear BK379; clear BK387; clear HB; have HO_388000 := n0_; have HO_388002 := n1_; have BK378 := n2_; have BK379 := n3_; have BK387 := n4_; have HB := n5_; clear n0_ n1_ n2_ n3_ n4_ n5_; (try clear hb); (try clear hb2); (try clear hk); (try clear hi); have hnb71 := NB378_379.out; have hnc71 := NB379_378.out; have hcz72_0 : w70.cell? ⟨gb378, 0, none⟩ = some (.slice A0_0 l0_0.length c0_0) := (blk_cell BK378.out 0).trans rfl; have hcz72_1 : w70.cell? ⟨gb378, 1, none⟩ = some (.int .i64 a0_1) := (blk_cell BK378.out 1).trans rfl; have hcz72_2 : w70.cell? ⟨gb378, 2, none⟩ = some (.slice A0_2 l0_2.length c0_2) := (blk_cell BK378.out 2).trans rfl; have hfz72_0 := blk_frozen BK378.out 0; have hfz72_1 := blk_frozen BK378.out 1; have hfz72_2 := blk_frozen BK378.out 2) | ((with_reducible refine gate_callee (f := 68) rfl ?_); refine goesL_ (some 48) rfl rfl Try.func68 (by kernel_rfl) rfl #[.agg #[.slice A0_0 l0_0.length c0_0, .int .i64 a0_1, .slice A0_2 l0_2.length c0_2]] rfl (by (try simp only [List.map_toArray, List.map_cons, List.map_nil]); first | done | rfl | (simp only [List.length_drop, List.length_take]; rfl)) ?_; (with_reducible refine (spec_l36Copy.calls _ _ l0_0 a0_1 _ _ l0_2 t395 t398 t399 _ ?side1 ?side2 ?side3 ?side4 A63.out).mono ?_); (case side1 => exact oc_ HR0_0.out); (case side2 => exact HC0_0.out); (case side3 => exact oc_ HR0_2.out); (case side4 => exact HC0_2.out); rintro e w73 ⟨v396, v400, rfl, ho0, ho1, hb⟩; refine ⟨_, rfl, ?_⟩; have n0_ := Aside0.mk (Kd.R_elder' (oR HO_388000) (Kd.R_base ho0) hb); have n1_ := Aside0.mk (Kd.R_elder' (oR HO_388002) (Kd.R_base ho1) hb); have n2_ := Aside0.mk (Kd.R_lower (Kd.R_new' ho0 (Kd.R_lt (oR HO_388000))) (below_size (oB HB))); have n3_ := Aside0.mk (Kd.R_lower (Kd.R_new' ho1 (Kd.R_lt (oR HO_388002))) (below_size (oB HB))); have n4_ := Aside0.mk (blk_below (g := gb378) (o := .cells #[.slice A0_0 l0_0.length c0_0, .int .i64 a0_1, .slice A0_2 l0_2.length c0_2] 30 (0, 0)) (oK BK378) hb); have n5_ := Aside0.mk (blk_below (g := gb379) (o := .cells #[.slice none 0 0, .int .i64 0, .slice none 0 0] 30 (0, 0)) (oK BK379) hb); have n6_ := Aside0.mk (blk_below (g := gb387) (o := .cells #[.slice Ao12 t380.length co12, .int .i64 t383, .slice (some ⟨go50, 0, none⟩) t384.length co16] 30 (0, 0)) (oK BK387) hb); have n7_ := Aside0.mk (below_step (oB HB) hb); clear HO_388000; clear HO_388002; clear BK378; clear BK379; clear BK387; clear HB; have HO_388000 := n0_; have HO_388002 := n1_; have HO397 := n2_; have HO401 := n3_; have BK378 := n4_; have BK379 := n5_; have BK387 := n6_; have HB := n7_; clear n0_ n1_ n2_ n3_ n4_ n5_ n6_ n7_; (try clear hb); (try clear hb2); (try clear hk); (try clear hi); (try clear ho0); (try clear ho1); obtain ⟨Ao74, co74, eo74⟩ := Kd.R_slice HO397.out; subst eo74; have hcz75_0 : w73.cell? ⟨gb379, 0, none⟩ = some (.slice none 0 0) := (blk_cell BK379.out 0).trans rfl; have hcz75_1 : w73.cell? ⟨gb379, 1, none⟩ = some (.int .i64 0) := (blk_cell BK379.out 1).trans rfl; have hcz75_2 : w73.cell? ⟨gb379, 2, none⟩ = some (.slice none 0 0) := (blk_cell BK379.out 2).trans rfl; have hfz75_0 := blk_frozen BK379.out 0; have hfz75_1 := blk_frozen BK379.out 1; have hfz75_2 := blk_frozen BK379.out 2; obtain ⟨Ao76, co76, eo76⟩ := Kd.R_slice HO401.out; subst eo76))
              refine bodyPost_ret (results_ct rfl _ _ gb379 30 #[.slice Ao74 t395.length co74, .int .i64 t398, .slice Ao76 t399.length co76] (0, 0) _ rfl (by (with_reducible repeat (first | refine blk_drewN ?_ _ | refine blk_drew ?_ | refine blk_alloc ?_ _)); refine blk_put (cs := #[.slice Ao74 t395.length co74, .int .i64 t398, .slice none 0 0]) ?_ 2 _ rfl; (with_reducible repeat (first | refine blk_drewN ?_ _ | refine blk_drew ?_ | refine blk_alloc ?_ _)); refine blk_put (cs := #[.slice Ao74 t395.length co74, .int .i64 0, .slice none 0 0]) ?_ 1 _ rfl; (with_reducible repeat (first | refine blk_drewN ?_ _ | refine blk_drew ?_ | refine blk_alloc ?_ _)); refine blk_put (cs := #[.slice none 0 0, .int .i64 0, .slice none 0 0]) ?_ 0 _ rfl; (with_reducible repeat (first | refine blk_drewN ?_ _ | refine blk_drew ?_ | refine blk_alloc ?_ _)); exact BK379.out) Try.underlying30 rfl (by kernel_rfl)) rfl ?_
              exact ⟨_, _, by first | rfl | (simp [errW_none, errW_some] <;> rfl) | (simp [*, errW_none, errW_some] <;> rfl), by (with_reducible repeat (first | apply Kd.R_alloc | apply Kd.R_drewN | apply Kd.R_drew)); exact Kd.R_mono (Kd.R_far (p := ⟨gb379, 2, none⟩) (Kd.R_far (p := ⟨gb379, 1, none⟩) (Kd.R_far (p := ⟨gb379, 0, none⟩) (Kd.R_types HO397.out BK379.out (by decide)) (fun _ hk => hk.2) (.slice Ao74 t395.length co74)) (fun _ hk => hk.2) (.int .i64 t398)) (fun _ hk => hk.2) (.slice Ao76 t399.length co76)) (fun _ hk => trivial), by (with_reducible repeat (first | apply Kd.R_alloc | apply Kd.R_drewN | apply Kd.R_drew)); exact Kd.R_mono (Kd.R_far (p := ⟨gb379, 2, none⟩) (Kd.R_far (p := ⟨gb379, 1, none⟩) (Kd.R_far (p := ⟨gb379, 0, none⟩) (Kd.R_types HO401.out BK379.out (by decide)) (fun _ hk => hk.2) (.slice Ao74 t395.length co74)) (fun _ hk => hk.2) (.int .i64 t398)) (fun _ hk => hk.2) (.slice Ao76 t399.length co76)) (fun _ hk => trivial), oB HB⟩
          · rw [if_neg c49] at H
            exact absurd H (by simp)
        · rw [if_neg c48] at H
          exact absurd H (by simp)
end Go.Proofs.Ytlhlmjklajdejaa.P


namespace Go.Proofs.Ytlhlmjklajdejaa.P
open Go.RowKit Go.Proofs.YtlhlmjklajdejaaW.PrintWords Go.Proofs.YtlhlmjklajdejaaW.PrintLast Go.Proofs.YtlhlmjklajdejaaW.PrintMore
attribute [local go_sem] max2_int min2_int max_two min_two max_three min_three max_four min_four
set_option linter.unusedVariables false
set_option linter.unusedSimpArgs false
def impl_within.f (a0 : Int) (a1 : Int) (a2 : Int) : Option (Bool) := if a1 ≤ a0 then (some (decide (a0 ≤ a2))) else (some false)
set_option maxHeartbeats 8000000 in
set_option maxRecDepth 100000 in
theorem impl_within.calls (a0 : Int) (a1 : Int) (a2 : Int) (r : Bool) (w : World) (h : impl_within.f a0 a1 a2 = some r) :
    Calls Try.prog 60 #[.int .i64 a0, .int .i64 a1, .int .i64 a2] w fun e w' => e = .returned (.bool r) ∧ Drawn0 w w' := by
  have H : (if a1 ≤ a0 then (some (decide (a0 ≤ a2))) else (some false)) = some r := h
  clear h
  by_cases c4 : a1 ≤ a0
  · rw [if_pos c4] at H
    have c4b0 : decide (a1 ≤ a0) = true := decide_eq_true c4
    clear c4
    obtain rfl := Option.some.inj H
    go_enter Try.func60, Try.ntmps60
    go_wp2
    go_ret
    exact ⟨by first | rfl | (simp; done) | (simp [*]; done), by repeat (first | exact Drawn0.refl _ | apply Drawn0.step)⟩
  · rw [if_neg c4] at H
    have c4b0 : decide (a1 ≤ a0) = false := decide_eq_false c4
    clear c4
    obtain rfl := Option.some.inj H
    go_enter Try.func60, Try.ntmps60
    go_wp2
    go_ret
    exact ⟨by first | rfl | (simp; done) | (simp [*]; done), by repeat (first | exact Drawn0.refl _ | apply Drawn0.step)⟩
end Go.Proofs.Ytlhlmjklajdejaa.P


namespace Go.Proofs.Ytlhlmjklajdejaa.P
open Go.RowKit Go.Proofs.YtlhlmjklajdejaaW.PrintWords Go.Proofs.YtlhlmjklajdejaaW.PrintLast Go.Proofs.YtlhlmjklajdejaaW.PrintMore
attribute [local go_sem] max2_int min2_int max_two min_two max_three min_three max_four min_four
set_option linter.unusedVariables false
set_option linter.unusedSimpArgs false
def stepOk (x : S67) (t : List Bool) : Bool :=
  (decide (x.f2 = 1) || decide (x.f2 = 2)) && (decide (0 ≤ x.f3 ∧ x.f3 ≤ 5000) && (decide (0 ≤ x.f0 ∧ x.f0 ≤ 11) && (decide (0 ≤ x.f1 ∧ x.f1 ≤ 11) && (decide (x.f1 = (x.f0 + 1) % 12) && (t.getD x.f0.toNat false && !t.getD x.f1.toNat false)))))
def planGo : List S67 → List Bool → Bool
  | [], _ => true
  | x :: r, t => stepOk x t && planGo r (t.set x.f1.toNat true)
def tuned0 : List Bool := true :: List.replicate 11 false
def planOk (l : List S67) : Bool := decide (l.length ≤ 11) && planGo l tuned0
def impl_PlanOk.f (l0 : List (S67)) : Option (Bool) := some (planOk l0)
set_option maxHeartbeats 8000000 in
set_option maxRecDepth 100000 in
theorem impl_PlanOk.calls (A0 : Option Addr) (c0 : Nat) (l0 : List (S67)) (r : Bool) (w : World) (hr0 : Kd.C k67 w A0 l0.length l0) (hc0 : l0.length ≤ c0) (h : impl_PlanOk.f l0 = some r) :
    Calls Try.prog 59 #[.slice A0 l0.length c0] w fun e w' => e = .returned (.bool r) ∧ Below w.heap.size w w' := by
  have H := Option.some.inj h
  clear h
  by_cases h11 : l0.length ≤ 11
  rotate_left
  · have hb : decide (11 < (l0.length : Int)) = true := decide_eq_true (by omega)
    have hb2 : decide (11 < l0.length) = true := decide_eq_true (by omega)
    obtain rfl : false = r := by rw [← H]; simp [planOk, h11]
    go_enter Try.func59, Try.ntmps59
    go_wp2
    go_ret
    exact ⟨rfl, Below.refl _ _⟩
  · have hb : decide (11 < (l0.length : Int)) = false := decide_eq_false (by omega)
    have hb2 : decide (11 < l0.length) = false := decide_eq_false (by omega)
    go_enter Try.func59, Try.ntmps59
    go_wp2
    go_loopg [12] (l0.length + 1) (fun kq v12 w' => ∃ (i : Nat) (tn : List Bool), v12 = .int .i64 (i : Int) ∧ Aside0 (i + kq = l0.length + 1) ∧ Aside0 (i ≤ l0.length) ∧ Aside0 (tn.length = 12) ∧ Aside0 (w'.heap[w.heap.size]? = some (.cells (tn.map Value.bool).toArray 65 (0, 0))) ∧ Aside0 (planGo (l0.drop i) tn = r) ∧ Aside0 (Below w.heap.size w w'))
    case atStart =>
      exact ⟨0, tuned0, rfl, ⟨by omega⟩, ⟨by omega⟩, ⟨rfl⟩, ⟨by rw [heap_alloc_new]; rfl⟩, ⟨by rw [← H]; simp [planOk, h11]⟩, ⟨below_alloc (Below.refl _ _) _⟩⟩
    case round =>
      obtain ⟨i, tn, rfl, HK, HI, HT, HA, HP, HB⟩ := hrel
      by_cases hlt : i < l0.length
      rotate_left
      · have hb3 : decide ((i : Int) < (l0.length : Int)) = false := decide_eq_false (by omega)
        have hb4 : decide (i < l0.length) = false := decide_eq_false (by omega)
        obtain rfl : true = r := by
          have h1 := HP.out
          rw [List.drop_eq_nil_of_le (by omega)] at h1
          exact h1
        go_wp2
        go_ret
        exact ⟨rfl, HB.out⟩
      · have hb3 : decide ((i : Int) < (l0.length : Int)) = true := decide_eq_true (by omega)
        have hb4 : decide (i < l0.length) = true := decide_eq_true (by omega)
        obtain ⟨ad, e, hx0, hx1, hx2, hx3⟩ := at_T67 hr0 (i : Int) (by omega) (by omega)
        cases e
        replace hx0 := (HB.out.cell (World.block_lt_of_cell? w _ hx0)).trans hx0
        replace hx1 := (HB.out.cell (World.block_lt_of_cell? w _ hx1)).trans hx1
        replace hx2 := (HB.out.cell (World.block_lt_of_cell? w _ hx2)).trans hx2
        replace hx3 := (HB.out.cell (World.block_lt_of_cell? w _ hx3)).trans hx3
        obtain ⟨x, hx⟩ : ∃ x, rd_T67 l0 (i : Int) = x := ⟨_, rfl⟩
        rw [hx] at hx0 hx1 hx2 hx3
        simp only [Int.toNat_natCast] at hx0 hx1 hx2 hx3
        have hd : planGo (l0.drop i) tn = (stepOk x tn && planGo (l0.drop (i + 1)) (tn.set x.f1.toNat true)) := by
          rw [List.drop_eq_getElem_cons hlt]
          have e0 : l0[i] = x := by rw [← hx]; simp [rd_T67, List.getD_eq_getElem?_getD, hlt]
          rw [e0]; rfl
        have HX := Aside0.mk hx
        clear hx
        have HD := Aside0.mk hd
        clear hd
        have win : ∀ (a b c : Int) (d : Bool) (W : World), decide (b ≤ a ∧ a ≤ c) = d → Calls Try.prog 60 #[.int .i64 a, .int .i64 b, .int .i64 c] W fun e w' => e = .returned (.bool d) ∧ Drawn0 W w' := fun a b c d W hd =>
          impl_within.calls a b c d W (by rw [← hd]; unfold impl_within.f; by_cases hh : b ≤ a <;> simp [hh])
        have tc : ∀ k, k < 12 → ∀ o : Obj, (wr.alloc o).cell? ⟨w.heap.size, k, none⟩ = some (.bool (tn.getD k false)) := fun k hk o => (blk_cell (blk_alloc HA.out o) k).trans (by have := HT.out; simp [List.getD_eq_getElem?_getD, show k < tn.length by omega])
        by_cases q1 : 0 ≤ x.f3 ∧ x.f3 ≤ 5000
        rotate_left
        · have W1 := Aside0.mk fun W => win x.f3 0 5000 false W (decide_eq_false q1)
          have Q1 := Aside0.mk q1
          clear q1 win tc
          go_wp2_with (first | (go_at_call 60; (with_reducible refine (W1.out _).mono ?_); rintro e w' ⟨rfl, ⟨nd, rfl⟩⟩))
          all_goals
            obtain rfl : false = r := by
              rw [← HP.out, HD.out]; simp [stepOk, Q1.out]
            go_ret
            exact ⟨rfl, by repeat (first | exact HB.out | apply below_alloc | apply pw_below_drewN | apply below_drew1)⟩
        have W1 := Aside0.mk fun W => win x.f3 0 5000 true W (decide_eq_true q1)
        by_cases q2 : 0 ≤ x.f0 ∧ x.f0 ≤ 11
        rotate_left
        · have W2 := Aside0.mk fun W => win x.f0 0 11 false W (decide_eq_false q2)
          have Q1 := Aside0.mk q2
          clear q1 q2 win tc
          go_wp2_with (first | (go_at_call 60; (with_reducible refine (W1.out _).mono ?_); rintro e w' ⟨rfl, ⟨nd, rfl⟩⟩) | (go_at_call 60; (with_reducible refine (W2.out _).mono ?_); rintro e w' ⟨rfl, ⟨nd, rfl⟩⟩))
          all_goals
            obtain rfl : false = r := by
              rw [← HP.out, HD.out]; simp [stepOk, Q1.out]
            go_ret
            exact ⟨rfl, by repeat (first | exact HB.out | apply below_alloc | apply pw_below_drewN | apply below_drew1)⟩
        have W2 := Aside0.mk fun W => win x.f0 0 11 true W (decide_eq_true q2)
        by_cases q3 : 0 ≤ x.f1 ∧ x.f1 ≤ 11
        rotate_left
        · have W3 := Aside0.mk fun W => win x.f1 0 11 false W (decide_eq_false q3)
          have Q1 := Aside0.mk q3
          clear q1 q2 q3 win tc
          go_wp2_with (first | (go_at_call 60; (with_reducible refine (W1.out _).mono ?_); rintro e w' ⟨rfl, ⟨nd, rfl⟩⟩) | (go_at_call 60; (with_reducible refine (W2.out _).mono ?_); rintro e w' ⟨rfl, ⟨nd, rfl⟩⟩) | (go_at_call 60; (with_reducible refine (W3.out _).mono ?_); rintro e w' ⟨rfl, ⟨nd, rfl⟩⟩))
          all_goals
            obtain rfl : false = r := by
              rw [← HP.out, HD.out]; simp [stepOk, Q1.out]
            go_ret
            exact ⟨rfl, by repeat (first | exact HB.out | apply below_alloc | apply pw_below_drewN | apply below_drew1)⟩
        have W3 := Aside0.mk fun W => win x.f1 0 11 true W (decide_eq_true q3)
        clear win
        obtain ⟨q2a, q2b⟩ := q2
        obtain ⟨q3a, q3b⟩ := q3
        have Q13 := Aside0.mk q1
        clear q1
        have hc0 := tc x.f0.toNat (by omega)
        have hc1 := tc x.f1.toNat (by omega)
        have hfz := fun o : Obj => blk_frozen (blk_alloc HA.out o) x.f1.toNat
        clear tc
        by_cases q4 : x.f1 = (x.f0 + 1) % 12
        rotate_left
        · have q4a : (x.f1 == (x.f0 + 1) % 12) = false := beq_eq_false_iff_ne.mpr q4
          have q4b : (x.f1 != (x.f0 + 1) % 12) = true := bne_iff_ne.mpr q4
          have Q4 := Aside0.mk q4
          clear q4 hc0 hc1 hfz
          go_wp2_with (first | (go_at_call 60; (with_reducible refine (W1.out _).mono ?_); rintro e w' ⟨rfl, ⟨nd, rfl⟩⟩) | (go_at_call 60; (with_reducible refine (W2.out _).mono ?_); rintro e w' ⟨rfl, ⟨nd, rfl⟩⟩) | (go_at_call 60; (with_reducible refine (W3.out _).mono ?_); rintro e w' ⟨rfl, ⟨nd, rfl⟩⟩))
          all_goals
            obtain rfl : false = r := by
              rw [← HP.out, HD.out]; simp [stepOk, Q4.out]
            go_ret
            exact ⟨rfl, by repeat (first | exact HB.out | apply below_alloc | apply pw_below_drewN | apply below_drew1)⟩
        have q4a : (x.f1 == (x.f0 + 1) % 12) = true := beq_iff_eq.mpr q4
        have q4b : (x.f1 != (x.f0 + 1) % 12) = false := bne_eq_false_iff_eq.mpr q4
        have Q4 := Aside0.mk q4
        clear q4
        obtain ⟨b0, hb0⟩ : ∃ b, tn.getD x.f0.toNat false = b := ⟨_, rfl⟩
        obtain ⟨b1, hb1⟩ : ∃ b, tn.getD x.f1.toNat false = b := ⟨_, rfl⟩
        rw [hb0] at hc0
        rw [hb1] at hc1
        have B0 := Aside0.mk hb0
        have B1 := Aside0.mk hb1
        clear hb0 hb1
        go_wp2_with (first | (go_at_call 60; (with_reducible refine (W1.out _).mono ?_); rintro e w' ⟨rfl, ⟨nd, rfl⟩⟩) | (go_at_call 60; (with_reducible refine (W2.out _).mono ?_); rintro e w' ⟨rfl, ⟨nd, rfl⟩⟩) | (go_at_call 60; (with_reducible refine (W3.out _).mono ?_); rintro e w' ⟨rfl, ⟨nd, rfl⟩⟩))
        all_goals first
          | (go_ret
             have e : false = r := by
               have h3 := B0.out; have h4 := B1.out
               rw [← HP.out, HD.out]; unfold stepOk; rw [h3, h4]; simp [*]
             subst e
             exact ⟨rfl, by repeat (first | exact HB.out | apply below_alloc | apply pw_below_drewN | apply below_drew1)⟩)
          | (go_roundg (gk - 1)
             case measure => have := HK.out; omega
             case rel =>
               refine ⟨i + 1, tn.set x.f1.toNat true, by go_num, ⟨by have := HK.out; omega⟩, ⟨by omega⟩, ⟨by rw [List.length_set]; exact HT.out⟩, ⟨?_⟩, ⟨?_⟩, ⟨?_⟩⟩
               · refine blk_put (cs := (tn.map Value.bool).toArray) ?_ x.f1.toNat (.bool true) ?_
                 · repeat (first | exact HA.out | refine blk_drewN ?_ _ | refine blk_drew ?_ | refine blk_alloc ?_ _)
                 · simp [List.map_set]
               · rw [← HP.out, HD.out]
                 have e : stepOk x tn = true := by
                   have h1 := Q4.out; have h2 := Q13.out; have h3 := B0.out; have h4 := B1.out
                   unfold stepOk; rw [h3, h4]; simp [*]; omega
                 rw [e, Bool.true_and]
               · refine below_set ?_ (Nat.le_refl _)
                 repeat (first | exact HB.out | apply below_alloc | apply pw_below_drewN | apply below_drew1))
end Go.Proofs.Ytlhlmjklajdejaa.P


namespace Go.Proofs.Ytlhlmjklajdejaa.P
open Go.RowKit Go.Proofs.YtlhlmjklajdejaaW.PrintWords Go.Proofs.YtlhlmjklajdejaaW.PrintLast Go.Proofs.YtlhlmjklajdejaaW.PrintMore
attribute [local go_sem] max2_int min2_int max_two min_two max_three min_three max_four min_four
set_option linter.unusedVariables false
set_option linter.unusedSimpArgs false
def impl_isFine.f (a0 : Int) : Option (Bool) := (impl_within.f a0 1 10000000).bind fun t142 => (some t142)
set_option maxHeartbeats 8000000 in
set_option maxRecDepth 100000 in
theorem impl_isFine.calls (a0 : Int) (r : Bool) (w : World) (h : impl_isFine.f a0 = some r) :
    Calls Try.prog 61 #[.int .i64 a0] w fun e w' => e = .returned (.bool r) ∧ Drawn0 w w' := by
  have H : ((impl_within.f a0 1 10000000).bind fun t142 => (some t142)) = some r := h
  clear h
  replace H := Option.bind_eq_some_iff.mp H
  obtain ⟨t142, A20, H⟩ := H
  (try dsimp only at H)
  have A2 := Aside0.mk A20
  clear A20
  obtain rfl := Option.some.inj H
  go_enter Try.func61, Try.ntmps61
  go_wp2_with (first | ((with_reducible refine gate_callee (f := 60) rfl ?_); refine goesL_ (some 4) rfl rfl Try.func60 (by kernel_rfl) rfl #[.int .i64 a0, .int .i64 1, .int .i64 10000000] rfl (by (try simp only [List.map_toArray, List.map_cons, List.map_nil]); first | done | rfl | (simp only [List.length_drop, List.length_take]; rfl)) ?_; (with_reducible refine (impl_within.calls a0 1 10000000 t142 _ A2.out).mono ?_); rintro e w' ⟨rfl, ⟨nd, rfl⟩⟩; refine ⟨_, rfl, ?_⟩))
  go_ret
  exact ⟨by first | rfl | (simp; done) | (simp [*]; done), by repeat (first | exact Drawn0.refl _ | apply Drawn0.step)⟩
end Go.Proofs.Ytlhlmjklajdejaa.P


namespace Go.Proofs.Ytlhlmjklajdejaa.P
open Go.RowKit Go.Proofs.YtlhlmjklajdejaaW.PrintWords Go.Proofs.YtlhlmjklajdejaaW.PrintLast Go.Proofs.YtlhlmjklajdejaaW.PrintMore
attribute [local go_sem] max2_int min2_int max_two min_two max_three min_three max_four min_four
set_option linter.unusedVariables false
set_option linter.unusedSimpArgs false
def tunedBy (l : List S67) (t : List Bool) : List Bool := l.foldl (fun t x => t.set x.f1.toNat true) t
def keyGo : List Bool → List Int → Bool
  | b :: t, p :: q => (if b then decide (1 ≤ p ∧ p ≤ 10000000) else decide (p = 0)) && keyGo t q
  | _, _ => true
def workOk (p : List S67) (d : Int) (q : List Int) : Bool :=
  planOk p && (decide (0 ≤ d ∧ d ≤ p.length) && (decide (q.length = 12) && keyGo (tunedBy (p.take d.toNat) tuned0) q))
theorem planGo_keys : ∀ (l : List S67) (t : List Bool), planGo l t = true → ∀ x ∈ l, 0 ≤ x.f1 ∧ x.f1 ≤ 11
  | [], _, _, x, hx => by simp at hx
  | y :: r, t, h, x, hx => by
    simp only [planGo, Bool.and_eq_true] at h
    rcases List.mem_cons.1 hx with rfl | hx
    · have h1 := h.1; simp [stepOk] at h1; exact h1.2.2.2.1
    · exact planGo_keys r _ h.2 x hx
theorem tunedBy_len (l : List S67) : ∀ t : List Bool, (tunedBy l t).length = t.length := by
  induction l with
  | nil => intro t; rfl
  | cons x r ih => intro t; show (tunedBy r _).length = _; rw [ih, List.length_set]
theorem tunedBy_snoc (l : List S67) (x : S67) (t : List Bool) : tunedBy (l ++ [x]) t = (tunedBy l t).set x.f1.toNat true := by simp [tunedBy, List.foldl_append]
def impl_WorkOk.f (l0_0 : List (S67)) (a0_1 : Int) (l0_2 : List Int) : Option (Bool) := some (workOk l0_0 a0_1 l0_2)
set_option maxHeartbeats 8000000 in
set_option maxRecDepth 100000 in
theorem impl_WorkOk.calls (A0_0 : Option Addr) (c0_0 : Nat) (l0_0 : List (S67)) (a0_1 : Int) (A0_2 : Option Addr) (c0_2 : Nat) (l0_2 : List Int) (r : Bool) (w : World) (hr0_0 : Kd.C k67 w A0_0 l0_0.length l0_0) (hc0_0 : l0_0.length ≤ c0_0) (hr0_2 : Kd.C (Kd.int .i64) w A0_2 l0_2.length l0_2) (hc0_2 : l0_2.length ≤ c0_2) (h : impl_WorkOk.f l0_0 a0_1 l0_2 = some r) :
    Calls Try.prog 18 #[.agg #[.slice A0_0 l0_0.length c0_0, .int .i64 a0_1, .slice A0_2 l0_2.length c0_2]] w fun e w' => e = .returned (.bool r) ∧ Below w.heap.size w w' := by
  have HH := Aside0.mk (Option.some.inj h)
  clear h
  have win : ∀ (a b c : Int) (d : Bool) (W : World), decide (b ≤ a ∧ a ≤ c) = d → Calls Try.prog 60 #[.int .i64 a, .int .i64 b, .int .i64 c] W fun e w' => e = .returned (.bool d) ∧ Drawn0 W w' := fun a b c d W hd =>
    impl_within.calls a b c d W (by rw [← hd]; unfold impl_within.f; by_cases hh : b ≤ a <;> simp [hh])
  have hpl : ∀ (b : Bool) (o : Obj), planOk l0_0 = b → Calls Try.prog 59 #[.slice A0_0 l0_0.length c0_0] (w.alloc o) fun e w' => e = .returned (.bool b) ∧ Below (w.alloc o).heap.size (w.alloc o) w' := fun b o hb =>
    impl_PlanOk.calls A0_0 c0_0 l0_0 b (w.alloc o) (Kd.C_alloc hr0_0 o) hc0_0 (by unfold impl_PlanOk.f; rw [hb])
  have hbx : ∀ (w1 : World) (o : Obj), Below (w.alloc o).heap.size (w.alloc o) w1 → w1.heap[w.heap.size]? = some o ∧ Below w.heap.size w w1 ∧ w.heap.size + 1 ≤ w1.heap.size := fun w1 o hb =>
    ⟨blk_below (blk_new w o) hb, below_step (below_alloc (Below.refl _ _) o) hb, by have := hb.size; simpa using this⟩
  by_cases p1 : planOk l0_0 = true
  rotate_left
  · have P1 := Aside0.mk fun o => hpl false o (Bool.eq_false_iff.2 p1)
    obtain rfl : false = r := by rw [← HH.out]; simp [workOk, p1]
    clear hpl win p1
    go_enter Try.func18, Try.ntmps18
    go_wp2_with (first | (go_at_call 59; (with_reducible refine (P1.out _).mono ?_); rintro e w1 ⟨rfl, hb⟩; obtain ⟨hB1, hB2, hB3⟩ := hbx w1 _ hb; have HB := Aside0.mk hB2; clear hb hB1 hB2 hB3))
    go_ret
    exact ⟨rfl, by repeat (first | exact HB.out | apply below_alloc | apply pw_below_drewN | apply below_drew1)⟩
  have P1 := Aside0.mk fun o => hpl true o p1
  by_cases p2 : 0 ≤ a0_1 ∧ a0_1 ≤ (l0_0.length : Int)
  rotate_left
  · have W1 := Aside0.mk fun W => win a0_1 0 l0_0.length false W (decide_eq_false p2)
    obtain rfl : false = r := by rw [← HH.out]; simp [workOk, p2]
    clear hpl win p1 p2
    go_enter Try.func18, Try.ntmps18
    go_wp2_with (first | (go_at_call 59; (with_reducible refine (P1.out _).mono ?_); rintro e w1 ⟨rfl, hb⟩; obtain ⟨hB1, hB2, hB3⟩ := hbx w1 _ hb; have HB := Aside0.mk hB2; have hcz0 := blk_cell hB1 0; have hcz1 := blk_cell hB1 1; have hcz2 := blk_cell hB1 2; clear hb hB1 hB2 hB3) | (go_at_call 60; (with_reducible refine (W1.out _).mono ?_); rintro e w' ⟨rfl, ⟨nd, rfl⟩⟩))
    go_ret
    exact ⟨rfl, by repeat (first | exact HB.out | apply below_alloc | apply pw_below_drewN | apply below_drew1)⟩
  have W1 := Aside0.mk fun W => win a0_1 0 l0_0.length true W (decide_eq_true p2)
  by_cases p3 : l0_2.length = 12
  rotate_left
  · have p3a : ((l0_2.length : Int) != 12) = true := bne_iff_ne.mpr (by omega)
    have p3b : ((l0_2.length : Int) == 12) = false := beq_eq_false_iff_ne.mpr (by omega)
    obtain rfl : false = r := by rw [← HH.out]; simp [workOk, p3]
    have P3 := Aside0.mk p3
    clear hpl win p1 p2 p3
    go_enter Try.func18, Try.ntmps18
    go_wp2_with (first | (go_at_call 59; (with_reducible refine (P1.out _).mono ?_); rintro e w1 ⟨rfl, hb⟩; obtain ⟨hB1, hB2, hB3⟩ := hbx w1 _ hb; have HB := Aside0.mk hB2; have HX := Aside0.mk hB1; have HS := Aside0.mk hB3; have hcz0 := blk_cell hB1 0; have hcz1 := blk_cell hB1 1; clear hb hB1 hB2 hB3) | (go_at_call 60; (with_reducible refine (W1.out _).mono ?_); rintro e w2 ⟨rfl, hdr⟩; have n1 := Aside0.mk (below_step HB.out hdr.below); have hB1 := blk_below HX.out hdr.below; have n3 := Aside0.mk (Nat.le_trans HS.out hdr.below.size); clear HB HX HS hcz0 hcz1 hdr; have HB := n1; have HX := Aside0.mk hB1; have HS := n3; clear n1 n3; have hcz0 := blk_cell hB1 0; have hcz1 := blk_cell hB1 1; have hcz2 := blk_cell hB1 2; have hca0 := fun o : Obj => blk_cell (blk_alloc hB1 o) 0; have hca1 := fun o : Obj => blk_cell (blk_alloc hB1 o) 1; have hca2 := fun o : Obj => blk_cell (blk_alloc hB1 o) 2; clear hB1))
    go_ret
    exact ⟨rfl, by repeat (first | exact HB.out | apply below_alloc | apply pw_below_drewN | apply below_drew1)⟩
  have p3a : ((l0_2.length : Int) != 12) = false := bne_eq_false_iff_eq.mpr (by omega)
  have p3b : ((l0_2.length : Int) == 12) = true := beq_iff_eq.mpr (by omega)
  obtain ⟨d, rfl⟩ : ∃ d : Nat, a0_1 = (d : Int) := ⟨a0_1.toNat, by omega⟩
  have hd1 : d ≤ l0_0.length := by omega
  have hd2 : d ≤ c0_0 := by omega
  have hm : l0_0.length ≤ 9223372036854775807 := Kd.C_max hr0_0
  have HK := Aside0.mk (planGo_keys l0_0 tuned0 (by have := p1; simp [planOk] at this; exact this.2))
  have HQ : Aside0 (keyGo (tunedBy (l0_0.take d) tuned0) l0_2 = r) := ⟨by rw [← HH.out]; simp [workOk, p1, p3, hd1]⟩
  have P3 := Aside0.mk p3
  have HR0 := Aside0.mk hr0_0
  have HR2 := Aside0.mk hr0_2
  clear hpl p1 p2 p3 HH hr0_0 hr0_2
  go_enter Try.func18, Try.ntmps18
  go_wp2_with (first | (go_at_call 59; (with_reducible refine (P1.out _).mono ?_); rintro e w1 ⟨rfl, hb⟩; obtain ⟨hB1, hB2, hB3⟩ := hbx w1 _ hb; have HB := Aside0.mk hB2; have HX := Aside0.mk hB1; have HS := Aside0.mk hB3; have hcz0 := blk_cell hB1 0; have hcz1 := blk_cell hB1 1; clear hb hB1 hB2 hB3) | (go_at_call 60; (with_reducible refine (W1.out _).mono ?_); rintro e w2 ⟨rfl, hdr⟩; have n1 := Aside0.mk (below_step HB.out hdr.below); have hB1 := blk_below HX.out hdr.below; have n3 := Aside0.mk (Nat.le_trans HS.out hdr.below.size); clear HB HX HS hcz0 hcz1 hdr; have HB := n1; have HX := Aside0.mk hB1; have HS := n3; clear n1 n3; have hcz0 := blk_cell hB1 0; have hcz1 := blk_cell hB1 1; have hcz2 := blk_cell hB1 2; have hca0 := fun o : Obj => blk_cell (blk_alloc hB1 o) 0; have hca1 := fun o : Obj => blk_cell (blk_alloc hB1 o) 1; have hca2 := fun o : Obj => blk_cell (blk_alloc hB1 o) 2; clear hB1))
  have BX := Aside0.mk (rfl : #[Value.slice A0_0 l0_0.length c0_0, .int .i64 (d : Int), .slice A0_2 l0_2.length c0_2] = #[Value.slice A0_0 l0_0.length c0_0, .int .i64 (d : Int), .slice A0_2 l0_2.length c0_2])
  go_loopg [34] (d + 1) (fun kq v34 w' => ∃ (i : Nat), v34 = .int .i64 (i : Int) ∧ Aside0 (i + kq = d + 1) ∧ Aside0 (i ≤ d) ∧ Aside0 (w'.heap[w2.heap.size]? = some (.cells ((tunedBy (l0_0.take i) tuned0).map Value.bool).toArray 65 (0, 0))) ∧ Aside0 (w'.heap[w.heap.size]? = some (.cells #[.slice A0_0 l0_0.length c0_0, .int .i64 (d : Int), .slice A0_2 l0_2.length c0_2] 30 (0, 0))) ∧ Aside0 (Below w.heap.size w w'))
  case atStart =>
    exact ⟨0, rfl, ⟨by omega⟩, ⟨by omega⟩, ⟨by rw [heap_alloc_new]; rfl⟩, ⟨blk_alloc HX.out _⟩, ⟨below_alloc HB.out _⟩⟩
  case round =>
    clear hcz0 hcz1 hcz2 hca0 hca1 hca2 HB HX
    obtain ⟨i, rfl, HI1, HI2, HA, HX, HB⟩ := hrel
    have hTl : (tunedBy (l0_0.take i) tuned0).length = 12 := tunedBy_len _ _
    by_cases hlt : i < d
    · have hb3 : decide ((i : Int) < (d : Int)) = true := decide_eq_true (by omega)
      have hb4 : decide (i < d) = true := decide_eq_true (by omega)
      obtain ⟨ad, e, hx0, hx1, hx2, hx3⟩ := at_T67 HR0.out (i : Int) (by omega) (by omega)
      cases e
      replace hx0 := (HB.out.cell (World.block_lt_of_cell? w _ hx0)).trans hx0
      replace hx1 := (HB.out.cell (World.block_lt_of_cell? w _ hx1)).trans hx1
      replace hx2 := (HB.out.cell (World.block_lt_of_cell? w _ hx2)).trans hx2
      replace hx3 := (HB.out.cell (World.block_lt_of_cell? w _ hx3)).trans hx3
      obtain ⟨x, hx⟩ : ∃ x, rd_T67 l0_0 (i : Int) = x := ⟨_, rfl⟩
      rw [hx] at hx0 hx1 hx2 hx3
      simp only [Int.toNat_natCast] at hx0 hx1 hx2 hx3
      have hil : i < l0_0.length := by omega
      have e0 : l0_0[i] = x := by rw [← hx]; simp [rd_T67, List.getD_eq_getElem?_getD, hil]
      obtain ⟨q1, q2⟩ := HK.out x (by rw [← e0]; exact List.getElem_mem hil)
      have HT : Aside0 (tunedBy (l0_0.take (i + 1)) tuned0 = (tunedBy (l0_0.take i) tuned0).set x.f1.toNat true) := ⟨by rw [List.take_succ_eq_append_getElem hil, e0, tunedBy_snoc]⟩
      obtain ⟨tn, htn⟩ : ∃ tn, tunedBy (l0_0.take i) tuned0 = tn := ⟨_, rfl⟩
      have HA' := Aside0.mk (show wr.heap[w2.heap.size]? = some (.cells (tn.map Value.bool).toArray 65 (0, 0)) by rw [← htn]; exact HA.out)
      rw [htn] at hTl HT
      have hc1 : ∀ o : Obj, (wr.alloc o).cell? ⟨w2.heap.size, x.f1.toNat, none⟩ = some (.bool (tn.getD x.f1.toNat false)) := fun o => (blk_cell (blk_alloc HA'.out o) _).trans (by simp [List.getD_eq_getElem?_getD, show x.f1.toNat < tn.length by omega])
      have hfz := fun o : Obj => blk_frozen (blk_alloc HA'.out o) x.f1.toNat
      clear hx e0 htn HA hTl
      go_wp2
      go_roundg (d - i)
      case measure => have := HI1.out; omega
      case rel =>
        refine ⟨i + 1, by go_num, ⟨by omega⟩, ⟨by omega⟩, ⟨?_⟩, ⟨?_⟩, ⟨?_⟩⟩
        · rw [HT.out]
          refine blk_put (cs := (tn.map Value.bool).toArray) (blk_alloc HA'.out _) x.f1.toNat (.bool true) ?_
          simp [List.map_set]
        · refine blk_far ?_ (by have := HS.out; show w.heap.size ≠ w2.heap.size; omega) _
          exact blk_alloc HX.out _
        · refine below_set (below_alloc HB.out _) (by have := HS.out; omega)
    · have hb3 : decide ((i : Int) < (d : Int)) = false := decide_eq_false (by omega)
      have hb4 : decide (i < d) = false := decide_eq_false (by omega)
      obtain rfl : i = d := by have := HI2.out; omega
      obtain ⟨tn, htn⟩ : ∃ tn, tunedBy (l0_0.take i) tuned0 = tn := ⟨_, rfl⟩
      have HA' := Aside0.mk (show wr.heap[w2.heap.size]? = some (.cells (tn.map Value.bool).toArray 65 (0, 0)) by rw [← htn]; exact HA.out)
      have HT := Aside0.mk (show tn.length = 12 by rw [← htn]; exact hTl)
      have HQ' := Aside0.mk (show keyGo tn l0_2 = r by rw [← htn]; exact HQ.out)
      have hcz0 := blk_cell HX.out 0
      have hcz1 := blk_cell HX.out 1
      have hcz2 := blk_cell HX.out 2
      clear HA HQ htn hTl
      go_wp2
      have H12 := P3.out
      go_loopg [45] 13 (fun kq v45 w' => ∃ (j : Nat), v45 = .int .i64 (j : Int) ∧ Aside0 (j + kq = 13) ∧ Aside0 (j ≤ 12) ∧ Aside0 (keyGo (tn.drop j) (l0_2.drop j) = r) ∧ Aside0 (w'.heap[w2.heap.size]? = some (.cells (tn.map Value.bool).toArray 65 (0, 0))) ∧ Aside0 (Below w.heap.size w w'))
      case atStart => exact ⟨0, rfl, ⟨by omega⟩, ⟨by omega⟩, ⟨HQ'.out⟩, ⟨HA'.out⟩, ⟨HB.out⟩⟩
      case round =>
        clear hcz0 hcz1 hcz2 HB HX HA' HQ'
        obtain ⟨j, rfl, HJ1, HJ2, HQ, HA, HB⟩ := hrel
        by_cases hlt2 : j < 12
        rotate_left
        · have hb5 : decide ((j : Int) < (l0_2.length : Int)) = false := decide_eq_false (by omega)
          have hb6 : decide (j < l0_2.length) = false := decide_eq_false (by omega)
          obtain rfl : true = r := by
            have h1 := HQ.out
            rw [List.drop_eq_nil_of_le (by have := HT.out; omega)] at h1
            simpa [keyGo] using h1
          clear H12
          go_wp2
          go_ret
          exact ⟨rfl, HB.out⟩
        · have hb5 : decide ((j : Int) < (l0_2.length : Int)) = true := decide_eq_true (by omega)
          have hb6 : decide (j < l0_2.length) = true := decide_eq_true (by omega)
          have hj : j < l0_2.length := by omega
          obtain ⟨ad, e, hy⟩ := Kd.at_int HR2.out (j : Int) (by omega) (by omega)
          cases e
          replace hy := (HB.out.cell (World.block_lt_of_cell? w _ hy)).trans hy
          obtain ⟨y, hyy⟩ : ∃ y, rd l0_2 (j : Int) = y := ⟨_, rfl⟩
          obtain ⟨b, hbb⟩ : ∃ b, tn.getD j false = b := ⟨_, rfl⟩
          rw [hyy] at hy
          simp only [Int.toNat_natCast] at hy
          have hT12 := HT.out
          have hct : wr.cell? ⟨w2.heap.size, j, none⟩ = some (.bool b) := (blk_cell HA.out j).trans (by rw [← hbb]; simp [List.getD_eq_getElem?_getD, show j < tn.length by omega])
          have HD : Aside0 (keyGo (tn.drop j) (l0_2.drop j) = ((if b then decide (1 ≤ y ∧ y ≤ 10000000) else decide (y = 0)) && keyGo (tn.drop (j + 1)) (l0_2.drop (j + 1)))) := ⟨by
            rw [List.drop_eq_getElem_cons (show j < tn.length by omega), List.drop_eq_getElem_cons (show j < l0_2.length by omega)]
            have e1 : tn[j] = b := by rw [← hbb]; simp [List.getD_eq_getElem?_getD, show j < tn.length by omega]
            have e2 : l0_2[j] = y := by rw [← hyy]; simp [rd, List.getD_eq_getElem?_getD, show j < l0_2.length by omega]
            rw [e1, e2]; rfl⟩
          have fine : ∀ (d : Bool) (W : World), decide (1 ≤ y ∧ y ≤ 10000000) = d → Calls Try.prog 61 #[.int .i64 y] W fun e w' => e = .returned (.bool d) ∧ Drawn0 W w' := fun d W hd =>
            impl_isFine.calls y d W (by rw [← hd]; unfold impl_isFine.f impl_within.f; by_cases hh : 1 ≤ y <;> simp [hh])
          clear hyy hbb hT12 H12
          cases b with
          | true =>
            by_cases q : 1 ≤ y ∧ y ≤ 10000000
            · have F1 := Aside0.mk fun W => fine true W (decide_eq_true q)
              have Q := Aside0.mk q
              clear q fine
              go_wp2_with (first | (go_at_call 61; (with_reducible refine (F1.out _).mono ?_); rintro e w' ⟨rfl, ⟨nd, rfl⟩⟩))
              go_roundg (12 - j)
              case measure => have := HJ1.out; omega
              case rel =>
                refine ⟨j + 1, by go_num, ⟨by omega⟩, ⟨by omega⟩, ⟨?_⟩, ⟨?_⟩, ⟨?_⟩⟩
                · rw [← HQ.out, HD.out]; simp [Q.out]
                · repeat (first | exact HA.out | refine blk_drewN ?_ _ | refine blk_drew ?_)
                · repeat (first | exact HB.out | apply below_alloc | apply pw_below_drewN | apply below_drew1)
            · have F1 := Aside0.mk fun W => fine false W (decide_eq_false q)
              have Q := Aside0.mk q
              clear q fine
              obtain rfl : false = r := by rw [← HQ.out, HD.out]; simp [Q.out]
              go_wp2_with (first | (go_at_call 61; (with_reducible refine (F1.out _).mono ?_); rintro e w' ⟨rfl, ⟨nd, rfl⟩⟩))
              go_ret
              exact ⟨rfl, by repeat (first | exact HB.out | apply below_alloc | apply pw_below_drewN | apply below_drew1)⟩
          | false =>
            by_cases q : y = 0
            · have q1 : (y != 0) = false := bne_eq_false_iff_eq.mpr q
              have q2 : (y == 0) = true := beq_iff_eq.mpr q
              have Q := Aside0.mk q
              clear q fine
              go_wp2
              go_roundg (12 - j)
              case measure => have := HJ1.out; omega
              case rel =>
                refine ⟨j + 1, by go_num, ⟨by omega⟩, ⟨by omega⟩, ⟨?_⟩, ⟨?_⟩, ⟨?_⟩⟩
                · rw [← HQ.out, HD.out]; simp [Q.out]
                · repeat (first | exact HA.out | refine blk_drewN ?_ _ | refine blk_drew ?_)
                · repeat (first | exact HB.out | apply below_alloc | apply pw_below_drewN | apply below_drew1)
            · have q1 : (y != 0) = true := bne_iff_ne.mpr q
              have q2 : (y == 0) = false := beq_eq_false_iff_ne.mpr q
              have Q := Aside0.mk q
              clear q fine
              obtain rfl : false = r := by rw [← HQ.out, HD.out]; simp [Q.out]
              go_wp2
              go_ret
              exact ⟨rfl, by repeat (first | exact HB.out | apply below_alloc | apply pw_below_drewN | apply below_drew1)⟩
end Go.Proofs.Ytlhlmjklajdejaa.P


namespace Go.Proofs.Ytlhlmjklajdejaa.P
open Go.RowKit Go.Proofs.YtlhlmjklajdejaaW.PrintWords Go.Proofs.YtlhlmjklajdejaaW.PrintLast Go.Proofs.YtlhlmjklajdejaaW.PrintMore
attribute [local go_sem] max2_int min2_int max_two min_two max_three min_three max_four min_four
set_option linter.unusedVariables false
set_option linter.unusedSimpArgs false
def impl_copyPlan.f (l0 : List (S67)) : Option ((List (S67))) := (some (([] : List (S67)) : List (S67))).bind fun y276 => (if y276.length + l0.length < 4398046511104 then (some (y276 ++ l0)) else (none))
set_option maxHeartbeats 8000000 in
set_option maxRecDepth 100000 in
theorem impl_copyPlan.calls (A0 : Option Addr) (c0 : Nat) (l0 : List (S67)) (r : List (S67)) (w : World) (hr0 : Kd.C k67 w A0 l0.length l0) (hc0 : l0.length ≤ c0) (h : impl_copyPlan.f l0 = some r) :
    Calls Try.prog 65 #[.slice A0 l0.length c0] w fun e w' => ∃ v0_ : Value, e = .returned (v0_) ∧ Kd.R k67 67 w' w.heap.size (fun _ => True) v0_ r ∧ Below w.heap.size w w' := by
  have HR0 := Aside0.mk hr0
  have HC0 := Aside0.mk hc0
  clear hr0 hc0
  have HB := Aside0.mk (Below.refl w.heap.size w)
  have H : ((some (([] : List (S67)) : List (S67))).bind fun y276 => (if y276.length + l0.length < 4398046511104 then (some (y276 ++ l0)) else (none))) = some r := h
  clear h
  obtain ⟨y276, hy276⟩ : ∃ y_ : List (S67), y_ = (([] : List (S67))) := ⟨_, rfl⟩
  replace H : (if y276.length + l0.length < 4398046511104 then (some (y276 ++ l0)) else (none)) = some r := by first | (rw [hy276]; with_reducible exact H) | (have H2_ := (Option.bind_some _ _).symm.trans H; rw [hy276]; with_reducible exact H2_) | (have H2_ := (Option.bind_some _ _).symm.trans H; with_reducible exact H2_) | with_reducible exact H | (rw [hy276]; exact H) | exact H
  have Ny276 := Aside0.mk hy276
  clear hy276
  by_cases c2 : y276.length + l0.length < 4398046511104
  · rw [if_pos c2] at H
    have LMc2 := Aside0.mk c2
    clear c2
    obtain ⟨y279, hy279⟩ : ∃ y_ : List (S67), y_ = (y276 ++ l0) := ⟨_, rfl⟩
    replace H : (some y279) = some r := by first | (rw [hy279]; with_reducible exact H) | (have H2_ := (Option.bind_some _ _).symm.trans H; rw [hy279]; with_reducible exact H2_) | (have H2_ := (Option.bind_some _ _).symm.trans H; with_reducible exact H2_) | with_reducible exact H | (rw [hy279]; exact H) | exact H
    have Ny279 := Aside0.mk hy279
    clear hy279
    obtain rfl := Option.some.inj H
    go_enter Try.func65, Try.ntmps65
    go_wp2_with (first | ((with_reducible refine gate_dst (N := 3) rfl ?_); refine Kd.R_lit k67 _ 67 ?hg (N := 3) ?hd (xs := ([] : List (S67))) (inner := []) (ok := fun _ => True) (okp := fun _ => True) ?hr ?hp (fun _ hk => hk) trivial (Below.refl _ _) (Nat.le_refl _) (by simp) ?_; (case hd => rfl); (case hg => rfl); (case hr => first | (go_simp; done) | (go_simp; rfl)); (case hp => exact (Reps.none _ _)); intro v277 w3 ho4 hb hg_ hnew_; clear hg_ hnew_; (first | rw [← Ny276.out] at ho4 | (simp only [Int.reduceToNat] at ho4; rw [← Ny276.out] at ho4)); have n0_ := Aside0.mk (Kd.R_lower ho4 (below_size (oB HB))); have n1_ := Aside0.mk (below_step (oB HB) hb); clear HB; have HO278 := n0_; have HB := n1_; clear n0_ n1_; clear hb ho4) | ((with_reducible refine gate_builtin (b := .append) (xs := #[.tmp 3, .tmp 4]) rfl ?_); at_builtin; refine Kd.R_append_rows k67 (w0 := w) w.heap.size rfl (.tmp 3) (.tmp 4) 28 67 (.agg #[(.int .i64 0), (.int .i64 0), (.int .i64 0), (.int .i64 0)]) 32 rfl Try.underlying28 info67 rfl (by decide) (by omega) v277 y276 l0 _ _ _ (fun _ => True) (fun _ => False) rfl rfl ?aO ?aR (fun _ _ h => h) (fun _ h => h.elim) ?aF ?aB ?aS ?aL ?_; (case aR => exact oc_ HR0.out); (case aB => exact (oB HB)); (case aF => exact (fun _ _ => trivial)); (case aO => exact (oR HO278)); (case aS => exact (below_size (oB HB))); (case aL => have := LMc2.out; omega); intro v280 w5 ho hb hg hat; rw [← Ny279.out] at ho; have n0_ := Aside0.mk (hb); have n1_ := Aside0.mk (ho); clear HB; clear HO278; have HB := n0_; have HO281 := n1_; clear n0_ n1_; clear ho hb hg hat))
    go_ret
    exact ⟨_, by first | rfl | (simp [errW_none, errW_some] <;> rfl) | (simp [*, errW_none, errW_some] <;> rfl), oR HO281, oB HB⟩
  · rw [if_neg c2] at H
    exact absurd H (by simp)
end Go.Proofs.Ytlhlmjklajdejaa.P


namespace Go.Proofs.Ytlhlmjklajdejaa.P
open Go.RowKit Go.Proofs.YtlhlmjklajdejaaW.PrintWords Go.Proofs.YtlhlmjklajdejaaW.PrintLast Go.Proofs.YtlhlmjklajdejaaW.PrintMore
attribute [local go_sem] max2_int min2_int max_two min_two max_three min_three max_four min_four
set_option linter.unusedVariables false
set_option linter.unusedSimpArgs false
def impl_copyWork.f (l0_0 : List (S67)) (a0_1 : Int) (l0_2 : List Int) : Option ((List (S67)) × Int × List Int) := (impl_copyPlan.f l0_0).bind fun t404 => ((some (([] : List Int) : List Int)).bind fun y407 => (if y407.length + l0_2.length < 17592186044416 then (some (t404, a0_1, (y407 ++ l0_2))) else (none)))
def impl_copyWork.T1 : Bool × List (List Nat × List Nat) := (true, [([], []), ([0], [0]), ([1], [1]), ([], []), ([3], [3]), ([], []), ([], []), ([6], [6]), ([5, 7, 2], [5, 7]), ([2, 4, 8], [2, 4, 8]), ([9, 8, 0, 1, 2, 3, 4, 5, 6, 7, 8, 9], [9])])
def impl_copyWork.B1 : List Nat := [0, 1, 3, 0, 8, 0, 0, 64, 231, 511, 1023]
theorem impl_copyWork.tab1 : rtab .any (opsOf Try.f69 1) = impl_copyWork.T1 := by kernel_rfl
theorem impl_copyWork.bits1 : waitsOk impl_copyWork.T1.2 impl_copyWork.B1 = true := by kernel_rfl
set_option maxHeartbeats 8000000 in
set_option maxRecDepth 100000 in
theorem impl_copyWork.calls (A0_0 : Option Addr) (c0_0 : Nat) (l0_0 : List (S67)) (a0_1 : Int) (A0_2 : Option Addr) (c0_2 : Nat) (l0_2 : List Int) (r1 : List (S67)) (r2 : Int) (r3 : List Int) (w : World) (hr0_0 : Kd.C k67 w A0_0 l0_0.length l0_0) (hc0_0 : l0_0.length ≤ c0_0) (hr0_2 : Kd.C (Kd.int .i64) w A0_2 l0_2.length l0_2) (hc0_2 : l0_2.length ≤ c0_2) (h : impl_copyWork.f l0_0 a0_1 l0_2 = some (r1, r2, r3)) :
    Calls Try.prog 69 #[.agg #[.slice A0_0 l0_0.length c0_0, .int .i64 a0_1, .slice A0_2 l0_2.length c0_2]] w fun e w' => ∃ v0_ v2_ : Value, e = .returned (.agg #[v0_, .int .i64 r2, v2_]) ∧ Kd.R k67 67 w' w.heap.size (fun _ => True) v0_ r1 ∧ Kd.R (Kd.int .i64) 3 w' w.heap.size (fun _ => True) v2_ r3 ∧ Below w.heap.size w w' := by
  have hu30 := Try.underlying30
  have HR0_0 := Aside0.mk hr0_0
  have HC0_0 := Aside0.mk hc0_0
  clear hr0_0 hc0_0
  have HR0_2 := Aside0.mk hr0_2
  have HC0_2 := Aside0.mk hc0_2
  clear hr0_2 hc0_2
  have HB := Aside0.mk (Below.refl w.heap.size w)
  have H : ((impl_copyPlan.f l0_0).bind fun t404 => ((some (([] : List Int) : List Int)).bind fun y407 => (if y407.length + l0_2.length < 17592186044416 then (some (t404, a0_1, (y407 ++ l0_2))) else (none)))) = some (r1, r2, r3) := h
  clear h
  replace H := Option.bind_eq_some_iff.mp H
  obtain ⟨t404, A20, H⟩ := H
  (try dsimp only at H)
  have A2 := Aside0.mk A20
  clear A20
  obtain ⟨y407, hy407⟩ : ∃ y_ : List Int, y_ = (([] : List Int)) := ⟨_, rfl⟩
  replace H : (if y407.length + l0_2.length < 17592186044416 then (some (t404, a0_1, (y407 ++ l0_2))) else (none)) = some (r1, r2, r3) := by first | (rw [hy407]; with_reducible exact H) | (have H2_ := (Option.bind_some _ _).symm.trans H; rw [hy407]; with_reducible exact H2_) | (have H2_ := (Option.bind_some _ _).symm.trans H; with_reducible exact H2_) | with_reducible exact H | (rw [hy407]; exact H) | exact H
  have Ny407 := Aside0.mk hy407
  clear hy407
  by_cases c3 : y407.length + l0_2.length < 17592186044416
  · rw [if_pos c3] at H
    have LMc3 := Aside0.mk c3
    clear c3
    obtain ⟨y410, hy410⟩ : ∃ y_ : List Int, y_ = (y407 ++ l0_2) := ⟨_, rfl⟩
    replace H : (some (t404, a0_1, y410)) = some (r1, r2, r3) := by first | (rw [hy410]; with_reducible exact H) | (have H2_ := (Option.bind_some _ _).symm.trans H; rw [hy410]; with_reducible exact H2_) | (have H2_ := (Option.bind_some _ _).symm.trans H; with_reducible exact H2_) | with_reducible exact H | (rw [hy410]; exact H) | exact H
    have Ny410 := Aside0.mk hy410
    clear hy410
    simp only [Option.some.injEq, Prod.mk.injEq] at H
    obtain ⟨rfl, rfl, rfl⟩ := H
    go_enter Try.func69, Try.ntmps69
    try go_wp2_with (first | ((with_reducible refine gate_dst (N := 1) rfl ?_); refine box_event ?hg (N := 1) ?hd (cs := #[.slice A0_0 l0_0.length c0_0, .int .i64 a0_1, .slice A0_2 l0_2.length c0_2]) (t := 30) ?hr ?_; (case hd => rfl); (case hg => rfl); (case hr => first | (go_simp; done) | (go_simp; rfl)); intro gb402 hg w4 hbox hb; have n0_ := Aside0.mk (below_step (oB HB) hb); have n1_ := Aside0.mk (hbox); have n2_ := Aside0.mk ((by rw [hg]; exact (below_size (oB HB)) : w.heap.size ≤ gb402)); have n3_ := Aside0.mk ((by rw [hg]; exact (below_size (oB HB)) : w.heap.size ≤ gb402)); clear HB; have HB := n0_; have BK402 := n1_; have GW402 := n2_; have GE402 := n3_; clear n0_ n1_ n2_ n3_; clear hb hbox hg) | ((with_reducible refine gate_dst (N := 2) rfl ?_); refine box_event ?hg (N := 2) ?hd (cs := #[.slice none 0 0, .int .i64 0, .slice none 0 0]) (t := 30) ?hr ?_; (case hd => rfl); (case hg => rfl); (case hr => first | (go_simp; done) | (go_simp; rfl)); intro gb403 hg w5 hbox hb; have n0_ := Aside0.mk (blk_below (g := gb402) (o := .cells #[.slice A0_0 l0_0.length c0_0, .int .i64 a0_1, .slice A0_2 l0_2.length c0_2] 30 (0, 0)) (oK BK402) hb); have n1_ := Aside0.mk (below_step (oB HB) hb); have n2_ := Aside0.mk (hbox); have n3_ := Aside0.mk ((by rw [hg]; exact (below_size (oB HB)) : w.heap.size ≤ gb403)); have n4_ := Aside0.mk ((by rw [hg]; exact (below_size (oB HB)) : w.heap.size ≤ gb403)); have n5_ := Aside0.mk ((by rw [hg]; exact Nat.ne_of_lt (blk_lt (g := gb402) (o := .cells #[.slice A0_0 l0_0.length c0_0, .int .i64 a0_1, .slice A0_2 l0_2.length c0_2] 30 (0, 0)) (oK BK402)) : gb402 ≠ gb403)); have n6_ := Aside0.mk ((by rw [hg]; exact Nat.ne_of_gt (blk_lt (g := gb402) (o := .cells #[.slice A0_0 l0_0.length c0_0, .int .i64 a0_1, .slice A0_2 l0_2.length c0_2] 30 (0, 0)) (oK BK402)) : gb403 ≠ gb402)); clear BK402; clear HB; have BK402 := n0_; have HB := n1_; have BK403 := n2_; have GW403 := n3_; have GE403 := n4_; have NB402_403 := n5_; have NB403_402 := n6_; clear n0_ n1_ n2_ n3_ n4_ n5_ n6_; clear hb hbox hg))
    have n0_ := Aside0.mk (blk_drew BK402.out)
    have n1_ := Aside0.mk (blk_drew BK403.out)
    have n2_ := Aside0.mk (below_drew1 HB.out)
    clear BK402
    clear BK403
    clear HB
    have BK402 := n0_
    have BK403 := n1_
    have HB := n2_
    clear n0_ n1_ n2_
    refine start_ (n := 11) (S := fun w' => w'.cell? ⟨gb402, 0, none⟩ = some (.slice A0_0 l0_0.length c0_0) ∧ w'.cell? ⟨gb402, 1, none⟩ = some (.int .i64 a0_1) ∧ w'.cell? ⟨gb402, 2, none⟩ = some (.slice A0_2 l0_2.length c0_2)) (ds := []) #[false, false, false, false, false, false, false, false, false, false, false] (by kernel_rfl) rfl rfl ⟨(blk_cell BK402.out 0).trans rfl, (blk_cell BK402.out 1).trans rfl, (blk_cell BK402.out 2).trans rfl⟩ (fun hHeld => ?_); refine with_tabW impl_copyWork.tab1 impl_copyWork.bits1 (fun HT_ HW_ => ?_)
    generalize w5.drew = w6 at BK402 BK403 HB hHeld ⊢
    refine pure_ (i := 0) (N := some 3) (v := ?_) (a' := ?_) #[true, false, false, false, false, false, false, false, false, false, false] rfl rfl (any_of HT_.out (by kernel_rfl)) (fun _ _ _ h => h) (Or.inl ⟨by rfl, ?_⟩) ?_ ?_
    rotate_left
    · intro w'
      go_simp
      with_reducible rfl
    rotate_left
    · simp only [Act.put, List.setIfInBounds_toArray, List.set_cons_zero, List.set_cons_succ, i64_w, i32_w]
      rfl
    refine pure_ (i := 3) (N := some 6) (v := ?_) (a' := ?_) #[true, false, false, true, false, false, false, false, false, false, false] rfl rfl (any_of HT_.out (by kernel_rfl)) (fun _ _ _ h => h) (Or.inl ⟨by rfl, ?_⟩) ?_ ?_
    rotate_left
    · intro w'
      go_simp
      with_reducible rfl
    rotate_left
    · simp only [Act.put, List.setIfInBounds_toArray, List.set_cons_zero, List.set_cons_succ, i64_w, i32_w]
      rfl
    refine pure_ (i := 6) (N := some 9) (v := ?_) (a' := ?_) #[true, false, false, true, false, false, true, false, false, false, false] rfl rfl (any_of HT_.out (by kernel_rfl)) (fun _ _ _ h => h) (Or.inl ⟨by rfl, ?_⟩) ?_ ?_
    rotate_left
    · intro w'
      go_simp
      with_reducible rfl
    rotate_left
    · simp only [Act.put, List.setIfInBounds_toArray, List.set_cons_zero, List.set_cons_succ, i64_w, i32_w]
      rfl
    refine take_ (i := 1) (N := some 4) (v := ?_) (a' := ?_) #[true, true, false, true, false, false, true, false, false, false, false] rfl rfl (take_ofW HT_.out HW_.out (by kernel_rfl)) (fun _ _ _ h => h) (Or.inl ⟨by rfl, ?_⟩) hHeld ?_ ?_
    rotate_left
    · rintro w' ⟨s0, s1, s2⟩
      go_simp
      with_reducible rfl
    rotate_left
    · simp only [Act.put, List.setIfInBounds_toArray, List.set_cons_zero, List.set_cons_succ, i64_w, i32_w]
      rfl
    refine take_ (i := 4) (N := some 7) (v := ?_) (a' := ?_) #[true, true, false, true, true, false, true, false, false, false, false] rfl rfl (take_ofW HT_.out HW_.out (by kernel_rfl)) (fun _ _ _ h => h) (Or.inl ⟨by rfl, ?_⟩) hHeld ?_ ?_
    rotate_left
    · rintro w' ⟨s0, s1, s2⟩
      go_simp
      with_reducible rfl
    rotate_left
    · simp only [Act.put, List.setIfInBounds_toArray, List.set_cons_zero, List.set_cons_succ, i64_w, i32_w]
      rfl
    refine take_ (i := 7) (N := some 10) (v := ?_) (a' := ?_) #[true, true, false, true, true, false, true, true, false, false, false] rfl rfl (take_ofW HT_.out HW_.out (by kernel_rfl)) (fun _ _ _ h => h) (Or.inl ⟨by rfl, ?_⟩) hHeld ?_ ?_
    rotate_left
    · rintro w' ⟨s0, s1, s2⟩
      go_simp
      with_reducible rfl
    rotate_left
    · simp only [Act.put, List.setIfInBounds_toArray, List.set_cons_zero, List.set_cons_succ, i64_w, i32_w]
      rfl
    refine join_ (σ := Value × Value) 3 #[true, true, true, true, true, true, true, true, false, false, false] (fun s_ => [(5, s_.1), (8, s_.2)]) (fun s_ w' => (w'.cell? ⟨gb402, 0, none⟩ = some (.slice A0_0 l0_0.length c0_0) ∧ w'.cell? ⟨gb402, 1, none⟩ = some (.int .i64 a0_1) ∧ w'.cell? ⟨gb402, 2, none⟩ = some (.slice A0_2 l0_2.length c0_2)) ∧ (Kd.R k67 67 w' w.heap.size (fun _ => True) s_.1 t404) ∧ (Kd.R (Kd.int .i64) 3 w' w.heap.size (fun _ => True) s_.2 y407) ∧ (w'.heap[gb402]? = some (.cells #[.slice A0_0 l0_0.length c0_0, .int .i64 a0_1, .slice A0_2 l0_2.length c0_2] 30 (0, 0))) ∧ (w'.heap[gb403]? = some (.cells #[.slice none 0 0, .int .i64 0, .slice none 0 0] 30 (0, 0))) ∧ (Below w.heap.size w w')) ?_ ?_
    rotate_left
    · intro hCont
      refine two_ (i := 2) (j := 5) (Ni := some 5) (Nj := some 8) #[true, true, true, true, true, false, true, true, false, false, false] #[true, true, false, true, true, true, true, true, false, false, false] rfl rfl rfl rfl (two_of HT_.out (by kernel_rfl)) (by decide) (by decide) (fun K hK => ?_) (fun K hK => ?_)
      · skip
        refine goes_ Try.func65 (by kernel_rfl) rfl #[.slice A0_0 l0_0.length c0_0] (by rfl) rfl rfl (by (try simp only [List.map_toArray, List.map_cons, List.map_nil]); first | done | rfl | (simp only [List.length_drop, List.length_take]; rfl)) ?_
        with_reducible refine (impl_copyPlan.calls _ _ l0_0 t404 _ ?side1 ?side2 A2.out).mono ?_
        (case side1 => exact oc_ HR0_0.out)
        (case side2 => exact HC0_0.out)
        rintro e w7 ⟨v405, rfl, ho0, hb⟩
        refine ⟨_, rfl, ?_⟩
        have n0_ := Aside0.mk (Kd.R_lower ho0 (below_size (oB HB)))
        have n1_ := Aside0.mk (blk_below (g := gb402) (o := .cells #[.slice A0_0 l0_0.length c0_0, .int .i64 a0_1, .slice A0_2 l0_2.length c0_2] 30 (0, 0)) (oK BK402) hb)
        have n2_ := Aside0.mk (blk_below (g := gb403) (o := .cells #[.slice none 0 0, .int .i64 0, .slice none 0 0] 30 (0, 0)) (oK BK403) hb)
        have n3_ := Aside0.mk (below_step (oB HB) hb)
        clear BK402
        clear BK403
        clear HB
        have HO406 := n0_
        have BK402 := n1_
        have BK403 := n2_
        have HB := n3_
        clear n0_ n1_ n2_ n3_
        (try clear hb)
        (try clear hb2)
        (try clear hk)
        (try clear hi)
        (try clear ho0)
        refine hK.out _ _ ⟨(blk_cell BK402.out 0).trans rfl, (blk_cell BK402.out 1).trans rfl, (blk_cell BK402.out 2).trans rfl⟩ (fun hHeld => ?_)
        clear hK K
        refine norm_ (a' := ?_) ?_ ?_
        rotate_left
        · show Act.put _ (some 5) _ = _
          simp only [Act.put, List.setIfInBounds_toArray, List.set_cons_zero, List.set_cons_succ, i64_w, i32_w]
          rfl
        refine one_ (i := 5) (N := some 8) #[true, true, true, true, true, true, true, true, false, false, false] rfl rfl (one_of HT_.out (by kernel_rfl)) (by decide) (fun K hK => ?_)
        refine Kd.R_lit_step (Kd.int .i64) _ 3 ?hg (N := 8) ?hd (xs := ([] : List Int)) (inner := []) (ok := fun _ => True) (okp := fun _ => True) ?hr ?hp (fun _ hk => hk) trivial (Below.refl _ _) (Nat.le_refl _) (by simp) ?_; (case hd => rfl); (case hg => rfl); (case hr => first | (go_simp; done) | (go_simp; rfl)); (case hp => exact (Reps.none _ _))
        intro v408 w8 ho9 hb hg_ hnew_
        clear hg_ hnew_
        (first | rw [← Ny407.out] at ho9 | (simp only [Int.reduceToNat] at ho9; rw [← Ny407.out] at ho9))
        have n0_ := Aside0.mk (Kd.R_below (oR HO406) hb)
        have n1_ := Aside0.mk (Kd.R_lower ho9 (below_size (oB HB)))
        have n2_ := Aside0.mk (blk_below (g := gb402) (o := .cells #[.slice A0_0 l0_0.length c0_0, .int .i64 a0_1, .slice A0_2 l0_2.length c0_2] 30 (0, 0)) (oK BK402) hb)
        have n3_ := Aside0.mk (blk_below (g := gb403) (o := .cells #[.slice none 0 0, .int .i64 0, .slice none 0 0] 30 (0, 0)) (oK BK403) hb)
        have n4_ := Aside0.mk (below_step (oB HB) hb)
        clear HO406
        clear BK402
        clear BK403
        clear HB
        have HO406 := n0_
        have HO409 := n1_
        have BK402 := n2_
        have BK403 := n3_
        have HB := n4_
        clear n0_ n1_ n2_ n3_ n4_
        clear hb ho9
        refine hK.out _ _ ⟨(blk_cell BK402.out 0).trans rfl, (blk_cell BK402.out 1).trans rfl, (blk_cell BK402.out 2).trans rfl⟩ (fun hHeld => ?_)
        clear hK K
        refine norm_ (a' := ?_) ?_ ?_
        rotate_left
        · show Act.put _ (some 8) _ = _
          simp only [Act.put, List.setIfInBounds_toArray, List.set_cons_zero, List.set_cons_succ, i64_w, i32_w]
          rfl
        exact norm_ (by simp only [putAll, Act.put, List.setIfInBounds_toArray, List.set_cons_zero, List.set_cons_succ]) (hCont (v405, v408) _ ⟨hHeld, (oR HO406), (oR HO409), (oK BK402), (oK BK403), (oB HB)⟩)
      · skip
        refine Kd.R_lit_step (Kd.int .i64) _ 3 ?hg (N := 8) ?hd (xs := ([] : List Int)) (inner := []) (ok := fun _ => True) (okp := fun _ => True) ?hr ?hp (fun _ hk => hk) trivial (Below.refl _ _) (Nat.le_refl _) (by simp) ?_; (case hd => rfl); (case hg => rfl); (case hr => first | (go_simp; done) | (go_simp; rfl)); (case hp => exact (Reps.none _ _))
        intro v408 w7 ho8 hb hg_ hnew_
        clear hg_ hnew_
        (first | rw [← Ny407.out] at ho8 | (simp only [Int.reduceToNat] at ho8; rw [← Ny407.out] at ho8))
        have n0_ := Aside0.mk (Kd.R_lower ho8 (below_size (oB HB)))
        have n1_ := Aside0.mk (blk_below (g := gb402) (o := .cells #[.slice A0_0 l0_0.length c0_0, .int .i64 a0_1, .slice A0_2 l0_2.length c0_2] 30 (0, 0)) (oK BK402) hb)
        have n2_ := Aside0.mk (blk_below (g := gb403) (o := .cells #[.slice none 0 0, .int .i64 0, .slice none 0 0] 30 (0, 0)) (oK BK403) hb)
        have n3_ := Aside0.mk (below_step (oB HB) hb)
        clear BK402
        clear BK403
        clear HB
        have HO409 := n0_
        have BK402 := n1_
        have BK403 := n2_
        have HB := n3_
        clear n0_ n1_ n2_ n3_
        clear hb ho8
        refine hK.out _ _ ⟨(blk_cell BK402.out 0).trans rfl, (blk_cell BK402.out 1).trans rfl, (blk_cell BK402.out 2).trans rfl⟩ (fun hHeld => ?_)
        clear hK K
        refine norm_ (a' := ?_) ?_ ?_
        rotate_left
        · show Act.put _ (some 8) _ = _
          simp only [Act.put, List.setIfInBounds_toArray, List.set_cons_zero, List.set_cons_succ, i64_w, i32_w]
          rfl
        refine one_ (i := 2) (N := some 5) #[true, true, true, true, true, true, true, true, false, false, false] rfl rfl (one_of HT_.out (by kernel_rfl)) (by decide) (fun K hK => ?_)
        refine goes_ Try.func65 (by kernel_rfl) rfl #[.slice A0_0 l0_0.length c0_0] (by rfl) rfl rfl (by (try simp only [List.map_toArray, List.map_cons, List.map_nil]); first | done | rfl | (simp only [List.length_drop, List.length_take]; rfl)) ?_
        with_reducible refine (impl_copyPlan.calls _ _ l0_0 t404 _ ?side1 ?side2 A2.out).mono ?_
        (case side1 => exact oc_ HR0_0.out)
        (case side2 => exact HC0_0.out)
        rintro e w9 ⟨v405, rfl, ho0, hb⟩
        refine ⟨_, rfl, ?_⟩
        have n0_ := Aside0.mk (Kd.R_below (oR HO409) hb)
        have n1_ := Aside0.mk (Kd.R_lower ho0 (below_size (oB HB)))
        have n2_ := Aside0.mk (blk_below (g := gb402) (o := .cells #[.slice A0_0 l0_0.length c0_0, .int .i64 a0_1, .slice A0_2 l0_2.length c0_2] 30 (0, 0)) (oK BK402) hb)
        have n3_ := Aside0.mk (blk_below (g := gb403) (o := .cells #[.slice none 0 0, .int .i64 0, .slice none 0 0] 30 (0, 0)) (oK BK403) hb)
        have n4_ := Aside0.mk (below_step (oB HB) hb)
        clear HO409
        clear BK402
        clear BK403
        clear HB
        have HO409 := n0_
        have HO406 := n1_
        have BK402 := n2_
        have BK403 := n3_
        have HB := n4_
        clear n0_ n1_ n2_ n3_ n4_
        (try clear hb)
        (try clear hb2)
        (try clear hk)
        (try clear hi)
        (try clear ho0)
        refine hK.out _ _ ⟨(blk_cell BK402.out 0).trans rfl, (blk_cell BK402.out 1).trans rfl, (blk_cell BK402.out 2).trans rfl⟩ (fun hHeld => ?_)
        clear hK K
        refine norm_ (a' := ?_) ?_ ?_
        rotate_left
        · show Act.put _ (some 5) _ = _
          simp only [Act.put, List.setIfInBounds_toArray, List.set_cons_zero, List.set_cons_succ, i64_w, i32_w]
          rfl
        exact norm_ (by simp only [putAll, Act.put, List.setIfInBounds_toArray, List.set_cons_zero, List.set_cons_succ]) (hCont (v405, v408) _ ⟨hHeld, (oR HO406), (oR HO409), (oK BK402), (oK BK403), (oB HB)⟩)
    rintro ⟨v405, v408⟩ w10 ⟨hS_, h0_, h1_, h2_, h3_, h4_⟩
    have n0_ : Aside0 (Kd.R k67 67 w10 w.heap.size (fun _ => True) v405 t404) := ⟨h0_⟩
    have n1_ : Aside0 (Kd.R (Kd.int .i64) 3 w10 w.heap.size (fun _ => True) v408 y407) := ⟨h1_⟩
    have n2_ : Aside0 (w10.heap[gb402]? = some (.cells #[.slice A0_0 l0_0.length c0_0, .int .i64 a0_1, .slice A0_2 l0_2.length c0_2] 30 (0, 0))) := ⟨h2_⟩
    have n3_ : Aside0 (w10.heap[gb403]? = some (.cells #[.slice none 0 0, .int .i64 0, .slice none 0 0] 30 (0, 0))) := ⟨h3_⟩
    have n4_ : Aside0 (Below w.heap.size w w10) := ⟨h4_⟩
    clear BK402
    clear BK403
    clear HB
    clear h0_ h1_ h2_ h3_ h4_
    have HO406 := n0_
    have HO409 := n1_
    have BK402 := n2_
    have BK403 := n3_
    have HB := n4_
    clear n0_ n1_ n2_ n3_ n4_
    have hHeld : w10.cell? ⟨gb402, 0, none⟩ = some (.slice A0_0 l0_0.length c0_0) ∧ w10.cell? ⟨gb402, 1, none⟩ = some (.int .i64 a0_1) ∧ w10.cell? ⟨gb402, 2, none⟩ = some (.slice A0_2 l0_2.length c0_2) := hS_
    refine norm_ (a' := ?_) ?_ ?_
    rotate_left
    · simp only [putAll, Act.put, List.setIfInBounds_toArray, List.set_cons_zero, List.set_cons_succ]
      rfl
    refine one_ (i := 8) (N := some 11) #[true, true, true, true, true, true, true, true, true, false, false] rfl rfl (one_of HT_.out (by kernel_rfl)) (by decide) (fun K hK => ?_)
    refine Kd.R_append_rows_step (Kd.int .i64) (w0 := w) w.heap.size (by rfl) (.tmp 8) (.tmp 10) 23 3 (.int .i64 0) 8 rfl Try.underlying23 info3 rfl (by decide) (by omega) v408 y407 l0_2 _ _ _ (fun _ => True) (fun _ => False) rfl rfl ?aO ?aR (fun _ _ h => h) (fun _ h => h.elim) ?aF ?aB ?aS ?aL ?_
    (case aR => exact oc_ HR0_2.out)
    (case aB => exact (oB HB))
    (case aF => exact (fun _ _ => trivial))
    (case aO => exact (oR HO409))
    (case aS => exact (below_size (oB HB)))
    (case aL => have := LMc3.out; omega)
    intro v411 w11 ho hb hg hat
    rw [← Ny410.out] at ho
    have n0_ := Aside0.mk (blk_grown (g := gb402) (o := .cells #[.slice A0_0 l0_0.length c0_0, .int .i64 a0_1, .slice A0_2 l0_2.length c0_2] 30 (0, 0)) (oK BK402) hg (Kd.R_ne HO409.out BK402.out (by decide)))
    have n1_ := Aside0.mk (blk_grown (g := gb403) (o := .cells #[.slice none 0 0, .int .i64 0, .slice none 0 0] 30 (0, 0)) (oK BK403) hg (Kd.R_ne HO409.out BK403.out (by decide)))
    have n2_ := Aside0.mk (Kd.R_over' (oR HO406) (Kd.R_typed (oR HO409)) (by decide) hg)
    have n3_ := Aside0.mk (hb)
    have n4_ := Aside0.mk (ho)
    clear BK402
    clear BK403
    clear HO406
    clear HB
    clear HO409
    have BK402 := n0_
    have BK403 := n1_
    have HO406 := n2_
    have HB := n3_
    have HO412 := n4_
    clear n0_ n1_ n2_ n3_ n4_
    clear ho hb hg hat
    obtain ⟨Ao12, co12, eo12⟩ := Kd.R_slice HO412.out
    (first | subst eo12 | (injection eo12 with f1_ f2_ f3_; have f4_ := f1_.symm; have f5_ := f3_.symm; clear f1_ f2_ f3_; subst f4_; subst f5_))
    obtain ⟨Ao13, co13, eo13⟩ := Kd.R_slice HO406.out
    (first | subst eo13 | (injection eo13 with f1_ f2_ f3_; have f4_ := f1_.symm; have f5_ := f3_.symm; clear f1_ f2_ f3_; subst f4_; subst f5_))
    refine hK.out _ _ ⟨(blk_cell BK402.out 0).trans rfl, (blk_cell BK402.out 1).trans rfl, (blk_cell BK402.out 2).trans rfl⟩ (fun hHeld => ?_)
    clear hK K
    refine norm_ (a' := ?_) ?_ ?_
    rotate_left
    · show Act.put _ (some 11) _ = _
      simp only [Act.put, List.setIfInBounds_toArray, List.set_cons_zero, List.set_cons_succ, i64_w, i32_w]
      rfl
    refine pure_ (i := 9) (N := some 12) (v := ?_) (a' := ?_) #[true, true, true, true, true, true, true, true, true, true, false] rfl rfl (any_of HT_.out (by kernel_rfl)) (fun _ _ _ h => h) (Or.inl ⟨by rfl, ?_⟩) ?_ ?_
    rotate_left
    · intro w'
      go_simp
      with_reducible rfl
    rotate_left
    · simp only [Act.put, List.setIfInBounds_toArray, List.set_cons_zero, List.set_cons_succ, i64_w, i32_w]
      rfl
    refine one_ (i := 10) (N := none) #[true, true, true, true, true, true, true, true, true, true, true] rfl rfl (one_of HT_.out (by kernel_rfl)) (by decide) (fun K hK => ?_)
    have hs14 : w11.cell? ⟨gb403, 0, none⟩ = some (.slice none 0 0) := (blk_cell BK403.out 0).trans rfl
    have hfs14 := blk_frozen BK403.out 0
    have hns14_0 := NB402_403.out
    have hms14_0 := NB403_402.out
    have hs15 : w11.cell? ⟨gb403, 1, none⟩ = some (.int .i64 0) := (blk_cell BK403.out 1).trans rfl
    have hfs15 := blk_frozen BK403.out 1
    have hns15_0 := NB402_403.out
    have hms15_0 := NB403_402.out
    have hs16 : w11.cell? ⟨gb403, 2, none⟩ = some (.slice none 0 0) := (blk_cell BK403.out 2).trans rfl
    have hfs16 := blk_frozen BK403.out 2
    have hns16_0 := NB402_403.out
    have hms16_0 := NB403_402.out
    refine skip_ (w1 := ?_) (by rfl) rfl ?_ ?_
    rotate_left
    · go_simp
      rfl
    refine hK.out _ _ ⟨((cell_far (p := ⟨gb403, _, none⟩) NB402_403.out _).trans (((cell_far (p := ⟨gb403, _, none⟩) NB402_403.out _).trans (((cell_far (p := ⟨gb403, _, none⟩) NB402_403.out _).trans (hHeld.1)))))), ((cell_far (p := ⟨gb403, _, none⟩) NB402_403.out _).trans (((cell_far (p := ⟨gb403, _, none⟩) NB402_403.out _).trans (((cell_far (p := ⟨gb403, _, none⟩) NB402_403.out _).trans (hHeld.2.1)))))), ((cell_far (p := ⟨gb403, _, none⟩) NB402_403.out _).trans (((cell_far (p := ⟨gb403, _, none⟩) NB402_403.out _).trans (((cell_far (p := ⟨gb403, _, none⟩) NB402_403.out _).trans (hHeld.2.2))))))⟩ (fun hHeld => ?_)
    clear hK K
    refine done_ (done_of HT_.out (by kernel_rfl)) ?_
    try go_wp2
    refine bodyPost_ret (results_cell_row rfl _ _ gb403 30 #[.slice Ao13 t404.length co13, .int .i64 a0_1, .slice Ao12 y410.length co12] (0, 0) _ rfl (by (with_reducible repeat (first | refine blk_drewN ?_ _ | refine blk_drew ?_ | refine blk_alloc ?_ _)); refine blk_put (cs := #[.slice Ao13 t404.length co13, .int .i64 a0_1, .slice none 0 0]) ?_ 2 _ rfl; (with_reducible repeat (first | refine blk_drewN ?_ _ | refine blk_drew ?_ | refine blk_alloc ?_ _)); refine blk_put (cs := #[.slice Ao13 t404.length co13, .int .i64 0, .slice none 0 0]) ?_ 1 _ rfl; (with_reducible repeat (first | refine blk_drewN ?_ _ | refine blk_drew ?_ | refine blk_alloc ?_ _)); refine blk_put (cs := #[.slice none 0 0, .int .i64 0, .slice none 0 0]) ?_ 0 _ rfl; (with_reducible repeat (first | refine blk_drewN ?_ _ | refine blk_drew ?_ | refine blk_alloc ?_ _)); exact BK403.out) Try.underlying30 rfl (by kernel_rfl)) rfl ?_
    exact ⟨_, _, by first | rfl | (simp [errW_none, errW_some] <;> rfl) | (simp [*, errW_none, errW_some] <;> rfl), by (with_reducible repeat (first | apply Kd.R_alloc | apply Kd.R_drewN | apply Kd.R_drew)); exact Kd.R_mono (Kd.R_far (p := ⟨gb403, 2, none⟩) (Kd.R_far (p := ⟨gb403, 1, none⟩) (Kd.R_far (p := ⟨gb403, 0, none⟩) (Kd.R_types HO406.out BK403.out (by decide)) (fun _ hk => hk.2) (.slice Ao13 t404.length co13)) (fun _ hk => hk.2) (.int .i64 a0_1)) (fun _ hk => hk.2) (.slice Ao12 y410.length co12)) (fun _ hk => trivial), by (with_reducible repeat (first | apply Kd.R_alloc | apply Kd.R_drewN | apply Kd.R_drew)); exact Kd.R_mono (Kd.R_far (p := ⟨gb403, 2, none⟩) (Kd.R_far (p := ⟨gb403, 1, none⟩) (Kd.R_far (p := ⟨gb403, 0, none⟩) (Kd.R_types HO412.out BK403.out (by decide)) (fun _ hk => hk.2) (.slice Ao13 t404.length co13)) (fun _ hk => hk.2) (.int .i64 a0_1)) (fun _ hk => hk.2) (.slice Ao12 y410.length co12)) (fun _ hk => trivial), oB HB⟩
  · rw [if_neg c3] at H
    exact absurd H (by simp)
end Go.Proofs.Ytlhlmjklajdejaa.P


namespace Go.Proofs.Ytlhlmjklajdejaa.P
open Go.RowKit Go.Proofs.YtlhlmjklajdejaaW.PrintWords Go.Proofs.YtlhlmjklajdejaaW.PrintLast Go.Proofs.YtlhlmjklajdejaaW.PrintMore
attribute [local go_sem] max2_int min2_int max_two min_two max_three min_three max_four min_four
set_option linter.unusedVariables false
set_option linter.unusedSimpArgs false
def impl_KnockKey.j0 : Nat → Int → Int → Bool → List (S67) → Int → List Int → List (S67) → Int → List Int → Option ((List (S67)) × Int × List Int × Bool)
  | 0, _, _, _, _, _, _, _, _, _ => none
  | k + 1, x1, x2, x31, x414000, x414001, x414002, x423000, x423001, x423002 => if x31 = true then (some (x423000, x423001, x423002, false)) else (if 0 ≤ x1 then (if x1 < (x423002.length : Int) then ((some (x423002.set (x1 : Int).toNat (wrap64 ((rd x423002 x1) + x2)) : List Int)).bind fun y428 => ((impl_WorkOk.f x423000 x423001 y428).bind fun t429 => (if t429 = true then (some (x423000, x423001, y428, true)) else ((impl_copyWork.f x414000 x414001 x414002).bind fun bt430 => (some (bt430.1, bt430.2.1, bt430.2.2, false)))))) else (none)) else (none))
def impl_KnockKey.f (k : Nat) (l0_0 : List (S67)) (a0_1 : Int) (l0_2 : List Int) (a1 : Int) (a2 : Int) : Option ((List (S67)) × Int × List Int × Bool) := (impl_copyWork.f l0_0 a0_1 l0_2).bind fun bt415 => ((impl_WorkOk.f l0_0 a0_1 l0_2).bind fun t423 => (if t423 = true then ((impl_within.f a1 0 11).bind fun t424 => (if t424 = true then (if 0 ≤ a1 then (if a1 < (l0_2.length : Int) then (if (rd l0_2 a1) = 0 then (impl_KnockKey.j0 k a1 a2 true l0_0 a0_1 l0_2 bt415.1 bt415.2.1 bt415.2.2) else ((impl_within.f a2 (-100000) 100000).bind fun t426 => (impl_KnockKey.j0 k a1 a2 (!t426) l0_0 a0_1 l0_2 bt415.1 bt415.2.1 bt415.2.2))) else (none)) else (none)) else (impl_KnockKey.j0 k a1 a2 true l0_0 a0_1 l0_2 bt415.1 bt415.2.1 bt415.2.2))) else (impl_KnockKey.j0 k a1 a2 true l0_0 a0_1 l0_2 bt415.1 bt415.2.1 bt415.2.2)))
def impl_KnockKey.T4 : Bool × List (List Nat × List Nat) := (true, [([], []), ([0], [0]), ([], []), ([], []), ([3], [3]), ([], []), ([4, 5], [4, 5]), ([6], [6]), ([], []), ([7, 8], [7, 8]), ([1, 2, 0, 1, 2, 3, 4, 5, 6, 7, 8, 9], [1, 2]), ([10, 9, 0, 1, 2, 3, 4, 5, 6, 7, 8, 9], [9, 10])])
def impl_KnockKey.B4 : List Nat := [0, 1, 0, 0, 8, 0, 56, 120, 0, 504, 1023, 2047]
theorem impl_KnockKey.tab4 : rtab .any (opsOf Try.f31 4) = impl_KnockKey.T4 := by kernel_rfl
theorem impl_KnockKey.bits4 : waitsOk impl_KnockKey.T4.2 impl_KnockKey.B4 = true := by kernel_rfl
set_option maxHeartbeats 8000000 in
set_option maxRecDepth 100000 in
theorem impl_KnockKey.calls (k : Nat) (A0_0 : Option Addr) (c0_0 : Nat) (l0_0 : List (S67)) (a0_1 : Int) (A0_2 : Option Addr) (c0_2 : Nat) (l0_2 : List Int) (a1 : Int) (a2 : Int) (r1 : List (S67)) (r2 : Int) (r3 : List Int) (r4 : Bool) (w : World) (hr0_0 : Kd.C k67 w A0_0 l0_0.length l0_0) (hc0_0 : l0_0.length ≤ c0_0) (hr0_2 : Kd.C (Kd.int .i64) w A0_2 l0_2.length l0_2) (hc0_2 : l0_2.length ≤ c0_2) (h : impl_KnockKey.f k l0_0 a0_1 l0_2 a1 a2 = some (r1, r2, r3, r4)) :
    Calls Try.prog 31 #[.agg #[.slice A0_0 l0_0.length c0_0, .int .i64 a0_1, .slice A0_2 l0_2.length c0_2], .int .i64 a1, .int .i64 a2] w fun e w' => ∃ v0_ v2_ : Value, e = .returned (.tuple #[.agg #[v0_, .int .i64 r2, v2_], .bool r4]) ∧ Kd.R k67 67 w' w.heap.size (fun _ => True) v0_ r1 ∧ Kd.R (Kd.int .i64) 3 w' w.heap.size (fun _ => True) v2_ r3 ∧ Below w.heap.size w w' := by
  have hu30 := Try.underlying30
  have HR0_0 := Aside0.mk hr0_0
  have HC0_0 := Aside0.mk hc0_0
  clear hr0_0 hc0_0
  have HR0_2 := Aside0.mk hr0_2
  have HC0_2 := Aside0.mk hc0_2
  clear hr0_2 hc0_2
  have HB := Aside0.mk (Below.refl w.heap.size w)
  have H : ((impl_copyWork.f l0_0 a0_1 l0_2).bind fun bt415 => ((impl_WorkOk.f l0_0 a0_1 l0_2).bind fun t423 => (if t423 = true then ((impl_within.f a1 0 11).bind fun t424 => (if t424 = true then (if 0 ≤ a1 then (if a1 < (l0_2.length : Int) then (if (rd l0_2 a1) = 0 then (impl_KnockKey.j0 k a1 a2 true l0_0 a0_1 l0_2 bt415.1 bt415.2.1 bt415.2.2) else ((impl_within.f a2 (-100000) 100000).bind fun t426 => (impl_KnockKey.j0 k a1 a2 (!t426) l0_0 a0_1 l0_2 bt415.1 bt415.2.1 bt415.2.2))) else (none)) else (none)) else (impl_KnockKey.j0 k a1 a2 true l0_0 a0_1 l0_2 bt415.1 bt415.2.1 bt415.2.2))) else (impl_KnockKey.j0 k a1 a2 true l0_0 a0_1 l0_2 bt415.1 bt415.2.1 bt415.2.2)))) = some (r1, r2, r3, r4) := h
  clear h
  replace H := Option.bind_eq_some_iff.mp H
  obtain ⟨⟨t415, t418, t419⟩, A40, H⟩ := H
  (try dsimp only at H)
  have A4 := Aside0.mk A40
  clear A40
  have HC5 := Aside0.mk H
  clear H
  go_enter Try.func31, Try.ntmps31
  go_upto_region 2 with (first | ((with_reducible refine gate_dst (N := 3) rfl ?_); refine box_event ?hg (N := 3) ?hd (cs := #[.slice A0_0 l0_0.length c0_0, .int .i64 a0_1, .slice A0_2 l0_2.length c0_2]) (t := 30) ?hr ?_; (case hd => rfl); (case hg => rfl); (case hr => first | (go_simp; done) | (go_simp; rfl)); intro gb413 hg w6 hbox hb; have n0_ := Aside0.mk (below_step (oB HB) hb); have n1_ := Aside0.mk (hbox); have n2_ := Aside0.mk ((by rw [hg]; exact (below_size (oB HB)) : w.heap.size ≤ gb413)); have n3_ := Aside0.mk ((by rw [hg]; exact (below_size (oB HB)) : w.heap.size ≤ gb413)); clear HB; have HB := n0_; have BK413 := n1_; have GW413 := n2_; have GE413 := n3_; clear n0_ n1_ n2_ n3_; clear hb hbox hg) | ((with_reducible refine gate_dst (N := 6) rfl ?_); refine box_event ?hg (N := 6) ?hd (cs := #[.slice none 0 0, .int .i64 0, .slice none 0 0]) (t := 30) ?hr ?_; (case hd => rfl); (case hg => rfl); (case hr => first | (go_simp; done) | (go_simp; rfl)); intro gb414 hg w7 hbox hb; have n0_ := Aside0.mk (blk_below (g := gb413) (o := .cells #[.slice A0_0 l0_0.length c0_0, .int .i64 a0_1, .slice A0_2 l0_2.length c0_2] 30 (0, 0)) (oK BK413) hb); have n1_ := Aside0.mk (below_step (oB HB) hb); have n2_ := Aside0.mk (hbox); have n3_ := Aside0.mk ((by rw [hg]; exact (below_size (oB HB)) : w.heap.size ≤ gb414)); have n4_ := Aside0.mk ((by rw [hg]; exact (below_size (oB HB)) : w.heap.size ≤ gb414)); have n5_ := Aside0.mk ((by rw [hg]; exact Nat.ne_of_lt (blk_lt (g := gb413) (o := .cells #[.slice A0_0 l0_0.length c0_0, .int .i64 a0_1, .slice A0_2 l0_2.length c0_2] 30 (0, 0)) (oK BK413)) : gb413 ≠ gb414)); have n6_ := Aside0.mk ((by rw [hg]; exact Nat.ne_of_gt (blk_lt (g := gb413) (o := .cells #[.slice A0_0 l0_0.length c0_0, .int .i64 a0_1, .slice A0_2 l0_2.length c0_2] 30 (0, 0)) (oK BK413)) : gb414 ≠ gb413)); clear BK413; clear HB; have BK413 := n0_; have HB := n1_; have BK414 := n2_; have GW414 := n3_; have GE414 := n4_; have NB413_414 := n5_; have NB414_413 := n6_; clear n0_ n1_ n2_ n3_ n4_ n5_ n6_; clear hb hbox hg; have hnb8 := NB413_414.out; have hnc8 := NB414_413.out; have hcz9_0 : w7.cell? ⟨gb413, 0, none⟩ = some (.slice A0_0 l0_0.length c0_0) := (blk_cell BK413.out 0).trans rfl; have hcz9_1 : w7.cell? ⟨gb413, 1, none⟩ = some (.int .i64 a0_1) := (blk_cell BK413.out 1).trans rfl; have hcz9_2 : w7.cell? ⟨gb413, 2, none⟩ = some (.slice A0_2 l0_2.length c0_2) := (blk_cell BK413.out 2).trans rfl; have hfz9_0 := blk_frozen BK413.out 0; have hfz9_1 := blk_frozen BK413.out 1; have hfz9_2 := blk_frozen BK413.out 2) | ((with_reducible refine gate_callee (f := 69) rfl ?_); refine goesL_ (some 10) rfl rfl Try.func69 (by kernel_rfl) rfl #[.agg #[.slice A0_0 l0_0.length c0_0, .int .i64 a0_1, .slice A0_2 l0_2.length c0_2]] rfl (by (try simp only [List.map_toArray, List.map_cons, List.map_nil]); first | done | rfl | (simp only [List.length_drop, List.length_take]; rfl)) ?_; (with_reducible refine (impl_copyWork.calls _ _ l0_0 a0_1 _ _ l0_2 t415 t418 t419 _ ?side1 ?side2 ?side3 ?side4 A4.out).mono ?_); (case side1 => exact oc_ HR0_0.out); (case side2 => exact HC0_0.out); (case side3 => exact oc_ HR0_2.out); (case side4 => exact HC0_2.out); rintro e w10 ⟨v416, v420, rfl, ho0, ho1, hb⟩; refine ⟨_, rfl, ?_⟩; have n0_ := Aside0.mk (Kd.R_lower ho0 (below_size (oB HB))); have n1_ := Aside0.mk (Kd.R_lower ho1 (below_size (oB HB))); have n2_ := Aside0.mk (blk_below (g := gb413) (o := .cells #[.slice A0_0 l0_0.length c0_0, .int .i64 a0_1, .slice A0_2 l0_2.length c0_2] 30 (0, 0)) (oK BK413) hb); have n3_ := Aside0.mk (blk_below (g := gb414) (o := .cells #[.slice none 0 0, .int .i64 0, .slice none 0 0] 30 (0, 0)) (oK BK414) hb); have n4_ := Aside0.mk (below_step (oB HB) hb); clear BK413; clear BK414; clear HB; have HO417 := n0_; have HO421 := n1_; have BK413 := n2_; have BK414 := n3_; have HB := n4_; clear n0_ n1_ n2_ n3_ n4_; (try clear hb); (try clear hb2); (try clear hk); (try clear hi); (try clear ho0); (try clear ho1)) | ((with_reducible refine gate_dst (N := 8) rfl ?_); refine box_event ?hg (N := 8) ?hd (cs := #[.slice none 0 0, .int .i64 0, .slice none 0 0]) (t := 30) ?hr ?_; (case hd => rfl); (case hg => rfl); (case hr => first | (go_simp; done) | (go_simp; rfl)); intro gb422 hg w11 hbox hb; have n0_ := Aside0.mk (Kd.R_below (oR HO417) hb); have n1_ := Aside0.mk (Kd.R_below (oR HO421) hb); have n2_ := Aside0.mk (blk_below (g := gb413) (o := .cells #[.slice A0_0 l0_0.length c0_0, .int .i64 a0_1, .slice A0_2 l0_2.length c0_2] 30 (0, 0)) (oK BK413) hb); have n3_ := Aside0.mk (blk_below (g := gb414) (o := .cells #[.slice none 0 0, .int .i64 0, .slice none 0 0] 30 (0, 0)) (oK BK414) hb); have n4_ := Aside0.mk (below_step (oB HB) hb); have n5_ := Aside0.mk (hbox); have n6_ := Aside0.mk ((by rw [hg]; exact (below_size (oB HB)) : w.heap.size ≤ gb422)); have n7_ := Aside0.mk ((by rw [hg]; exact (below_size (oB HB)) : w.heap.size ≤ gb422)); have n8_ := Aside0.mk ((by rw [hg]; exact Nat.ne_of_lt (blk_lt (g := gb413) (o := .cells #[.slice A0_0 l0_0.length c0_0, .int .i64 a0_1, .slice A0_2 l0_2.length c0_2] 30 (0, 0)) (oK BK413)) : gb413 ≠ gb422)); have n9_ := Aside0.mk ((by rw [hg]; exact Nat.ne_of_gt (blk_lt (g := gb413) (o := .cells #[.slice A0_0 l0_0.length c0_0, .int .i64 a0_1, .slice A0_2 l0_2.length c0_2] 30 (0, 0)) (oK BK413)) : gb422 ≠ gb413)); have n10_ := Aside0.mk ((by rw [hg]; exact Nat.ne_of_lt (blk_lt (g := gb414) (o := .cells #[.slice none 0 0, .int .i64 0, .slice none 0 0] 30 (0, 0)) (oK BK414)) : gb414 ≠ gb422)); have n11_ := Aside0.mk ((by rw [hg]; exact Nat.ne_of_gt (blk_lt (g := gb414) (o := .cells #[.slice none 0 0, .int .i64 0, .slice none 0 0] 30 (0, 0)) (oK BK414)) : gb422 ≠ gb414)); clear HO417; clear HO421; clear BK413; clear BK414; clear HB; have HO417 := n0_; have HO421 := n1_; have BK413 := n2_; have BK414 := n3_; have HB := n4_; have BK422 := n5_; have GW422 := n6_; have GE422 := n7_; have NB413_422 := n8_; have NB422_413 := n9_; have NB414_422 := n10_; have NB422_414 := n11_; clear n0_ n1_ n2_ n3_ n4_ n5_ n6_ n7_ n8_ n9_ n10_ n11_; clear hb hbox hg; obtain ⟨Ao12, co12, eo12⟩ := Kd.R_slice HO417.out; subst eo12; have hnb13 := NB422_413.out; have hnc13 := NB413_422.out; have hnb14 := NB422_414.out; have hnc14 := NB414_422.out; have hcz15_0 : w11.cell? ⟨gb422, 0, none⟩ = some (.slice none 0 0) := (blk_cell BK422.out 0).trans rfl; have hcz15_1 : w11.cell? ⟨gb422, 1, none⟩ = some (.int .i64 0) := (blk_cell BK422.out 1).trans rfl; have hcz15_2 : w11.cell? ⟨gb422, 2, none⟩ = some (.slice none 0 0) := (blk_cell BK422.out 2).trans rfl; have hfz15_0 := blk_frozen BK422.out 0; have hfz15_1 := blk_frozen BK422.out 1; have hfz15_2 := blk_frozen BK422.out 2; obtain ⟨Ao16, co16, eo16⟩ := Kd.R_slice HO421.out; subst eo16))
  (try simp only [Act.put, List.setIfInBounds_toArray, List.set_cons_zero, List.set_cons_succ])
  go_cut [31] (fun v31 wc => ∃ (kq : Nat) (x31_4 : Bool), v31 = .bool x31_4 ∧ Aside0 (impl_KnockKey.j0 kq a1 a2 x31_4 l0_0 a0_1 l0_2 t415 t418 t419 = some (r1, r2, r3, r4)) ∧ Aside0 (kq ≤ k) ∧ Aside0 (Kd.R k67 67 wc w.heap.size (fun _ => True) (.slice Ao12 t415.length co12) t415) ∧ Aside0 (Kd.R (Kd.int .i64) 3 wc w.heap.size (fun _ => True) (.slice Ao16 t419.length co16) t419) ∧ Aside0 (wc.heap[gb413]? = some (.cells #[(.slice A0_0 l0_0.length c0_0), .int .i64 a0_1, (.slice A0_2 l0_2.length c0_2)] 30 (0, 0))) ∧ Aside0 (wc.heap[gb414]? = some (.cells #[(.slice none 0 0), .int .i64 0, (.slice none 0 0)] 30 (0, 0))) ∧ Aside0 (wc.heap[gb422]? = some (.cells #[(.slice Ao12 t415.length co12), .int .i64 t418, (.slice Ao16 t419.length co16)] 30 (0, 0))) ∧ Aside0 (Below w.heap.size w wc))
  case first =>
    have H := HC5.out
    clear HC5
    replace H := Option.bind_eq_some_iff.mp H
    obtain ⟨t423, A170, H⟩ := H
    (try dsimp only at H)
    have A17 := Aside0.mk A170
    clear A170
    by_cases c18 : t423 = true
    · subst c18
      rw [if_pos rfl] at H
      replace H := Option.bind_eq_some_iff.mp H
      obtain ⟨t424, A190, H⟩ := H
      (try dsimp only at H)
      have A19 := Aside0.mk A190
      clear A190
      by_cases c20 : t424 = true
      · subst c20
        rw [if_pos rfl] at H
        by_cases c21 : 0 ≤ a1
        · rw [if_pos c21] at H
          have c21b0 : decide (0 ≤ a1) = true := decide_eq_true c21
          clear c21
          (first | rw [c21b0] | (simp only [i64_w, i32_w]; rw [c21b0]) | skip)
          by_cases c22 : a1 < (l0_2.length : Int)
          · rw [if_pos c22] at H
            have c22b0 : decide (a1 < (l0_2.length : Int)) = true := decide_eq_true c22
            clear c22
            by_cases c23 : (rd l0_2 a1) = 0
            · rw [if_pos c23] at H
              have c23b0 : ((rd l0_2 a1) == 0) = true := beq_iff_eq.mpr c23
              have c23b1 : ((rd l0_2 a1) != 0) = false := bne_eq_false_iff_eq.mpr c23
              clear c23
              have H' := Aside0.mk H
              clear H
              have hnb24 := NB413_414.out
              have hnc24 := NB414_413.out
              have hnb25 := NB413_422.out
              have hnc25 := NB422_413.out
              have hcz26_0 : w11.cell? ⟨gb413, 0, none⟩ = some (.slice A0_0 l0_0.length c0_0) := (blk_cell BK413.out 0).trans rfl
              have hcz26_1 : w11.cell? ⟨gb413, 1, none⟩ = some (.int .i64 a0_1) := (blk_cell BK413.out 1).trans rfl
              have hcz26_2 : w11.cell? ⟨gb413, 2, none⟩ = some (.slice A0_2 l0_2.length c0_2) := (blk_cell BK413.out 2).trans rfl
              have hfz26_0 := blk_frozen BK413.out 0
              have hfz26_1 := blk_frozen BK413.out 1
              have hfz26_2 := blk_frozen BK413.out 2
              go_wp2_with (first | ((with_reducible refine gate_callee (f := 18) rfl ?_); refine goesL_ (some 12) rfl rfl Try.func18 (by kernel_rfl) rfl #[.agg #[.slice A0_0 l0_0.length c0_0, .int .i64 a0_1, .slice A0_2 l0_2.length c0_2]] rfl (by (try simp only [List.map_toArray, List.map_cons, List.map_nil]); first | done | rfl | (simp only [List.length_drop, List.length_take]; rfl)) ?_; (with_reducible refine (impl_WorkOk.calls _ _ l0_0 a0_1 _ _ l0_2 true _ ?side1 ?side2 ?side3 ?side4 A17.out).mono ?_); (case side1 => exact Kd.C_below HR0_0.out (oB HB)); (case side2 => exact HC0_0.out); (case side3 => exact Kd.C_below HR0_2.out (oB HB)); (case side4 => exact HC0_2.out); rintro e w27 ⟨rfl, hb⟩; refine ⟨_, rfl, ?_⟩; have n0_ := Aside0.mk (Kd.R_below (by (with_reducible repeat (first | apply Kd.R_alloc | apply Kd.R_drewN | apply Kd.R_drew)); exact (Kd.R_mono (Kd.R_far (p := ⟨gb422, 2, none⟩) (Kd.R_far (p := ⟨gb422, 1, none⟩) (Kd.R_far (p := ⟨gb422, 0, none⟩) (Kd.R_types HO417.out BK422.out (by decide)) (fun _ hk => hk.2) (.slice Ao12 t415.length co12)) (fun _ hk => hk.2) (.int .i64 t418)) (fun _ hk => hk.2) (.slice Ao16 t419.length co16)) (fun _ h_ => h_.1))) hb); have n1_ := Aside0.mk (Kd.R_below (by (with_reducible repeat (first | apply Kd.R_alloc | apply Kd.R_drewN | apply Kd.R_drew)); exact (Kd.R_mono (Kd.R_far (p := ⟨gb422, 2, none⟩) (Kd.R_far (p := ⟨gb422, 1, none⟩) (Kd.R_far (p := ⟨gb422, 0, none⟩) (Kd.R_types HO421.out BK422.out (by decide)) (fun _ hk => hk.2) (.slice Ao12 t415.length co12)) (fun _ hk => hk.2) (.int .i64 t418)) (fun _ hk => hk.2) (.slice Ao16 t419.length co16)) (fun _ h_ => h_.1))) hb); have n2_ := Aside0.mk (blk_below (g := gb413) (o := .cells #[.slice A0_0 l0_0.length c0_0, .int .i64 a0_1, .slice A0_2 l0_2.length c0_2] 30 (0, 0)) (by (with_reducible repeat (first | refine blk_drewN ?_ _ | refine blk_drew ?_ | refine blk_alloc ?_ _)); refine blk_far ?_ NB413_422.out _; (with_reducible repeat (first | refine blk_drewN ?_ _ | refine blk_drew ?_ | refine blk_alloc ?_ _)); refine blk_far ?_ NB413_422.out _; (with_reducible repeat (first | refine blk_drewN ?_ _ | refine blk_drew ?_ | refine blk_alloc ?_ _)); refine blk_far ?_ NB413_422.out _; (with_reducible repeat (first | refine blk_drewN ?_ _ | refine blk_drew ?_ | refine blk_alloc ?_ _)); exact BK413.out) hb); have n3_ := Aside0.mk (blk_below (g := gb414) (o := .cells #[.slice none 0 0, .int .i64 0, .slice none 0 0] 30 (0, 0)) (by (with_reducible repeat (first | refine blk_drewN ?_ _ | refine blk_drew ?_ | refine blk_alloc ?_ _)); refine blk_far ?_ NB414_422.out _; (with_reducible repeat (first | refine blk_drewN ?_ _ | refine blk_drew ?_ | refine blk_alloc ?_ _)); refine blk_far ?_ NB414_422.out _; (with_reducible repeat (first | refine blk_drewN ?_ _ | refine blk_drew ?_ | refine blk_alloc ?_ _)); refine blk_far ?_ NB414_422.out _; (with_reducible repeat (first | refine blk_drewN ?_ _ | refine blk_drew ?_ | refine blk_alloc ?_ _)); exact BK414.out) hb); have n4_ := Aside0.mk (blk_below (g := gb422) (o := .cells #[.slice Ao12 t415.length co12, .int .i64 t418, .slice Ao16 t419.length co16] 30 (0, 0)) (by (with_reducible repeat (first | refine blk_drewN ?_ _ | refine blk_drew ?_ | refine blk_alloc ?_ _)); refine blk_put (cs := #[.slice Ao12 t415.length co12, .int .i64 t418, .slice none 0 0]) ?_ 2 _ rfl; (with_reducible repeat (first | refine blk_drewN ?_ _ | refine blk_drew ?_ | refine blk_alloc ?_ _)); refine blk_put (cs := #[.slice Ao12 t415.length co12, .int .i64 0, .slice none 0 0]) ?_ 1 _ rfl; (with_reducible repeat (first | refine blk_drewN ?_ _ | refine blk_drew ?_ | refine blk_alloc ?_ _)); refine blk_put (cs := #[.slice none 0 0, .int .i64 0, .slice none 0 0]) ?_ 0 _ rfl; (with_reducible repeat (first | refine blk_drewN ?_ _ | refine blk_drew ?_ | refine blk_alloc ?_ _)); exact BK422.out) hb); have n5_ := Aside0.mk (below_step (oB HB) hb); clear HO417; clear HO421; clear BK413; clear BK414; clear BK422; clear HB; have HO417 := n0_; have HO421 := n1_; have BK413 := n2_; have BK414 := n3_; have BK422 := n4_; have HB := n5_; clear n0_ n1_ n2_ n3_ n4_ n5_; (try clear hb); (try clear hb2); (try clear hk); (try clear hi)) | (go_at_call 60; (with_reducible refine (impl_within.calls a1 0 11 true _ A19.out).mono ?_); rintro e w' ⟨rfl, ⟨nd, rfl⟩⟩; have hcz28_0 : w27.cell? ⟨gb413, 0, none⟩ = some (.slice A0_0 l0_0.length c0_0) := (blk_cell BK413.out 0).trans rfl; have hcz28_1 : w27.cell? ⟨gb413, 1, none⟩ = some (.int .i64 a0_1) := (blk_cell BK413.out 1).trans rfl; have hcz28_2 : w27.cell? ⟨gb413, 2, none⟩ = some (.slice A0_2 l0_2.length c0_2) := (blk_cell BK413.out 2).trans rfl; have hfz28_0 := blk_frozen BK413.out 0; have hfz28_1 := blk_frozen BK413.out 1; have hfz28_2 := blk_frozen BK413.out 2; have p425 : 0 ≤ (a1 : Int) := of_decide_eq_true (by first | (with_reducible assumption) | assumption); have q425 : a1 < (l0_2.length : Int) := of_decide_eq_true (by first | (with_reducible assumption) | assumption); obtain ⟨ad425, e425, hx425_0⟩ := Kd.at_int HR0_2.out a1 p425 q425; cases e425; replace hx425_0 := (HB.out.cell (World.block_lt_of_cell? w _ hx425_0)).trans hx425_0; replace p425 := eq_true p425; replace q425 := eq_true q425))
              go_meet
              case rel => exact ⟨_, (true), (by first | rfl | (simp; done) | (simp [*]; done)), H', ⟨by first | omega | exact Nat.le_refl _⟩, ⟨oR HO417⟩, ⟨oR HO421⟩, ⟨oK BK413⟩, ⟨oK BK414⟩, ⟨oK BK422⟩, ⟨oB HB⟩⟩
            · rw [if_neg c23] at H
              have c23b0 : ((rd l0_2 a1) == 0) = false := beq_eq_false_iff_ne.mpr c23
              have c23b1 : ((rd l0_2 a1) != 0) = true := bne_iff_ne.mpr c23
              replace H := Option.bind_eq_some_iff.mp H
              obtain ⟨t426, A290, H⟩ := H
              (try dsimp only at H)
              have A29 := Aside0.mk A290
              clear A290
              have H' := Aside0.mk H
              clear H
              have hnb30 := NB413_414.out
              have hnc30 := NB414_413.out
              have hnb31 := NB413_422.out
              have hnc31 := NB422_413.out
              have hcz32_0 : w11.cell? ⟨gb413, 0, none⟩ = some (.slice A0_0 l0_0.length c0_0) := (blk_cell BK413.out 0).trans rfl
              have hcz32_1 : w11.cell? ⟨gb413, 1, none⟩ = some (.int .i64 a0_1) := (blk_cell BK413.out 1).trans rfl
              have hcz32_2 : w11.cell? ⟨gb413, 2, none⟩ = some (.slice A0_2 l0_2.length c0_2) := (blk_cell BK413.out 2).trans rfl
              have hfz32_0 := blk_frozen BK413.out 0
              have hfz32_1 := blk_frozen BK413.out 1
              have hfz32_2 := blk_frozen BK413.out 2
              go_wp2_with (first | ((with_reducible refine gate_callee (f := 18) rfl ?_); refine goesL_ (some 12) rfl rfl Try.func18 (by kernel_rfl) rfl #[.agg #[.slice A0_0 l0_0.length c0_0, .int .i64 a0_1, .slice A0_2 l0_2.length c0_2]] rfl (by (try simp only [List.map_toArray, List.map_cons, List.map_nil]); first | done | rfl | (simp only [List.length_drop, List.length_take]; rfl)) ?_; (with_reducible refine (impl_WorkOk.calls _ _ l0_0 a0_1 _ _ l0_2 true _ ?side1 ?side2 ?side3 ?side4 A17.out).mono ?_); (case side1 => exact Kd.C_below HR0_0.out (oB HB)); (case side2 => exact HC0_0.out); (case side3 => exact Kd.C_below HR0_2.out (oB HB)); (case side4 => exact HC0_2.out); rintro e w33 ⟨rfl, hb⟩; refine ⟨_, rfl, ?_⟩; have n0_ := Aside0.mk (Kd.R_below (by (with_reducible repeat (first | apply Kd.R_alloc | apply Kd.R_drewN | apply Kd.R_drew)); exact (Kd.R_mono (Kd.R_far (p := ⟨gb422, 2, none⟩) (Kd.R_far (p := ⟨gb422, 1, none⟩) (Kd.R_far (p := ⟨gb422, 0, none⟩) (Kd.R_types HO417.out BK422.out (by decide)) (fun _ hk => hk.2) (.slice Ao12 t415.length co12)) (fun _ hk => hk.2) (.int .i64 t418)) (fun _ hk => hk.2) (.slice Ao16 t419.length co16)) (fun _ h_ => h_.1))) hb); have n1_ := Aside0.mk (Kd.R_below (by (with_reducible repeat (first | apply Kd.R_alloc | apply Kd.R_drewN | apply Kd.R_drew)); exact (Kd.R_mono (Kd.R_far (p := ⟨gb422, 2, none⟩) (Kd.R_far (p := ⟨gb422, 1, none⟩) (Kd.R_far (p := ⟨gb422, 0, none⟩) (Kd.R_types HO421.out BK422.out (by decide)) (fun _ hk => hk.2) (.slice Ao12 t415.length co12)) (fun _ hk => hk.2) (.int .i64 t418)) (fun _ hk => hk.2) (.slice Ao16 t419.length co16)) (fun _ h_ => h_.1))) hb); have n2_ := Aside0.mk (blk_below (g := gb413) (o := .cells #[.slice A0_0 l0_0.length c0_0, .int .i64 a0_1, .slice A0_2 l0_2.length c0_2] 30 (0, 0)) (by (with_reducible repeat (first | refine blk_drewN ?_ _ | refine blk_drew ?_ | refine blk_alloc ?_ _)); refine blk_far ?_ NB413_422.out _; (with_reducible repeat (first | refine blk_drewN ?_ _ | refine blk_drew ?_ | refine blk_alloc ?_ _)); refine blk_far ?_ NB413_422.out _; (with_reducible repeat (first | refine blk_drewN ?_ _ | refine blk_drew ?_ | refine blk_alloc ?_ _)); refine blk_far ?_ NB413_422.out _; (with_reducible repeat (first | refine blk_drewN ?_ _ | refine blk_drew ?_ | refine blk_alloc ?_ _)); exact BK413.out) hb); have n3_ := Aside0.mk (blk_below (g := gb414) (o := .cells #[.slice none 0 0, .int .i64 0, .slice none 0 0] 30 (0, 0)) (by (with_reducible repeat (first | refine blk_drewN ?_ _ | refine blk_drew ?_ | refine blk_alloc ?_ _)); refine blk_far ?_ NB414_422.out _; (with_reducible repeat (first | refine blk_drewN ?_ _ | refine blk_drew ?_ | refine blk_alloc ?_ _)); refine blk_far ?_ NB414_422.out _; (with_reducible repeat (first | refine blk_drewN ?_ _ | refine blk_drew ?_ | refine blk_alloc ?_ _)); refine blk_far ?_ NB414_422.out _; (with_reducible repeat (first | refine blk_drewN ?_ _ | refine blk_drew ?_ | refine blk_alloc ?_ _)); exact BK414.out) hb); have n4_ := Aside0.mk (blk_below (g := gb422) (o := .cells #[.slice Ao12 t415.length co12, .int .i64 t418, .slice Ao16 t419.length co16] 30 (0, 0)) (by (with_reducible repeat (first | refine blk_drewN ?_ _ | refine blk_drew ?_ | refine blk_alloc ?_ _)); refine blk_put (cs := #[.slice Ao12 t415.length co12, .int .i64 t418, .slice none 0 0]) ?_ 2 _ rfl; (with_reducible repeat (first | refine blk_drewN ?_ _ | refine blk_drew ?_ | refine blk_alloc ?_ _)); refine blk_put (cs := #[.slice Ao12 t415.length co12, .int .i64 0, .slice none 0 0]) ?_ 1 _ rfl; (with_reducible repeat (first | refine blk_drewN ?_ _ | refine blk_drew ?_ | refine blk_alloc ?_ _)); refine blk_put (cs := #[.slice none 0 0, .int .i64 0, .slice none 0 0]) ?_ 0 _ rfl; (with_reducible repeat (first | refine blk_drewN ?_ _ | refine blk_drew ?_ | refine blk_alloc ?_ _)); exact BK422.out) hb); have n5_ := Aside0.mk (below_step (oB HB) hb); clear HO417; clear HO421; clear BK413; clear BK414; clear BK422; clear HB; have HO417 := n0_; have HO421 := n1_; have BK413 := n2_; have BK414 := n3_; have BK422 := n4_; have HB := n5_; clear n0_ n1_ n2_ n3_ n4_ n5_; (try clear hb); (try clear hb2); (try clear hk); (try clear hi)) | (go_at_call 60; (with_reducible refine (impl_within.calls a1 0 11 true _ A19.out).mono ?_); rintro e w' ⟨rfl, ⟨nd, rfl⟩⟩; have hcz34_0 : w33.cell? ⟨gb413, 0, none⟩ = some (.slice A0_0 l0_0.length c0_0) := (blk_cell BK413.out 0).trans rfl; have hcz34_1 : w33.cell? ⟨gb413, 1, none⟩ = some (.int .i64 a0_1) := (blk_cell BK413.out 1).trans rfl; have hcz34_2 : w33.cell? ⟨gb413, 2, none⟩ = some (.slice A0_2 l0_2.length c0_2) := (blk_cell BK413.out 2).trans rfl; have hfz34_0 := blk_frozen BK413.out 0; have hfz34_1 := blk_frozen BK413.out 1; have hfz34_2 := blk_frozen BK413.out 2; have p425 : 0 ≤ (a1 : Int) := of_decide_eq_true (by first | (with_reducible assumption) | assumption); have q425 : a1 < (l0_2.length : Int) := of_decide_eq_true (by first | (with_reducible assumption) | assumption); obtain ⟨ad425, e425, hx425_0⟩ := Kd.at_int HR0_2.out a1 p425 q425; cases e425; replace hx425_0 := (HB.out.cell (World.block_lt_of_cell? w _ hx425_0)).trans hx425_0; replace p425 := eq_true p425; replace q425 := eq_true q425) | (go_at_call 60; (with_reducible refine (impl_within.calls a2 (-100000) 100000 t426 _ A29.out).mono ?_); rintro e w' ⟨rfl, ⟨nd, rfl⟩⟩))
              go_meet
              case rel => exact ⟨_, (!t426), (by first | rfl | (simp; done) | (simp [*]; done)), H', ⟨by first | omega | exact Nat.le_refl _⟩, ⟨oR HO417⟩, ⟨oR HO421⟩, ⟨oK BK413⟩, ⟨oK BK414⟩, ⟨oK BK422⟩, ⟨oB HB⟩⟩
          · rw [if_neg c22] at H
            exact absurd H (by simp)
        · rw [if_neg c21] at H
          exact absurd H (by simp)
      · replace c20 := Bool.eq_false_iff.mpr c20
        subst c20
        rw [if_neg (show ¬ (false = true) by decide)] at H
        have H' := Aside0.mk H
        clear H
        have hnb35 := NB413_414.out
        have hnc35 := NB414_413.out
        have hnb36 := NB413_422.out
        have hnc36 := NB422_413.out
        have hcz37_0 : w11.cell? ⟨gb413, 0, none⟩ = some (.slice A0_0 l0_0.length c0_0) := (blk_cell BK413.out 0).trans rfl
        have hcz37_1 : w11.cell? ⟨gb413, 1, none⟩ = some (.int .i64 a0_1) := (blk_cell BK413.out 1).trans rfl
        have hcz37_2 : w11.cell? ⟨gb413, 2, none⟩ = some (.slice A0_2 l0_2.length c0_2) := (blk_cell BK413.out 2).trans rfl
        have hfz37_0 := blk_frozen BK413.out 0
        have hfz37_1 := blk_frozen BK413.out 1
        have hfz37_2 := blk_frozen BK413.out 2
        go_wp2_with (first | ((with_reducible refine gate_callee (f := 18) rfl ?_); refine goesL_ (some 12) rfl rfl Try.func18 (by kernel_rfl) rfl #[.agg #[.slice A0_0 l0_0.length c0_0, .int .i64 a0_1, .slice A0_2 l0_2.length c0_2]] rfl (by (try simp only [List.map_toArray, List.map_cons, List.map_nil]); first | done | rfl | (simp only [List.length_drop, List.length_take]; rfl)) ?_; (with_reducible refine (impl_WorkOk.calls _ _ l0_0 a0_1 _ _ l0_2 true _ ?side1 ?side2 ?side3 ?side4 A17.out).mono ?_); (case side1 => exact Kd.C_below HR0_0.out (oB HB)); (case side2 => exact HC0_0.out); (case side3 => exact Kd.C_below HR0_2.out (oB HB)); (case side4 => exact HC0_2.out); rintro e w38 ⟨rfl, hb⟩; refine ⟨_, rfl, ?_⟩; have n0_ := Aside0.mk (Kd.R_below (by (with_reducible repeat (first | apply Kd.R_alloc | apply Kd.R_drewN | apply Kd.R_drew)); exact (Kd.R_mono (Kd.R_far (p := ⟨gb422, 2, none⟩) (Kd.R_far (p := ⟨gb422, 1, none⟩) (Kd.R_far (p := ⟨gb422, 0, none⟩) (Kd.R_types HO417.out BK422.out (by decide)) (fun _ hk => hk.2) (.slice Ao12 t415.length co12)) (fun _ hk => hk.2) (.int .i64 t418)) (fun _ hk => hk.2) (.slice Ao16 t419.length co16)) (fun _ h_ => h_.1))) hb); have n1_ := Aside0.mk (Kd.R_below (by (with_reducible repeat (first | apply Kd.R_alloc | apply Kd.R_drewN | apply Kd.R_drew)); exact (Kd.R_mono (Kd.R_far (p := ⟨gb422, 2, none⟩) (Kd.R_far (p := ⟨gb422, 1, none⟩) (Kd.R_far (p := ⟨gb422, 0, none⟩) (Kd.R_types HO421.out BK422.out (by decide)) (fun _ hk => hk.2) (.slice Ao12 t415.length co12)) (fun _ hk => hk.2) (.int .i64 t418)) (fun _ hk => hk.2) (.slice Ao16 t419.length co16)) (fun _ h_ => h_.1))) hb); have n2_ := Aside0.mk (blk_below (g := gb413) (o := .cells #[.slice A0_0 l0_0.length c0_0, .int .i64 a0_1, .slice A0_2 l0_2.length c0_2] 30 (0, 0)) (by (with_reducible repeat (first | refine blk_drewN ?_ _ | refine blk_drew ?_ | refine blk_alloc ?_ _)); refine blk_far ?_ NB413_422.out _; (with_reducible repeat (first | refine blk_drewN ?_ _ | refine blk_drew ?_ | refine blk_alloc ?_ _)); refine blk_far ?_ NB413_422.out _; (with_reducible repeat (first | refine blk_drewN ?_ _ | refine blk_drew ?_ | refine blk_alloc ?_ _)); refine blk_far ?_ NB413_422.out _; (with_reducible repeat (first | refine blk_drewN ?_ _ | refine blk_drew ?_ | refine blk_alloc ?_ _)); exact BK413.out) hb); have n3_ := Aside0.mk (blk_below (g := gb414) (o := .cells #[.slice none 0 0, .int .i64 0, .slice none 0 0] 30 (0, 0)) (by (with_reducible repeat (first | refine blk_drewN ?_ _ | refine blk_drew ?_ | refine blk_alloc ?_ _)); refine blk_far ?_ NB414_422.out _; (with_reducible repeat (first | refine blk_drewN ?_ _ | refine blk_drew ?_ | refine blk_alloc ?_ _)); refine blk_far ?_ NB414_422.out _; (with_reducible repeat (first | refine blk_drewN ?_ _ | refine blk_drew ?_ | refine blk_alloc ?_ _)); refine blk_far ?_ NB414_422.out _; (with_reducible repeat (first | refine blk_drewN ?_ _ | refine blk_drew ?_ | refine blk_alloc ?_ _)); exact BK414.out) hb); have n4_ := Aside0.mk (blk_below (g := gb422) (o := .cells #[.slice Ao12 t415.length co12, .int .i64 t418, .slice Ao16 t419.length co16] 30 (0, 0)) (by (with_reducible repeat (first | refine blk_drewN ?_ _ | refine blk_drew ?_ | refine blk_alloc ?_ _)); refine blk_put (cs := #[.slice Ao12 t415.length co12, .int .i64 t418, .slice none 0 0]) ?_ 2 _ rfl; (with_reducible repeat (first | refine blk_drewN ?_ _ | refine blk_drew ?_ | refine blk_alloc ?_ _)); refine blk_put (cs := #[.slice Ao12 t415.length co12, .int .i64 0, .slice none 0 0]) ?_ 1 _ rfl; (with_reducible repeat (first | refine blk_drewN ?_ _ | refine blk_drew ?_ | refine blk_alloc ?_ _)); refine blk_put (cs := #[.slice none 0 0, .int .i64 0, .slice none 0 0]) ?_ 0 _ rfl; (with_reducible repeat (first | refine blk_drewN ?_ _ | refine blk_drew ?_ | refine blk_alloc ?_ _)); exact BK422.out) hb); have n5_ := Aside0.mk (below_step (oB HB) hb); clear HO417; clear HO421; clear BK413; clear BK414; clear BK422; clear HB; have HO417 := n0_; have HO421 := n1_; have BK413 := n2_; have BK414 := n3_; have BK422 := n4_; have HB := n5_; clear n0_ n1_ n2_ n3_ n4_ n5_; (try clear hb); (try clear hb2); (try clear hk); (try clear hi)) | (go_at_call 60; (with_reducible refine (impl_within.calls a1 0 11 false _ A19.out).mono ?_); rintro e w' ⟨rfl, ⟨nd, rfl⟩⟩))
        go_meet
        case rel => exact ⟨_, (true), (by first | rfl | (simp; done) | (simp [*]; done)), H', ⟨by first | omega | exact Nat.le_refl _⟩, ⟨oR HO417⟩, ⟨oR HO421⟩, ⟨oK BK413⟩, ⟨oK BK414⟩, ⟨oK BK422⟩, ⟨oB HB⟩⟩
    · replace c18 := Bool.eq_false_iff.mpr c18
      subst c18
      rw [if_neg (show ¬ (false = true) by decide)] at H
      have H' := Aside0.mk H
      clear H
      have hnb39 := NB413_414.out
      have hnc39 := NB414_413.out
      have hnb40 := NB413_422.out
      have hnc40 := NB422_413.out
      have hcz41_0 : w11.cell? ⟨gb413, 0, none⟩ = some (.slice A0_0 l0_0.length c0_0) := (blk_cell BK413.out 0).trans rfl
      have hcz41_1 : w11.cell? ⟨gb413, 1, none⟩ = some (.int .i64 a0_1) := (blk_cell BK413.out 1).trans rfl
      have hcz41_2 : w11.cell? ⟨gb413, 2, none⟩ = some (.slice A0_2 l0_2.length c0_2) := (blk_cell BK413.out 2).trans rfl
      have hfz41_0 := blk_frozen BK413.out 0
      have hfz41_1 := blk_frozen BK413.out 1
      have hfz41_2 := blk_frozen BK413.out 2
      go_wp2_with (first | ((with_reducible refine gate_callee (f := 18) rfl ?_); refine goesL_ (some 12) rfl rfl Try.func18 (by kernel_rfl) rfl #[.agg #[.slice A0_0 l0_0.length c0_0, .int .i64 a0_1, .slice A0_2 l0_2.length c0_2]] rfl (by (try simp only [List.map_toArray, List.map_cons, List.map_nil]); first | done | rfl | (simp only [List.length_drop, List.length_take]; rfl)) ?_; (with_reducible refine (impl_WorkOk.calls _ _ l0_0 a0_1 _ _ l0_2 false _ ?side1 ?side2 ?side3 ?side4 A17.out).mono ?_); (case side1 => exact Kd.C_below HR0_0.out (oB HB)); (case side2 => exact HC0_0.out); (case side3 => exact Kd.C_below HR0_2.out (oB HB)); (case side4 => exact HC0_2.out); rintro e w42 ⟨rfl, hb⟩; refine ⟨_, rfl, ?_⟩; have n0_ := Aside0.mk (Kd.R_below (by (with_reducible repeat (first | apply Kd.R_alloc | apply Kd.R_drewN | apply Kd.R_drew)); exact (Kd.R_mono (Kd.R_far (p := ⟨gb422, 2, none⟩) (Kd.R_far (p := ⟨gb422, 1, none⟩) (Kd.R_far (p := ⟨gb422, 0, none⟩) (Kd.R_types HO417.out BK422.out (by decide)) (fun _ hk => hk.2) (.slice Ao12 t415.length co12)) (fun _ hk => hk.2) (.int .i64 t418)) (fun _ hk => hk.2) (.slice Ao16 t419.length co16)) (fun _ h_ => h_.1))) hb); have n1_ := Aside0.mk (Kd.R_below (by (with_reducible repeat (first | apply Kd.R_alloc | apply Kd.R_drewN | apply Kd.R_drew)); exact (Kd.R_mono (Kd.R_far (p := ⟨gb422, 2, none⟩) (Kd.R_far (p := ⟨gb422, 1, none⟩) (Kd.R_far (p := ⟨gb422, 0, none⟩) (Kd.R_types HO421.out BK422.out (by decide)) (fun _ hk => hk.2) (.slice Ao12 t415.length co12)) (fun _ hk => hk.2) (.int .i64 t418)) (fun _ hk => hk.2) (.slice Ao16 t419.length co16)) (fun _ h_ => h_.1))) hb); have n2_ := Aside0.mk (blk_below (g := gb413) (o := .cells #[.slice A0_0 l0_0.length c0_0, .int .i64 a0_1, .slice A0_2 l0_2.length c0_2] 30 (0, 0)) (by (with_reducible repeat (first | refine blk_drewN ?_ _ | refine blk_drew ?_ | refine blk_alloc ?_ _)); refine blk_far ?_ NB413_422.out _; (with_reducible repeat (first | refine blk_drewN ?_ _ | refine blk_drew ?_ | refine blk_alloc ?_ _)); refine blk_far ?_ NB413_422.out _; (with_reducible repeat (first | refine blk_drewN ?_ _ | refine blk_drew ?_ | refine blk_alloc ?_ _)); refine blk_far ?_ NB413_422.out _; (with_reducible repeat (first | refine blk_drewN ?_ _ | refine blk_drew ?_ | refine blk_alloc ?_ _)); exact BK413.out) hb); have n3_ := Aside0.mk (blk_below (g := gb414) (o := .cells #[.slice none 0 0, .int .i64 0, .slice none 0 0] 30 (0, 0)) (by (with_reducible repeat (first | refine blk_drewN ?_ _ | refine blk_drew ?_ | refine blk_alloc ?_ _)); refine blk_far ?_ NB414_422.out _; (with_reducible repeat (first | refine blk_drewN ?_ _ | refine blk_drew ?_ | refine blk_alloc ?_ _)); refine blk_far ?_ NB414_422.out _; (with_reducible repeat (first | refine blk_drewN ?_ _ | refine blk_drew ?_ | refine blk_alloc ?_ _)); refine blk_far ?_ NB414_422.out _; (with_reducible repeat (first | refine blk_drewN ?_ _ | refine blk_drew ?_ | refine blk_alloc ?_ _)); exact BK414.out) hb); have n4_ := Aside0.mk (blk_below (g := gb422) (o := .cells #[.slice Ao12 t415.length co12, .int .i64 t418, .slice Ao16 t419.length co16] 30 (0, 0)) (by (with_reducible repeat (first | refine blk_drewN ?_ _ | refine blk_drew ?_ | refine blk_alloc ?_ _)); refine blk_put (cs := #[.slice Ao12 t415.length co12, .int .i64 t418, .slice none 0 0]) ?_ 2 _ rfl; (with_reducible repeat (first | refine blk_drewN ?_ _ | refine blk_drew ?_ | refine blk_alloc ?_ _)); refine blk_put (cs := #[.slice Ao12 t415.length co12, .int .i64 0, .slice none 0 0]) ?_ 1 _ rfl; (with_reducible repeat (first | refine blk_drewN ?_ _ | refine blk_drew ?_ | refine blk_alloc ?_ _)); refine blk_put (cs := #[.slice none 0 0, .int .i64 0, .slice none 0 0]) ?_ 0 _ rfl; (with_reducible repeat (first | refine blk_drewN ?_ _ | refine blk_drew ?_ | refine blk_alloc ?_ _)); exact BK422.out) hb); have n5_ := Aside0.mk (below_step (oB HB) hb); clear HO417; clear HO421; clear BK413; clear BK414; clear BK422; clear HB; have HO417 := n0_; have HO421 := n1_; have BK413 := n2_; have BK414 := n3_; have BK422 := n4_; have HB := n5_; clear n0_ n1_ n2_ n3_ n4_ n5_; (try clear hb); (try clear hb2); (try clear hk); (try clear hi)))
      go_meet
      case rel => exact ⟨_, (true), (by first | rfl | (simp; done) | (simp [*]; done)), H', ⟨by first | omega | exact Nat.le_refl _⟩, ⟨oR HO417⟩, ⟨oR HO421⟩, ⟨oK BK413⟩, ⟨oK BK414⟩, ⟨oK BK422⟩, ⟨oB HB⟩⟩
  case rest =>
    clear HC5
    try clear c1
    try clear c2
    try clear p2
    try clear c3
    try clear c4
    try clear p4
    try clear q4
    try clear hx4
    try clear c6
    try clear c8
    try clear c13
    try clear c14
    try clear c18
    try clear c20
    try clear c21
    try clear c21b0
    try clear c22
    try clear c22b0
    try clear c23
    try clear c23b0
    try clear c23b1
    try clear c24
    try clear c25
    try clear c30
    try clear c31
    try clear c35
    try clear c36
    try clear c39
    try clear c40
    try clear p42
    try clear q42
    try clear hx42
    try clear hcz15_0
    try clear hcz15_1
    try clear hcz15_2
    try clear hcz26_0
    try clear hcz26_1
    try clear hcz26_2
    try clear hcz28_0
    try clear hcz28_1
    try clear hcz28_2
    try clear hcz32_0
    try clear hcz32_1
    try clear hcz32_2
    try clear hcz34_0
    try clear hcz34_1
    try clear hcz34_2
    try clear hcz37_0
    try clear hcz37_1
    try clear hcz37_2
    try clear hcz41_0
    try clear hcz41_1
    try clear hcz41_2
    try clear hcz9_0
    try clear hcz9_1
    try clear hcz9_2
    try clear hfz15_0
    try clear hfz15_1
    try clear hfz15_2
    try clear hfz26_0
    try clear hfz26_1
    try clear hfz26_2
    try clear hfz28_0
    try clear hfz28_1
    try clear hfz28_2
    try clear hfz32_0
    try clear hfz32_1
    try clear hfz32_2
    try clear hfz34_0
    try clear hfz34_1
    try clear hfz34_2
    try clear hfz37_0
    try clear hfz37_1
    try clear hfz37_2
    try clear hfz41_0
    try clear hfz41_1
    try clear hfz41_2
    try clear hfz9_0
    try clear hfz9_1
    try clear hfz9_2
    try clear hx425_0
    try clear p425
    try clear q425
    obtain ⟨kq, x31_4, rfl, HA, HJ4, HO_423000, HO_423002, BK413, BK414, BK422, HB⟩ := hcut
    cases kq with
    | zero => exact absurd HA.out (by simp [impl_KnockKey.j0])
    | succ kj4 =>
      have H := HA.out
      clear HA
      simp only [impl_KnockKey.j0] at H
      by_cases c43 : x31_4 = true
      · subst c43
        rw [if_pos rfl] at H
        simp only [Option.some.injEq, Prod.mk.injEq] at H
        obtain ⟨rfl, rfl, rfl, rfl⟩ := H
        have hnb44 := NB422_413.out
        have hnc44 := NB413_422.out
        have hnb45 := NB422_414.out
        have hnc45 := NB414_422.out
        have hcz46_0 : wc.cell? ⟨gb422, 0, none⟩ = some (.slice Ao12 t415.length co12) := (blk_cell BK422.out 0).trans rfl
        have hcz46_1 : wc.cell? ⟨gb422, 1, none⟩ = some (.int .i64 t418) := (blk_cell BK422.out 1).trans rfl
        have hcz46_2 : wc.cell? ⟨gb422, 2, none⟩ = some (.slice Ao16 t419.length co16) := (blk_cell BK422.out 2).trans rfl
        have hfz46_0 := blk_frozen BK422.out 0
        have hfz46_1 := blk_frozen BK422.out 1
        have hfz46_2 := blk_frozen BK422.out 2
        have hnb47 := NB414_413.out
        have hnc47 := NB413_414.out
        have hcz48_0 : wc.cell? ⟨gb414, 0, none⟩ = some (.slice none 0 0) := (blk_cell BK414.out 0).trans rfl
        have hcz48_1 : wc.cell? ⟨gb414, 1, none⟩ = some (.int .i64 0) := (blk_cell BK414.out 1).trans rfl
        have hcz48_2 : wc.cell? ⟨gb414, 2, none⟩ = some (.slice none 0 0) := (blk_cell BK414.out 2).trans rfl
        have hfz48_0 := blk_frozen BK414.out 0
        have hfz48_1 := blk_frozen BK414.out 1
        have hfz48_2 := blk_frozen BK414.out 2
        go_wp2
        refine bodyPost_ret (results_ct rfl _ _ gb414 30 #[.slice Ao12 t415.length co12, .int .i64 t418, .slice Ao16 t419.length co16] (0, 0) _ rfl (by (with_reducible repeat (first | refine blk_drewN ?_ _ | refine blk_drew ?_ | refine blk_alloc ?_ _)); refine blk_put (cs := #[.slice Ao12 t415.length co12, .int .i64 t418, .slice none 0 0]) ?_ 2 _ rfl; (with_reducible repeat (first | refine blk_drewN ?_ _ | refine blk_drew ?_ | refine blk_alloc ?_ _)); refine blk_put (cs := #[.slice Ao12 t415.length co12, .int .i64 0, .slice none 0 0]) ?_ 1 _ rfl; (with_reducible repeat (first | refine blk_drewN ?_ _ | refine blk_drew ?_ | refine blk_alloc ?_ _)); refine blk_put (cs := #[.slice none 0 0, .int .i64 0, .slice none 0 0]) ?_ 0 _ rfl; (with_reducible repeat (first | refine blk_drewN ?_ _ | refine blk_drew ?_ | refine blk_alloc ?_ _)); exact BK414.out) Try.underlying30 rfl (by kernel_rfl)) rfl ?_
        exact ⟨_, _, by first | rfl | (simp [errW_none, errW_some] <;> rfl) | (simp [*, errW_none, errW_some] <;> rfl), by (with_reducible repeat (first | apply Kd.R_alloc | apply Kd.R_drewN | apply Kd.R_drew)); exact Kd.R_mono (Kd.R_far (p := ⟨gb414, 2, none⟩) (Kd.R_far (p := ⟨gb414, 1, none⟩) (Kd.R_far (p := ⟨gb414, 0, none⟩) (Kd.R_types HO_423000.out BK414.out (by decide)) (fun _ hk => hk.2) (.slice Ao12 t415.length co12)) (fun _ hk => hk.2) (.int .i64 t418)) (fun _ hk => hk.2) (.slice Ao16 t419.length co16)) (fun _ hk => trivial), by (with_reducible repeat (first | apply Kd.R_alloc | apply Kd.R_drewN | apply Kd.R_drew)); exact Kd.R_mono (Kd.R_far (p := ⟨gb414, 2, none⟩) (Kd.R_far (p := ⟨gb414, 1, none⟩) (Kd.R_far (p := ⟨gb414, 0, none⟩) (Kd.R_types HO_423002.out BK414.out (by decide)) (fun _ hk => hk.2) (.slice Ao12 t415.length co12)) (fun _ hk => hk.2) (.int .i64 t418)) (fun _ hk => hk.2) (.slice Ao16 t419.length co16)) (fun _ hk => trivial), oB HB⟩
      · replace c43 := Bool.eq_false_iff.mpr c43
        subst c43
        rw [if_neg (show ¬ (false = true) by decide)] at H
        by_cases c49 : 0 ≤ a1
        · rw [if_pos c49] at H
          have c49b0 : decide (0 ≤ a1) = true := decide_eq_true c49
          clear c49
          by_cases c50 : a1 < (t419.length : Int)
          · rw [if_pos c50] at H
            have c50b0 : decide (a1 < (t419.length : Int)) = true := decide_eq_true c50
            clear c50
            obtain ⟨y428, hy428⟩ : ∃ y_ : List Int, y_ = (t419.set (a1 : Int).toNat (wrap64 ((rd t419 a1) + a2))) := ⟨_, rfl⟩
            replace H : ((impl_WorkOk.f t415 t418 y428).bind fun t429 => (if t429 = true then (some (t415, t418, y428, true)) else ((impl_copyWork.f l0_0 a0_1 l0_2).bind fun bt430 => (some (bt430.1, bt430.2.1, bt430.2.2, false))))) = some (r1, r2, r3, r4) := by first | (rw [hy428]; with_reducible exact H) | (have H2_ := (Option.bind_some _ _).symm.trans H; rw [hy428]; with_reducible exact H2_) | (have H2_ := (Option.bind_some _ _).symm.trans H; with_reducible exact H2_) | with_reducible exact H | (rw [hy428]; exact H) | exact H
            have Ny428 := Aside0.mk hy428
            clear hy428
            replace H := Option.bind_eq_some_iff.mp H
            obtain ⟨t429, A520, H⟩ := H
            (try dsimp only at H)
            have A52 := Aside0.mk A520
            clear A520
            by_cases c53 : t429 = true
            · subst c53
              rw [if_pos rfl] at H
              simp only [Option.some.injEq, Prod.mk.injEq] at H
              obtain ⟨rfl, rfl, rfl, rfl⟩ := H
              try go_wp2
              have n0_ := Aside0.mk (Kd.R_drew HO_423000.out)
              have n1_ := Aside0.mk (Kd.R_drew HO_423002.out)
              have n2_ := Aside0.mk (blk_drew BK413.out)
              have n3_ := Aside0.mk (blk_drew BK414.out)
              have n4_ := Aside0.mk (blk_drew BK422.out)
              have n5_ := Aside0.mk (below_drew1 HB.out)
              clear HO_423000
              clear HO_423002
              clear BK413
              clear BK414
              clear BK422
              clear HB
              have HO_423000 := n0_
              have HO_423002 := n1_
              have BK413 := n2_
              have BK414 := n3_
              have BK422 := n4_
              have HB := n5_
              clear n0_ n1_ n2_ n3_ n4_ n5_
              have p427 : 0 ≤ (a1 : Int) := of_decide_eq_true (by first | (with_reducible assumption) | assumption)
              have q427 : a1 < (t419.length : Int) := of_decide_eq_true (by first | (with_reducible assumption) | assumption)
              obtain ⟨ad427, e427, hx427_0⟩ := Kd.at_int (Kd.R_reads' HO_423002.out).2.2 a1 p427 q427
              cases e427
              replace p427 := eq_true p427
              replace q427 := eq_true q427
              have p51 : 0 ≤ (a1 : Int) := of_decide_eq_true (by first | (with_reducible assumption) | assumption)
              have q51 : (a1 : Int) < ((t419.length : Int) : Int) := of_decide_eq_true (by first | (with_reducible assumption) | assumption)
              obtain ⟨go51, co51, eo51, gb51, gl51, cl51, HG51⟩ := Kd.R_form HO_423002.out (by omega)
              (first | cases eo51 | (injection eo51 with ea_ en_ ec_; (first | subst ea_ | (injection ea_ with ea_; subst ea_)); subst ec_; clear en_))
              have GB51 := Aside0.mk gb51
              have GG51 := Aside0.mk HG51
              clear gb51 gl51 HG51
              (first | simp only [add_plain] at hx427_0 | skip)
              obtain ⟨hx51_0, hf51_0⟩ := Kd.R_celln 0 HO_423002.out (a1 : Int) p51 q51
              replace p51 := eq_true p51
              replace q51 := eq_true q51
              have HP55 := Kd.R_putn HO_423002.out (a1 : Int) (wrap64 ((rd t419 a1) + a2))
              rw [← Ny428.out] at HP55
              have HQ55 := Aside0.mk HP55
              clear HP55
              refine start_ (n := 12) (S := fun w' => w'.cell? ⟨gb422, 0, none⟩ = some (.slice Ao12 t415.length co12) ∧ w'.cell? ⟨gb422, 1, none⟩ = some (.int .i64 t418) ∧ w'.cell? ⟨gb422, 2, none⟩ = some (.slice (some ⟨go51, 0, none⟩) t419.length co16) ∧ w'.cell? ⟨go51, (a1).toNat, none⟩ = some (.int .i64 (rd t419 a1))) (ds := [11]) #[false, false, false, false, false, false, false, false, false, false, false, false] (by kernel_rfl) rfl rfl ⟨(blk_cell BK422.out 0).trans rfl, (blk_cell BK422.out 1).trans rfl, (blk_cell BK422.out 2).trans rfl, hx427_0⟩ (fun hHeld => ?_); refine with_tabW impl_KnockKey.tab4 impl_KnockKey.bits4 (fun HT_ HW_ => ?_)
              generalize wc.drew = w54 at HO_423000 HO_423002 BK413 BK414 BK422 HB GG51 HQ55 hf51_0 hx427_0 hx51_0 hHeld ⊢
              refine pure_ (i := 0) (N := some 33) (v := ?_) (a' := ?_) #[true, false, false, false, false, false, false, false, false, false, false, false] rfl rfl (any_of HT_.out (by kernel_rfl)) (fun _ _ _ h => h) (Or.inl ⟨by rfl, ?_⟩) ?_ ?_
              rotate_left
              · intro w'
                go_simp
                with_reducible rfl
              rotate_left
              · simp only [Act.put, List.setIfInBounds_toArray, List.set_cons_zero, List.set_cons_succ, i64_w, i32_w]
                rfl
              refine pure_ (i := 2) (N := some 35) (v := ?_) (a' := ?_) #[true, false, true, false, false, false, false, false, false, false, false, false] rfl rfl (any_of HT_.out (by kernel_rfl)) (fun _ _ _ h => h) (Or.inl ⟨by rfl, ?_⟩) ?_ ?_
              rotate_left
              · intro w'
                go_simp
                with_reducible rfl
              rotate_left
              · simp only [Act.put, List.setIfInBounds_toArray, List.set_cons_zero, List.set_cons_succ, i64_w, i32_w]
                rfl
              refine pure_ (i := 3) (N := some 36) (v := ?_) (a' := ?_) #[true, false, true, true, false, false, false, false, false, false, false, false] rfl rfl (any_of HT_.out (by kernel_rfl)) (fun _ _ _ h => h) (Or.inl ⟨by rfl, ?_⟩) ?_ ?_
              rotate_left
              · intro w'
                go_simp
                with_reducible rfl
              rotate_left
              · simp only [Act.put, List.setIfInBounds_toArray, List.set_cons_zero, List.set_cons_succ, i64_w, i32_w]
                rfl
              refine pure_ (i := 5) (N := some 38) (v := ?_) (a' := ?_) #[true, false, true, true, false, true, false, false, false, false, false, false] rfl rfl (any_of HT_.out (by kernel_rfl)) (fun _ _ _ h => h) (Or.inl ⟨by rfl, ?_⟩) ?_ ?_
              rotate_left
              · intro w'
                go_simp
                with_reducible rfl
              rotate_left
              · simp only [Act.put, List.setIfInBounds_toArray, List.set_cons_zero, List.set_cons_succ, i64_w, i32_w]
                rfl
              refine pure_ (i := 8) (N := some 41) (v := ?_) (a' := ?_) #[true, false, true, true, false, true, false, false, true, false, false, false] rfl rfl (any_of HT_.out (by kernel_rfl)) (fun _ _ _ h => h) (Or.inl ⟨by rfl, ?_⟩) ?_ ?_
              rotate_left
              · intro w'
                go_simp
                with_reducible rfl
              rotate_left
              · simp only [Act.put, List.setIfInBounds_toArray, List.set_cons_zero, List.set_cons_succ, i64_w, i32_w]
                rfl
              refine take_ (i := 1) (N := some 34) (v := ?_) (a' := ?_) #[true, true, true, true, false, true, false, false, true, false, false, false] rfl rfl (take_ofW HT_.out HW_.out (by kernel_rfl)) (fun _ _ _ h => h) (Or.inl ⟨by rfl, ?_⟩) hHeld ?_ ?_
              rotate_left
              · rintro w' ⟨s0, s1, s2, s3⟩
                go_simp
                with_reducible rfl
              rotate_left
              · simp only [Act.put, List.setIfInBounds_toArray, List.set_cons_zero, List.set_cons_succ, i64_w, i32_w]
                rfl
              refine take_ (i := 4) (N := some 37) (v := ?_) (a' := ?_) #[true, true, true, true, true, true, false, false, true, false, false, false] rfl rfl (take_ofW HT_.out HW_.out (by kernel_rfl)) (fun _ _ _ h => h) (Or.inl ⟨by rfl, ?_⟩) hHeld ?_ ?_
              rotate_left
              · rintro w' ⟨s0, s1, s2, s3⟩
                go_simp
                with_reducible rfl
              rotate_left
              · simp only [Act.put, List.setIfInBounds_toArray, List.set_cons_zero, List.set_cons_succ, i64_w, i32_w]
                rfl
              refine pure_ (i := 6) (N := some 39) (v := ?_) (a' := ?_) #[true, true, true, true, true, true, true, false, true, false, false, false] rfl rfl (any_of HT_.out (by kernel_rfl)) (fun _ _ _ h => h) (Or.inl ⟨by rfl, ?_⟩) ?_ ?_
              rotate_left
              · intro w'
                go_simp
                with_reducible rfl
              rotate_left
              · simp only [Act.put, List.setIfInBounds_toArray, List.set_cons_zero, List.set_cons_succ, i64_w, i32_w]
                rfl
              refine take_ (i := 7) (N := some 40) (v := ?_) (a' := ?_) #[true, true, true, true, true, true, true, true, true, false, false, false] rfl rfl (take_ofW HT_.out HW_.out (by kernel_rfl)) (fun _ _ _ h => h) (Or.inl ⟨by rfl, ?_⟩) hHeld ?_ ?_
              rotate_left
              · rintro w' ⟨s0, s1, s2, s3⟩
                go_simp
                with_reducible rfl
              rotate_left
              · simp only [Act.put, List.setIfInBounds_toArray, List.set_cons_zero, List.set_cons_succ, i64_w, i32_w]
                rfl
              refine pure_ (i := 9) (N := some 42) (v := ?_) (a' := ?_) #[true, true, true, true, true, true, true, true, true, true, false, false] rfl rfl (any_of HT_.out (by kernel_rfl)) (fun _ _ _ h => h) (Or.inl ⟨by rfl, ?_⟩) ?_ ?_
              rotate_left
              · intro w'
                go_simp
                with_reducible rfl
              rotate_left
              · simp only [Act.put, List.setIfInBounds_toArray, List.set_cons_zero, List.set_cons_succ, i64_w, i32_w]
                rfl
              refine pure_ (i := 10) (N := some 43) (v := ?_) (a' := ?_) #[true, true, true, true, true, true, true, true, true, true, true, false] rfl rfl (any_of HT_.out (by kernel_rfl)) (fun _ _ _ h => h) (Or.inl ⟨by rfl, ?_⟩) ?_ ?_
              rotate_left
              · intro w'
                go_simp
                with_reducible rfl
              rotate_left
              · simp only [Act.put, List.setIfInBounds_toArray, List.set_cons_zero, List.set_cons_succ, i64_w, i32_w]
                rfl
              refine last_ (i := 11) (N := none) #[true, true, true, true, true, true, true, true, true, true, true, true] rfl rfl (one_of HT_.out (by kernel_rfl)) (by decide) (fun K hK => ?_)
              refine skip_ (w1 := ?_) (by rfl) rfl ?_ ?_
              rotate_left
              · go_simp
                rfl
              refine hK.out _ _ ?_
              clear hK K
              refine done_ (done_of HT_.out (by kernel_rfl)) ?_
              have n0_ : Aside0 (Kd.R k67 67 (w54.setCell ⟨go51, (a1 : Int).toNat, none⟩ (.int .i64 (wrap64 ((rd t419 a1) + a2)))) w.heap.size (fun _ => True) (.slice Ao12 t415.length co12) t415) := ⟨by (with_reducible repeat (first | apply Kd.R_alloc | apply Kd.R_drewN | apply Kd.R_drew)); exact Kd.R_mono (Kd.R_far (p := ⟨go51, (a1 : Int).toNat, none⟩) (Kd.R_types HO_423000.out GG51.out (by decide)) (fun _ hk => hk.2) (.int .i64 (wrap64 ((rd t419 a1) + a2)))) (fun _ hk => trivial)⟩
              have n1_ : Aside0 (Kd.R (Kd.int .i64) 3 (w54.setCell ⟨go51, (a1 : Int).toNat, none⟩ (.int .i64 (wrap64 ((rd t419 a1) + a2)))) w.heap.size (fun _ => True) (.slice (some ⟨go51, 0, none⟩) t419.length co16) y428) := ⟨by (with_reducible repeat (first | apply Kd.R_alloc | apply Kd.R_drewN | apply Kd.R_drew)); exact HQ55.out⟩
              have n2_ : Aside0 ((w54.setCell ⟨go51, (a1 : Int).toNat, none⟩ (.int .i64 (wrap64 ((rd t419 a1) + a2)))).heap[gb413]? = some (.cells #[.slice A0_0 l0_0.length c0_0, .int .i64 a0_1, .slice A0_2 l0_2.length c0_2] 30 (0, 0))) := ⟨by (with_reducible repeat (first | refine blk_drewN ?_ _ | refine blk_drew ?_ | refine blk_alloc ?_ _)); refine blk_far ?_ (by have h_ := Kd.R_ne HO_423002.out BK413.out (by decide); intro e_; exact h_ (by rw [e_]; rfl)) _; (with_reducible repeat (first | refine blk_drewN ?_ _ | refine blk_drew ?_ | refine blk_alloc ?_ _)); exact BK413.out⟩
              have n3_ : Aside0 ((w54.setCell ⟨go51, (a1 : Int).toNat, none⟩ (.int .i64 (wrap64 ((rd t419 a1) + a2)))).heap[gb414]? = some (.cells #[.slice none 0 0, .int .i64 0, .slice none 0 0] 30 (0, 0))) := ⟨by (with_reducible repeat (first | refine blk_drewN ?_ _ | refine blk_drew ?_ | refine blk_alloc ?_ _)); refine blk_far ?_ (by have h_ := Kd.R_ne HO_423002.out BK414.out (by decide); intro e_; exact h_ (by rw [e_]; rfl)) _; (with_reducible repeat (first | refine blk_drewN ?_ _ | refine blk_drew ?_ | refine blk_alloc ?_ _)); exact BK414.out⟩
              have n4_ : Aside0 ((w54.setCell ⟨go51, (a1 : Int).toNat, none⟩ (.int .i64 (wrap64 ((rd t419 a1) + a2)))).heap[gb422]? = some (.cells #[.slice Ao12 t415.length co12, .int .i64 t418, .slice (some ⟨go51, 0, none⟩) t419.length co16] 30 (0, 0))) := ⟨by (with_reducible repeat (first | refine blk_drewN ?_ _ | refine blk_drew ?_ | refine blk_alloc ?_ _)); refine blk_far ?_ (by have h_ := Kd.R_ne HO_423002.out BK422.out (by decide); intro e_; exact h_ (by rw [e_]; rfl)) _; (with_reducible repeat (first | refine blk_drewN ?_ _ | refine blk_drew ?_ | refine blk_alloc ?_ _)); exact BK422.out⟩
              have n5_ : Aside0 (Below w.heap.size w (w54.setCell ⟨go51, (a1 : Int).toNat, none⟩ (.int .i64 (wrap64 ((rd t419 a1) + a2))))) := ⟨oB HB⟩
              (try clear HO_423000)
              (try clear HO_423002)
              (try clear BK413)
              (try clear BK414)
              (try clear BK422)
              (try clear HB)
              generalize (w54.setCell ⟨go51, (a1 : Int).toNat, none⟩ (.int .i64 (wrap64 ((rd t419 a1) + a2)))) = w56 at n0_ n1_ n2_ n3_ n4_ n5_ ⊢
              have HO_423000 := n0_
              have HO_423002 := n1_
              have BK413 := n2_
              have BK414 := n3_
              have BK422 := n4_
              have HB := n5_
              clear n0_ n1_ n2_ n3_ n4_ n5_
              have hnb57 := NB422_413.out
              have hnc57 := NB413_422.out
              have hnb58 := NB422_414.out
              have hnc58 := NB414_422.out
              have hcz59_0 : w56.cell? ⟨gb422, 0, none⟩ = some (.slice Ao12 t415.length co12) := (blk_cell BK422.out 0).trans rfl
              have hcz59_1 : w56.cell? ⟨gb422, 1, none⟩ = some (.int .i64 t418) := (blk_cell BK422.out 1).trans rfl
              have hcz59_2 : w56.cell? ⟨gb422, 2, none⟩ = some (.slice (some ⟨go51, 0, none⟩) t419.length co16) := (blk_cell BK422.out 2).trans rfl
              have hfz59_0 := blk_frozen BK422.out 0
              have hfz59_1 := blk_frozen BK422.out 1
              have hfz59_2 := blk_frozen BK422.out 2
              try go_wp2_with (first | ((with_reducible refine gate_callee (f := 18) rfl ?_); refine goesL_ (some 45) rfl rfl Try.func18 (by kernel_rfl) rfl #[.agg #[.slice Ao12 t415.length co12, .int .i64 t418, .slice (some ⟨go51, 0, none⟩) y428.length co16]] rfl (by (try simp only [List.map_toArray, List.map_cons, List.map_nil]); first | done | (rw [show y428.length = t419.length from (Kd.R_reads' HO_423002.out).1.symm] <;> rfl) | rfl | (simp only [List.length_drop, List.length_take]; rfl)) ?_; (with_reducible refine (impl_WorkOk.calls _ _ t415 t418 _ _ y428 true _ ?side1 ?side2 ?side3 ?side4 A52.out).mono ?_); (case side1 => repeat (first | exact (Kd.R_reads' HO_423000.out).2.2 | (with_reducible refine Kd.C_alloc ?_ _) | (with_reducible refine Kd.C_drewN ?_ _) | (with_reducible refine Kd.C_drew ?_))); (case side2 => exact (Kd.R_reads' HO_423000.out).2.1); (case side3 => repeat (first | exact (Kd.R_reads' HO_423002.out).2.2 | (with_reducible refine Kd.C_alloc ?_ _) | (with_reducible refine Kd.C_drewN ?_ _) | (with_reducible refine Kd.C_drew ?_))); (case side4 => rw [show y428.length = t419.length from (Kd.R_reads' HO_423002.out).1.symm]; exact (Kd.R_reads' HO_423002.out).2.1); rintro e w60 ⟨rfl, hb⟩; refine ⟨_, rfl, ?_⟩; have n0_ := Aside0.mk (Kd.R_below (oR HO_423000) hb); have n1_ := Aside0.mk (Kd.R_below (oR HO_423002) hb); have n2_ := Aside0.mk (blk_below (g := gb413) (o := .cells #[.slice A0_0 l0_0.length c0_0, .int .i64 a0_1, .slice A0_2 l0_2.length c0_2] 30 (0, 0)) (oK BK413) hb); have n3_ := Aside0.mk (blk_below (g := gb414) (o := .cells #[.slice none 0 0, .int .i64 0, .slice none 0 0] 30 (0, 0)) (oK BK414) hb); have n4_ := Aside0.mk (blk_below (g := gb422) (o := .cells #[.slice Ao12 t415.length co12, .int .i64 t418, .slice (some ⟨go51, 0, none⟩) t419.length co16] 30 (0, 0)) (oK BK422) hb); have n5_ := Aside0.mk (below_step (oB HB) hb); clear HO_423000; clear HO_423002; clear BK413; clear BK414; clear BK422; clear HB; have HO_423000 := n0_; have HO_423002 := n1_; have BK413 := n2_; have BK414 := n3_; have BK422 := n4_; have HB := n5_; clear n0_ n1_ n2_ n3_ n4_ n5_; (try clear hb); (try clear hb2); (try clear hk); (try clear hi); have hcz61_0 : w60.cell? ⟨gb422, 0, none⟩ = some (.slice Ao12 t415.length co12) := (blk_cell BK422.out 0).trans rfl; have hcz61_1 : w60.cell? ⟨gb422, 1, none⟩ = some (.int .i64 t418) := (blk_cell BK422.out 1).trans rfl; have hcz61_2 : w60.cell? ⟨gb422, 2, none⟩ = some (.slice (some ⟨go51, 0, none⟩) t419.length co16) := (blk_cell BK422.out 2).trans rfl; have hfz61_0 := blk_frozen BK422.out 0; have hfz61_1 := blk_frozen BK422.out 1; have hfz61_2 := blk_frozen BK422.out 2; have hnb62 := NB414_413.out; have hnc62 := NB413_414.out; have hcz63_0 : w60.cell? ⟨gb414, 0, none⟩ = some (.slice none 0 0) := (blk_cell BK414.out 0).trans rfl; have hcz63_1 : w60.cell? ⟨gb414, 1, none⟩ = some (.int .i64 0) := (blk_cell BK414.out 1).trans rfl; have hcz63_2 : w60.cell? ⟨gb414, 2, none⟩ = some (.slice none 0 0) := (blk_cell BK414.out 2).trans rfl; have hfz63_0 := blk_frozen BK414.out 0; have hfz63_1 := blk_frozen BK414.out 1; have hfz63_2 := blk_frozen BK414.out 2))
              refine bodyPost_ret (results_ct rfl _ _ gb414 30 #[.slice Ao12 t415.length co12, .int .i64 t418, .slice (some ⟨go51, 0, none⟩) t419.length co16] (0, 0) _ rfl (by (with_reducible repeat (first | refine blk_drewN ?_ _ | refine blk_drew ?_ | refine blk_alloc ?_ _)); refine blk_put (cs := #[.slice Ao12 t415.length co12, .int .i64 t418, .slice none 0 0]) ?_ 2 _ rfl; (with_reducible repeat (first | refine blk_drewN ?_ _ | refine blk_drew ?_ | refine blk_alloc ?_ _)); refine blk_put (cs := #[.slice Ao12 t415.length co12, .int .i64 0, .slice none 0 0]) ?_ 1 _ rfl; (with_reducible repeat (first | refine blk_drewN ?_ _ | refine blk_drew ?_ | refine blk_alloc ?_ _)); refine blk_put (cs := #[.slice none 0 0, .int .i64 0, .slice none 0 0]) ?_ 0 _ rfl; (with_reducible repeat (first | refine blk_drewN ?_ _ | refine blk_drew ?_ | refine blk_alloc ?_ _)); exact BK414.out) Try.underlying30 rfl (by kernel_rfl)) rfl ?_
              exact ⟨_, _, by first | rfl | (simp [errW_none, errW_some] <;> rfl) | (simp [*, errW_none, errW_some] <;> rfl), by (with_reducible repeat (first | apply Kd.R_alloc | apply Kd.R_drewN | apply Kd.R_drew)); exact Kd.R_mono (Kd.R_far (p := ⟨gb414, 2, none⟩) (Kd.R_far (p := ⟨gb414, 1, none⟩) (Kd.R_far (p := ⟨gb414, 0, none⟩) (Kd.R_types HO_423000.out BK414.out (by decide)) (fun _ hk => hk.2) (.slice Ao12 t415.length co12)) (fun _ hk => hk.2) (.int .i64 t418)) (fun _ hk => hk.2) (.slice (some ⟨go51, 0, none⟩) t419.length co16)) (fun _ hk => trivial), by (with_reducible repeat (first | apply Kd.R_alloc | apply Kd.R_drewN | apply Kd.R_drew)); exact Kd.R_mono (Kd.R_far (p := ⟨gb414, 2, none⟩) (Kd.R_far (p := ⟨gb414, 1, none⟩) (Kd.R_far (p := ⟨gb414, 0, none⟩) (Kd.R_types HO_423002.out BK414.out (by decide)) (fun _ hk => hk.2) (.slice Ao12 t415.length co12)) (fun _ hk => hk.2) (.int .i64 t418)) (fun _ hk => hk.2) (.slice (some ⟨go51, 0, none⟩) t419.length co16)) (fun _ hk => trivial), oB HB⟩
            · replace c53 := Bool.eq_false_iff.mpr c53
              subst c53
              rw [if_neg (show ¬ (false = true) by decide)] at H
              replace H := Option.bind_eq_some_iff.mp H
              obtain ⟨⟨t430, t433, t434⟩, A640, H⟩ := H
              (try dsimp only at H)
              have A64 := Aside0.mk A640
              clear A640
              simp only [Option.some.injEq, Prod.mk.injEq] at H
              obtain ⟨rfl, rfl, rfl, rfl⟩ := H
              try go_wp2
              have n0_ := Aside0.mk (Kd.R_drew HO_423000.out)
              have n1_ := Aside0.mk (Kd.R_drew HO_423002.out)
              have n2_ := Aside0.mk (blk_drew BK413.out)
              have n3_ := Aside0.mk (blk_drew BK414.out)
              have n4_ := Aside0.mk (blk_drew BK422.out)
              have n5_ := Aside0.mk (below_drew1 HB.out)
              clear HO_423000
              clear HO_423002
              clear BK413
              clear BK414
              clear BK422
              clear HB
              have HO_423000 := n0_
              have HO_423002 := n1_
              have BK413 := n2_
              have BK414 := n3_
              have BK422 := n4_
              have HB := n5_
              clear n0_ n1_ n2_ n3_ n4_ n5_
              have p427 : 0 ≤ (a1 : Int) := of_decide_eq_true (by first | (with_reducible assumption) | assumption)
              have q427 : a1 < (t419.length : Int) := of_decide_eq_true (by first | (with_reducible assumption) | assumption)
              obtain ⟨ad427, e427, hx427_0⟩ := Kd.at_int (Kd.R_reads' HO_423002.out).2.2 a1 p427 q427
              cases e427
              replace p427 := eq_true p427
              replace q427 := eq_true q427
              have p51 : 0 ≤ (a1 : Int) := of_decide_eq_true (by first | (with_reducible assumption) | assumption)
              have q51 : (a1 : Int) < ((t419.length : Int) : Int) := of_decide_eq_true (by first | (with_reducible assumption) | assumption)
              obtain ⟨go51, co51, eo51, gb51, gl51, cl51, HG51⟩ := Kd.R_form HO_423002.out (by omega)
              (first | cases eo51 | (injection eo51 with ea_ en_ ec_; (first | subst ea_ | (injection ea_ with ea_; subst ea_)); subst ec_; clear en_))
              have GB51 := Aside0.mk gb51
              have GG51 := Aside0.mk HG51
              clear gb51 gl51 HG51
              (first | simp only [add_plain] at hx427_0 | skip)
              obtain ⟨hx51_0, hf51_0⟩ := Kd.R_celln 0 HO_423002.out (a1 : Int) p51 q51
              replace p51 := eq_true p51
              replace q51 := eq_true q51
              have HP66 := Kd.R_putn HO_423002.out (a1 : Int) (wrap64 ((rd t419 a1) + a2))
              rw [← Ny428.out] at HP66
              have HQ66 := Aside0.mk HP66
              clear HP66
              refine start_ (n := 12) (S := fun w' => w'.cell? ⟨gb422, 0, none⟩ = some (.slice Ao12 t415.length co12) ∧ w'.cell? ⟨gb422, 1, none⟩ = some (.int .i64 t418) ∧ w'.cell? ⟨gb422, 2, none⟩ = some (.slice (some ⟨go51, 0, none⟩) t419.length co16) ∧ w'.cell? ⟨go51, (a1).toNat, none⟩ = some (.int .i64 (rd t419 a1))) (ds := [11]) #[false, false, false, false, false, false, false, false, false, false, false, false] (by kernel_rfl) rfl rfl ⟨(blk_cell BK422.out 0).trans rfl, (blk_cell BK422.out 1).trans rfl, (blk_cell BK422.out 2).trans rfl, hx427_0⟩ (fun hHeld => ?_); refine with_tabW impl_KnockKey.tab4 impl_KnockKey.bits4 (fun HT_ HW_ => ?_)
              generalize wc.drew = w65 at HO_423000 HO_423002 BK413 BK414 BK422 HB GG51 HQ66 hf51_0 hx427_0 hx51_0 hHeld ⊢
              refine pure_ (i := 0) (N := some 33) (v := ?_) (a' := ?_) #[true, false, false, false, false, false, false, false, false, false, false, false] rfl rfl (any_of HT_.out (by kernel_rfl)) (fun _ _ _ h => h) (Or.inl ⟨by rfl, ?_⟩) ?_ ?_
              rotate_left
              · intro w'
                go_simp
                with_reducible rfl
              rotate_left
              · simp only [Act.put, List.setIfInBounds_toArray, List.set_cons_zero, List.set_cons_succ, i64_w, i32_w]
                rfl
              refine pure_ (i := 2) (N := some 35) (v := ?_) (a' := ?_) #[true, false, true, false, false, false, false, false, false, false, false, false] rfl rfl (any_of HT_.out (by kernel_rfl)) (fun _ _ _ h => h) (Or.inl ⟨by rfl, ?_⟩) ?_ ?_
              rotate_left
              · intro w'
                go_simp
                with_reducible rfl
              rotate_left
              · simp only [Act.put, List.setIfInBounds_toArray, List.set_cons_zero, List.set_cons_succ, i64_w, i32_w]
                rfl
              refine pure_ (i := 3) (N := some 36) (v := ?_) (a' := ?_) #[true, false, true, true, false, false, false, false, false, false, false, false] rfl rfl (any_of HT_.out (by kernel_rfl)) (fun _ _ _ h => h) (Or.inl ⟨by rfl, ?_⟩) ?_ ?_
              rotate_left
              · intro w'
                go_simp
                with_reducible rfl
              rotate_left
              · simp only [Act.put, List.setIfInBounds_toArray, List.set_cons_zero, List.set_cons_succ, i64_w, i32_w]
                rfl
              refine pure_ (i := 5) (N := some 38) (v := ?_) (a' := ?_) #[true, false, true, true, false, true, false, false, false, false, false, false] rfl rfl (any_of HT_.out (by kernel_rfl)) (fun _ _ _ h => h) (Or.inl ⟨by rfl, ?_⟩) ?_ ?_
              rotate_left
              · intro w'
                go_simp
                with_reducible rfl
              rotate_left
              · simp only [Act.put, List.setIfInBounds_toArray, List.set_cons_zero, List.set_cons_succ, i64_w, i32_w]
                rfl
              refine pure_ (i := 8) (N := some 41) (v := ?_) (a' := ?_) #[true, false, true, true, false, true, false, false, true, false, false, false] rfl rfl (any_of HT_.out (by kernel_rfl)) (fun _ _ _ h => h) (Or.inl ⟨by rfl, ?_⟩) ?_ ?_
              rotate_left
              · intro w'
                go_simp
                with_reducible rfl
              rotate_left
              · simp only [Act.put, List.setIfInBounds_toArray, List.set_cons_zero, List.set_cons_succ, i64_w, i32_w]
                rfl
              refine take_ (i := 1) (N := some 34) (v := ?_) (a' := ?_) #[true, true, true, true, false, true, false, false, true, false, false, false] rfl rfl (take_ofW HT_.out HW_.out (by kernel_rfl)) (fun _ _ _ h => h) (Or.inl ⟨by rfl, ?_⟩) hHeld ?_ ?_
              rotate_left
              · rintro w' ⟨s0, s1, s2, s3⟩
                go_simp
                with_reducible rfl
              rotate_left
              · simp only [Act.put, List.setIfInBounds_toArray, List.set_cons_zero, List.set_cons_succ, i64_w, i32_w]
                rfl
              refine take_ (i := 4) (N := some 37) (v := ?_) (a' := ?_) #[true, true, true, true, true, true, false, false, true, false, false, false] rfl rfl (take_ofW HT_.out HW_.out (by kernel_rfl)) (fun _ _ _ h => h) (Or.inl ⟨by rfl, ?_⟩) hHeld ?_ ?_
              rotate_left
              · rintro w' ⟨s0, s1, s2, s3⟩
                go_simp
                with_reducible rfl
              rotate_left
              · simp only [Act.put, List.setIfInBounds_toArray, List.set_cons_zero, List.set_cons_succ, i64_w, i32_w]
                rfl
              refine pure_ (i := 6) (N := some 39) (v := ?_) (a' := ?_) #[true, true, true, true, true, true, true, false, true, false, false, false] rfl rfl (any_of HT_.out (by kernel_rfl)) (fun _ _ _ h => h) (Or.inl ⟨by rfl, ?_⟩) ?_ ?_
              rotate_left
              · intro w'
                go_simp
                with_reducible rfl
              rotate_left
              · simp only [Act.put, List.setIfInBounds_toArray, List.set_cons_zero, List.set_cons_succ, i64_w, i32_w]
                rfl
              refine take_ (i := 7) (N := some 40) (v := ?_) (a' := ?_) #[true, true, true, true, true, true, true, true, true, false, false, false] rfl rfl (take_ofW HT_.out HW_.out (by kernel_rfl)) (fun _ _ _ h => h) (Or.inl ⟨by rfl, ?_⟩) hHeld ?_ ?_
              rotate_left
              · rintro w' ⟨s0, s1, s2, s3⟩
                go_simp
                with_reducible rfl
              rotate_left
              · simp only [Act.put, List.setIfInBounds_toArray, List.set_cons_zero, List.set_cons_succ, i64_w, i32_w]
                rfl
              refine pure_ (i := 9) (N := some 42) (v := ?_) (a' := ?_) #[true, true, true, true, true, true, true, true, true, true, false, false] rfl rfl (any_of HT_.out (by kernel_rfl)) (fun _ _ _ h => h) (Or.inl ⟨by rfl, ?_⟩) ?_ ?_
              rotate_left
              · intro w'
                go_simp
                with_reducible rfl
              rotate_left
              · simp only [Act.put, List.setIfInBounds_toArray, List.set_cons_zero, List.set_cons_succ, i64_w, i32_w]
                rfl
              refine pure_ (i := 10) (N := some 43) (v := ?_) (a' := ?_) #[true, true, true, true, true, true, true, true, true, true, true, false] rfl rfl (any_of HT_.out (by kernel_rfl)) (fun _ _ _ h => h) (Or.inl ⟨by rfl, ?_⟩) ?_ ?_
              rotate_left
              · intro w'
                go_simp
                with_reducible rfl
              rotate_left
              · simp only [Act.put, List.setIfInBounds_toArray, List.set_cons_zero, List.set_cons_succ, i64_w, i32_w]
                rfl
              refine last_ (i := 11) (N := none) #[true, true, true, true, true, true, true, true, true, true, true, true] rfl rfl (one_of HT_.out (by kernel_rfl)) (by decide) (fun K hK => ?_)
              refine skip_ (w1 := ?_) (by rfl) rfl ?_ ?_
              rotate_left
              · go_simp
                rfl
              refine hK.out _ _ ?_
              clear hK K
              refine done_ (done_of HT_.out (by kernel_rfl)) ?_
              have n0_ : Aside0 (Kd.R k67 67 (w65.setCell ⟨go51, (a1 : Int).toNat, none⟩ (.int .i64 (wrap64 ((rd t419 a1) + a2)))) w.heap.size (fun _ => True) (.slice Ao12 t415.length co12) t415) := ⟨by (with_reducible repeat (first | apply Kd.R_alloc | apply Kd.R_drewN | apply Kd.R_drew)); exact Kd.R_mono (Kd.R_far (p := ⟨go51, (a1 : Int).toNat, none⟩) (Kd.R_types HO_423000.out GG51.out (by decide)) (fun _ hk => hk.2) (.int .i64 (wrap64 ((rd t419 a1) + a2)))) (fun _ hk => trivial)⟩
              have n1_ : Aside0 (Kd.R (Kd.int .i64) 3 (w65.setCell ⟨go51, (a1 : Int).toNat, none⟩ (.int .i64 (wrap64 ((rd t419 a1) + a2)))) w.heap.size (fun _ => True) (.slice (some ⟨go51, 0, none⟩) t419.length co16) y428) := ⟨by (with_reducible repeat (first | apply Kd.R_alloc | apply Kd.R_drewN | apply Kd.R_drew)); exact HQ66.out⟩
              have n2_ : Aside0 ((w65.setCell ⟨go51, (a1 : Int).toNat, none⟩ (.int .i64 (wrap64 ((rd t419 a1) + a2)))).heap[gb413]? = some (.cells #[.slice A0_0 l0_0.length c0_0, .int .i64 a0_1, .slice A0_2 l0_2.length c0_2] 30 (0, 0))) := ⟨by (with_reducible repeat (first | refine blk_drewN ?_ _ | refine blk_drew ?_ | refine blk_alloc ?_ _)); refine blk_far ?_ (by have h_ := Kd.R_ne HO_423002.out BK413.out (by decide); intro e_; exact h_ (by rw [e_]; rfl)) _; (with_reducible repeat (first | refine blk_drewN ?_ _ | refine blk_drew ?_ | refine blk_alloc ?_ _)); exact BK413.out⟩
              have n3_ : Aside0 ((w65.setCell ⟨go51, (a1 : Int).toNat, none⟩ (.int .i64 (wrap64 ((rd t419 a1) + a2)))).heap[gb414]? = some (.cells #[.slice none 0 0, .int .i64 0, .slice none 0 0] 30 (0, 0))) := ⟨by (with_reducible repeat (first | refine blk_drewN ?_ _ | refine blk_drew ?_ | refine blk_alloc ?_ _)); refine blk_far ?_ (by have h_ := Kd.R_ne HO_423002.out BK414.out (by decide); intro e_; exact h_ (by rw [e_]; rfl)) _; (with_reducible repeat (first | refine blk_drewN ?_ _ | refine blk_drew ?_ | refine blk_alloc ?_ _)); exact BK414.out⟩
              have n4_ : Aside0 ((w65.setCell ⟨go51, (a1 : Int).toNat, none⟩ (.int .i64 (wrap64 ((rd t419 a1) + a2)))).heap[gb422]? = some (.cells #[.slice Ao12 t415.length co12, .int .i64 t418, .slice (some ⟨go51, 0, none⟩) t419.length co16] 30 (0, 0))) := ⟨by (with_reducible repeat (first | refine blk_drewN ?_ _ | refine blk_drew ?_ | refine blk_alloc ?_ _)); refine blk_far ?_ (by have h_ := Kd.R_ne HO_423002.out BK422.out (by decide); intro e_; exact h_ (by rw [e_]; rfl)) _; (with_reducible repeat (first | refine blk_drewN ?_ _ | refine blk_drew ?_ | refine blk_alloc ?_ _)); exact BK422.out⟩
              have n5_ : Aside0 (Below w.heap.size w (w65.setCell ⟨go51, (a1 : Int).toNat, none⟩ (.int .i64 (wrap64 ((rd t419 a1) + a2))))) := ⟨oB HB⟩
              (try clear HO_423000)
              (try clear HO_423002)
              (try clear BK413)
              (try clear BK414)
              (try clear BK422)
              (try clear HB)
              generalize (w65.setCell ⟨go51, (a1 : Int).toNat, none⟩ (.int .i64 (wrap64 ((rd t419 a1) + a2)))) = w67 at n0_ n1_ n2_ n3_ n4_ n5_ ⊢
              have HO_423000 := n0_
              have HO_423002 := n1_
              have BK413 := n2_
              have BK414 := n3_
              have BK422 := n4_
              have HB := n5_
              clear n0_ n1_ n2_ n3_ n4_ n5_
              have hnb68 := NB422_413.out
              have hnc68 := NB413_422.out
              have hnb69 := NB422_414.out
              have hnc69 := NB414_422.out
              have hcz70_0 : w67.cell? ⟨gb422, 0, none⟩ = some (.slice Ao12 t415.length co12) := (blk_cell BK422.out 0).trans rfl
              have hcz70_1 : w67.cell? ⟨gb422, 1, none⟩ = some (.int .i64 t418) := (blk_cell BK422.out 1).trans rfl
              have hcz70_2 : w67.cell? ⟨gb422, 2, none⟩ = some (.slice (some ⟨go51, 0, none⟩) t419.length co16) := (blk_cell BK422.out 2).trans rfl
              have hfz70_0 := blk_frozen BK422.out 0
              have hfz70_1 := blk_frozen BK422.out 1
              have hfz70_2 := blk_frozen BK422.out 2
              try go_wp2_with (first | ((with_reducible refine gate_callee (f := 18) rfl ?_); refine goesL_ (some 45) rfl rfl Try.func18 (by kernel_rfl) rfl #[.agg #[.slice Ao12 t415.length co12, .int .i64 t418, .slice (some ⟨go51, 0, none⟩) y428.length co16]] rfl (by (try simp only [List.map_toArray, List.map_cons, List.map_nil]); first | done | (rw [show y428.length = t419.length from (Kd.R_reads' HO_423002.out).1.symm] <;> rfl) | rfl | (simp only [List.length_drop, List.length_take]; rfl)) ?_; (with_reducible refine (impl_WorkOk.calls _ _ t415 t418 _ _ y428 false _ ?side1 ?side2 ?side3 ?side4 A52.out).mono ?_); (case side1 => repeat (first | exact (Kd.R_reads' HO_423000.out).2.2 | (with_reducible refine Kd.C_alloc ?_ _) | (with_reducible refine Kd.C_drewN ?_ _) | (with_reducible refine Kd.C_drew ?_))); (case side2 => exact (Kd.R_reads' HO_423000.out).2.1); (case side3 => repeat (first | exact (Kd.R_reads' HO_423002.out).2.2 | (with_reducible refine Kd.C_alloc ?_ _) | (with_reducible refine Kd.C_drewN ?_ _) | (with_reducible refine Kd.C_drew ?_))); (case side4 => rw [show y428.length = t419.length from (Kd.R_reads' HO_423002.out).1.symm]; exact (Kd.R_reads' HO_423002.out).2.1); rintro e w71 ⟨rfl, hb⟩; refine ⟨_, rfl, ?_⟩; have n0_ := Aside0.mk (Kd.R_below (oR HO_423000) hb); have n1_ := Aside0.mk (Kd.R_below (oR HO_423002) hb); have n2_ := Aside0.mk (blk_below (g := gb413) (o := .cells #[.slice A0_0 l0_0.length c0_0, .int .i64 a0_1, .slice A0_2 l0_2.length c0_2] 30 (0, 0)) (oK BK413) hb); have n3_ := Aside0.mk (blk_below (g := gb414) (o := .cells #[.slice none 0 0, .int .i64 0, .slice none 0 0] 30 (0, 0)) (oK BK414) hb); have n4_ := Aside0.mk (blk_below (g := gb422) (o := .cells #[.slice Ao12 t415.length co12, .int .i64 t418, .slice (some ⟨go51, 0, none⟩) t419.length co16] 30 (0, 0)) (oK BK422) hb); have n5_ := Aside0.mk (below_step (oB HB) hb); clear HO_423000; clear HO_423002; clear BK413; clear BK414; clear BK422; clear HB; have HO_423000 := n0_; have HO_423002 := n1_; have BK413 := n2_; have BK414 := n3_; have BK422 := n4_; have HB := n5_; clear n0_ n1_ n2_ n3_ n4_ n5_; (try clear hb); (try clear hb2); (try clear hk); (try clear hi); have hnb72 := NB413_414.out; have hnc72 := NB414_413.out; have hcz73_0 : w71.cell? ⟨gb413, 0, none⟩ = some (.slice A0_0 l0_0.length c0_0) := (blk_cell BK413.out 0).trans rfl; have hcz73_1 : w71.cell? ⟨gb413, 1, none⟩ = some (.int .i64 a0_1) := (blk_cell BK413.out 1).trans rfl; have hcz73_2 : w71.cell? ⟨gb413, 2, none⟩ = some (.slice A0_2 l0_2.length c0_2) := (blk_cell BK413.out 2).trans rfl; have hfz73_0 := blk_frozen BK413.out 0; have hfz73_1 := blk_frozen BK413.out 1; have hfz73_2 := blk_frozen BK413.out 2) | ((with_reducible refine gate_callee (f := 69) rfl ?_); refine goesL_ (some 48) rfl rfl Try.func69 (by kernel_rfl) rfl #[.agg #[.slice A0_0 l0_0.length c0_0, .int .i64 a0_1, .slice A0_2 l0_2.length c0_2]] rfl (by (try simp only [List.map_toArray, List.map_cons, List.map_nil]); first | done | rfl | (simp only [List.length_drop, List.length_take]; rfl)) ?_; (with_reducible refine (impl_copyWork.calls _ _ l0_0 a0_1 _ _ l0_2 t430 t433 t434 _ ?side1 ?side2 ?side3 ?side4 A64.out).mono ?_); (case side1 => exact oc_ HR0_0.out); (case side2 => exact HC0_0.out); (case side3 => exact oc_ HR0_2.out); (case side4 => exact HC0_2.out); rintro e w74 ⟨v431, v435, rfl, ho0, ho1, hb⟩; refine ⟨_, rfl, ?_⟩; have n0_ := Aside0.mk (Kd.R_elder' (oR HO_423000) (Kd.R_base ho0) hb); have n1_ := Aside0.mk (Kd.R_elder' (oR HO_423002) (Kd.R_base ho1) hb); have n2_ := Aside0.mk (Kd.R_lower (Kd.R_new' ho0 (Kd.R_lt (oR HO_423000))) (below_size (oB HB))); have n3_ := Aside0.mk (Kd.R_lower (Kd.R_new' ho1 (Kd.R_lt (oR HO_423002))) (below_size (oB HB))); have n4_ := Aside0.mk (blk_below (g := gb413) (o := .cells #[.slice A0_0 l0_0.length c0_0, .int .i64 a0_1, .slice A0_2 l0_2.length c0_2] 30 (0, 0)) (oK BK413) hb); have n5_ := Aside0.mk (blk_below (g := gb414) (o := .cells #[.slice none 0 0, .int .i64 0, .slice none 0 0] 30 (0, 0)) (oK BK414) hb); have n6_ := Aside0.mk (blk_below (g := gb422) (o := .cells #[.slice Ao12 t415.length co12, .int .i64 t418, .slice (some ⟨go51, 0, none⟩) t419.length co16] 30 (0, 0)) (oK BK422) hb); have n7_ := Aside0.mk (below_step (oB HB) hb); clear HO_423000; clear HO_423002; clear BK413; clear BK414; clear BK422; clear HB; have HO_423000 := n0_; have HO_423002 := n1_; have HO432 := n2_; have HO436 := n3_; have BK413 := n4_; have BK414 := n5_; have BK422 := n6_; have HB := n7_; clear n0_ n1_ n2_ n3_ n4_ n5_ n6_ n7_; (try clear hb); (try clear hb2); (try clear hk); (try clear hi); (try clear ho0); (try clear ho1); obtain ⟨Ao75, co75, eo75⟩ := Kd.R_slice HO432.out; subst eo75; have hcz76_0 : w74.cell? ⟨gb414, 0, none⟩ = some (.slice none 0 0) := (blk_cell BK414.out 0).trans rfl; have hcz76_1 : w74.cell? ⟨gb414, 1, none⟩ = some (.int .i64 0) := (blk_cell BK414.out 1).trans rfl; have hcz76_2 : w74.cell? ⟨gb414, 2, none⟩ = some (.slice none 0 0) := (blk_cell BK414.out 2).trans rfl; have hfz76_0 := blk_frozen BK414.out 0; have hfz76_1 := blk_frozen BK414.out 1; have hfz76_2 := blk_frozen BK414.out 2; obtain ⟨Ao77, co77, eo77⟩ := Kd.R_slice HO436.out; subst eo77))
              refine bodyPost_ret (results_ct rfl _ _ gb414 30 #[.slice Ao75 t430.length co75, .int .i64 t433, .slice Ao77 t434.length co77] (0, 0) _ rfl (by (with_reducible repeat (first | refine blk_drewN ?_ _ | refine blk_drew ?_ | refine blk_alloc ?_ _)); refine blk_put (cs := #[.slice Ao75 t430.length co75, .int .i64 t433, .slice none 0 0]) ?_ 2 _ rfl; (with_reducible repeat (first | refine blk_drewN ?_ _ | refine blk_drew ?_ | refine blk_alloc ?_ _)); refine blk_put (cs := #[.slice Ao75 t430.length co75, .int .i64 0, .slice none 0 0]) ?_ 1 _ rfl; (with_reducible repeat (first | refine blk_drewN ?_ _ | refine blk_drew ?_ | refine blk_alloc ?_ _)); refine blk_put (cs := #[.slice none 0 0, .int .i64 0, .slice none 0 0]) ?_ 0 _ rfl; (with_reducible repeat (first | refine blk_drewN ?_ _ | refine blk_drew ?_ | refine blk_alloc ?_ _)); exact BK414.out) Try.underlying30 rfl (by kernel_rfl)) rfl ?_
              exact ⟨_, _, by first | rfl | (simp [errW_none, errW_some] <;> rfl) | (simp [*, errW_none, errW_some] <;> rfl), by (with_reducible repeat (first | apply Kd.R_alloc | apply Kd.R_drewN | apply Kd.R_drew)); exact Kd.R_mono (Kd.R_far (p := ⟨gb414, 2, none⟩) (Kd.R_far (p := ⟨gb414, 1, none⟩) (Kd.R_far (p := ⟨gb414, 0, none⟩) (Kd.R_types HO432.out BK414.out (by decide)) (fun _ hk => hk.2) (.slice Ao75 t430.length co75)) (fun _ hk => hk.2) (.int .i64 t433)) (fun _ hk => hk.2) (.slice Ao77 t434.length co77)) (fun _ hk => trivial), by (with_reducible repeat (first | apply Kd.R_alloc | apply Kd.R_drewN | apply Kd.R_drew)); exact Kd.R_mono (Kd.R_far (p := ⟨gb414, 2, none⟩) (Kd.R_far (p := ⟨gb414, 1, none⟩) (Kd.R_far (p := ⟨gb414, 0, none⟩) (Kd.R_types HO436.out BK414.out (by decide)) (fun _ hk => hk.2) (.slice Ao75 t430.length co75)) (fun _ hk => hk.2) (.int .i64 t433)) (fun _ hk => hk.2) (.slice Ao77 t434.length co77)) (fun _ hk => trivial), oB HB⟩
          · rw [if_neg c50] at H
            exact absurd H (by simp)
        · rw [if_neg c49] at H
          exact absurd H (by simp)
end Go.Proofs.Ytlhlmjklajdejaa.P

