/- What functions of the program come to (f), that their calls come to just this (calls), and the plain laws over lists and numbers. No condition but those of the given row. -/
import Derived.Test.YtlhlmjklajdejaaC1
namespace Go.Proofs.Ytlhlmjklajdejaa.P
open Go.RowKit Go.Proofs.YtlhlmjklajdejaaW.PrintWords Go.Proofs.YtlhlmjklajdejaaW.PrintLast Go.Proofs.YtlhlmjklajdejaaW.PrintMore
attribute [local go_sem] max2_int min2_int max_two min_two max_three min_three max_four min_four
set_option linter.unusedVariables false
set_option linter.unusedSimpArgs false
def spec_l20Step.l0 : Nat → List (S67) → Int → Int → Option (Int)
  | 0, _, _, _ => none
  | k + 1, x0, x1, x5 => if x5 < (x0.length : Int) then (if 0 ≤ x5 then (if ((rd_T67 x0 x5).f1) = x1 then (some x5) else (spec_l20Step.l0 k x0 x1 (wrap64 (x5 + 1)))) else (none)) else (some (-1))
def spec_l20Step.f (k : Nat) (l0 : List (S67)) (a1 : Int) : Option (Int) := spec_l20Step.l0 k l0 a1 0
set_option maxHeartbeats 8000000 in
set_option maxRecDepth 100000 in
theorem spec_l20Step.calls (k : Nat) (A0 : Option Addr) (c0 : Nat) (l0 : List (S67)) (a1 : Int) (r : Int) (w : World) (hr0 : Kd.C k67 w A0 l0.length l0) (hc0 : l0.length ≤ c0) (h : spec_l20Step.f k l0 a1 = some r) :
    Calls Try.prog 56 #[.slice A0 l0.length c0, .int .i64 a1] w fun e w' => e = .returned (.int .i64 r) ∧ Drawn0 w w' := by
  have HR0 := Aside0.mk hr0
  have HC0 := Aside0.mk hc0
  clear hr0 hc0
  have H : (spec_l20Step.l0 k l0 a1 0) = some r := h
  clear h
  have H' := Aside0.mk H
  clear H
  go_enter Try.func56, Try.ntmps56
  go_wp2
  go_loopg [5] k (fun kq v5 w' => ∃ (x5_1 : Int), v5 = .int .i64 x5_1 ∧ Aside0 (spec_l20Step.l0 kq l0 a1 x5_1 = some r) ∧ Aside0 (kq ≤ k) ∧ Drawn0 w w')
  case atStart => exact ⟨(0), (by first | rfl | (simp; done) | (simp [*]; done)), H', ⟨Nat.le_refl _⟩, by repeat (first | exact Drawn0.refl _ | apply Drawn0.step)⟩
  case round =>
    clear H'
    try clear p2
    obtain ⟨x5_1, rfl, HA, HK1, ⟨m1, rfl⟩⟩ := hrel
    cases gk with
    | zero => exact absurd HA.out (by simp [spec_l20Step.l0])
    | succ k1 =>
      have H := HA.out
      clear HA
      simp only [spec_l20Step.l0] at H
      by_cases c3 : x5_1 < (l0.length : Int)
      · rw [if_pos c3] at H
        have c3b0 : decide (x5_1 < (l0.length : Int)) = true := decide_eq_true c3
        clear c3
        by_cases c4 : 0 ≤ x5_1
        · rw [if_pos c4] at H
          have c4b0 : decide (0 ≤ x5_1) = true := decide_eq_true c4
          clear c4
          by_cases c5 : ((rd_T67 l0 x5_1).f1) = a1
          · rw [if_pos c5] at H
            have c5b0 : (((rd_T67 l0 x5_1).f1) == a1) = true := beq_iff_eq.mpr c5
            have c5b1 : (((rd_T67 l0 x5_1).f1) != a1) = false := bne_eq_false_iff_eq.mpr c5
            clear c5
            obtain rfl := Option.some.inj H
            have p104 : 0 ≤ (x5_1 : Int) := of_decide_eq_true (by first | (with_reducible assumption) | assumption)
            have q104 : x5_1 < (l0.length : Int) := of_decide_eq_true (by first | (with_reducible assumption) | assumption)
            obtain ⟨ad104, e104, hx104_0, hx104_1, hx104_2, hx104_3⟩ := at_T67 HR0.out x5_1 p104 q104
            cases e104
            replace p104 := eq_true p104
            replace q104 := eq_true q104
            go_wp2
            go_ret
            exact ⟨by first | rfl | (simp; done) | (simp [*]; done), by repeat (first | exact Drawn0.refl _ | apply Drawn0.step)⟩
          · rw [if_neg c5] at H
            have c5b0 : (((rd_T67 l0 x5_1).f1) == a1) = false := beq_eq_false_iff_ne.mpr c5
            have c5b1 : (((rd_T67 l0 x5_1).f1) != a1) = true := bne_iff_ne.mpr c5
            have H' := Aside0.mk H
            clear H
            have p104 : 0 ≤ (x5_1 : Int) := of_decide_eq_true (by first | (with_reducible assumption) | assumption)
            have q104 : x5_1 < (l0.length : Int) := of_decide_eq_true (by first | (with_reducible assumption) | assumption)
            obtain ⟨ad104, e104, hx104_0, hx104_1, hx104_2, hx104_3⟩ := at_T67 HR0.out x5_1 p104 q104
            cases e104
            replace p104 := eq_true p104
            replace q104 := eq_true q104
            go_wp2
            go_roundg k1
            case measure => have := HK1.out; omega
            case rel => exact ⟨(wrap64 (x5_1 + 1)), (by first | rfl | (simp; done) | (simp [*]; done)), H', ⟨by have := HK1.out; omega⟩, by repeat (first | exact Drawn0.refl _ | apply Drawn0.step)⟩
        · rw [if_neg c4] at H
          exact absurd H (by simp)
      · rw [if_neg c3] at H
        have c3b0 : decide (x5_1 < (l0.length : Int)) = false := decide_eq_false c3
        clear c3
        obtain rfl := Option.some.inj H
        go_wp2
        go_ret
        exact ⟨by first | rfl | (simp; done) | (simp [*]; done), by repeat (first | exact Drawn0.refl _ | apply Drawn0.step)⟩
end Go.Proofs.Ytlhlmjklajdejaa.P


namespace Go.Proofs.Ytlhlmjklajdejaa.P
open Go.RowKit Go.Proofs.YtlhlmjklajdejaaW.PrintWords Go.Proofs.YtlhlmjklajdejaaW.PrintLast Go.Proofs.YtlhlmjklajdejaaW.PrintMore
attribute [local go_sem] max2_int min2_int max_two min_two max_three min_three max_four min_four
set_option linter.unusedVariables false
set_option linter.unusedSimpArgs false
mutual
def spec_WorkOk.j0 : Nat → Bool → List (S67) → Int → List Int → Option (Bool)
  | 0, _, _, _, _ => none
  | k + 1, x24, x107000, x107001, x107002 => if x24 = true then (some false) else (spec_WorkOk.l0 k 0 x107000 x107001 x107002)
def spec_WorkOk.l0 : Nat → Int → List (S67) → Int → List Int → Option (Bool)
  | 0, _, _, _, _ => none
  | k + 1, x3, x107000, x107001, x107002 => if x3 < 12 then ((spec_l20Step.f k x107000 x3).bind fun t109 => (if x3 = 0 then (if 0 ≤ x3 then (if x3 < (x107002.length : Int) then ((spec_l18Pitch.f (rd x107002 x3)).bind fun t111 => (if t111 = true then (spec_WorkOk.l0 k (wrap64 (x3 + 1)) x107000 x107001 x107002) else (some false))) else (none)) else (none)) else (if t109 ≥ 0 then (if t109 < x107001 then (if 0 ≤ x3 then (if x3 < (x107002.length : Int) then ((spec_l18Pitch.f (rd x107002 x3)).bind fun t113 => (if t113 = true then (spec_WorkOk.l0 k (wrap64 (x3 + 1)) x107000 x107001 x107002) else (some false))) else (none)) else (none)) else (if 0 ≤ x3 then (if x3 < (x107002.length : Int) then (if (rd x107002 x3) = 0 then (spec_WorkOk.l0 k (wrap64 (x3 + 1)) x107000 x107001 x107002) else (some false)) else (none)) else (none))) else (if 0 ≤ x3 then (if x3 < (x107002.length : Int) then (if (rd x107002 x3) = 0 then (spec_WorkOk.l0 k (wrap64 (x3 + 1)) x107000 x107001 x107002) else (some false)) else (none)) else (none))))) else (some true)
end
def spec_WorkOk.f (k : Nat) (l0_0 : List (S67)) (a0_1 : Int) (l0_2 : List Int) : Option (Bool) := (spec_PlanOk.f l0_0).bind fun t107 => (if t107 = true then ((spec_l01In.f a0_1 0 (l0_0.length : Int)).bind fun t108 => (if t108 = true then (spec_WorkOk.j0 k ((l0_2.length : Int) != 12) l0_0 a0_1 l0_2) else (spec_WorkOk.j0 k true l0_0 a0_1 l0_2))) else (spec_WorkOk.j0 k true l0_0 a0_1 l0_2))
set_option maxHeartbeats 8000000 in
set_option maxRecDepth 100000 in
theorem spec_WorkOk.calls (k : Nat) (A0_0 : Option Addr) (c0_0 : Nat) (l0_0 : List (S67)) (a0_1 : Int) (A0_2 : Option Addr) (c0_2 : Nat) (l0_2 : List Int) (r : Bool) (w : World) (hr0_0 : Kd.C k67 w A0_0 l0_0.length l0_0) (hc0_0 : l0_0.length ≤ c0_0) (hr0_2 : Kd.C (Kd.int .i64) w A0_2 l0_2.length l0_2) (hc0_2 : l0_2.length ≤ c0_2) (h : spec_WorkOk.f k l0_0 a0_1 l0_2 = some r) :
    Calls Try.prog 16 #[.agg #[.slice A0_0 l0_0.length c0_0, .int .i64 a0_1, .slice A0_2 l0_2.length c0_2]] w fun e w' => e = .returned (.bool r) ∧ Below w.heap.size w w' := by
  have hu30 := Try.underlying30
  have HR0_0 := Aside0.mk hr0_0
  have HC0_0 := Aside0.mk hc0_0
  clear hr0_0 hc0_0
  have HR0_2 := Aside0.mk hr0_2
  have HC0_2 := Aside0.mk hc0_2
  clear hr0_2 hc0_2
  have HB := Aside0.mk (Below.refl w.heap.size w)
  have H : ((spec_PlanOk.f l0_0).bind fun t107 => (if t107 = true then ((spec_l01In.f a0_1 0 (l0_0.length : Int)).bind fun t108 => (if t108 = true then (spec_WorkOk.j0 k ((l0_2.length : Int) != 12) l0_0 a0_1 l0_2) else (spec_WorkOk.j0 k true l0_0 a0_1 l0_2))) else (spec_WorkOk.j0 k true l0_0 a0_1 l0_2))) = some r := h
  clear h
  have HC2 := Aside0.mk H
  clear H
  go_enter Try.func16, Try.ntmps16
  go_upto_region 1 with (first | ((with_reducible refine gate_dst (N := 1) rfl ?_); (try (refine gate_guard (by rfl) ?_; dsimp only)); refine box_event ?hg (N := 1) ?hd (cs := #[.slice A0_0 l0_0.length c0_0, .int .i64 a0_1, .slice A0_2 l0_2.length c0_2]) (t := 30) ?hr ?_; (case hd => rfl); (case hg => rfl); (case hr => first | (go_simp; done) | (go_simp; rfl)); intro gb106 hg w3 hbox hb; have n0_ := Aside0.mk (below_step (oB HB) hb); have n1_ := Aside0.mk (hbox); have n2_ := Aside0.mk ((by rw [hg]; exact (below_size (oB HB)) : w.heap.size ≤ gb106)); have n3_ := Aside0.mk ((by rw [hg]; exact (below_size (oB HB)) : w.heap.size ≤ gb106)); clear HB; have HB := n0_; have BK106 := n1_; have GW106 := n2_; have GE106 := n3_; clear n0_ n1_ n2_ n3_; clear hb hbox hg))
  (try simp only [Act.put, List.setIfInBounds_toArray, List.set_cons_zero, List.set_cons_succ])
  go_cut [24] (fun v24 wc => ∃ (kq : Nat) (x24_1 : Bool), v24 = .bool x24_1 ∧ Aside0 (spec_WorkOk.j0 kq x24_1 l0_0 a0_1 l0_2 = some r) ∧ Aside0 (kq ≤ k) ∧ Aside0 (wc.heap[gb106]? = some (.cells #[(.slice A0_0 l0_0.length c0_0), .int .i64 a0_1, (.slice A0_2 l0_2.length c0_2)] 30 (0, 0))) ∧ Aside0 (Below w.heap.size w wc))
  case first =>
    have H := HC2.out
    clear HC2
    replace H := Option.bind_eq_some_iff.mp H
    obtain ⟨t107, A40, H⟩ := H
    (try dsimp only at H)
    have A4 := Aside0.mk A40
    clear A40
    by_cases c5 : t107 = true
    · subst c5
      rw [if_pos rfl] at H
      replace H := Option.bind_eq_some_iff.mp H
      obtain ⟨t108, A60, H⟩ := H
      (try dsimp only at H)
      have A6 := Aside0.mk A60
      clear A60
      by_cases c7 : t108 = true
      · subst c7
        rw [if_pos rfl] at H
        have H' := Aside0.mk H
        clear H
        have hcz8_0 : w3.cell? ⟨gb106, 0, none⟩ = some (.slice A0_0 l0_0.length c0_0) := (blk_cell BK106.out 0).trans rfl
        have hcz8_1 : w3.cell? ⟨gb106, 1, none⟩ = some (.int .i64 a0_1) := (blk_cell BK106.out 1).trans rfl
        have hcz8_2 : w3.cell? ⟨gb106, 2, none⟩ = some (.slice A0_2 l0_2.length c0_2) := (blk_cell BK106.out 2).trans rfl
        have hfz8_0 := blk_frozen BK106.out 0
        have hfz8_1 := blk_frozen BK106.out 1
        have hfz8_2 := blk_frozen BK106.out 2
        go_wp2_with (first | ((with_reducible refine gate_callee (f := 54) rfl ?_); refine goesL_ (some 8) rfl rfl Try.func54 (by kernel_rfl) rfl #[.slice A0_0 l0_0.length c0_0] rfl (by (try simp only [List.map_toArray, List.map_cons, List.map_nil]); first | done | rfl | (simp only [List.length_drop, List.length_take]; rfl)) ?_; (with_reducible refine (spec_PlanOk.calls _ _ l0_0 true _ ?side1 ?side2 A4.out).mono ?_); (case side1 => exact oc_ HR0_0.out); (case side2 => exact HC0_0.out); rintro e w9 ⟨rfl, hb⟩; refine ⟨_, rfl, ?_⟩; have n0_ := Aside0.mk (blk_below (g := gb106) (o := .cells #[.slice A0_0 l0_0.length c0_0, .int .i64 a0_1, .slice A0_2 l0_2.length c0_2] 30 (0, 0)) (oK BK106) hb); have n1_ := Aside0.mk (below_step (oB HB) hb); clear BK106; clear HB; have BK106 := n0_; have HB := n1_; clear n0_ n1_; (try clear hb); (try clear hb2); (try clear hk); (try clear hi); have hcz10_0 : w9.cell? ⟨gb106, 0, none⟩ = some (.slice A0_0 l0_0.length c0_0) := (blk_cell BK106.out 0).trans rfl; have hcz10_1 : w9.cell? ⟨gb106, 1, none⟩ = some (.int .i64 a0_1) := (blk_cell BK106.out 1).trans rfl; have hcz10_2 : w9.cell? ⟨gb106, 2, none⟩ = some (.slice A0_2 l0_2.length c0_2) := (blk_cell BK106.out 2).trans rfl; have hfz10_0 := blk_frozen BK106.out 0; have hfz10_1 := blk_frozen BK106.out 1; have hfz10_2 := blk_frozen BK106.out 2) | (go_at_call 55; (with_reducible refine (spec_l01In.calls a0_1 0 (l0_0.length : Int) true _ A6.out).mono ?_); rintro e w' ⟨rfl, ⟨nd, rfl⟩⟩))
        go_meet
        case rel => exact ⟨_, (((l0_2.length : Int) != 12)), (by first | rfl | (simp; done) | (simp [*]; done)), H', ⟨by first | omega | exact Nat.le_refl _⟩, ⟨oK BK106⟩, ⟨oB HB⟩⟩
      · replace c7 := Bool.eq_false_iff.mpr c7
        subst c7
        rw [if_neg (show ¬ (false = true) by decide)] at H
        have H' := Aside0.mk H
        clear H
        have hcz11_0 : w3.cell? ⟨gb106, 0, none⟩ = some (.slice A0_0 l0_0.length c0_0) := (blk_cell BK106.out 0).trans rfl
        have hcz11_1 : w3.cell? ⟨gb106, 1, none⟩ = some (.int .i64 a0_1) := (blk_cell BK106.out 1).trans rfl
        have hcz11_2 : w3.cell? ⟨gb106, 2, none⟩ = some (.slice A0_2 l0_2.length c0_2) := (blk_cell BK106.out 2).trans rfl
        have hfz11_0 := blk_frozen BK106.out 0
        have hfz11_1 := blk_frozen BK106.out 1
        have hfz11_2 := blk_frozen BK106.out 2
        go_wp2_with (first | ((with_reducible refine gate_callee (f := 54) rfl ?_); refine goesL_ (some 8) rfl rfl Try.func54 (by kernel_rfl) rfl #[.slice A0_0 l0_0.length c0_0] rfl (by (try simp only [List.map_toArray, List.map_cons, List.map_nil]); first | done | rfl | (simp only [List.length_drop, List.length_take]; rfl)) ?_; (with_reducible refine (spec_PlanOk.calls _ _ l0_0 true _ ?side1 ?side2 A4.out).mono ?_); (case side1 => exact oc_ HR0_0.out); (case side2 => exact HC0_0.out); rintro e w12 ⟨rfl, hb⟩; refine ⟨_, rfl, ?_⟩; have n0_ := Aside0.mk (blk_below (g := gb106) (o := .cells #[.slice A0_0 l0_0.length c0_0, .int .i64 a0_1, .slice A0_2 l0_2.length c0_2] 30 (0, 0)) (oK BK106) hb); have n1_ := Aside0.mk (below_step (oB HB) hb); clear BK106; clear HB; have BK106 := n0_; have HB := n1_; clear n0_ n1_; (try clear hb); (try clear hb2); (try clear hk); (try clear hi); have hcz13_0 : w12.cell? ⟨gb106, 0, none⟩ = some (.slice A0_0 l0_0.length c0_0) := (blk_cell BK106.out 0).trans rfl; have hcz13_1 : w12.cell? ⟨gb106, 1, none⟩ = some (.int .i64 a0_1) := (blk_cell BK106.out 1).trans rfl; have hcz13_2 : w12.cell? ⟨gb106, 2, none⟩ = some (.slice A0_2 l0_2.length c0_2) := (blk_cell BK106.out 2).trans rfl; have hfz13_0 := blk_frozen BK106.out 0; have hfz13_1 := blk_frozen BK106.out 1; have hfz13_2 := blk_frozen BK106.out 2) | (go_at_call 55; (with_reducible refine (spec_l01In.calls a0_1 0 (l0_0.length : Int) false _ A6.out).mono ?_); rintro e w' ⟨rfl, ⟨nd, rfl⟩⟩))
        go_meet
        case rel => exact ⟨_, (true), (by first | rfl | (simp; done) | (simp [*]; done)), H', ⟨by first | omega | exact Nat.le_refl _⟩, ⟨oK BK106⟩, ⟨oB HB⟩⟩
    · replace c5 := Bool.eq_false_iff.mpr c5
      subst c5
      rw [if_neg (show ¬ (false = true) by decide)] at H
      have H' := Aside0.mk H
      clear H
      have hcz14_0 : w3.cell? ⟨gb106, 0, none⟩ = some (.slice A0_0 l0_0.length c0_0) := (blk_cell BK106.out 0).trans rfl
      have hcz14_1 : w3.cell? ⟨gb106, 1, none⟩ = some (.int .i64 a0_1) := (blk_cell BK106.out 1).trans rfl
      have hcz14_2 : w3.cell? ⟨gb106, 2, none⟩ = some (.slice A0_2 l0_2.length c0_2) := (blk_cell BK106.out 2).trans rfl
      have hfz14_0 := blk_frozen BK106.out 0
      have hfz14_1 := blk_frozen BK106.out 1
      have hfz14_2 := blk_frozen BK106.out 2
      go_wp2_with (first | ((with_reducible refine gate_callee (f := 54) rfl ?_); refine goesL_ (some 8) rfl rfl Try.func54 (by kernel_rfl) rfl #[.slice A0_0 l0_0.length c0_0] rfl (by (try simp only [List.map_toArray, List.map_cons, List.map_nil]); first | done | rfl | (simp only [List.length_drop, List.length_take]; rfl)) ?_; (with_reducible refine (spec_PlanOk.calls _ _ l0_0 false _ ?side1 ?side2 A4.out).mono ?_); (case side1 => exact oc_ HR0_0.out); (case side2 => exact HC0_0.out); rintro e w15 ⟨rfl, hb⟩; refine ⟨_, rfl, ?_⟩; have n0_ := Aside0.mk (blk_below (g := gb106) (o := .cells #[.slice A0_0 l0_0.length c0_0, .int .i64 a0_1, .slice A0_2 l0_2.length c0_2] 30 (0, 0)) (oK BK106) hb); have n1_ := Aside0.mk (below_step (oB HB) hb); clear BK106; clear HB; have BK106 := n0_; have HB := n1_; clear n0_ n1_; (try clear hb); (try clear hb2); (try clear hk); (try clear hi)))
      go_meet
      case rel => exact ⟨_, (true), (by first | rfl | (simp; done) | (simp [*]; done)), H', ⟨by first | omega | exact Nat.le_refl _⟩, ⟨oK BK106⟩, ⟨oB HB⟩⟩
  case rest =>
    clear HC2
    try clear c1
    try clear p2
    try clear c5
    try clear c7
    try clear hcz10_0
    try clear hcz10_1
    try clear hcz10_2
    try clear hcz11_0
    try clear hcz11_1
    try clear hcz11_2
    try clear hcz13_0
    try clear hcz13_1
    try clear hcz13_2
    try clear hcz14_0
    try clear hcz14_1
    try clear hcz14_2
    try clear hcz8_0
    try clear hcz8_1
    try clear hcz8_2
    try clear hfz10_0
    try clear hfz10_1
    try clear hfz10_2
    try clear hfz11_0
    try clear hfz11_1
    try clear hfz11_2
    try clear hfz13_0
    try clear hfz13_1
    try clear hfz13_2
    try clear hfz14_0
    try clear hfz14_1
    try clear hfz14_2
    try clear hfz8_0
    try clear hfz8_1
    try clear hfz8_2
    obtain ⟨kq, x24_1, rfl, HA, HJ1, BK106, HB⟩ := hcut
    cases kq with
    | zero => exact absurd HA.out (by simp [spec_WorkOk.j0])
    | succ kj1 =>
      have H := HA.out
      clear HA
      simp only [spec_WorkOk.j0] at H
      by_cases c16 : x24_1 = true
      · subst c16
        rw [if_pos rfl] at H
        obtain rfl := Option.some.inj H
        go_wp2
        go_ret
        exact ⟨by first | rfl | (simp [errW_none, errW_some] <;> rfl) | (simp [*, errW_none, errW_some] <;> rfl), oB HB⟩
      · replace c16 := Bool.eq_false_iff.mpr c16
        subst c16
        rw [if_neg (show ¬ (false = true) by decide)] at H
        have H' := Aside0.mk H
        clear H
        go_wp2
        go_loopg [3] kj1 (fun kq v3 w' => ∃ (x3_2 : Int), v3 = .int .i64 x3_2 ∧ Aside0 (spec_WorkOk.l0 kq x3_2 l0_0 a0_1 l0_2 = some r) ∧ Aside0 (kq ≤ kj1) ∧ Aside0 (w'.heap[gb106]? = some (.cells #[(.slice A0_0 l0_0.length c0_0), .int .i64 a0_1, (.slice A0_2 l0_2.length c0_2)] 30 (0, 0))) ∧ Aside0 (Below w.heap.size w w'))
        case atStart => exact ⟨(0), (by first | rfl | (simp; done) | (simp [*]; done)), H', ⟨Nat.le_refl _⟩, ⟨oK BK106⟩, ⟨oB HB⟩⟩
        case round =>
          clear H'
          try clear c1
          try clear p2
          try clear c5
          try clear c7
          try clear c16
          try clear hcz10_0
          try clear hcz10_1
          try clear hcz10_2
          try clear hcz11_0
          try clear hcz11_1
          try clear hcz11_2
          try clear hcz13_0
          try clear hcz13_1
          try clear hcz13_2
          try clear hcz14_0
          try clear hcz14_1
          try clear hcz14_2
          try clear hcz8_0
          try clear hcz8_1
          try clear hcz8_2
          try clear hfz10_0
          try clear hfz10_1
          try clear hfz10_2
          try clear hfz11_0
          try clear hfz11_1
          try clear hfz11_2
          try clear hfz13_0
          try clear hfz13_1
          try clear hfz13_2
          try clear hfz14_0
          try clear hfz14_1
          try clear hfz14_2
          try clear hfz8_0
          try clear hfz8_1
          try clear hfz8_2
          try clear p2
          obtain ⟨x3_2, rfl, HA, HK2, BK106, HB⟩ := hrel
          cases gk with
          | zero => exact absurd HA.out (by simp [spec_WorkOk.l0])
          | succ k2 =>
            have H := HA.out
            clear HA
            simp only [spec_WorkOk.l0] at H
            by_cases c17 : x3_2 < 12
            · rw [if_pos c17] at H
              have c17b0 : decide (x3_2 < 12) = true := decide_eq_true c17
              clear c17
              replace H := Option.bind_eq_some_iff.mp H
              obtain ⟨t109, A180, H⟩ := H
              (try dsimp only at H)
              have A18 := Aside0.mk A180
              clear A180
              by_cases c19 : x3_2 = 0
              · rw [if_pos c19] at H
                have c19b0 : (x3_2 == 0) = true := beq_iff_eq.mpr c19
                have c19b1 : (x3_2 != 0) = false := bne_eq_false_iff_eq.mpr c19
                clear c19
                by_cases c20 : 0 ≤ x3_2
                · rw [if_pos c20] at H
                  have c20b0 : decide (0 ≤ x3_2) = true := decide_eq_true c20
                  clear c20
                  by_cases c21 : x3_2 < (l0_2.length : Int)
                  · rw [if_pos c21] at H
                    have c21b0 : decide (x3_2 < (l0_2.length : Int)) = true := decide_eq_true c21
                    clear c21
                    replace H := Option.bind_eq_some_iff.mp H
                    obtain ⟨t111, A220, H⟩ := H
                    (try dsimp only at H)
                    have A22 := Aside0.mk A220
                    clear A220
                    by_cases c23 : t111 = true
                    · subst c23
                      rw [if_pos rfl] at H
                      have H' := Aside0.mk H
                      clear H
                      have hcz24_0 : wr.cell? ⟨gb106, 0, none⟩ = some (.slice A0_0 l0_0.length c0_0) := (blk_cell BK106.out 0).trans rfl
                      have hcz24_1 : wr.cell? ⟨gb106, 1, none⟩ = some (.int .i64 a0_1) := (blk_cell BK106.out 1).trans rfl
                      have hcz24_2 : wr.cell? ⟨gb106, 2, none⟩ = some (.slice A0_2 l0_2.length c0_2) := (blk_cell BK106.out 2).trans rfl
                      have hfz24_0 := blk_frozen BK106.out 0
                      have hfz24_1 := blk_frozen BK106.out 1
                      have hfz24_2 := blk_frozen BK106.out 2
                      go_wp2_with (first | ((with_reducible refine gate_callee (f := 56) rfl ?_); refine goesL_ (some 32) rfl rfl Try.func56 (by kernel_rfl) rfl #[.slice A0_0 l0_0.length c0_0, .int .i64 x3_2] rfl (by (try simp only [List.map_toArray, List.map_cons, List.map_nil]); first | done | rfl | (simp only [List.length_drop, List.length_take]; rfl)) ?_; (with_reducible refine (spec_l20Step.calls k2 _ _ l0_0 x3_2 t109 _ ?side1 ?side2 A18.out).mono ?_); (case side1 => exact oc_ HR0_0.out); (case side2 => exact HC0_0.out); rintro e w' ⟨rfl, ⟨nd, rfl⟩⟩; refine ⟨_, rfl, ?_⟩; have p110 : 0 ≤ (x3_2 : Int) := of_decide_eq_true (by first | (with_reducible assumption) | assumption); have q110 : x3_2 < (l0_2.length : Int) := of_decide_eq_true (by first | (with_reducible assumption) | assumption); obtain ⟨ad110, e110, hx110_0⟩ := Kd.at_int HR0_2.out x3_2 p110 q110; cases e110; replace hx110_0 := (HB.out.cell (World.block_lt_of_cell? w _ hx110_0)).trans hx110_0; replace p110 := eq_true p110; replace q110 := eq_true q110) | (go_at_call 57; (with_reducible refine (spec_l18Pitch.calls (rd l0_2 x3_2) true _ A22.out).mono ?_); rintro e w' ⟨rfl, ⟨nd, rfl⟩⟩))
                      go_roundg k2
                      case measure => have := HJ1.out; have := HK2.out; omega
                      case rel => exact ⟨(wrap64 (x3_2 + 1)), (by first | rfl | (simp; done) | (simp [*]; done)), H', ⟨by have := HJ1.out; have := HK2.out; omega⟩, ⟨oK BK106⟩, ⟨oB HB⟩⟩
                    · replace c23 := Bool.eq_false_iff.mpr c23
                      subst c23
                      rw [if_neg (show ¬ (false = true) by decide)] at H
                      obtain rfl := Option.some.inj H
                      have hcz25_0 : wr.cell? ⟨gb106, 0, none⟩ = some (.slice A0_0 l0_0.length c0_0) := (blk_cell BK106.out 0).trans rfl
                      have hcz25_1 : wr.cell? ⟨gb106, 1, none⟩ = some (.int .i64 a0_1) := (blk_cell BK106.out 1).trans rfl
                      have hcz25_2 : wr.cell? ⟨gb106, 2, none⟩ = some (.slice A0_2 l0_2.length c0_2) := (blk_cell BK106.out 2).trans rfl
                      have hfz25_0 := blk_frozen BK106.out 0
                      have hfz25_1 := blk_frozen BK106.out 1
                      have hfz25_2 := blk_frozen BK106.out 2
                      go_wp2_with (first | ((with_reducible refine gate_callee (f := 56) rfl ?_); refine goesL_ (some 32) rfl rfl Try.func56 (by kernel_rfl) rfl #[.slice A0_0 l0_0.length c0_0, .int .i64 x3_2] rfl (by (try simp only [List.map_toArray, List.map_cons, List.map_nil]); first | done | rfl | (simp only [List.length_drop, List.length_take]; rfl)) ?_; (with_reducible refine (spec_l20Step.calls k2 _ _ l0_0 x3_2 t109 _ ?side1 ?side2 A18.out).mono ?_); (case side1 => exact oc_ HR0_0.out); (case side2 => exact HC0_0.out); rintro e w' ⟨rfl, ⟨nd, rfl⟩⟩; refine ⟨_, rfl, ?_⟩; have p110 : 0 ≤ (x3_2 : Int) := of_decide_eq_true (by first | (with_reducible assumption) | assumption); have q110 : x3_2 < (l0_2.length : Int) := of_decide_eq_true (by first | (with_reducible assumption) | assumption); obtain ⟨ad110, e110, hx110_0⟩ := Kd.at_int HR0_2.out x3_2 p110 q110; cases e110; replace hx110_0 := (HB.out.cell (World.block_lt_of_cell? w _ hx110_0)).trans hx110_0; replace p110 := eq_true p110; replace q110 := eq_true q110) | (go_at_call 57; (with_reducible refine (spec_l18Pitch.calls (rd l0_2 x3_2) false _ A22.out).mono ?_); rintro e w' ⟨rfl, ⟨nd, rfl⟩⟩))
                      go_ret
                      exact ⟨by first | rfl | (simp [errW_none, errW_some] <;> rfl) | (simp [*, errW_none, errW_some] <;> rfl), oB HB⟩
                  · rw [if_neg c21] at H
                    exact absurd H (by simp)
                · rw [if_neg c20] at H
                  exact absurd H (by simp)
              · rw [if_neg c19] at H
                have c19b0 : (x3_2 == 0) = false := beq_eq_false_iff_ne.mpr c19
                have c19b1 : (x3_2 != 0) = true := bne_iff_ne.mpr c19
                by_cases c26 : t109 ≥ 0
                · rw [if_pos c26] at H
                  have c26b0 : decide (0 ≤ t109) = true := decide_eq_true c26
                  clear c26
                  by_cases c27 : t109 < a0_1
                  · rw [if_pos c27] at H
                    have c27b0 : decide (t109 < a0_1) = true := decide_eq_true c27
                    clear c27
                    by_cases c28 : 0 ≤ x3_2
                    · rw [if_pos c28] at H
                      have c28b0 : decide (0 ≤ x3_2) = true := decide_eq_true c28
                      clear c28
                      by_cases c29 : x3_2 < (l0_2.length : Int)
                      · rw [if_pos c29] at H
                        have c29b0 : decide (x3_2 < (l0_2.length : Int)) = true := decide_eq_true c29
                        clear c29
                        replace H := Option.bind_eq_some_iff.mp H
                        obtain ⟨t113, A300, H⟩ := H
                        (try dsimp only at H)
                        have A30 := Aside0.mk A300
                        clear A300
                        by_cases c31 : t113 = true
                        · subst c31
                          rw [if_pos rfl] at H
                          have H' := Aside0.mk H
                          clear H
                          have hcz32_0 : wr.cell? ⟨gb106, 0, none⟩ = some (.slice A0_0 l0_0.length c0_0) := (blk_cell BK106.out 0).trans rfl
                          have hcz32_1 : wr.cell? ⟨gb106, 1, none⟩ = some (.int .i64 a0_1) := (blk_cell BK106.out 1).trans rfl
                          have hcz32_2 : wr.cell? ⟨gb106, 2, none⟩ = some (.slice A0_2 l0_2.length c0_2) := (blk_cell BK106.out 2).trans rfl
                          have hfz32_0 := blk_frozen BK106.out 0
                          have hfz32_1 := blk_frozen BK106.out 1
                          have hfz32_2 := blk_frozen BK106.out 2
                          go_wp2_with (first | ((with_reducible refine gate_callee (f := 56) rfl ?_); refine goesL_ (some 32) rfl rfl Try.func56 (by kernel_rfl) rfl #[.slice A0_0 l0_0.length c0_0, .int .i64 x3_2] rfl (by (try simp only [List.map_toArray, List.map_cons, List.map_nil]); first | done | rfl | (simp only [List.length_drop, List.length_take]; rfl)) ?_; (with_reducible refine (spec_l20Step.calls k2 _ _ l0_0 x3_2 t109 _ ?side1 ?side2 A18.out).mono ?_); (case side1 => exact oc_ HR0_0.out); (case side2 => exact HC0_0.out); rintro e w' ⟨rfl, ⟨nd, rfl⟩⟩; refine ⟨_, rfl, ?_⟩; have p112 : 0 ≤ (x3_2 : Int) := of_decide_eq_true (by first | (with_reducible assumption) | assumption); have q112 : x3_2 < (l0_2.length : Int) := of_decide_eq_true (by first | (with_reducible assumption) | assumption); obtain ⟨ad112, e112, hx112_0⟩ := Kd.at_int HR0_2.out x3_2 p112 q112; cases e112; replace hx112_0 := (HB.out.cell (World.block_lt_of_cell? w _ hx112_0)).trans hx112_0; replace p112 := eq_true p112; replace q112 := eq_true q112) | (go_at_call 57; (with_reducible refine (spec_l18Pitch.calls (rd l0_2 x3_2) true _ A30.out).mono ?_); rintro e w' ⟨rfl, ⟨nd, rfl⟩⟩))
                          go_roundg k2
                          case measure => have := HJ1.out; have := HK2.out; omega
                          case rel => exact ⟨(wrap64 (x3_2 + 1)), (by first | rfl | (simp; done) | (simp [*]; done)), H', ⟨by have := HJ1.out; have := HK2.out; omega⟩, ⟨oK BK106⟩, ⟨oB HB⟩⟩
                        · replace c31 := Bool.eq_false_iff.mpr c31
                          subst c31
                          rw [if_neg (show ¬ (false = true) by decide)] at H
                          obtain rfl := Option.some.inj H
                          have hcz33_0 : wr.cell? ⟨gb106, 0, none⟩ = some (.slice A0_0 l0_0.length c0_0) := (blk_cell BK106.out 0).trans rfl
                          have hcz33_1 : wr.cell? ⟨gb106, 1, none⟩ = some (.int .i64 a0_1) := (blk_cell BK106.out 1).trans rfl
                          have hcz33_2 : wr.cell? ⟨gb106, 2, none⟩ = some (.slice A0_2 l0_2.length c0_2) := (blk_cell BK106.out 2).trans rfl
                          have hfz33_0 := blk_frozen BK106.out 0
                          have hfz33_1 := blk_frozen BK106.out 1
                          have hfz33_2 := blk_frozen BK106.out 2
                          go_wp2_with (first | ((with_reducible refine gate_callee (f := 56) rfl ?_); refine goesL_ (some 32) rfl rfl Try.func56 (by kernel_rfl) rfl #[.slice A0_0 l0_0.length c0_0, .int .i64 x3_2] rfl (by (try simp only [List.map_toArray, List.map_cons, List.map_nil]); first | done | rfl | (simp only [List.length_drop, List.length_take]; rfl)) ?_; (with_reducible refine (spec_l20Step.calls k2 _ _ l0_0 x3_2 t109 _ ?side1 ?side2 A18.out).mono ?_); (case side1 => exact oc_ HR0_0.out); (case side2 => exact HC0_0.out); rintro e w' ⟨rfl, ⟨nd, rfl⟩⟩; refine ⟨_, rfl, ?_⟩; have p112 : 0 ≤ (x3_2 : Int) := of_decide_eq_true (by first | (with_reducible assumption) | assumption); have q112 : x3_2 < (l0_2.length : Int) := of_decide_eq_true (by first | (with_reducible assumption) | assumption); obtain ⟨ad112, e112, hx112_0⟩ := Kd.at_int HR0_2.out x3_2 p112 q112; cases e112; replace hx112_0 := (HB.out.cell (World.block_lt_of_cell? w _ hx112_0)).trans hx112_0; replace p112 := eq_true p112; replace q112 := eq_true q112) | (go_at_call 57; (with_reducible refine (spec_l18Pitch.calls (rd l0_2 x3_2) false _ A30.out).mono ?_); rintro e w' ⟨rfl, ⟨nd, rfl⟩⟩))
                          go_ret
                          exact ⟨by first | rfl | (simp [errW_none, errW_some] <;> rfl) | (simp [*, errW_none, errW_some] <;> rfl), oB HB⟩
                      · rw [if_neg c29] at H
                        exact absurd H (by simp)
                    · rw [if_neg c28] at H
                      exact absurd H (by simp)
                  · rw [if_neg c27] at H
                    have c27b0 : decide (t109 < a0_1) = false := decide_eq_false c27
                    clear c27
                    by_cases c34 : 0 ≤ x3_2
                    · rw [if_pos c34] at H
                      have c34b0 : decide (0 ≤ x3_2) = true := decide_eq_true c34
                      clear c34
                      by_cases c35 : x3_2 < (l0_2.length : Int)
                      · rw [if_pos c35] at H
                        have c35b0 : decide (x3_2 < (l0_2.length : Int)) = true := decide_eq_true c35
                        clear c35
                        by_cases c36 : (rd l0_2 x3_2) = 0
                        · rw [if_pos c36] at H
                          have c36b0 : ((rd l0_2 x3_2) == 0) = true := beq_iff_eq.mpr c36
                          have c36b1 : ((rd l0_2 x3_2) != 0) = false := bne_eq_false_iff_eq.mpr c36
                          clear c36
                          have H' := Aside0.mk H
                          clear H
                          have hcz37_0 : wr.cell? ⟨gb106, 0, none⟩ = some (.slice A0_0 l0_0.length c0_0) := (blk_cell BK106.out 0).trans rfl
                          have hcz37_1 : wr.cell? ⟨gb106, 1, none⟩ = some (.int .i64 a0_1) := (blk_cell BK106.out 1).trans rfl
                          have hcz37_2 : wr.cell? ⟨gb106, 2, none⟩ = some (.slice A0_2 l0_2.length c0_2) := (blk_cell BK106.out 2).trans rfl
                          have hfz37_0 := blk_frozen BK106.out 0
                          have hfz37_1 := blk_frozen BK106.out 1
                          have hfz37_2 := blk_frozen BK106.out 2
                          go_wp2_with (first | ((with_reducible refine gate_callee (f := 56) rfl ?_); refine goesL_ (some 32) rfl rfl Try.func56 (by kernel_rfl) rfl #[.slice A0_0 l0_0.length c0_0, .int .i64 x3_2] rfl (by (try simp only [List.map_toArray, List.map_cons, List.map_nil]); first | done | rfl | (simp only [List.length_drop, List.length_take]; rfl)) ?_; (with_reducible refine (spec_l20Step.calls k2 _ _ l0_0 x3_2 t109 _ ?side1 ?side2 A18.out).mono ?_); (case side1 => exact oc_ HR0_0.out); (case side2 => exact HC0_0.out); rintro e w' ⟨rfl, ⟨nd, rfl⟩⟩; refine ⟨_, rfl, ?_⟩; have p114 : 0 ≤ (x3_2 : Int) := of_decide_eq_true (by first | (with_reducible assumption) | assumption); have q114 : x3_2 < (l0_2.length : Int) := of_decide_eq_true (by first | (with_reducible assumption) | assumption); obtain ⟨ad114, e114, hx114_0⟩ := Kd.at_int HR0_2.out x3_2 p114 q114; cases e114; replace hx114_0 := (HB.out.cell (World.block_lt_of_cell? w _ hx114_0)).trans hx114_0; replace p114 := eq_true p114; replace q114 := eq_true q114))
                          go_roundg k2
                          case measure => have := HJ1.out; have := HK2.out; omega
                          case rel => exact ⟨(wrap64 (x3_2 + 1)), (by first | rfl | (simp; done) | (simp [*]; done)), H', ⟨by have := HJ1.out; have := HK2.out; omega⟩, ⟨oK BK106⟩, ⟨oB HB⟩⟩
                        · rw [if_neg c36] at H
                          have c36b0 : ((rd l0_2 x3_2) == 0) = false := beq_eq_false_iff_ne.mpr c36
                          have c36b1 : ((rd l0_2 x3_2) != 0) = true := bne_iff_ne.mpr c36
                          obtain rfl := Option.some.inj H
                          have hcz38_0 : wr.cell? ⟨gb106, 0, none⟩ = some (.slice A0_0 l0_0.length c0_0) := (blk_cell BK106.out 0).trans rfl
                          have hcz38_1 : wr.cell? ⟨gb106, 1, none⟩ = some (.int .i64 a0_1) := (blk_cell BK106.out 1).trans rfl
                          have hcz38_2 : wr.cell? ⟨gb106, 2, none⟩ = some (.slice A0_2 l0_2.length c0_2) := (blk_cell BK106.out 2).trans rfl
                          have hfz38_0 := blk_frozen BK106.out 0
                          have hfz38_1 := blk_frozen BK106.out 1
                          have hfz38_2 := blk_frozen BK106.out 2
                          go_wp2_with (first | ((with_reducible refine gate_callee (f := 56) rfl ?_); refine goesL_ (some 32) rfl rfl Try.func56 (by kernel_rfl) rfl #[.slice A0_0 l0_0.length c0_0, .int .i64 x3_2] rfl (by (try simp only [List.map_toArray, List.map_cons, List.map_nil]); first | done | rfl | (simp only [List.length_drop, List.length_take]; rfl)) ?_; (with_reducible refine (spec_l20Step.calls k2 _ _ l0_0 x3_2 t109 _ ?side1 ?side2 A18.out).mono ?_); (case side1 => exact oc_ HR0_0.out); (case side2 => exact HC0_0.out); rintro e w' ⟨rfl, ⟨nd, rfl⟩⟩; refine ⟨_, rfl, ?_⟩; have p114 : 0 ≤ (x3_2 : Int) := of_decide_eq_true (by first | (with_reducible assumption) | assumption); have q114 : x3_2 < (l0_2.length : Int) := of_decide_eq_true (by first | (with_reducible assumption) | assumption); obtain ⟨ad114, e114, hx114_0⟩ := Kd.at_int HR0_2.out x3_2 p114 q114; cases e114; replace hx114_0 := (HB.out.cell (World.block_lt_of_cell? w _ hx114_0)).trans hx114_0; replace p114 := eq_true p114; replace q114 := eq_true q114))
                          go_ret
                          exact ⟨by first | rfl | (simp [errW_none, errW_some] <;> rfl) | (simp [*, errW_none, errW_some] <;> rfl), oB HB⟩
                      · rw [if_neg c35] at H
                        exact absurd H (by simp)
                    · rw [if_neg c34] at H
                      exact absurd H (by simp)
                · rw [if_neg c26] at H
                  have c26b0 : decide (0 ≤ t109) = false := decide_eq_false c26
                  clear c26
                  by_cases c39 : 0 ≤ x3_2
                  · rw [if_pos c39] at H
                    have c39b0 : decide (0 ≤ x3_2) = true := decide_eq_true c39
                    clear c39
                    by_cases c40 : x3_2 < (l0_2.length : Int)
                    · rw [if_pos c40] at H
                      have c40b0 : decide (x3_2 < (l0_2.length : Int)) = true := decide_eq_true c40
                      clear c40
                      by_cases c41 : (rd l0_2 x3_2) = 0
                      · rw [if_pos c41] at H
                        have c41b0 : ((rd l0_2 x3_2) == 0) = true := beq_iff_eq.mpr c41
                        have c41b1 : ((rd l0_2 x3_2) != 0) = false := bne_eq_false_iff_eq.mpr c41
                        clear c41
                        have H' := Aside0.mk H
                        clear H
                        have hcz42_0 : wr.cell? ⟨gb106, 0, none⟩ = some (.slice A0_0 l0_0.length c0_0) := (blk_cell BK106.out 0).trans rfl
                        have hcz42_1 : wr.cell? ⟨gb106, 1, none⟩ = some (.int .i64 a0_1) := (blk_cell BK106.out 1).trans rfl
                        have hcz42_2 : wr.cell? ⟨gb106, 2, none⟩ = some (.slice A0_2 l0_2.length c0_2) := (blk_cell BK106.out 2).trans rfl
                        have hfz42_0 := blk_frozen BK106.out 0
                        have hfz42_1 := blk_frozen BK106.out 1
                        have hfz42_2 := blk_frozen BK106.out 2
                        go_wp2_with (first | ((with_reducible refine gate_callee (f := 56) rfl ?_); refine goesL_ (some 32) rfl rfl Try.func56 (by kernel_rfl) rfl #[.slice A0_0 l0_0.length c0_0, .int .i64 x3_2] rfl (by (try simp only [List.map_toArray, List.map_cons, List.map_nil]); first | done | rfl | (simp only [List.length_drop, List.length_take]; rfl)) ?_; (with_reducible refine (spec_l20Step.calls k2 _ _ l0_0 x3_2 t109 _ ?side1 ?side2 A18.out).mono ?_); (case side1 => exact oc_ HR0_0.out); (case side2 => exact HC0_0.out); rintro e w' ⟨rfl, ⟨nd, rfl⟩⟩; refine ⟨_, rfl, ?_⟩; have p115 : 0 ≤ (x3_2 : Int) := of_decide_eq_true (by first | (with_reducible assumption) | assumption); have q115 : x3_2 < (l0_2.length : Int) := of_decide_eq_true (by first | (with_reducible assumption) | assumption); obtain ⟨ad115, e115, hx115_0⟩ := Kd.at_int HR0_2.out x3_2 p115 q115; cases e115; replace hx115_0 := (HB.out.cell (World.block_lt_of_cell? w _ hx115_0)).trans hx115_0; replace p115 := eq_true p115; replace q115 := eq_true q115))
                        go_roundg k2
                        case measure => have := HJ1.out; have := HK2.out; omega
                        case rel => exact ⟨(wrap64 (x3_2 + 1)), (by first | rfl | (simp; done) | (simp [*]; done)), H', ⟨by have := HJ1.out; have := HK2.out; omega⟩, ⟨oK BK106⟩, ⟨oB HB⟩⟩
                      · rw [if_neg c41] at H
                        have c41b0 : ((rd l0_2 x3_2) == 0) = false := beq_eq_false_iff_ne.mpr c41
                        have c41b1 : ((rd l0_2 x3_2) != 0) = true := bne_iff_ne.mpr c41
                        obtain rfl := Option.some.inj H
                        have hcz43_0 : wr.cell? ⟨gb106, 0, none⟩ = some (.slice A0_0 l0_0.length c0_0) := (blk_cell BK106.out 0).trans rfl
                        have hcz43_1 : wr.cell? ⟨gb106, 1, none⟩ = some (.int .i64 a0_1) := (blk_cell BK106.out 1).trans rfl
                        have hcz43_2 : wr.cell? ⟨gb106, 2, none⟩ = some (.slice A0_2 l0_2.length c0_2) := (blk_cell BK106.out 2).trans rfl
                        have hfz43_0 := blk_frozen BK106.out 0
                        have hfz43_1 := blk_frozen BK106.out 1
                        have hfz43_2 := blk_frozen BK106.out 2
                        go_wp2_with (first | ((with_reducible refine gate_callee (f := 56) rfl ?_); refine goesL_ (some 32) rfl rfl Try.func56 (by kernel_rfl) rfl #[.slice A0_0 l0_0.length c0_0, .int .i64 x3_2] rfl (by (try simp only [List.map_toArray, List.map_cons, List.map_nil]); first | done | rfl | (simp only [List.length_drop, List.length_take]; rfl)) ?_; (with_reducible refine (spec_l20Step.calls k2 _ _ l0_0 x3_2 t109 _ ?side1 ?side2 A18.out).mono ?_); (case side1 => exact oc_ HR0_0.out); (case side2 => exact HC0_0.out); rintro e w' ⟨rfl, ⟨nd, rfl⟩⟩; refine ⟨_, rfl, ?_⟩; have p115 : 0 ≤ (x3_2 : Int) := of_decide_eq_true (by first | (with_reducible assumption) | assumption); have q115 : x3_2 < (l0_2.length : Int) := of_decide_eq_true (by first | (with_reducible assumption) | assumption); obtain ⟨ad115, e115, hx115_0⟩ := Kd.at_int HR0_2.out x3_2 p115 q115; cases e115; replace hx115_0 := (HB.out.cell (World.block_lt_of_cell? w _ hx115_0)).trans hx115_0; replace p115 := eq_true p115; replace q115 := eq_true q115))
                        go_ret
                        exact ⟨by first | rfl | (simp [errW_none, errW_some] <;> rfl) | (simp [*, errW_none, errW_some] <;> rfl), oB HB⟩
                    · rw [if_neg c40] at H
                      exact absurd H (by simp)
                  · rw [if_neg c39] at H
                    exact absurd H (by simp)
            · rw [if_neg c17] at H
              have c17b0 : decide (x3_2 < 12) = false := decide_eq_false c17
              clear c17
              obtain rfl := Option.some.inj H
              go_wp2
              go_ret
              exact ⟨by first | rfl | (simp [errW_none, errW_some] <;> rfl) | (simp [*, errW_none, errW_some] <;> rfl), oB HB⟩
end Go.Proofs.Ytlhlmjklajdejaa.P


namespace Go.Proofs.Ytlhlmjklajdejaa.P
open Go.RowKit Go.Proofs.YtlhlmjklajdejaaW.PrintWords Go.Proofs.YtlhlmjklajdejaaW.PrintLast Go.Proofs.YtlhlmjklajdejaaW.PrintMore
attribute [local go_sem] max2_int min2_int max_two min_two max_three min_three max_four min_four
set_option linter.unusedVariables false
set_option linter.unusedSimpArgs false
def spec_WrongSteps.l0 : Nat → List Int → Int → List (S67) → Int → List Int → Option (List Int)
  | 0, _, _, _, _, _ => none
  | k + 1, x3, x4, x560000, x560001, x560002 => if x4 < x560001 then (if 0 ≤ x4 then (if x4 < (x560000.length : Int) then (if 0 ≤ ((rd_T67 x560000 x4).f1) then (if ((rd_T67 x560000 x4).f1) < (x560002.length : Int) then (if 0 ≤ ((rd_T67 x560000 x4).f0) then (if ((rd_T67 x560000 x4).f0) < (x560002.length : Int) then ((spec_TunedPitch.f k (rd x560002 ((rd_T67 x560000 x4).f0)) ((rd_T67 x560000 x4).f2) ((rd_T67 x560000 x4).f3)).bind fun t568 => (if (rd x560002 ((rd_T67 x560000 x4).f1)) = t568 then (spec_WrongSteps.l0 k x3 (wrap64 (x4 + 1)) x560000 x560001 x560002) else (if x3.length < 17592186044416 then (spec_WrongSteps.l0 k (x3 ++ [x4]) (wrap64 (x4 + 1)) x560000 x560001 x560002) else (none)))) else (none)) else (none)) else (none)) else (none)) else (none)) else (none)) else (some x3)
def spec_WrongSteps.f (k : Nat) (l0_0 : List (S67)) (a0_1 : Int) (l0_2 : List Int) : Option (List Int) := (some (([] : List Int) : List Int)).bind fun y560 => ((spec_WorkOk.f k l0_0 a0_1 l0_2).bind fun t563 => (if t563 = true then (spec_WrongSteps.l0 k y560 0 l0_0 a0_1 l0_2) else (some y560)))
def spec_WrongSteps.T8 : Bool × List (List Nat × List Nat) := (true, [([], []), ([0], [0]), ([], []), ([2], [2]), ([1, 3], [1, 3]), ([4], [4]), ([], []), ([6], [6]), ([], []), ([8], [8]), ([7, 9], [7, 9]), ([10], [10]), ([], []), ([12], [12]), ([], []), ([14], [14]), ([11, 13, 15], [11, 13, 15]), ([5, 16], [5, 16])])
def spec_WrongSteps.B8 : List Nat := [0, 1, 0, 4, 15, 31, 0, 64, 0, 256, 960, 1984, 0, 4096, 0, 16384, 65472, 131071]
theorem spec_WrongSteps.tab8 : rtab .any (opsOf Try.f34 8) = spec_WrongSteps.T8 := by kernel_rfl
theorem spec_WrongSteps.bits8 : waitsOk spec_WrongSteps.T8.2 spec_WrongSteps.B8 = true := by kernel_rfl
set_option maxHeartbeats 8000000 in
set_option maxRecDepth 100000 in
theorem spec_WrongSteps.calls (k : Nat) (A0_0 : Option Addr) (c0_0 : Nat) (l0_0 : List (S67)) (a0_1 : Int) (A0_2 : Option Addr) (c0_2 : Nat) (l0_2 : List Int) (r : List Int) (w : World) (hr0_0 : Kd.C k67 w A0_0 l0_0.length l0_0) (hc0_0 : l0_0.length ≤ c0_0) (hr0_2 : Kd.C (Kd.int .i64) w A0_2 l0_2.length l0_2) (hc0_2 : l0_2.length ≤ c0_2) (h : spec_WrongSteps.f k l0_0 a0_1 l0_2 = some r) :
    Calls Try.prog 34 #[.agg #[.slice A0_0 l0_0.length c0_0, .int .i64 a0_1, .slice A0_2 l0_2.length c0_2]] w fun e w' => ∃ v0_ : Value, e = .returned (v0_) ∧ Kd.R (Kd.int .i64) 3 w' w.heap.size (fun _ => True) v0_ r ∧ Below w.heap.size w w' := by
  have hu30 := Try.underlying30
  have hu67 := Try.underlying67
  have HR0_0 := Aside0.mk hr0_0
  have HC0_0 := Aside0.mk hc0_0
  clear hr0_0 hc0_0
  have HR0_2 := Aside0.mk hr0_2
  have HC0_2 := Aside0.mk hc0_2
  clear hr0_2 hc0_2
  have HB := Aside0.mk (Below.refl w.heap.size w)
  have H : ((some (([] : List Int) : List Int)).bind fun y560 => ((spec_WorkOk.f k l0_0 a0_1 l0_2).bind fun t563 => (if t563 = true then (spec_WrongSteps.l0 k y560 0 l0_0 a0_1 l0_2) else (some y560)))) = some r := h
  clear h
  obtain ⟨y560, hy560⟩ : ∃ y_ : List Int, y_ = (([] : List Int)) := ⟨_, rfl⟩
  replace H : ((spec_WorkOk.f k l0_0 a0_1 l0_2).bind fun t563 => (if t563 = true then (spec_WrongSteps.l0 k y560 0 l0_0 a0_1 l0_2) else (some y560))) = some r := by first | (rw [hy560]; with_reducible exact H) | (have H2_ := (Option.bind_some _ _).symm.trans H; rw [hy560]; with_reducible exact H2_) | (have H2_ := (Option.bind_some _ _).symm.trans H; with_reducible exact H2_) | with_reducible exact H | (rw [hy560]; exact H) | exact H
  have Ny560 := Aside0.mk hy560
  clear hy560
  replace H := Option.bind_eq_some_iff.mp H
  obtain ⟨t563, A20, H⟩ := H
  (try dsimp only at H)
  have A2 := Aside0.mk A20
  clear A20
  by_cases c3 : t563 = true
  · subst c3
    rw [if_pos rfl] at H
    have H' := Aside0.mk H
    clear H
    go_enter Try.func34, Try.ntmps34
    go_wp2_with (first | ((with_reducible refine gate_dst (N := 1) rfl ?_); refine box_event ?hg (N := 1) ?hd (cs := #[.slice A0_0 l0_0.length c0_0, .int .i64 a0_1, .slice A0_2 l0_2.length c0_2]) (t := 30) ?hr ?_; (case hd => rfl); (case hg => rfl); (case hr => first | (go_simp; done) | (go_simp; rfl)); intro gb559 hg w4 hbox hb; have n0_ := Aside0.mk (below_step (oB HB) hb); have n1_ := Aside0.mk (hbox); have n2_ := Aside0.mk ((by rw [hg]; exact (below_size (oB HB)) : w.heap.size ≤ gb559)); have n3_ := Aside0.mk ((by rw [hg]; exact (below_size (oB HB)) : w.heap.size ≤ gb559)); clear HB; have HB := n0_; have BK559 := n1_; have GW559 := n2_; have GE559 := n3_; clear n0_ n1_ n2_ n3_; clear hb hbox hg) | ((with_reducible refine gate_dst (N := 6) rfl ?_); refine Kd.R_lit (Kd.int .i64) _ 3 ?hg (N := 6) ?hd (xs := ([] : List Int)) (inner := []) (ok := fun _ => True) (okp := fun _ => True) ?hr ?hp (fun _ hk => hk) trivial (Below.refl _ _) (Nat.le_refl _) (by simp) ?_; (case hd => rfl); (case hg => rfl); (case hr => first | (go_simp; done) | (go_simp; rfl)); (case hp => exact (Reps.none _ _)); intro v561 w5 ho6 hb hg_ hnew_; clear hg_ hnew_; (first | rw [← Ny560.out] at ho6 | (simp only [Int.reduceToNat] at ho6; rw [← Ny560.out] at ho6)); have n0_ := Aside0.mk (Kd.R_lower ho6 (below_size (oB HB))); have n1_ := Aside0.mk (blk_below (g := gb559) (o := .cells #[.slice A0_0 l0_0.length c0_0, .int .i64 a0_1, .slice A0_2 l0_2.length c0_2] 30 (0, 0)) (oK BK559) hb); have n2_ := Aside0.mk (below_step (oB HB) hb); clear BK559; clear HB; have HO562 := n0_; have BK559 := n1_; have HB := n2_; clear n0_ n1_ n2_; clear hb ho6; have hcz7_0 : w5.cell? ⟨gb559, 0, none⟩ = some (.slice A0_0 l0_0.length c0_0) := (blk_cell BK559.out 0).trans rfl; have hcz7_1 : w5.cell? ⟨gb559, 1, none⟩ = some (.int .i64 a0_1) := (blk_cell BK559.out 1).trans rfl; have hcz7_2 : w5.cell? ⟨gb559, 2, none⟩ = some (.slice A0_2 l0_2.length c0_2) := (blk_cell BK559.out 2).trans rfl; have hfz7_0 := blk_frozen BK559.out 0; have hfz7_1 := blk_frozen BK559.out 1; have hfz7_2 := blk_frozen BK559.out 2) | ((with_reducible refine gate_callee (f := 16) rfl ?_); refine goesL_ (some 8) rfl rfl Try.func16 (by kernel_rfl) rfl #[.agg #[.slice A0_0 l0_0.length c0_0, .int .i64 a0_1, .slice A0_2 l0_2.length c0_2]] rfl (by (try simp only [List.map_toArray, List.map_cons, List.map_nil]); first | done | rfl | (simp only [List.length_drop, List.length_take]; rfl)) ?_; (with_reducible refine (spec_WorkOk.calls k _ _ l0_0 a0_1 _ _ l0_2 true _ ?side1 ?side2 ?side3 ?side4 A2.out).mono ?_); (case side1 => exact oc_ HR0_0.out); (case side2 => exact HC0_0.out); (case side3 => exact oc_ HR0_2.out); (case side4 => exact HC0_2.out); rintro e w8 ⟨rfl, hb⟩; refine ⟨_, rfl, ?_⟩; have n0_ := Aside0.mk (Kd.R_below (oR HO562) hb); have n1_ := Aside0.mk (blk_below (g := gb559) (o := .cells #[.slice A0_0 l0_0.length c0_0, .int .i64 a0_1, .slice A0_2 l0_2.length c0_2] 30 (0, 0)) (oK BK559) hb); have n2_ := Aside0.mk (below_step (oB HB) hb); clear HO562; clear BK559; clear HB; have HO562 := n0_; have BK559 := n1_; have HB := n2_; clear n0_ n1_ n2_; (try clear hb); (try clear hb2); (try clear hk); (try clear hi)))
    go_loopg [3, 4] k (fun kq v3 v4 w' => ∃ (x3_1 : List Int) (x4_1 : Int), v4 = .int .i64 x4_1 ∧ Aside0 (spec_WrongSteps.l0 kq x3_1 x4_1 l0_0 a0_1 l0_2 = some r) ∧ Aside0 (kq ≤ k) ∧ Aside0 (Kd.R (Kd.int .i64) 3 w' w.heap.size (fun _ => True) v3 x3_1) ∧ Aside0 (w'.heap[gb559]? = some (.cells #[(.slice A0_0 l0_0.length c0_0), .int .i64 a0_1, (.slice A0_2 l0_2.length c0_2)] 30 (0, 0))) ∧ Aside0 (Below w.heap.size w w'))
    case atStart => exact ⟨(y560), (0), (by first | rfl | (simp; done) | (simp [*]; done)), H', ⟨Nat.le_refl _⟩, ⟨oR HO562⟩, ⟨oK BK559⟩, ⟨oB HB⟩⟩
    case round =>
      clear H'
      try clear c1
      try clear p2
      try clear c3
      try clear hcz7_0
      try clear hcz7_1
      try clear hcz7_2
      try clear hfz7_0
      try clear hfz7_1
      try clear hfz7_2
      obtain ⟨x3_1, x4_1, rfl, HA, HK1, HO_3, BK559, HB⟩ := hrel
      cases gk with
      | zero => exact absurd HA.out (by simp [spec_WrongSteps.l0])
      | succ k1 =>
        have H := HA.out
        clear HA
        simp only [spec_WrongSteps.l0] at H
        by_cases c9 : x4_1 < a0_1
        · rw [if_pos c9] at H
          have c9b0 : decide (x4_1 < a0_1) = true := decide_eq_true c9
          clear c9
          by_cases c10 : 0 ≤ x4_1
          · rw [if_pos c10] at H
            have c10b0 : decide (0 ≤ x4_1) = true := decide_eq_true c10
            clear c10
            by_cases c11 : x4_1 < (l0_0.length : Int)
            · rw [if_pos c11] at H
              have c11b0 : decide (x4_1 < (l0_0.length : Int)) = true := decide_eq_true c11
              clear c11
              by_cases c12 : 0 ≤ ((rd_T67 l0_0 x4_1).f1)
              · rw [if_pos c12] at H
                have c12b0 : decide (0 ≤ ((rd_T67 l0_0 x4_1).f1)) = true := decide_eq_true c12
                clear c12
                by_cases c13 : ((rd_T67 l0_0 x4_1).f1) < (l0_2.length : Int)
                · rw [if_pos c13] at H
                  have c13b0 : decide (((rd_T67 l0_0 x4_1).f1) < (l0_2.length : Int)) = true := decide_eq_true c13
                  clear c13
                  by_cases c14 : 0 ≤ ((rd_T67 l0_0 x4_1).f0)
                  · rw [if_pos c14] at H
                    have c14b0 : decide (0 ≤ ((rd_T67 l0_0 x4_1).f0)) = true := decide_eq_true c14
                    clear c14
                    by_cases c15 : ((rd_T67 l0_0 x4_1).f0) < (l0_2.length : Int)
                    · rw [if_pos c15] at H
                      have c15b0 : decide (((rd_T67 l0_0 x4_1).f0) < (l0_2.length : Int)) = true := decide_eq_true c15
                      clear c15
                      replace H := Option.bind_eq_some_iff.mp H
                      obtain ⟨t568, A160, H⟩ := H
                      (try dsimp only at H)
                      have A16 := Aside0.mk A160
                      clear A160
                      by_cases c17 : (rd l0_2 ((rd_T67 l0_0 x4_1).f1)) = t568
                      · rw [if_pos c17] at H
                        have c17b0 : ((rd l0_2 ((rd_T67 l0_0 x4_1).f1)) == t568) = true := beq_iff_eq.mpr c17
                        have c17b1 : ((rd l0_2 ((rd_T67 l0_0 x4_1).f1)) != t568) = false := bne_eq_false_iff_eq.mpr c17
                        clear c17
                        have H' := Aside0.mk H
                        clear H
                        have hcz18_0 : wr.cell? ⟨gb559, 0, none⟩ = some (.slice A0_0 l0_0.length c0_0) := (blk_cell BK559.out 0).trans rfl
                        have hcz18_1 : wr.cell? ⟨gb559, 1, none⟩ = some (.int .i64 a0_1) := (blk_cell BK559.out 1).trans rfl
                        have hcz18_2 : wr.cell? ⟨gb559, 2, none⟩ = some (.slice A0_2 l0_2.length c0_2) := (blk_cell BK559.out 2).trans rfl
                        have hfz18_0 := blk_frozen BK559.out 0
                        have hfz18_1 := blk_frozen BK559.out 1
                        have hfz18_2 := blk_frozen BK559.out 2
                        have p564 : 0 ≤ (x4_1 : Int) := of_decide_eq_true (by first | (with_reducible assumption) | assumption)
                        have q564 : x4_1 < (l0_0.length : Int) := of_decide_eq_true (by first | (with_reducible assumption) | assumption)
                        obtain ⟨ad564, e564, hx564_0, hx564_1, hx564_2, hx564_3⟩ := at_T67 HR0_0.out x4_1 p564 q564
                        cases e564
                        replace hx564_0 := (HB.out.cell (World.block_lt_of_cell? w _ hx564_0)).trans hx564_0
                        replace hx564_1 := (HB.out.cell (World.block_lt_of_cell? w _ hx564_1)).trans hx564_1
                        replace hx564_2 := (HB.out.cell (World.block_lt_of_cell? w _ hx564_2)).trans hx564_2
                        replace hx564_3 := (HB.out.cell (World.block_lt_of_cell? w _ hx564_3)).trans hx564_3
                        replace p564 := eq_true p564
                        replace q564 := eq_true q564
                        try go_wp2_with (first | ((with_reducible refine gate_dst (N := 5) rfl ?_); refine box_event ?hg (N := 5) ?hd (cs := #[.int .i64 0, .int .i64 0, .int .i64 0, .int .i64 0]) (t := 67) ?hr ?_; (case hd => rfl); (case hg => rfl); (case hr => first | (go_simp; done) | (go_simp; rfl)); intro gb565 hg w19 hbox hb; have n0_ := Aside0.mk (Kd.R_below (oR HO_3) hb); have n1_ := Aside0.mk (blk_below (g := gb559) (o := .cells #[.slice (some ad564) l0_0.length c0_0, .int .i64 a0_1, .slice A0_2 l0_2.length c0_2] 30 (0, 0)) (oK BK559) hb); have n2_ := Aside0.mk (below_step (oB HB) hb); have n3_ := Aside0.mk (hbox); have n4_ := Aside0.mk ((by rw [hg]; exact (below_size (oB HB)) : w.heap.size ≤ gb565)); have n5_ := Aside0.mk ((by rw [hg]; exact (below_size (oB HB)) : w.heap.size ≤ gb565)); have n6_ := Aside0.mk ((by rw [hg]; exact Nat.ne_of_lt (blk_lt (g := gb559) (o := .cells #[.slice (some ad564) l0_0.length c0_0, .int .i64 a0_1, .slice A0_2 l0_2.length c0_2] 30 (0, 0)) (oK BK559)) : gb559 ≠ gb565)); have n7_ := Aside0.mk ((by rw [hg]; exact Nat.ne_of_gt (blk_lt (g := gb559) (o := .cells #[.slice (some ad564) l0_0.length c0_0, .int .i64 a0_1, .slice A0_2 l0_2.length c0_2] 30 (0, 0)) (oK BK559)) : gb565 ≠ gb559)); clear HO_3; clear BK559; clear HB; have HO_3 := n0_; have BK559 := n1_; have HB := n2_; have BK565 := n3_; have GW565 := n4_; have GE565 := n5_; have NB559_565 := n6_; have NB565_559 := n7_; clear n0_ n1_ n2_ n3_ n4_ n5_ n6_ n7_; clear hb hbox hg; have hnb20 := NB565_559.out; have hnc20 := NB559_565.out; have hcz21_0 : w19.cell? ⟨gb565, 0, none⟩ = some (.int .i64 0) := (blk_cell BK565.out 0).trans rfl; have hcz21_1 : w19.cell? ⟨gb565, 1, none⟩ = some (.int .i64 0) := (blk_cell BK565.out 1).trans rfl; have hcz21_2 : w19.cell? ⟨gb565, 2, none⟩ = some (.int .i64 0) := (blk_cell BK565.out 2).trans rfl; have hcz21_3 : w19.cell? ⟨gb565, 3, none⟩ = some (.int .i64 0) := (blk_cell BK565.out 3).trans rfl; have hfz21_0 := blk_frozen BK565.out 0; have hfz21_1 := blk_frozen BK565.out 1; have hfz21_2 := blk_frozen BK565.out 2; have hfz21_3 := blk_frozen BK565.out 3))
                        have n0_ : Aside0 (Kd.R (Kd.int .i64) 3 ((((w19.setCell ⟨gb565, 0, none⟩ (.int .i64 ((rd_T67 l0_0 x4_1).f0))).setCell ⟨gb565, 1, none⟩ (.int .i64 ((rd_T67 l0_0 x4_1).f1))).setCell ⟨gb565, 2, none⟩ (.int .i64 ((rd_T67 l0_0 x4_1).f2))).setCell ⟨gb565, 3, none⟩ (.int .i64 ((rd_T67 l0_0 x4_1).f3))) w.heap.size (fun _ => True) u3 x3_1) := ⟨by (with_reducible repeat (first | apply Kd.R_alloc | apply Kd.R_drewN | apply Kd.R_drew)); exact Kd.R_mono (Kd.R_far (p := ⟨gb565, 3, none⟩) (Kd.R_far (p := ⟨gb565, 2, none⟩) (Kd.R_far (p := ⟨gb565, 1, none⟩) (Kd.R_far (p := ⟨gb565, 0, none⟩) (Kd.R_types HO_3.out BK565.out (by decide)) (fun _ hk => hk.2) (.int .i64 ((rd_T67 l0_0 x4_1).f0))) (fun _ hk => hk.2) (.int .i64 ((rd_T67 l0_0 x4_1).f1))) (fun _ hk => hk.2) (.int .i64 ((rd_T67 l0_0 x4_1).f2))) (fun _ hk => hk.2) (.int .i64 ((rd_T67 l0_0 x4_1).f3))) (fun _ hk => trivial)⟩
                        have n1_ : Aside0 (((((w19.setCell ⟨gb565, 0, none⟩ (.int .i64 ((rd_T67 l0_0 x4_1).f0))).setCell ⟨gb565, 1, none⟩ (.int .i64 ((rd_T67 l0_0 x4_1).f1))).setCell ⟨gb565, 2, none⟩ (.int .i64 ((rd_T67 l0_0 x4_1).f2))).setCell ⟨gb565, 3, none⟩ (.int .i64 ((rd_T67 l0_0 x4_1).f3))).heap[gb559]? = some (.cells #[.slice (some ad564) l0_0.length c0_0, .int .i64 a0_1, .slice A0_2 l0_2.length c0_2] 30 (0, 0))) := ⟨by (with_reducible repeat (first | refine blk_drewN ?_ _ | refine blk_drew ?_ | refine blk_alloc ?_ _)); refine blk_far ?_ NB559_565.out _; (with_reducible repeat (first | refine blk_drewN ?_ _ | refine blk_drew ?_ | refine blk_alloc ?_ _)); refine blk_far ?_ NB559_565.out _; (with_reducible repeat (first | refine blk_drewN ?_ _ | refine blk_drew ?_ | refine blk_alloc ?_ _)); refine blk_far ?_ NB559_565.out _; (with_reducible repeat (first | refine blk_drewN ?_ _ | refine blk_drew ?_ | refine blk_alloc ?_ _)); refine blk_far ?_ NB559_565.out _; (with_reducible repeat (first | refine blk_drewN ?_ _ | refine blk_drew ?_ | refine blk_alloc ?_ _)); exact BK559.out⟩
                        have n2_ : Aside0 (((((w19.setCell ⟨gb565, 0, none⟩ (.int .i64 ((rd_T67 l0_0 x4_1).f0))).setCell ⟨gb565, 1, none⟩ (.int .i64 ((rd_T67 l0_0 x4_1).f1))).setCell ⟨gb565, 2, none⟩ (.int .i64 ((rd_T67 l0_0 x4_1).f2))).setCell ⟨gb565, 3, none⟩ (.int .i64 ((rd_T67 l0_0 x4_1).f3))).heap[gb565]? = some (.cells #[.int .i64 ((rd_T67 l0_0 x4_1).f0), .int .i64 ((rd_T67 l0_0 x4_1).f1), .int .i64 ((rd_T67 l0_0 x4_1).f2), .int .i64 ((rd_T67 l0_0 x4_1).f3)] 67 (0, 0))) := ⟨by (with_reducible repeat (first | refine blk_drewN ?_ _ | refine blk_drew ?_ | refine blk_alloc ?_ _)); refine blk_put (cs := #[.int .i64 ((rd_T67 l0_0 x4_1).f0), .int .i64 ((rd_T67 l0_0 x4_1).f1), .int .i64 ((rd_T67 l0_0 x4_1).f2), .int .i64 0]) ?_ 3 _ rfl; (with_reducible repeat (first | refine blk_drewN ?_ _ | refine blk_drew ?_ | refine blk_alloc ?_ _)); refine blk_put (cs := #[.int .i64 ((rd_T67 l0_0 x4_1).f0), .int .i64 ((rd_T67 l0_0 x4_1).f1), .int .i64 0, .int .i64 0]) ?_ 2 _ rfl; (with_reducible repeat (first | refine blk_drewN ?_ _ | refine blk_drew ?_ | refine blk_alloc ?_ _)); refine blk_put (cs := #[.int .i64 ((rd_T67 l0_0 x4_1).f0), .int .i64 0, .int .i64 0, .int .i64 0]) ?_ 1 _ rfl; (with_reducible repeat (first | refine blk_drewN ?_ _ | refine blk_drew ?_ | refine blk_alloc ?_ _)); refine blk_put (cs := #[.int .i64 0, .int .i64 0, .int .i64 0, .int .i64 0]) ?_ 0 _ rfl; (with_reducible repeat (first | refine blk_drewN ?_ _ | refine blk_drew ?_ | refine blk_alloc ?_ _)); exact BK565.out⟩
                        have n3_ : Aside0 (Below w.heap.size w ((((w19.setCell ⟨gb565, 0, none⟩ (.int .i64 ((rd_T67 l0_0 x4_1).f0))).setCell ⟨gb565, 1, none⟩ (.int .i64 ((rd_T67 l0_0 x4_1).f1))).setCell ⟨gb565, 2, none⟩ (.int .i64 ((rd_T67 l0_0 x4_1).f2))).setCell ⟨gb565, 3, none⟩ (.int .i64 ((rd_T67 l0_0 x4_1).f3)))) := ⟨oB HB⟩
                        (try clear HO_3)
                        (try clear BK559)
                        (try clear BK565)
                        (try clear HB)
                        generalize ((((w19.setCell ⟨gb565, 0, none⟩ (.int .i64 ((rd_T67 l0_0 x4_1).f0))).setCell ⟨gb565, 1, none⟩ (.int .i64 ((rd_T67 l0_0 x4_1).f1))).setCell ⟨gb565, 2, none⟩ (.int .i64 ((rd_T67 l0_0 x4_1).f2))).setCell ⟨gb565, 3, none⟩ (.int .i64 ((rd_T67 l0_0 x4_1).f3))) = w22 at n0_ n1_ n2_ n3_ ⊢
                        have HO_3 := n0_
                        have BK559 := n1_
                        have BK565 := n2_
                        have HB := n3_
                        clear n0_ n1_ n2_ n3_
                        have n0_ := Aside0.mk (Kd.R_drew HO_3.out)
                        have n1_ := Aside0.mk (blk_drew BK559.out)
                        have n2_ := Aside0.mk (blk_drew BK565.out)
                        have n3_ := Aside0.mk (below_drew1 HB.out)
                        clear HO_3
                        clear BK559
                        clear BK565
                        clear HB
                        have HO_3 := n0_
                        have BK559 := n1_
                        have BK565 := n2_
                        have HB := n3_
                        clear n0_ n1_ n2_ n3_
                        have p566 : 0 ≤ (((rd_T67 l0_0 x4_1).f1) : Int) := of_decide_eq_true (by first | (with_reducible assumption) | assumption)
                        have q566 : ((rd_T67 l0_0 x4_1).f1) < (l0_2.length : Int) := of_decide_eq_true (by first | (with_reducible assumption) | assumption)
                        obtain ⟨ad566, e566, hx566_0⟩ := Kd.at_int HR0_2.out ((rd_T67 l0_0 x4_1).f1) p566 q566
                        have hw566_0 := hx566_0
                        cases e566
                        replace hx566_0 := (HB.out.cell (World.block_lt_of_cell? w _ hx566_0)).trans hx566_0
                        replace p566 := eq_true p566
                        replace q566 := eq_true q566
                        have p567 : 0 ≤ (((rd_T67 l0_0 x4_1).f0) : Int) := of_decide_eq_true (by first | (with_reducible assumption) | assumption)
                        have q567 : ((rd_T67 l0_0 x4_1).f0) < (l0_2.length : Int) := of_decide_eq_true (by first | (with_reducible assumption) | assumption)
                        obtain ⟨ad567, e567, hx567_0⟩ := Kd.at_int HR0_2.out ((rd_T67 l0_0 x4_1).f0) p567 q567
                        have hw567_0 := hx567_0
                        obtain rfl : ad566 = ad567 := (by injection e567)
                        replace hx567_0 := (HB.out.cell (World.block_lt_of_cell? w _ hx567_0)).trans hx567_0
                        replace p567 := eq_true p567
                        replace q567 := eq_true q567
                        refine start_ (n := 18) (S := fun w' => w'.cell? ⟨gb559, 0, none⟩ = some (.slice (some ad564) l0_0.length c0_0) ∧ w'.cell? ⟨gb559, 1, none⟩ = some (.int .i64 a0_1) ∧ w'.cell? ⟨gb559, 2, none⟩ = some (.slice (some ad566) l0_2.length c0_2) ∧ w'.cell? ⟨gb565, 0, none⟩ = some (.int .i64 ((rd_T67 l0_0 x4_1).f0)) ∧ w'.cell? ⟨gb565, 1, none⟩ = some (.int .i64 ((rd_T67 l0_0 x4_1).f1)) ∧ w'.cell? ⟨gb565, 2, none⟩ = some (.int .i64 ((rd_T67 l0_0 x4_1).f2)) ∧ w'.cell? ⟨gb565, 3, none⟩ = some (.int .i64 ((rd_T67 l0_0 x4_1).f3)) ∧ w'.cell? (ad566.add (((rd_T67 l0_0 x4_1).f1)).toNat) = some (.int .i64 (rd l0_2 ((rd_T67 l0_0 x4_1).f1))) ∧ w'.cell? (ad566.add (((rd_T67 l0_0 x4_1).f0)).toNat) = some (.int .i64 (rd l0_2 ((rd_T67 l0_0 x4_1).f0)))) (ds := []) #[false, false, false, false, false, false, false, false, false, false, false, false, false, false, false, false, false, false] (by kernel_rfl) rfl rfl ⟨(blk_cell BK559.out 0).trans rfl, (blk_cell BK559.out 1).trans rfl, (blk_cell BK559.out 2).trans rfl, (blk_cell BK565.out 0).trans rfl, (blk_cell BK565.out 1).trans rfl, (blk_cell BK565.out 2).trans rfl, (blk_cell BK565.out 3).trans rfl, ((HB.out.cell (World.block_lt_of_cell? w _ hw566_0)).trans hw566_0), ((HB.out.cell (World.block_lt_of_cell? w _ hw567_0)).trans hw567_0)⟩ (fun hHeld => ?_); refine with_tabW spec_WrongSteps.tab8 spec_WrongSteps.bits8 (fun HT_ HW_ => ?_)
                        generalize w22.drew = w23 at HO_3 BK559 BK565 HB hx566_0 hx567_0 hHeld ⊢
                        refine pure_ (i := 0) (N := some 22) (v := ?_) (a' := ?_) #[true, false, false, false, false, false, false, false, false, false, false, false, false, false, false, false, false, false] rfl rfl (any_of HT_.out (by kernel_rfl)) (fun _ _ _ h => h) (Or.inl ⟨by rfl, ?_⟩) ?_ ?_
                        rotate_left
                        · intro w'
                          go_simp
                          with_reducible rfl
                        rotate_left
                        · simp only [Act.put, List.setIfInBounds_toArray, List.set_cons_zero, List.set_cons_succ, i64_w, i32_w]
                          rfl
                        refine pure_ (i := 2) (N := some 24) (v := ?_) (a' := ?_) #[true, false, true, false, false, false, false, false, false, false, false, false, false, false, false, false, false, false] rfl rfl (any_of HT_.out (by kernel_rfl)) (fun _ _ _ h => h) (Or.inl ⟨by rfl, ?_⟩) ?_ ?_
                        rotate_left
                        · intro w'
                          go_simp
                          with_reducible rfl
                        rotate_left
                        · simp only [Act.put, List.setIfInBounds_toArray, List.set_cons_zero, List.set_cons_succ, i64_w, i32_w]
                          rfl
                        refine pure_ (i := 6) (N := some 28) (v := ?_) (a' := ?_) #[true, false, true, false, false, false, true, false, false, false, false, false, false, false, false, false, false, false] rfl rfl (any_of HT_.out (by kernel_rfl)) (fun _ _ _ h => h) (Or.inl ⟨by rfl, ?_⟩) ?_ ?_
                        rotate_left
                        · intro w'
                          go_simp
                          with_reducible rfl
                        rotate_left
                        · simp only [Act.put, List.setIfInBounds_toArray, List.set_cons_zero, List.set_cons_succ, i64_w, i32_w]
                          rfl
                        refine pure_ (i := 8) (N := some 30) (v := ?_) (a' := ?_) #[true, false, true, false, false, false, true, false, true, false, false, false, false, false, false, false, false, false] rfl rfl (any_of HT_.out (by kernel_rfl)) (fun _ _ _ h => h) (Or.inl ⟨by rfl, ?_⟩) ?_ ?_
                        rotate_left
                        · intro w'
                          go_simp
                          with_reducible rfl
                        rotate_left
                        · simp only [Act.put, List.setIfInBounds_toArray, List.set_cons_zero, List.set_cons_succ, i64_w, i32_w]
                          rfl
                        refine pure_ (i := 12) (N := some 34) (v := ?_) (a' := ?_) #[true, false, true, false, false, false, true, false, true, false, false, false, true, false, false, false, false, false] rfl rfl (any_of HT_.out (by kernel_rfl)) (fun _ _ _ h => h) (Or.inl ⟨by rfl, ?_⟩) ?_ ?_
                        rotate_left
                        · intro w'
                          go_simp
                          with_reducible rfl
                        rotate_left
                        · simp only [Act.put, List.setIfInBounds_toArray, List.set_cons_zero, List.set_cons_succ, i64_w, i32_w]
                          rfl
                        refine pure_ (i := 14) (N := some 36) (v := ?_) (a' := ?_) #[true, false, true, false, false, false, true, false, true, false, false, false, true, false, true, false, false, false] rfl rfl (any_of HT_.out (by kernel_rfl)) (fun _ _ _ h => h) (Or.inl ⟨by rfl, ?_⟩) ?_ ?_
                        rotate_left
                        · intro w'
                          go_simp
                          with_reducible rfl
                        rotate_left
                        · simp only [Act.put, List.setIfInBounds_toArray, List.set_cons_zero, List.set_cons_succ, i64_w, i32_w]
                          rfl
                        refine take_ (i := 1) (N := some 23) (v := ?_) (a' := ?_) #[true, true, true, false, false, false, true, false, true, false, false, false, true, false, true, false, false, false] rfl rfl (take_ofW HT_.out HW_.out (by kernel_rfl)) (fun _ _ _ h => h) (Or.inl ⟨by rfl, ?_⟩) hHeld ?_ ?_
                        rotate_left
                        · rintro w' ⟨s0, s1, s2, s3, s4, s5, s6, s7, s8⟩
                          go_simp
                          with_reducible rfl
                        rotate_left
                        · simp only [Act.put, List.setIfInBounds_toArray, List.set_cons_zero, List.set_cons_succ, i64_w, i32_w]
                          rfl
                        refine take_ (i := 3) (N := some 25) (v := ?_) (a' := ?_) #[true, true, true, true, false, false, true, false, true, false, false, false, true, false, true, false, false, false] rfl rfl (take_ofW HT_.out HW_.out (by kernel_rfl)) (fun _ _ _ h => h) (Or.inl ⟨by rfl, ?_⟩) hHeld ?_ ?_
                        rotate_left
                        · rintro w' ⟨s0, s1, s2, s3, s4, s5, s6, s7, s8⟩
                          go_simp
                          with_reducible rfl
                        rotate_left
                        · simp only [Act.put, List.setIfInBounds_toArray, List.set_cons_zero, List.set_cons_succ, i64_w, i32_w]
                          rfl
                        refine pure_ (i := 4) (N := some 26) (v := ?_) (a' := ?_) #[true, true, true, true, true, false, true, false, true, false, false, false, true, false, true, false, false, false] rfl rfl (any_of HT_.out (by kernel_rfl)) (fun _ _ _ h => h) (Or.inl ⟨by rfl, ?_⟩) ?_ ?_
                        rotate_left
                        · intro w'
                          go_simp
                          with_reducible rfl
                        rotate_left
                        · simp only [Act.put, List.setIfInBounds_toArray, List.set_cons_zero, List.set_cons_succ, i64_w, i32_w]
                          rfl
                        refine take_ (i := 5) (N := some 27) (v := ?_) (a' := ?_) #[true, true, true, true, true, true, true, false, true, false, false, false, true, false, true, false, false, false] rfl rfl (take_ofW HT_.out HW_.out (by kernel_rfl)) (fun _ _ _ h => h) (Or.inl ⟨by rfl, ?_⟩) hHeld ?_ ?_
                        rotate_left
                        · rintro w' ⟨s0, s1, s2, s3, s4, s5, s6, s7, s8⟩
                          go_simp
                          with_reducible rfl
                        rotate_left
                        · simp only [Act.put, List.setIfInBounds_toArray, List.set_cons_zero, List.set_cons_succ, i64_w, i32_w]
                          rfl
                        refine take_ (i := 7) (N := some 29) (v := ?_) (a' := ?_) #[true, true, true, true, true, true, true, true, true, false, false, false, true, false, true, false, false, false] rfl rfl (take_ofW HT_.out HW_.out (by kernel_rfl)) (fun _ _ _ h => h) (Or.inl ⟨by rfl, ?_⟩) hHeld ?_ ?_
                        rotate_left
                        · rintro w' ⟨s0, s1, s2, s3, s4, s5, s6, s7, s8⟩
                          go_simp
                          with_reducible rfl
                        rotate_left
                        · simp only [Act.put, List.setIfInBounds_toArray, List.set_cons_zero, List.set_cons_succ, i64_w, i32_w]
                          rfl
                        refine take_ (i := 9) (N := some 31) (v := ?_) (a' := ?_) #[true, true, true, true, true, true, true, true, true, true, false, false, true, false, true, false, false, false] rfl rfl (take_ofW HT_.out HW_.out (by kernel_rfl)) (fun _ _ _ h => h) (Or.inl ⟨by rfl, ?_⟩) hHeld ?_ ?_
                        rotate_left
                        · rintro w' ⟨s0, s1, s2, s3, s4, s5, s6, s7, s8⟩
                          go_simp
                          with_reducible rfl
                        rotate_left
                        · simp only [Act.put, List.setIfInBounds_toArray, List.set_cons_zero, List.set_cons_succ, i64_w, i32_w]
                          rfl
                        refine pure_ (i := 10) (N := some 32) (v := ?_) (a' := ?_) #[true, true, true, true, true, true, true, true, true, true, true, false, true, false, true, false, false, false] rfl rfl (any_of HT_.out (by kernel_rfl)) (fun _ _ _ h => h) (Or.inl ⟨by rfl, ?_⟩) ?_ ?_
                        rotate_left
                        · intro w'
                          go_simp
                          with_reducible rfl
                        rotate_left
                        · simp only [Act.put, List.setIfInBounds_toArray, List.set_cons_zero, List.set_cons_succ, i64_w, i32_w]
                          rfl
                        refine take_ (i := 11) (N := some 33) (v := ?_) (a' := ?_) #[true, true, true, true, true, true, true, true, true, true, true, true, true, false, true, false, false, false] rfl rfl (take_ofW HT_.out HW_.out (by kernel_rfl)) (fun _ _ _ h => h) (Or.inl ⟨by rfl, ?_⟩) hHeld ?_ ?_
                        rotate_left
                        · rintro w' ⟨s0, s1, s2, s3, s4, s5, s6, s7, s8⟩
                          go_simp
                          with_reducible rfl
                        rotate_left
                        · simp only [Act.put, List.setIfInBounds_toArray, List.set_cons_zero, List.set_cons_succ, i64_w, i32_w]
                          rfl
                        refine take_ (i := 13) (N := some 35) (v := ?_) (a' := ?_) #[true, true, true, true, true, true, true, true, true, true, true, true, true, true, true, false, false, false] rfl rfl (take_ofW HT_.out HW_.out (by kernel_rfl)) (fun _ _ _ h => h) (Or.inl ⟨by rfl, ?_⟩) hHeld ?_ ?_
                        rotate_left
                        · rintro w' ⟨s0, s1, s2, s3, s4, s5, s6, s7, s8⟩
                          go_simp
                          with_reducible rfl
                        rotate_left
                        · simp only [Act.put, List.setIfInBounds_toArray, List.set_cons_zero, List.set_cons_succ, i64_w, i32_w]
                          rfl
                        refine take_ (i := 15) (N := some 37) (v := ?_) (a' := ?_) #[true, true, true, true, true, true, true, true, true, true, true, true, true, true, true, true, false, false] rfl rfl (take_ofW HT_.out HW_.out (by kernel_rfl)) (fun _ _ _ h => h) (Or.inl ⟨by rfl, ?_⟩) hHeld ?_ ?_
                        rotate_left
                        · rintro w' ⟨s0, s1, s2, s3, s4, s5, s6, s7, s8⟩
                          go_simp
                          with_reducible rfl
                        rotate_left
                        · simp only [Act.put, List.setIfInBounds_toArray, List.set_cons_zero, List.set_cons_succ, i64_w, i32_w]
                          rfl
                        refine one_ (i := 16) (N := some 38) #[true, true, true, true, true, true, true, true, true, true, true, true, true, true, true, true, true, false] rfl rfl (one_of HT_.out (by kernel_rfl)) (by decide) (fun K hK => ?_)
                        refine goes_ Try.func72 (by kernel_rfl) rfl #[.int .i64 (rd l0_2 ((rd_T67 l0_0 x4_1).f0)), .int .i64 ((rd_T67 l0_0 x4_1).f2), .int .i64 ((rd_T67 l0_0 x4_1).f3)] (by rfl) rfl rfl (by (try simp only [List.map_toArray, List.map_cons, List.map_nil]); first | done | rfl | (simp only [List.length_drop, List.length_take]; rfl)) ?_
                        with_reducible refine (spec_TunedPitch.calls k1 (rd l0_2 ((rd_T67 l0_0 x4_1).f0)) ((rd_T67 l0_0 x4_1).f2) ((rd_T67 l0_0 x4_1).f3) t568 _ A16.out).mono ?_
                        rintro e w24 ⟨rfl, hb⟩
                        refine ⟨_, rfl, ?_⟩
                        have n0_ := Aside0.mk (Kd.R_below (oR HO_3) hb)
                        have n1_ := Aside0.mk (blk_below (g := gb559) (o := .cells #[.slice (some ad564) l0_0.length c0_0, .int .i64 a0_1, .slice (some ad566) l0_2.length c0_2] 30 (0, 0)) (oK BK559) hb)
                        have n2_ := Aside0.mk (blk_below (g := gb565) (o := .cells #[.int .i64 ((rd_T67 l0_0 x4_1).f0), .int .i64 ((rd_T67 l0_0 x4_1).f1), .int .i64 ((rd_T67 l0_0 x4_1).f2), .int .i64 ((rd_T67 l0_0 x4_1).f3)] 67 (0, 0)) (oK BK565) hb)
                        have n3_ := Aside0.mk (below_step (oB HB) hb)
                        clear HO_3
                        clear BK559
                        clear BK565
                        clear HB
                        have HO_3 := n0_
                        have BK559 := n1_
                        have BK565 := n2_
                        have HB := n3_
                        clear n0_ n1_ n2_ n3_
                        (try clear hb)
                        (try clear hb2)
                        (try clear hk)
                        (try clear hi)
                        refine hK.out _ _ ⟨(blk_cell BK559.out 0).trans rfl, (blk_cell BK559.out 1).trans rfl, (blk_cell BK559.out 2).trans rfl, (blk_cell BK565.out 0).trans rfl, (blk_cell BK565.out 1).trans rfl, (blk_cell BK565.out 2).trans rfl, (blk_cell BK565.out 3).trans rfl, ((HB.out.cell (World.block_lt_of_cell? w _ hw566_0)).trans hw566_0), ((HB.out.cell (World.block_lt_of_cell? w _ hw567_0)).trans hw567_0)⟩ (fun hHeld => ?_)
                        clear hK K
                        refine norm_ (a' := ?_) ?_ ?_
                        rotate_left
                        · show Act.put _ (some 38) _ = _
                          simp only [Act.put, List.setIfInBounds_toArray, List.set_cons_zero, List.set_cons_succ, i64_w, i32_w]
                          rfl
                        refine pure_ (i := 17) (N := some 39) (v := ?_) (a' := ?_) #[true, true, true, true, true, true, true, true, true, true, true, true, true, true, true, true, true, true] rfl rfl (any_of HT_.out (by kernel_rfl)) (fun _ _ _ h => h) (Or.inl ⟨by rfl, ?_⟩) ?_ ?_
                        rotate_left
                        · intro w'
                          go_simp
                          with_reducible rfl
                        rotate_left
                        · simp only [Act.put, List.setIfInBounds_toArray, List.set_cons_zero, List.set_cons_succ, i64_w, i32_w]
                          rfl
                        refine done_ (done_of HT_.out (by kernel_rfl)) ?_
                        try go_wp2
                        go_roundg k1
                        case measure => have := HK1.out; omega
                        case rel => exact ⟨(x3_1), (wrap64 (x4_1 + 1)), (by first | rfl | (simp; done) | (simp [*]; done)), H', ⟨by have := HK1.out; omega⟩, ⟨oR HO_3⟩, ⟨oK BK559⟩, ⟨oB HB⟩⟩
                      · rw [if_neg c17] at H
                        have c17b0 : ((rd l0_2 ((rd_T67 l0_0 x4_1).f1)) == t568) = false := beq_eq_false_iff_ne.mpr c17
                        have c17b1 : ((rd l0_2 ((rd_T67 l0_0 x4_1).f1)) != t568) = true := bne_iff_ne.mpr c17
                        by_cases c25 : x3_1.length < 17592186044416
                        · rw [if_pos c25] at H
                          have LMc25 := Aside0.mk c25
                          clear c25
                          obtain ⟨y569, hy569⟩ : ∃ y_ : List Int, y_ = (x3_1 ++ [x4_1]) := ⟨_, rfl⟩
                          replace H : (spec_WrongSteps.l0 k1 y569 (wrap64 (x4_1 + 1)) l0_0 a0_1 l0_2) = some r := by first | (rw [hy569]; with_reducible exact H) | (have H2_ := (Option.bind_some _ _).symm.trans H; rw [hy569]; with_reducible exact H2_) | (have H2_ := (Option.bind_some _ _).symm.trans H; with_reducible exact H2_) | with_reducible exact H | (rw [hy569]; exact H) | exact H
                          have Ny569 := Aside0.mk hy569
                          clear hy569
                          have H' := Aside0.mk H
                          clear H
                          have hcz26_0 : wr.cell? ⟨gb559, 0, none⟩ = some (.slice A0_0 l0_0.length c0_0) := (blk_cell BK559.out 0).trans rfl
                          have hcz26_1 : wr.cell? ⟨gb559, 1, none⟩ = some (.int .i64 a0_1) := (blk_cell BK559.out 1).trans rfl
                          have hcz26_2 : wr.cell? ⟨gb559, 2, none⟩ = some (.slice A0_2 l0_2.length c0_2) := (blk_cell BK559.out 2).trans rfl
                          have hfz26_0 := blk_frozen BK559.out 0
                          have hfz26_1 := blk_frozen BK559.out 1
                          have hfz26_2 := blk_frozen BK559.out 2
                          have p564 : 0 ≤ (x4_1 : Int) := of_decide_eq_true (by first | (with_reducible assumption) | assumption)
                          have q564 : x4_1 < (l0_0.length : Int) := of_decide_eq_true (by first | (with_reducible assumption) | assumption)
                          obtain ⟨ad564, e564, hx564_0, hx564_1, hx564_2, hx564_3⟩ := at_T67 HR0_0.out x4_1 p564 q564
                          cases e564
                          replace hx564_0 := (HB.out.cell (World.block_lt_of_cell? w _ hx564_0)).trans hx564_0
                          replace hx564_1 := (HB.out.cell (World.block_lt_of_cell? w _ hx564_1)).trans hx564_1
                          replace hx564_2 := (HB.out.cell (World.block_lt_of_cell? w _ hx564_2)).trans hx564_2
                          replace hx564_3 := (HB.out.cell (World.block_lt_of_cell? w _ hx564_3)).trans hx564_3
                          replace p564 := eq_true p564
                          replace q564 := eq_true q564
                          try go_wp2_with (first | ((with_reducible refine gate_dst (N := 5) rfl ?_); refine box_event ?hg (N := 5) ?hd (cs := #[.int .i64 0, .int .i64 0, .int .i64 0, .int .i64 0]) (t := 67) ?hr ?_; (case hd => rfl); (case hg => rfl); (case hr => first | (go_simp; done) | (go_simp; rfl)); intro gb565 hg w27 hbox hb; have n0_ := Aside0.mk (Kd.R_below (oR HO_3) hb); have n1_ := Aside0.mk (blk_below (g := gb559) (o := .cells #[.slice (some ad564) l0_0.length c0_0, .int .i64 a0_1, .slice A0_2 l0_2.length c0_2] 30 (0, 0)) (oK BK559) hb); have n2_ := Aside0.mk (below_step (oB HB) hb); have n3_ := Aside0.mk (hbox); have n4_ := Aside0.mk ((by rw [hg]; exact (below_size (oB HB)) : w.heap.size ≤ gb565)); have n5_ := Aside0.mk ((by rw [hg]; exact (below_size (oB HB)) : w.heap.size ≤ gb565)); have n6_ := Aside0.mk ((by rw [hg]; exact Nat.ne_of_lt (blk_lt (g := gb559) (o := .cells #[.slice (some ad564) l0_0.length c0_0, .int .i64 a0_1, .slice A0_2 l0_2.length c0_2] 30 (0, 0)) (oK BK559)) : gb559 ≠ gb565)); have n7_ := Aside0.mk ((by rw [hg]; exact Nat.ne_of_gt (blk_lt (g := gb559) (o := .cells #[.slice (some ad564) l0_0.length c0_0, .int .i64 a0_1, .slice A0_2 l0_2.length c0_2] 30 (0, 0)) (oK BK559)) : gb565 ≠ gb559)); clear HO_3; clear BK559; clear HB; have HO_3 := n0_; have BK559 := n1_; have HB := n2_; have BK565 := n3_; have GW565 := n4_; have GE565 := n5_; have NB559_565 := n6_; have NB565_559 := n7_; clear n0_ n1_ n2_ n3_ n4_ n5_ n6_ n7_; clear hb hbox hg; have hnb28 := NB565_559.out; have hnc28 := NB559_565.out; have hcz29_0 : w27.cell? ⟨gb565, 0, none⟩ = some (.int .i64 0) := (blk_cell BK565.out 0).trans rfl; have hcz29_1 : w27.cell? ⟨gb565, 1, none⟩ = some (.int .i64 0) := (blk_cell BK565.out 1).trans rfl; have hcz29_2 : w27.cell? ⟨gb565, 2, none⟩ = some (.int .i64 0) := (blk_cell BK565.out 2).trans rfl; have hcz29_3 : w27.cell? ⟨gb565, 3, none⟩ = some (.int .i64 0) := (blk_cell BK565.out 3).trans rfl; have hfz29_0 := blk_frozen BK565.out 0; have hfz29_1 := blk_frozen BK565.out 1; have hfz29_2 := blk_frozen BK565.out 2; have hfz29_3 := blk_frozen BK565.out 3))
                          have n0_ : Aside0 (Kd.R (Kd.int .i64) 3 ((((w27.setCell ⟨gb565, 0, none⟩ (.int .i64 ((rd_T67 l0_0 x4_1).f0))).setCell ⟨gb565, 1, none⟩ (.int .i64 ((rd_T67 l0_0 x4_1).f1))).setCell ⟨gb565, 2, none⟩ (.int .i64 ((rd_T67 l0_0 x4_1).f2))).setCell ⟨gb565, 3, none⟩ (.int .i64 ((rd_T67 l0_0 x4_1).f3))) w.heap.size (fun _ => True) u3 x3_1) := ⟨by (with_reducible repeat (first | apply Kd.R_alloc | apply Kd.R_drewN | apply Kd.R_drew)); exact Kd.R_mono (Kd.R_far (p := ⟨gb565, 3, none⟩) (Kd.R_far (p := ⟨gb565, 2, none⟩) (Kd.R_far (p := ⟨gb565, 1, none⟩) (Kd.R_far (p := ⟨gb565, 0, none⟩) (Kd.R_types HO_3.out BK565.out (by decide)) (fun _ hk => hk.2) (.int .i64 ((rd_T67 l0_0 x4_1).f0))) (fun _ hk => hk.2) (.int .i64 ((rd_T67 l0_0 x4_1).f1))) (fun _ hk => hk.2) (.int .i64 ((rd_T67 l0_0 x4_1).f2))) (fun _ hk => hk.2) (.int .i64 ((rd_T67 l0_0 x4_1).f3))) (fun _ hk => trivial)⟩
                          have n1_ : Aside0 (((((w27.setCell ⟨gb565, 0, none⟩ (.int .i64 ((rd_T67 l0_0 x4_1).f0))).setCell ⟨gb565, 1, none⟩ (.int .i64 ((rd_T67 l0_0 x4_1).f1))).setCell ⟨gb565, 2, none⟩ (.int .i64 ((rd_T67 l0_0 x4_1).f2))).setCell ⟨gb565, 3, none⟩ (.int .i64 ((rd_T67 l0_0 x4_1).f3))).heap[gb559]? = some (.cells #[.slice (some ad564) l0_0.length c0_0, .int .i64 a0_1, .slice A0_2 l0_2.length c0_2] 30 (0, 0))) := ⟨by (with_reducible repeat (first | refine blk_drewN ?_ _ | refine blk_drew ?_ | refine blk_alloc ?_ _)); refine blk_far ?_ NB559_565.out _; (with_reducible repeat (first | refine blk_drewN ?_ _ | refine blk_drew ?_ | refine blk_alloc ?_ _)); refine blk_far ?_ NB559_565.out _; (with_reducible repeat (first | refine blk_drewN ?_ _ | refine blk_drew ?_ | refine blk_alloc ?_ _)); refine blk_far ?_ NB559_565.out _; (with_reducible repeat (first | refine blk_drewN ?_ _ | refine blk_drew ?_ | refine blk_alloc ?_ _)); refine blk_far ?_ NB559_565.out _; (with_reducible repeat (first | refine blk_drewN ?_ _ | refine blk_drew ?_ | refine blk_alloc ?_ _)); exact BK559.out⟩
                          have n2_ : Aside0 (((((w27.setCell ⟨gb565, 0, none⟩ (.int .i64 ((rd_T67 l0_0 x4_1).f0))).setCell ⟨gb565, 1, none⟩ (.int .i64 ((rd_T67 l0_0 x4_1).f1))).setCell ⟨gb565, 2, none⟩ (.int .i64 ((rd_T67 l0_0 x4_1).f2))).setCell ⟨gb565, 3, none⟩ (.int .i64 ((rd_T67 l0_0 x4_1).f3))).heap[gb565]? = some (.cells #[.int .i64 ((rd_T67 l0_0 x4_1).f0), .int .i64 ((rd_T67 l0_0 x4_1).f1), .int .i64 ((rd_T67 l0_0 x4_1).f2), .int .i64 ((rd_T67 l0_0 x4_1).f3)] 67 (0, 0))) := ⟨by (with_reducible repeat (first | refine blk_drewN ?_ _ | refine blk_drew ?_ | refine blk_alloc ?_ _)); refine blk_put (cs := #[.int .i64 ((rd_T67 l0_0 x4_1).f0), .int .i64 ((rd_T67 l0_0 x4_1).f1), .int .i64 ((rd_T67 l0_0 x4_1).f2), .int .i64 0]) ?_ 3 _ rfl; (with_reducible repeat (first | refine blk_drewN ?_ _ | refine blk_drew ?_ | refine blk_alloc ?_ _)); refine blk_put (cs := #[.int .i64 ((rd_T67 l0_0 x4_1).f0), .int .i64 ((rd_T67 l0_0 x4_1).f1), .int .i64 0, .int .i64 0]) ?_ 2 _ rfl; (with_reducible repeat (first | refine blk_drewN ?_ _ | refine blk_drew ?_ | refine blk_alloc ?_ _)); refine blk_put (cs := #[.int .i64 ((rd_T67 l0_0 x4_1).f0), .int .i64 0, .int .i64 0, .int .i64 0]) ?_ 1 _ rfl; (with_reducible repeat (first | refine blk_drewN ?_ _ | refine blk_drew ?_ | refine blk_alloc ?_ _)); refine blk_put (cs := #[.int .i64 0, .int .i64 0, .int .i64 0, .int .i64 0]) ?_ 0 _ rfl; (with_reducible repeat (first | refine blk_drewN ?_ _ | refine blk_drew ?_ | refine blk_alloc ?_ _)); exact BK565.out⟩
                          have n3_ : Aside0 (Below w.heap.size w ((((w27.setCell ⟨gb565, 0, none⟩ (.int .i64 ((rd_T67 l0_0 x4_1).f0))).setCell ⟨gb565, 1, none⟩ (.int .i64 ((rd_T67 l0_0 x4_1).f1))).setCell ⟨gb565, 2, none⟩ (.int .i64 ((rd_T67 l0_0 x4_1).f2))).setCell ⟨gb565, 3, none⟩ (.int .i64 ((rd_T67 l0_0 x4_1).f3)))) := ⟨oB HB⟩
                          (try clear HO_3)
                          (try clear BK559)
                          (try clear BK565)
                          (try clear HB)
                          generalize ((((w27.setCell ⟨gb565, 0, none⟩ (.int .i64 ((rd_T67 l0_0 x4_1).f0))).setCell ⟨gb565, 1, none⟩ (.int .i64 ((rd_T67 l0_0 x4_1).f1))).setCell ⟨gb565, 2, none⟩ (.int .i64 ((rd_T67 l0_0 x4_1).f2))).setCell ⟨gb565, 3, none⟩ (.int .i64 ((rd_T67 l0_0 x4_1).f3))) = w30 at n0_ n1_ n2_ n3_ ⊢
                          have HO_3 := n0_
                          have BK559 := n1_
                          have BK565 := n2_
                          have HB := n3_
                          clear n0_ n1_ n2_ n3_
                          have n0_ := Aside0.mk (Kd.R_drew HO_3.out)
                          have n1_ := Aside0.mk (blk_drew BK559.out)
                          have n2_ := Aside0.mk (blk_drew BK565.out)
                          have n3_ := Aside0.mk (below_drew1 HB.out)
                          clear HO_3
                          clear BK559
                          clear BK565
                          clear HB
                          have HO_3 := n0_
                          have BK559 := n1_
                          have BK565 := n2_
                          have HB := n3_
                          clear n0_ n1_ n2_ n3_
                          have p566 : 0 ≤ (((rd_T67 l0_0 x4_1).f1) : Int) := of_decide_eq_true (by first | (with_reducible assumption) | assumption)
                          have q566 : ((rd_T67 l0_0 x4_1).f1) < (l0_2.length : Int) := of_decide_eq_true (by first | (with_reducible assumption) | assumption)
                          obtain ⟨ad566, e566, hx566_0⟩ := Kd.at_int HR0_2.out ((rd_T67 l0_0 x4_1).f1) p566 q566
                          have hw566_0 := hx566_0
                          cases e566
                          replace hx566_0 := (HB.out.cell (World.block_lt_of_cell? w _ hx566_0)).trans hx566_0
                          replace p566 := eq_true p566
                          replace q566 := eq_true q566
                          have p567 : 0 ≤ (((rd_T67 l0_0 x4_1).f0) : Int) := of_decide_eq_true (by first | (with_reducible assumption) | assumption)
                          have q567 : ((rd_T67 l0_0 x4_1).f0) < (l0_2.length : Int) := of_decide_eq_true (by first | (with_reducible assumption) | assumption)
                          obtain ⟨ad567, e567, hx567_0⟩ := Kd.at_int HR0_2.out ((rd_T67 l0_0 x4_1).f0) p567 q567
                          have hw567_0 := hx567_0
                          obtain rfl : ad566 = ad567 := (by injection e567)
                          replace hx567_0 := (HB.out.cell (World.block_lt_of_cell? w _ hx567_0)).trans hx567_0
                          replace p567 := eq_true p567
                          replace q567 := eq_true q567
                          refine start_ (n := 18) (S := fun w' => w'.cell? ⟨gb559, 0, none⟩ = some (.slice (some ad564) l0_0.length c0_0) ∧ w'.cell? ⟨gb559, 1, none⟩ = some (.int .i64 a0_1) ∧ w'.cell? ⟨gb559, 2, none⟩ = some (.slice (some ad566) l0_2.length c0_2) ∧ w'.cell? ⟨gb565, 0, none⟩ = some (.int .i64 ((rd_T67 l0_0 x4_1).f0)) ∧ w'.cell? ⟨gb565, 1, none⟩ = some (.int .i64 ((rd_T67 l0_0 x4_1).f1)) ∧ w'.cell? ⟨gb565, 2, none⟩ = some (.int .i64 ((rd_T67 l0_0 x4_1).f2)) ∧ w'.cell? ⟨gb565, 3, none⟩ = some (.int .i64 ((rd_T67 l0_0 x4_1).f3)) ∧ w'.cell? (ad566.add (((rd_T67 l0_0 x4_1).f1)).toNat) = some (.int .i64 (rd l0_2 ((rd_T67 l0_0 x4_1).f1))) ∧ w'.cell? (ad566.add (((rd_T67 l0_0 x4_1).f0)).toNat) = some (.int .i64 (rd l0_2 ((rd_T67 l0_0 x4_1).f0)))) (ds := []) #[false, false, false, false, false, false, false, false, false, false, false, false, false, false, false, false, false, false] (by kernel_rfl) rfl rfl ⟨(blk_cell BK559.out 0).trans rfl, (blk_cell BK559.out 1).trans rfl, (blk_cell BK559.out 2).trans rfl, (blk_cell BK565.out 0).trans rfl, (blk_cell BK565.out 1).trans rfl, (blk_cell BK565.out 2).trans rfl, (blk_cell BK565.out 3).trans rfl, ((HB.out.cell (World.block_lt_of_cell? w _ hw566_0)).trans hw566_0), ((HB.out.cell (World.block_lt_of_cell? w _ hw567_0)).trans hw567_0)⟩ (fun hHeld => ?_); refine with_tabW spec_WrongSteps.tab8 spec_WrongSteps.bits8 (fun HT_ HW_ => ?_)
                          generalize w30.drew = w31 at HO_3 BK559 BK565 HB hx566_0 hx567_0 hHeld ⊢
                          refine pure_ (i := 0) (N := some 22) (v := ?_) (a' := ?_) #[true, false, false, false, false, false, false, false, false, false, false, false, false, false, false, false, false, false] rfl rfl (any_of HT_.out (by kernel_rfl)) (fun _ _ _ h => h) (Or.inl ⟨by rfl, ?_⟩) ?_ ?_
                          rotate_left
                          · intro w'
                            go_simp
                            with_reducible rfl
                          rotate_left
                          · simp only [Act.put, List.setIfInBounds_toArray, List.set_cons_zero, List.set_cons_succ, i64_w, i32_w]
                            rfl
                          refine pure_ (i := 2) (N := some 24) (v := ?_) (a' := ?_) #[true, false, true, false, false, false, false, false, false, false, false, false, false, false, false, false, false, false] rfl rfl (any_of HT_.out (by kernel_rfl)) (fun _ _ _ h => h) (Or.inl ⟨by rfl, ?_⟩) ?_ ?_
                          rotate_left
                          · intro w'
                            go_simp
                            with_reducible rfl
                          rotate_left
                          · simp only [Act.put, List.setIfInBounds_toArray, List.set_cons_zero, List.set_cons_succ, i64_w, i32_w]
                            rfl
                          refine pure_ (i := 6) (N := some 28) (v := ?_) (a' := ?_) #[true, false, true, false, false, false, true, false, false, false, false, false, false, false, false, false, false, false] rfl rfl (any_of HT_.out (by kernel_rfl)) (fun _ _ _ h => h) (Or.inl ⟨by rfl, ?_⟩) ?_ ?_
                          rotate_left
                          · intro w'
                            go_simp
                            with_reducible rfl
                          rotate_left
                          · simp only [Act.put, List.setIfInBounds_toArray, List.set_cons_zero, List.set_cons_succ, i64_w, i32_w]
                            rfl
                          refine pure_ (i := 8) (N := some 30) (v := ?_) (a' := ?_) #[true, false, true, false, false, false, true, false, true, false, false, false, false, false, false, false, false, false] rfl rfl (any_of HT_.out (by kernel_rfl)) (fun _ _ _ h => h) (Or.inl ⟨by rfl, ?_⟩) ?_ ?_
                          rotate_left
                          · intro w'
                            go_simp
                            with_reducible rfl
                          rotate_left
                          · simp only [Act.put, List.setIfInBounds_toArray, List.set_cons_zero, List.set_cons_succ, i64_w, i32_w]
                            rfl
                          refine pure_ (i := 12) (N := some 34) (v := ?_) (a' := ?_) #[true, false, true, false, false, false, true, false, true, false, false, false, true, false, false, false, false, false] rfl rfl (any_of HT_.out (by kernel_rfl)) (fun _ _ _ h => h) (Or.inl ⟨by rfl, ?_⟩) ?_ ?_
                          rotate_left
                          · intro w'
                            go_simp
                            with_reducible rfl
                          rotate_left
                          · simp only [Act.put, List.setIfInBounds_toArray, List.set_cons_zero, List.set_cons_succ, i64_w, i32_w]
                            rfl
                          refine pure_ (i := 14) (N := some 36) (v := ?_) (a' := ?_) #[true, false, true, false, false, false, true, false, true, false, false, false, true, false, true, false, false, false] rfl rfl (any_of HT_.out (by kernel_rfl)) (fun _ _ _ h => h) (Or.inl ⟨by rfl, ?_⟩) ?_ ?_
                          rotate_left
                          · intro w'
                            go_simp
                            with_reducible rfl
                          rotate_left
                          · simp only [Act.put, List.setIfInBounds_toArray, List.set_cons_zero, List.set_cons_succ, i64_w, i32_w]
                            rfl
                          refine take_ (i := 1) (N := some 23) (v := ?_) (a' := ?_) #[true, true, true, false, false, false, true, false, true, false, false, false, true, false, true, false, false, false] rfl rfl (take_ofW HT_.out HW_.out (by kernel_rfl)) (fun _ _ _ h => h) (Or.inl ⟨by rfl, ?_⟩) hHeld ?_ ?_
                          rotate_left
                          · rintro w' ⟨s0, s1, s2, s3, s4, s5, s6, s7, s8⟩
                            go_simp
                            with_reducible rfl
                          rotate_left
                          · simp only [Act.put, List.setIfInBounds_toArray, List.set_cons_zero, List.set_cons_succ, i64_w, i32_w]
                            rfl
                          refine take_ (i := 3) (N := some 25) (v := ?_) (a' := ?_) #[true, true, true, true, false, false, true, false, true, false, false, false, true, false, true, false, false, false] rfl rfl (take_ofW HT_.out HW_.out (by kernel_rfl)) (fun _ _ _ h => h) (Or.inl ⟨by rfl, ?_⟩) hHeld ?_ ?_
                          rotate_left
                          · rintro w' ⟨s0, s1, s2, s3, s4, s5, s6, s7, s8⟩
                            go_simp
                            with_reducible rfl
                          rotate_left
                          · simp only [Act.put, List.setIfInBounds_toArray, List.set_cons_zero, List.set_cons_succ, i64_w, i32_w]
                            rfl
                          refine pure_ (i := 4) (N := some 26) (v := ?_) (a' := ?_) #[true, true, true, true, true, false, true, false, true, false, false, false, true, false, true, false, false, false] rfl rfl (any_of HT_.out (by kernel_rfl)) (fun _ _ _ h => h) (Or.inl ⟨by rfl, ?_⟩) ?_ ?_
                          rotate_left
                          · intro w'
                            go_simp
                            with_reducible rfl
                          rotate_left
                          · simp only [Act.put, List.setIfInBounds_toArray, List.set_cons_zero, List.set_cons_succ, i64_w, i32_w]
                            rfl
                          refine take_ (i := 5) (N := some 27) (v := ?_) (a' := ?_) #[true, true, true, true, true, true, true, false, true, false, false, false, true, false, true, false, false, false] rfl rfl (take_ofW HT_.out HW_.out (by kernel_rfl)) (fun _ _ _ h => h) (Or.inl ⟨by rfl, ?_⟩) hHeld ?_ ?_
                          rotate_left
                          · rintro w' ⟨s0, s1, s2, s3, s4, s5, s6, s7, s8⟩
                            go_simp
                            with_reducible rfl
                          rotate_left
                          · simp only [Act.put, List.setIfInBounds_toArray, List.set_cons_zero, List.set_cons_succ, i64_w, i32_w]
                            rfl
                          refine take_ (i := 7) (N := some 29) (v := ?_) (a' := ?_) #[true, true, true, true, true, true, true, true, true, false, false, false, true, false, true, false, false, false] rfl rfl (take_ofW HT_.out HW_.out (by kernel_rfl)) (fun _ _ _ h => h) (Or.inl ⟨by rfl, ?_⟩) hHeld ?_ ?_
                          rotate_left
                          · rintro w' ⟨s0, s1, s2, s3, s4, s5, s6, s7, s8⟩
                            go_simp
                            with_reducible rfl
                          rotate_left
                          · simp only [Act.put, List.setIfInBounds_toArray, List.set_cons_zero, List.set_cons_succ, i64_w, i32_w]
                            rfl
                          refine take_ (i := 9) (N := some 31) (v := ?_) (a' := ?_) #[true, true, true, true, true, true, true, true, true, true, false, false, true, false, true, false, false, false] rfl rfl (take_ofW HT_.out HW_.out (by kernel_rfl)) (fun _ _ _ h => h) (Or.inl ⟨by rfl, ?_⟩) hHeld ?_ ?_
                          rotate_left
                          · rintro w' ⟨s0, s1, s2, s3, s4, s5, s6, s7, s8⟩
                            go_simp
                            with_reducible rfl
                          rotate_left
                          · simp only [Act.put, List.setIfInBounds_toArray, List.set_cons_zero, List.set_cons_succ, i64_w, i32_w]
                            rfl
                          refine pure_ (i := 10) (N := some 32) (v := ?_) (a' := ?_) #[true, true, true, true, true, true, true, true, true, true, true, false, true, false, true, false, false, false] rfl rfl (any_of HT_.out (by kernel_rfl)) (fun _ _ _ h => h) (Or.inl ⟨by rfl, ?_⟩) ?_ ?_
                          rotate_left
                          · intro w'
                            go_simp
                            with_reducible rfl
                          rotate_left
                          · simp only [Act.put, List.setIfInBounds_toArray, List.set_cons_zero, List.set_cons_succ, i64_w, i32_w]
                            rfl
                          refine take_ (i := 11) (N := some 33) (v := ?_) (a' := ?_) #[true, true, true, true, true, true, true, true, true, true, true, true, true, false, true, false, false, false] rfl rfl (take_ofW HT_.out HW_.out (by kernel_rfl)) (fun _ _ _ h => h) (Or.inl ⟨by rfl, ?_⟩) hHeld ?_ ?_
                          rotate_left
                          · rintro w' ⟨s0, s1, s2, s3, s4, s5, s6, s7, s8⟩
                            go_simp
                            with_reducible rfl
                          rotate_left
                          · simp only [Act.put, List.setIfInBounds_toArray, List.set_cons_zero, List.set_cons_succ, i64_w, i32_w]
                            rfl
                          refine take_ (i := 13) (N := some 35) (v := ?_) (a' := ?_) #[true, true, true, true, true, true, true, true, true, true, true, true, true, true, true, false, false, false] rfl rfl (take_ofW HT_.out HW_.out (by kernel_rfl)) (fun _ _ _ h => h) (Or.inl ⟨by rfl, ?_⟩) hHeld ?_ ?_
                          rotate_left
                          · rintro w' ⟨s0, s1, s2, s3, s4, s5, s6, s7, s8⟩
                            go_simp
                            with_reducible rfl
                          rotate_left
                          · simp only [Act.put, List.setIfInBounds_toArray, List.set_cons_zero, List.set_cons_succ, i64_w, i32_w]
                            rfl
                          refine take_ (i := 15) (N := some 37) (v := ?_) (a' := ?_) #[true, true, true, true, true, true, true, true, true, true, true, true, true, true, true, true, false, false] rfl rfl (take_ofW HT_.out HW_.out (by kernel_rfl)) (fun _ _ _ h => h) (Or.inl ⟨by rfl, ?_⟩) hHeld ?_ ?_
                          rotate_left
                          · rintro w' ⟨s0, s1, s2, s3, s4, s5, s6, s7, s8⟩
                            go_simp
                            with_reducible rfl
                          rotate_left
                          · simp only [Act.put, List.setIfInBounds_toArray, List.set_cons_zero, List.set_cons_succ, i64_w, i32_w]
                            rfl
                          refine one_ (i := 16) (N := some 38) #[true, true, true, true, true, true, true, true, true, true, true, true, true, true, true, true, true, false] rfl rfl (one_of HT_.out (by kernel_rfl)) (by decide) (fun K hK => ?_)
                          refine goes_ Try.func72 (by kernel_rfl) rfl #[.int .i64 (rd l0_2 ((rd_T67 l0_0 x4_1).f0)), .int .i64 ((rd_T67 l0_0 x4_1).f2), .int .i64 ((rd_T67 l0_0 x4_1).f3)] (by rfl) rfl rfl (by (try simp only [List.map_toArray, List.map_cons, List.map_nil]); first | done | rfl | (simp only [List.length_drop, List.length_take]; rfl)) ?_
                          with_reducible refine (spec_TunedPitch.calls k1 (rd l0_2 ((rd_T67 l0_0 x4_1).f0)) ((rd_T67 l0_0 x4_1).f2) ((rd_T67 l0_0 x4_1).f3) t568 _ A16.out).mono ?_
                          rintro e w32 ⟨rfl, hb⟩
                          refine ⟨_, rfl, ?_⟩
                          have n0_ := Aside0.mk (Kd.R_below (oR HO_3) hb)
                          have n1_ := Aside0.mk (blk_below (g := gb559) (o := .cells #[.slice (some ad564) l0_0.length c0_0, .int .i64 a0_1, .slice (some ad566) l0_2.length c0_2] 30 (0, 0)) (oK BK559) hb)
                          have n2_ := Aside0.mk (blk_below (g := gb565) (o := .cells #[.int .i64 ((rd_T67 l0_0 x4_1).f0), .int .i64 ((rd_T67 l0_0 x4_1).f1), .int .i64 ((rd_T67 l0_0 x4_1).f2), .int .i64 ((rd_T67 l0_0 x4_1).f3)] 67 (0, 0)) (oK BK565) hb)
                          have n3_ := Aside0.mk (below_step (oB HB) hb)
                          clear HO_3
                          clear BK559
                          clear BK565
                          clear HB
                          have HO_3 := n0_
                          have BK559 := n1_
                          have BK565 := n2_
                          have HB := n3_
                          clear n0_ n1_ n2_ n3_
                          (try clear hb)
                          (try clear hb2)
                          (try clear hk)
                          (try clear hi)
                          refine hK.out _ _ ⟨(blk_cell BK559.out 0).trans rfl, (blk_cell BK559.out 1).trans rfl, (blk_cell BK559.out 2).trans rfl, (blk_cell BK565.out 0).trans rfl, (blk_cell BK565.out 1).trans rfl, (blk_cell BK565.out 2).trans rfl, (blk_cell BK565.out 3).trans rfl, ((HB.out.cell (World.block_lt_of_cell? w _ hw566_0)).trans hw566_0), ((HB.out.cell (World.block_lt_of_cell? w _ hw567_0)).trans hw567_0)⟩ (fun hHeld => ?_)
                          clear hK K
                          refine norm_ (a' := ?_) ?_ ?_
                          rotate_left
                          · show Act.put _ (some 38) _ = _
                            simp only [Act.put, List.setIfInBounds_toArray, List.set_cons_zero, List.set_cons_succ, i64_w, i32_w]
                            rfl
                          refine pure_ (i := 17) (N := some 39) (v := ?_) (a' := ?_) #[true, true, true, true, true, true, true, true, true, true, true, true, true, true, true, true, true, true] rfl rfl (any_of HT_.out (by kernel_rfl)) (fun _ _ _ h => h) (Or.inl ⟨by rfl, ?_⟩) ?_ ?_
                          rotate_left
                          · intro w'
                            go_simp
                            with_reducible rfl
                          rotate_left
                          · simp only [Act.put, List.setIfInBounds_toArray, List.set_cons_zero, List.set_cons_succ, i64_w, i32_w]
                            rfl
                          refine done_ (done_of HT_.out (by kernel_rfl)) ?_
                          try go_wp2_with (first | ((with_reducible refine gate_builtin (b := .append) (xs := #[.tmp 40, .tmp 42]) rfl ?_); at_builtin; refine Kd.R_append (Kd.int .i64) (w0 := w) w.heap.size rfl (.tmp 40) (.tmp 42) 23 3 (.int .i64 0) 8 rfl Try.underlying23 info3 rfl (by decide) (by omega) u3 x3_1 x4_1 [.int .i64 x4_1] (fun _ => True) (fun _ => False) rfl rfl ?aP (fun _ hk => hk.elim) ?aF ?aO ?aB ?aS ?aL ?_; (case aP => exact rfl); (case aB => exact (oB HB)); (case aF => exact (fun _ _ => trivial)); (case aO => exact (oR HO_3)); (case aS => exact (below_size (oB HB))); (case aL => have := LMc25.out; omega); intro v570 w33 ho hb hg hat; rw [← Ny569.out] at ho; have n0_ := Aside0.mk (blk_grown (g := gb559) (o := .cells #[.slice (some ad564) l0_0.length c0_0, .int .i64 a0_1, .slice (some ad566) l0_2.length c0_2] 30 (0, 0)) (oK BK559) hg (Kd.R_ne HO_3.out BK559.out (by decide))); have n1_ := Aside0.mk (blk_grown (g := gb565) (o := .cells #[.int .i64 ((rd_T67 l0_0 x4_1).f0), .int .i64 ((rd_T67 l0_0 x4_1).f1), .int .i64 ((rd_T67 l0_0 x4_1).f2), .int .i64 ((rd_T67 l0_0 x4_1).f3)] 67 (0, 0)) (oK BK565) hg (Kd.R_ne HO_3.out BK565.out (by decide))); have n2_ := Aside0.mk (hb); have n3_ := Aside0.mk (ho); clear BK559; clear BK565; clear HB; clear HO_3; have BK559 := n0_; have BK565 := n1_; have HB := n2_; have HO571 := n3_; clear n0_ n1_ n2_ n3_; clear ho hb hg hat))
                          go_roundg k1
                          case measure => have := HK1.out; omega
                          case rel => exact ⟨(y569), (wrap64 (x4_1 + 1)), (by first | rfl | (simp; done) | (simp [*]; done)), H', ⟨by have := HK1.out; omega⟩, ⟨oR HO571⟩, ⟨oK BK559⟩, ⟨oB HB⟩⟩
                        · rw [if_neg c25] at H
                          exact absurd H (by simp)
                    · rw [if_neg c15] at H
                      exact absurd H (by simp)
                  · rw [if_neg c14] at H
                    exact absurd H (by simp)
                · rw [if_neg c13] at H
                  exact absurd H (by simp)
              · rw [if_neg c12] at H
                exact absurd H (by simp)
            · rw [if_neg c11] at H
              exact absurd H (by simp)
          · rw [if_neg c10] at H
            exact absurd H (by simp)
        · rw [if_neg c9] at H
          have c9b0 : decide (x4_1 < a0_1) = false := decide_eq_false c9
          clear c9
          obtain rfl := Option.some.inj H
          have hcz34_0 : wr.cell? ⟨gb559, 0, none⟩ = some (.slice A0_0 l0_0.length c0_0) := (blk_cell BK559.out 0).trans rfl
          have hcz34_1 : wr.cell? ⟨gb559, 1, none⟩ = some (.int .i64 a0_1) := (blk_cell BK559.out 1).trans rfl
          have hcz34_2 : wr.cell? ⟨gb559, 2, none⟩ = some (.slice A0_2 l0_2.length c0_2) := (blk_cell BK559.out 2).trans rfl
          have hfz34_0 := blk_frozen BK559.out 0
          have hfz34_1 := blk_frozen BK559.out 1
          have hfz34_2 := blk_frozen BK559.out 2
          go_wp2
          go_ret
          exact ⟨_, by first | rfl | (simp [errW_none, errW_some] <;> rfl) | (simp [*, errW_none, errW_some] <;> rfl), oR HO_3, oB HB⟩
  · replace c3 := Bool.eq_false_iff.mpr c3
    subst c3
    rw [if_neg (show ¬ (false = true) by decide)] at H
    obtain rfl := Option.some.inj H
    go_enter Try.func34, Try.ntmps34
    go_wp2_with (first | ((with_reducible refine gate_dst (N := 1) rfl ?_); refine box_event ?hg (N := 1) ?hd (cs := #[.slice A0_0 l0_0.length c0_0, .int .i64 a0_1, .slice A0_2 l0_2.length c0_2]) (t := 30) ?hr ?_; (case hd => rfl); (case hg => rfl); (case hr => first | (go_simp; done) | (go_simp; rfl)); intro gb559 hg w35 hbox hb; have n0_ := Aside0.mk (below_step (oB HB) hb); have n1_ := Aside0.mk (hbox); have n2_ := Aside0.mk ((by rw [hg]; exact (below_size (oB HB)) : w.heap.size ≤ gb559)); have n3_ := Aside0.mk ((by rw [hg]; exact (below_size (oB HB)) : w.heap.size ≤ gb559)); clear HB; have HB := n0_; have BK559 := n1_; have GW559 := n2_; have GE559 := n3_; clear n0_ n1_ n2_ n3_; clear hb hbox hg) | ((with_reducible refine gate_dst (N := 6) rfl ?_); refine Kd.R_lit (Kd.int .i64) _ 3 ?hg (N := 6) ?hd (xs := ([] : List Int)) (inner := []) (ok := fun _ => True) (okp := fun _ => True) ?hr ?hp (fun _ hk => hk) trivial (Below.refl _ _) (Nat.le_refl _) (by simp) ?_; (case hd => rfl); (case hg => rfl); (case hr => first | (go_simp; done) | (go_simp; rfl)); (case hp => exact (Reps.none _ _)); intro v561 w36 ho37 hb hg_ hnew_; clear hg_ hnew_; (first | rw [← Ny560.out] at ho37 | (simp only [Int.reduceToNat] at ho37; rw [← Ny560.out] at ho37)); have n0_ := Aside0.mk (Kd.R_lower ho37 (below_size (oB HB))); have n1_ := Aside0.mk (blk_below (g := gb559) (o := .cells #[.slice A0_0 l0_0.length c0_0, .int .i64 a0_1, .slice A0_2 l0_2.length c0_2] 30 (0, 0)) (oK BK559) hb); have n2_ := Aside0.mk (below_step (oB HB) hb); clear BK559; clear HB; have HO562 := n0_; have BK559 := n1_; have HB := n2_; clear n0_ n1_ n2_; clear hb ho37; have hcz38_0 : w36.cell? ⟨gb559, 0, none⟩ = some (.slice A0_0 l0_0.length c0_0) := (blk_cell BK559.out 0).trans rfl; have hcz38_1 : w36.cell? ⟨gb559, 1, none⟩ = some (.int .i64 a0_1) := (blk_cell BK559.out 1).trans rfl; have hcz38_2 : w36.cell? ⟨gb559, 2, none⟩ = some (.slice A0_2 l0_2.length c0_2) := (blk_cell BK559.out 2).trans rfl; have hfz38_0 := blk_frozen BK559.out 0; have hfz38_1 := blk_frozen BK559.out 1; have hfz38_2 := blk_frozen BK559.out 2) | ((with_reducible refine gate_callee (f := 16) rfl ?_); refine goesL_ (some 8) rfl rfl Try.func16 (by kernel_rfl) rfl #[.agg #[.slice A0_0 l0_0.length c0_0, .int .i64 a0_1, .slice A0_2 l0_2.length c0_2]] rfl (by (try simp only [List.map_toArray, List.map_cons, List.map_nil]); first | done | rfl | (simp only [List.length_drop, List.length_take]; rfl)) ?_; (with_reducible refine (spec_WorkOk.calls k _ _ l0_0 a0_1 _ _ l0_2 false _ ?side1 ?side2 ?side3 ?side4 A2.out).mono ?_); (case side1 => exact oc_ HR0_0.out); (case side2 => exact HC0_0.out); (case side3 => exact oc_ HR0_2.out); (case side4 => exact HC0_2.out); rintro e w39 ⟨rfl, hb⟩; refine ⟨_, rfl, ?_⟩; have n0_ := Aside0.mk (Kd.R_below (oR HO562) hb); have n1_ := Aside0.mk (blk_below (g := gb559) (o := .cells #[.slice A0_0 l0_0.length c0_0, .int .i64 a0_1, .slice A0_2 l0_2.length c0_2] 30 (0, 0)) (oK BK559) hb); have n2_ := Aside0.mk (below_step (oB HB) hb); clear HO562; clear BK559; clear HB; have HO562 := n0_; have BK559 := n1_; have HB := n2_; clear n0_ n1_ n2_; (try clear hb); (try clear hb2); (try clear hk); (try clear hi)))
    go_ret
    exact ⟨_, by first | rfl | (simp [errW_none, errW_some] <;> rfl) | (simp [*, errW_none, errW_some] <;> rfl), oR HO562, oB HB⟩
end Go.Proofs.Ytlhlmjklajdejaa.P


namespace Go.Proofs.Ytlhlmjklajdejaa.P
open Go.RowKit Go.Proofs.YtlhlmjklajdejaaW.PrintWords Go.Proofs.YtlhlmjklajdejaaW.PrintLast Go.Proofs.YtlhlmjklajdejaaW.PrintMore
attribute [local go_sem] max2_int min2_int max_two min_two max_three min_three max_four min_four
set_option linter.unusedVariables false
set_option linter.unusedSimpArgs false
def spec_MendStep.f (k : Nat) (l0_0 : List (S67)) (a0_1 : Int) (l0_2 : List Int) : Option ((List (S67)) × Int × List Int × Bool) := (spec_l36Copy.f l0_0 a0_1 l0_2).bind fun bt851 => ((spec_WrongSteps.f k l0_0 a0_1 l0_2).bind fun t859 => (if (t859.length : Int) = 0 then (some (bt851.1, bt851.2.1, bt851.2.2, false)) else (if 0 < (t859.length : Int) then (if 0 ≤ (rd t859 0) then (if (rd t859 0) < (l0_0.length : Int) then (if 0 ≤ ((rd_T67 l0_0 (rd t859 0)).f0) then (if ((rd_T67 l0_0 (rd t859 0)).f0) < (l0_2.length : Int) then ((spec_TunedPitch.f k (rd l0_2 ((rd_T67 l0_0 (rd t859 0)).f0)) ((rd_T67 l0_0 (rd t859 0)).f2) ((rd_T67 l0_0 (rd t859 0)).f3)).bind fun t866 => (if t866 = 0 then (some (bt851.1, bt851.2.1, bt851.2.2, false)) else (if 0 ≤ ((rd_T67 l0_0 (rd t859 0)).f1) then (if ((rd_T67 l0_0 (rd t859 0)).f1) < (bt851.2.2.length : Int) then (some (bt851.1, bt851.2.1, (bt851.2.2.set (((rd_T67 l0_0 (rd t859 0)).f1) : Int).toNat t866), true)) else (none)) else (none)))) else (none)) else (none)) else (none)) else (none)) else (none))))
def spec_MendStep.T5 : Bool × List (List Nat × List Nat) := (true, [([], []), ([0], [0]), ([], []), ([2], [2]), ([3], [3]), ([1, 4], [1, 4]), ([5], [5]), ([], []), ([7, 6, 0, 1, 2, 3, 4, 5, 6, 7], [6, 7])])
def spec_MendStep.B5 : List Nat := [0, 1, 0, 4, 12, 31, 63, 0, 255]
theorem spec_MendStep.tab5 : rtab .any (opsOf Try.f43 5) = spec_MendStep.T5 := by kernel_rfl
theorem spec_MendStep.bits5 : waitsOk spec_MendStep.T5.2 spec_MendStep.B5 = true := by kernel_rfl
def spec_MendStep.T6 : Bool × List (List Nat × List Nat) := (true, [([], []), ([0], [0]), ([], []), ([2], [2]), ([1, 3], [1, 3]), ([4], [4]), ([], []), ([6], [6]), ([], []), ([8], [8]), ([5, 7, 9], [5, 7, 9]), ([10, 10, 0, 1, 2, 3, 4, 5, 6, 7, 8, 9, 10], [10])])
def spec_MendStep.B6 : List Nat := [0, 1, 0, 4, 15, 31, 0, 64, 0, 256, 1023, 2047]
theorem spec_MendStep.tab6 : rtab .any (opsOf Try.f43 6) = spec_MendStep.T6 := by kernel_rfl
theorem spec_MendStep.bits6 : waitsOk spec_MendStep.T6.2 spec_MendStep.B6 = true := by kernel_rfl
set_option maxHeartbeats 8000000 in
set_option maxRecDepth 100000 in
theorem spec_MendStep.calls (k : Nat) (A0_0 : Option Addr) (c0_0 : Nat) (l0_0 : List (S67)) (a0_1 : Int) (A0_2 : Option Addr) (c0_2 : Nat) (l0_2 : List Int) (r1 : List (S67)) (r2 : Int) (r3 : List Int) (r4 : Bool) (w : World) (hr0_0 : Kd.C k67 w A0_0 l0_0.length l0_0) (hc0_0 : l0_0.length ≤ c0_0) (hr0_2 : Kd.C (Kd.int .i64) w A0_2 l0_2.length l0_2) (hc0_2 : l0_2.length ≤ c0_2) (h : spec_MendStep.f k l0_0 a0_1 l0_2 = some (r1, r2, r3, r4)) :
    Calls Try.prog 43 #[.agg #[.slice A0_0 l0_0.length c0_0, .int .i64 a0_1, .slice A0_2 l0_2.length c0_2]] w fun e w' => ∃ v0_ v2_ : Value, e = .returned (.tuple #[.agg #[v0_, .int .i64 r2, v2_], .bool r4]) ∧ Kd.R k67 67 w' w.heap.size (fun _ => True) v0_ r1 ∧ Kd.R (Kd.int .i64) 3 w' w.heap.size (fun _ => True) v2_ r3 ∧ Below w.heap.size w w' := by
  have hu30 := Try.underlying30
  have hu67 := Try.underlying67
  have HR0_0 := Aside0.mk hr0_0
  have HC0_0 := Aside0.mk hc0_0
  clear hr0_0 hc0_0
  have HR0_2 := Aside0.mk hr0_2
  have HC0_2 := Aside0.mk hc0_2
  clear hr0_2 hc0_2
  have HB := Aside0.mk (Below.refl w.heap.size w)
  have H : ((spec_l36Copy.f l0_0 a0_1 l0_2).bind fun bt851 => ((spec_WrongSteps.f k l0_0 a0_1 l0_2).bind fun t859 => (if (t859.length : Int) = 0 then (some (bt851.1, bt851.2.1, bt851.2.2, false)) else (if 0 < (t859.length : Int) then (if 0 ≤ (rd t859 0) then (if (rd t859 0) < (l0_0.length : Int) then (if 0 ≤ ((rd_T67 l0_0 (rd t859 0)).f0) then (if ((rd_T67 l0_0 (rd t859 0)).f0) < (l0_2.length : Int) then ((spec_TunedPitch.f k (rd l0_2 ((rd_T67 l0_0 (rd t859 0)).f0)) ((rd_T67 l0_0 (rd t859 0)).f2) ((rd_T67 l0_0 (rd t859 0)).f3)).bind fun t866 => (if t866 = 0 then (some (bt851.1, bt851.2.1, bt851.2.2, false)) else (if 0 ≤ ((rd_T67 l0_0 (rd t859 0)).f1) then (if ((rd_T67 l0_0 (rd t859 0)).f1) < (bt851.2.2.length : Int) then (some (bt851.1, bt851.2.1, (bt851.2.2.set (((rd_T67 l0_0 (rd t859 0)).f1) : Int).toNat t866), true)) else (none)) else (none)))) else (none)) else (none)) else (none)) else (none)) else (none))))) = some (r1, r2, r3, r4) := h
  clear h
  replace H := Option.bind_eq_some_iff.mp H
  obtain ⟨⟨t851, t854, t855⟩, A20, H⟩ := H
  (try dsimp only at H)
  have A2 := Aside0.mk A20
  clear A20
  replace H := Option.bind_eq_some_iff.mp H
  obtain ⟨t859, A30, H⟩ := H
  (try dsimp only at H)
  have A3 := Aside0.mk A30
  clear A30
  by_cases c4 : (t859.length : Int) = 0
  · rw [if_pos c4] at H
    have c4b0 : ((t859.length : Int) == 0) = true := beq_iff_eq.mpr c4
    have c4b1 : ((t859.length : Int) != 0) = false := bne_eq_false_iff_eq.mpr c4
    clear c4
    simp only [Option.some.injEq, Prod.mk.injEq] at H
    obtain ⟨rfl, rfl, rfl, rfl⟩ := H
    go_enter Try.func43, Try.ntmps43
    go_wp2_with (first | ((with_reducible refine gate_dst (N := 1) rfl ?_); refine box_event ?hg (N := 1) ?hd (cs := #[.slice A0_0 l0_0.length c0_0, .int .i64 a0_1, .slice A0_2 l0_2.length c0_2]) (t := 30) ?hr ?_; (case hd => rfl); (case hg => rfl); (case hr => first | (go_simp; done) | (go_simp; rfl)); intro gb849 hg w5 hbox hb; have n0_ := Aside0.mk (below_step (oB HB) hb); have n1_ := Aside0.mk (hbox); have n2_ := Aside0.mk ((by rw [hg]; exact (below_size (oB HB)) : w.heap.size ≤ gb849)); have n3_ := Aside0.mk ((by rw [hg]; exact (below_size (oB HB)) : w.heap.size ≤ gb849)); clear HB; have HB := n0_; have BK849 := n1_; have GW849 := n2_; have GE849 := n3_; clear n0_ n1_ n2_ n3_; clear hb hbox hg) | ((with_reducible refine gate_dst (N := 2) rfl ?_); refine box_event ?hg (N := 2) ?hd (cs := #[.slice none 0 0, .int .i64 0, .slice none 0 0]) (t := 30) ?hr ?_; (case hd => rfl); (case hg => rfl); (case hr => first | (go_simp; done) | (go_simp; rfl)); intro gb850 hg w6 hbox hb; have n0_ := Aside0.mk (blk_below (g := gb849) (o := .cells #[.slice A0_0 l0_0.length c0_0, .int .i64 a0_1, .slice A0_2 l0_2.length c0_2] 30 (0, 0)) (oK BK849) hb); have n1_ := Aside0.mk (below_step (oB HB) hb); have n2_ := Aside0.mk (hbox); have n3_ := Aside0.mk ((by rw [hg]; exact (below_size (oB HB)) : w.heap.size ≤ gb850)); have n4_ := Aside0.mk ((by rw [hg]; exact (below_size (oB HB)) : w.heap.size ≤ gb850)); have n5_ := Aside0.mk ((by rw [hg]; exact Nat.ne_of_lt (blk_lt (g := gb849) (o := .cells #[.slice A0_0 l0_0.length c0_0, .int .i64 a0_1, .slice A0_2 l0_2.length c0_2] 30 (0, 0)) (oK BK849)) : gb849 ≠ gb850)); have n6_ := Aside0.mk ((by rw [hg]; exact Nat.ne_of_gt (blk_lt (g := gb849) (o := .cells #[.slice A0_0 l0_0.length c0_0, .int .i64 a0_1, .slice A0_2 l0_2.length c0_2] 30 (0, 0)) (oK BK849)) : gb850 ≠ gb849)); clear BK849; clear HB; have BK849 := n0_; have HB := n1_; have BK850 := n2_; have GW850 := n3_; have GE850 := n4_; have NB849_850 := n5_; have NB850_849 := n6_; clear n0_ n1_ n2_ n3_ n4_ n5_ n6_; clear hb hbox hg; have hnb7 := NB849_850.out; have hnc7 := NB850_849.out; have hcz8_0 : w6.cell? ⟨gb849, 0, none⟩ = some (.slice A0_0 l0_0.length c0_0) := (blk_cell BK849.out 0).trans rfl; have hcz8_1 : w6.cell? ⟨gb849, 1, none⟩ = some (.int .i64 a0_1) := (blk_cell BK849.out 1).trans rfl; have hcz8_2 : w6.cell? ⟨gb849, 2, none⟩ = some (.slice A0_2 l0_2.length c0_2) := (blk_cell BK849.out 2).trans rfl; have hfz8_0 := blk_frozen BK849.out 0; have hfz8_1 := blk_frozen BK849.out 1; have hfz8_2 := blk_frozen BK849.out 2) | ((with_reducible refine gate_callee (f := 68) rfl ?_); refine goesL_ (some 9) rfl rfl Try.func68 (by kernel_rfl) rfl #[.agg #[.slice A0_0 l0_0.length c0_0, .int .i64 a0_1, .slice A0_2 l0_2.length c0_2]] rfl (by (try simp only [List.map_toArray, List.map_cons, List.map_nil]); first | done | rfl | (simp only [List.length_drop, List.length_take]; rfl)) ?_; (with_reducible refine (spec_l36Copy.calls _ _ l0_0 a0_1 _ _ l0_2 t851 t854 t855 _ ?side1 ?side2 ?side3 ?side4 A2.out).mono ?_); (case side1 => exact oc_ HR0_0.out); (case side2 => exact HC0_0.out); (case side3 => exact oc_ HR0_2.out); (case side4 => exact HC0_2.out); rintro e w9 ⟨v852, v856, rfl, ho0, ho1, hb⟩; refine ⟨_, rfl, ?_⟩; have n0_ := Aside0.mk (Kd.R_lower ho0 (below_size (oB HB))); have n1_ := Aside0.mk (Kd.R_lower ho1 (below_size (oB HB))); have n2_ := Aside0.mk (blk_below (g := gb849) (o := .cells #[.slice A0_0 l0_0.length c0_0, .int .i64 a0_1, .slice A0_2 l0_2.length c0_2] 30 (0, 0)) (oK BK849) hb); have n3_ := Aside0.mk (blk_below (g := gb850) (o := .cells #[.slice none 0 0, .int .i64 0, .slice none 0 0] 30 (0, 0)) (oK BK850) hb); have n4_ := Aside0.mk (below_step (oB HB) hb); clear BK849; clear BK850; clear HB; have HO853 := n0_; have HO857 := n1_; have BK849 := n2_; have BK850 := n3_; have HB := n4_; clear n0_ n1_ n2_ n3_ n4_; (try clear hb); (try clear hb2); (try clear hk); (try clear hi); (try clear ho0); (try clear ho1)) | ((with_reducible refine gate_dst (N := 4) rfl ?_); refine box_event ?hg (N := 4) ?hd (cs := #[.slice none 0 0, .int .i64 0, .slice none 0 0]) (t := 30) ?hr ?_; (case hd => rfl); (case hg => rfl); (case hr => first | (go_simp; done) | (go_simp; rfl)); intro gb858 hg w10 hbox hb; have n0_ := Aside0.mk (Kd.R_below (oR HO853) hb); have n1_ := Aside0.mk (Kd.R_below (oR HO857) hb); have n2_ := Aside0.mk (blk_below (g := gb849) (o := .cells #[.slice A0_0 l0_0.length c0_0, .int .i64 a0_1, .slice A0_2 l0_2.length c0_2] 30 (0, 0)) (oK BK849) hb); have n3_ := Aside0.mk (blk_below (g := gb850) (o := .cells #[.slice none 0 0, .int .i64 0, .slice none 0 0] 30 (0, 0)) (oK BK850) hb); have n4_ := Aside0.mk (below_step (oB HB) hb); have n5_ := Aside0.mk (hbox); have n6_ := Aside0.mk ((by rw [hg]; exact (below_size (oB HB)) : w.heap.size ≤ gb858)); have n7_ := Aside0.mk ((by rw [hg]; exact (below_size (oB HB)) : w.heap.size ≤ gb858)); have n8_ := Aside0.mk ((by rw [hg]; exact Nat.ne_of_lt (blk_lt (g := gb849) (o := .cells #[.slice A0_0 l0_0.length c0_0, .int .i64 a0_1, .slice A0_2 l0_2.length c0_2] 30 (0, 0)) (oK BK849)) : gb849 ≠ gb858)); have n9_ := Aside0.mk ((by rw [hg]; exact Nat.ne_of_gt (blk_lt (g := gb849) (o := .cells #[.slice A0_0 l0_0.length c0_0, .int .i64 a0_1, .slice A0_2 l0_2.length c0_2] 30 (0, 0)) (oK BK849)) : gb858 ≠ gb849)); have n10_ := Aside0.mk ((by rw [hg]; exact Nat.ne_of_lt (blk_lt (g := gb850) (o := .cells #[.slice none 0 0, .int .i64 0, .slice none 0 0] 30 (0, 0)) (oK BK850)) : gb850 ≠ gb858)); have n11_ := Aside0.mk ((by rw [hg]; exact Nat.ne_of_gt (blk_lt (g := gb850) (o := .cells #[.slice none 0 0, .int .i64 0, .slice none 0 0] 30 (0, 0)) (oK BK850)) : gb858 ≠ gb850)); clear HO853; clear HO857; clear BK849; clear BK850; clear HB; have HO853 := n0_; have HO857 := n1_; have BK849 := n2_; have BK850 := n3_; have HB := n4_; have BK858 := n5_; have GW858 := n6_; have GE858 := n7_; have NB849_858 := n8_; have NB858_849 := n9_; have NB850_858 := n10_; have NB858_850 := n11_; clear n0_ n1_ n2_ n3_ n4_ n5_ n6_ n7_ n8_ n9_ n10_ n11_; clear hb hbox hg; obtain ⟨Ao11, co11, eo11⟩ := Kd.R_slice HO853.out; subst eo11; have hnb12 := NB858_849.out; have hnc12 := NB849_858.out; have hnb13 := NB858_850.out; have hnc13 := NB850_858.out; have hcz14_0 : w10.cell? ⟨gb858, 0, none⟩ = some (.slice none 0 0) := (blk_cell BK858.out 0).trans rfl; have hcz14_1 : w10.cell? ⟨gb858, 1, none⟩ = some (.int .i64 0) := (blk_cell BK858.out 1).trans rfl; have hcz14_2 : w10.cell? ⟨gb858, 2, none⟩ = some (.slice none 0 0) := (blk_cell BK858.out 2).trans rfl; have hfz14_0 := blk_frozen BK858.out 0; have hfz14_1 := blk_frozen BK858.out 1; have hfz14_2 := blk_frozen BK858.out 2; obtain ⟨Ao15, co15, eo15⟩ := Kd.R_slice HO857.out; subst eo15; have hcz16_0 : w10.cell? ⟨gb849, 0, none⟩ = some (.slice A0_0 l0_0.length c0_0) := (blk_cell BK849.out 0).trans rfl; have hcz16_1 : w10.cell? ⟨gb849, 1, none⟩ = some (.int .i64 a0_1) := (blk_cell BK849.out 1).trans rfl; have hcz16_2 : w10.cell? ⟨gb849, 2, none⟩ = some (.slice A0_2 l0_2.length c0_2) := (blk_cell BK849.out 2).trans rfl; have hfz16_0 := blk_frozen BK849.out 0; have hfz16_1 := blk_frozen BK849.out 1; have hfz16_2 := blk_frozen BK849.out 2) | ((with_reducible refine gate_callee (f := 34) rfl ?_); refine goesL_ (some 11) rfl rfl Try.func34 (by kernel_rfl) rfl #[.agg #[.slice A0_0 l0_0.length c0_0, .int .i64 a0_1, .slice A0_2 l0_2.length c0_2]] rfl (by (try simp only [List.map_toArray, List.map_cons, List.map_nil]); first | done | rfl | (simp only [List.length_drop, List.length_take]; rfl)) ?_; (with_reducible refine (spec_WrongSteps.calls k _ _ l0_0 a0_1 _ _ l0_2 t859 _ ?side1 ?side2 ?side3 ?side4 A3.out).mono ?_); (case side1 => exact Kd.C_below HR0_0.out (oB HB)); (case side2 => exact HC0_0.out); (case side3 => exact Kd.C_below HR0_2.out (oB HB)); (case side4 => exact HC0_2.out); rintro e w17 ⟨v860, rfl, ho0, hb⟩; refine ⟨_, rfl, ?_⟩; have n0_ := Aside0.mk (Kd.R_below (by (with_reducible repeat (first | apply Kd.R_alloc | apply Kd.R_drewN | apply Kd.R_drew)); exact (Kd.R_mono (Kd.R_far (p := ⟨gb858, 2, none⟩) (Kd.R_far (p := ⟨gb858, 1, none⟩) (Kd.R_far (p := ⟨gb858, 0, none⟩) (Kd.R_types HO853.out BK858.out (by decide)) (fun _ hk => hk.2) (.slice Ao11 t851.length co11)) (fun _ hk => hk.2) (.int .i64 t854)) (fun _ hk => hk.2) (.slice Ao15 t855.length co15)) (fun _ h_ => h_.1))) hb); have n1_ := Aside0.mk (Kd.R_elder' (by (with_reducible repeat (first | apply Kd.R_alloc | apply Kd.R_drewN | apply Kd.R_drew)); exact (Kd.R_mono (Kd.R_far (p := ⟨gb858, 2, none⟩) (Kd.R_far (p := ⟨gb858, 1, none⟩) (Kd.R_far (p := ⟨gb858, 0, none⟩) (Kd.R_types HO857.out BK858.out (by decide)) (fun _ hk => hk.2) (.slice Ao11 t851.length co11)) (fun _ hk => hk.2) (.int .i64 t854)) (fun _ hk => hk.2) (.slice Ao15 t855.length co15)) (fun _ h_ => h_.1))) (Kd.R_base ho0) hb); have n2_ := Aside0.mk (Kd.R_lower (Kd.R_new' ho0 (Kd.R_lt (by (with_reducible repeat (first | apply Kd.R_alloc | apply Kd.R_drewN | apply Kd.R_drew)); exact (Kd.R_mono (Kd.R_far (p := ⟨gb858, 2, none⟩) (Kd.R_far (p := ⟨gb858, 1, none⟩) (Kd.R_far (p := ⟨gb858, 0, none⟩) (Kd.R_types HO857.out BK858.out (by decide)) (fun _ hk => hk.2) (.slice Ao11 t851.length co11)) (fun _ hk => hk.2) (.int .i64 t854)) (fun _ hk => hk.2) (.slice Ao15 t855.length co15)) (fun _ h_ => h_.1))))) (below_size (oB HB))); have n3_ := Aside0.mk (blk_below (g := gb849) (o := .cells #[.slice A0_0 l0_0.length c0_0, .int .i64 a0_1, .slice A0_2 l0_2.length c0_2] 30 (0, 0)) (by (with_reducible repeat (first | refine blk_drewN ?_ _ | refine blk_drew ?_ | refine blk_alloc ?_ _)); refine blk_far ?_ NB849_858.out _; (with_reducible repeat (first | refine blk_drewN ?_ _ | refine blk_drew ?_ | refine blk_alloc ?_ _)); refine blk_far ?_ NB849_858.out _; (with_reducible repeat (first | refine blk_drewN ?_ _ | refine blk_drew ?_ | refine blk_alloc ?_ _)); refine blk_far ?_ NB849_858.out _; (with_reducible repeat (first | refine blk_drewN ?_ _ | refine blk_drew ?_ | refine blk_alloc ?_ _)); exact BK849.out) hb); have n4_ := Aside0.mk (blk_below (g := gb850) (o := .cells #[.slice none 0 0, .int .i64 0, .slice none 0 0] 30 (0, 0)) (by (with_reducible repeat (first | refine blk_drewN ?_ _ | refine blk_drew ?_ | refine blk_alloc ?_ _)); refine blk_far ?_ NB850_858.out _; (with_reducible repeat (first | refine blk_drewN ?_ _ | refine blk_drew ?_ | refine blk_alloc ?_ _)); refine blk_far ?_ NB850_858.out _; (with_reducible repeat (first | refine blk_drewN ?_ _ | refine blk_drew ?_ | refine blk_alloc ?_ _)); refine blk_far ?_ NB850_858.out _; (with_reducible repeat (first | refine blk_drewN ?_ _ | refine blk_drew ?_ | refine blk_alloc ?_ _)); exact BK850.out) hb); have n5_ := Aside0.mk (blk_below (g := gb858) (o := .cells #[.slice Ao11 t851.length co11, .int .i64 t854, .slice Ao15 t855.length co15] 30 (0, 0)) (by (with_reducible repeat (first | refine blk_drewN ?_ _ | refine blk_drew ?_ | refine blk_alloc ?_ _)); refine blk_put (cs := #[.slice Ao11 t851.length co11, .int .i64 t854, .slice none 0 0]) ?_ 2 _ rfl; (with_reducible repeat (first | refine blk_drewN ?_ _ | refine blk_drew ?_ | refine blk_alloc ?_ _)); refine blk_put (cs := #[.slice Ao11 t851.length co11, .int .i64 0, .slice none 0 0]) ?_ 1 _ rfl; (with_reducible repeat (first | refine blk_drewN ?_ _ | refine blk_drew ?_ | refine blk_alloc ?_ _)); refine blk_put (cs := #[.slice none 0 0, .int .i64 0, .slice none 0 0]) ?_ 0 _ rfl; (with_reducible repeat (first | refine blk_drewN ?_ _ | refine blk_drew ?_ | refine blk_alloc ?_ _)); exact BK858.out) hb); have n6_ := Aside0.mk (below_step (oB HB) hb); clear HO853; clear HO857; clear BK849; clear BK850; clear BK858; clear HB; have HO853 := n0_; have HO857 := n1_; have HO861 := n2_; have BK849 := n3_; have BK850 := n4_; have BK858 := n5_; have HB := n6_; clear n0_ n1_ n2_ n3_ n4_ n5_ n6_; (try clear hb); (try clear hb2); (try clear hk); (try clear hi); (try clear ho0); obtain ⟨Ao18, co18, eo18⟩ := Kd.R_slice HO861.out; subst eo18; have hcz19_0 : w17.cell? ⟨gb858, 0, none⟩ = some (.slice Ao11 t851.length co11) := (blk_cell BK858.out 0).trans rfl; have hcz19_1 : w17.cell? ⟨gb858, 1, none⟩ = some (.int .i64 t854) := (blk_cell BK858.out 1).trans rfl; have hcz19_2 : w17.cell? ⟨gb858, 2, none⟩ = some (.slice Ao15 t855.length co15) := (blk_cell BK858.out 2).trans rfl; have hfz19_0 := blk_frozen BK858.out 0; have hfz19_1 := blk_frozen BK858.out 1; have hfz19_2 := blk_frozen BK858.out 2; have hcz20_0 : w17.cell? ⟨gb850, 0, none⟩ = some (.slice none 0 0) := (blk_cell BK850.out 0).trans rfl; have hcz20_1 : w17.cell? ⟨gb850, 1, none⟩ = some (.int .i64 0) := (blk_cell BK850.out 1).trans rfl; have hcz20_2 : w17.cell? ⟨gb850, 2, none⟩ = some (.slice none 0 0) := (blk_cell BK850.out 2).trans rfl; have hfz20_0 := blk_frozen BK850.out 0; have hfz20_1 := blk_frozen BK850.out 1; have hfz20_2 := blk_frozen BK850.out 2))
    refine bodyPost_ret (results_ct rfl _ _ gb850 30 #[.slice Ao11 t851.length co11, .int .i64 t854, .slice Ao15 t855.length co15] (0, 0) _ rfl (by (with_reducible repeat (first | refine blk_drewN ?_ _ | refine blk_drew ?_ | refine blk_alloc ?_ _)); refine blk_put (cs := #[.slice Ao11 t851.length co11, .int .i64 t854, .slice none 0 0]) ?_ 2 _ rfl; (with_reducible repeat (first | refine blk_drewN ?_ _ | refine blk_drew ?_ | refine blk_alloc ?_ _)); refine blk_put (cs := #[.slice Ao11 t851.length co11, .int .i64 0, .slice none 0 0]) ?_ 1 _ rfl; (with_reducible repeat (first | refine blk_drewN ?_ _ | refine blk_drew ?_ | refine blk_alloc ?_ _)); refine blk_put (cs := #[.slice none 0 0, .int .i64 0, .slice none 0 0]) ?_ 0 _ rfl; (with_reducible repeat (first | refine blk_drewN ?_ _ | refine blk_drew ?_ | refine blk_alloc ?_ _)); exact BK850.out) Try.underlying30 rfl (by kernel_rfl)) rfl ?_
    exact ⟨_, _, by first | rfl | (simp [errW_none, errW_some] <;> rfl) | (simp [*, errW_none, errW_some] <;> rfl), by (with_reducible repeat (first | apply Kd.R_alloc | apply Kd.R_drewN | apply Kd.R_drew)); exact Kd.R_mono (Kd.R_far (p := ⟨gb850, 2, none⟩) (Kd.R_far (p := ⟨gb850, 1, none⟩) (Kd.R_far (p := ⟨gb850, 0, none⟩) (Kd.R_types HO853.out BK850.out (by decide)) (fun _ hk => hk.2) (.slice Ao11 t851.length co11)) (fun _ hk => hk.2) (.int .i64 t854)) (fun _ hk => hk.2) (.slice Ao15 t855.length co15)) (fun _ hk => trivial), by (with_reducible repeat (first | apply Kd.R_alloc | apply Kd.R_drewN | apply Kd.R_drew)); exact Kd.R_mono (Kd.R_far (p := ⟨gb850, 2, none⟩) (Kd.R_far (p := ⟨gb850, 1, none⟩) (Kd.R_far (p := ⟨gb850, 0, none⟩) (Kd.R_types HO857.out BK850.out (by decide)) (fun _ hk => hk.2) (.slice Ao11 t851.length co11)) (fun _ hk => hk.2) (.int .i64 t854)) (fun _ hk => hk.2) (.slice Ao15 t855.length co15)) (fun _ hk => trivial), oB HB⟩
  · rw [if_neg c4] at H
    have c4b0 : ((t859.length : Int) == 0) = false := beq_eq_false_iff_ne.mpr c4
    have c4b1 : ((t859.length : Int) != 0) = true := bne_iff_ne.mpr c4
    have c4b2 : ¬ (t859 = []) := fun h_ => c4 (by rw [h_]; rfl)
    by_cases c21 : 0 < (t859.length : Int)
    · rw [if_pos c21] at H
      have c21b0 : decide (0 < (t859.length : Int)) = true := decide_eq_true c21
      have c21b1 : decide (0 < t859.length) = true := decide_eq_true (by omega)
      clear c21
      by_cases c22 : 0 ≤ (rd t859 0)
      · rw [if_pos c22] at H
        have c22b0 : decide (0 ≤ (rd t859 0)) = true := decide_eq_true c22
        clear c22
        by_cases c23 : (rd t859 0) < (l0_0.length : Int)
        · rw [if_pos c23] at H
          have c23b0 : decide ((rd t859 0) < (l0_0.length : Int)) = true := decide_eq_true c23
          clear c23
          by_cases c24 : 0 ≤ ((rd_T67 l0_0 (rd t859 0)).f0)
          · rw [if_pos c24] at H
            have c24b0 : decide (0 ≤ ((rd_T67 l0_0 (rd t859 0)).f0)) = true := decide_eq_true c24
            clear c24
            by_cases c25 : ((rd_T67 l0_0 (rd t859 0)).f0) < (l0_2.length : Int)
            · rw [if_pos c25] at H
              have c25b0 : decide (((rd_T67 l0_0 (rd t859 0)).f0) < (l0_2.length : Int)) = true := decide_eq_true c25
              clear c25
              replace H := Option.bind_eq_some_iff.mp H
              obtain ⟨t866, A260, H⟩ := H
              (try dsimp only at H)
              have A26 := Aside0.mk A260
              clear A260
              by_cases c27 : t866 = 0
              · rw [if_pos c27] at H
                have c27b0 : (t866 == 0) = true := beq_iff_eq.mpr c27
                have c27b1 : (t866 != 0) = false := bne_eq_false_iff_eq.mpr c27
                clear c27
                simp only [Option.some.injEq, Prod.mk.injEq] at H
                obtain ⟨rfl, rfl, rfl, rfl⟩ := H
                go_enter Try.func43, Try.ntmps43
                try go_wp2_with (first | ((with_reducible refine gate_dst (N := 1) rfl ?_); refine box_event ?hg (N := 1) ?hd (cs := #[.slice A0_0 l0_0.length c0_0, .int .i64 a0_1, .slice A0_2 l0_2.length c0_2]) (t := 30) ?hr ?_; (case hd => rfl); (case hg => rfl); (case hr => first | (go_simp; done) | (go_simp; rfl)); intro gb849 hg w28 hbox hb; have n0_ := Aside0.mk (below_step (oB HB) hb); have n1_ := Aside0.mk (hbox); have n2_ := Aside0.mk ((by rw [hg]; exact (below_size (oB HB)) : w.heap.size ≤ gb849)); have n3_ := Aside0.mk ((by rw [hg]; exact (below_size (oB HB)) : w.heap.size ≤ gb849)); clear HB; have HB := n0_; have BK849 := n1_; have GW849 := n2_; have GE849 := n3_; clear n0_ n1_ n2_ n3_; clear hb hbox hg) | ((with_reducible refine gate_dst (N := 2) rfl ?_); refine box_event ?hg (N := 2) ?hd (cs := #[.slice none 0 0, .int .i64 0, .slice none 0 0]) (t := 30) ?hr ?_; (case hd => rfl); (case hg => rfl); (case hr => first | (go_simp; done) | (go_simp; rfl)); intro gb850 hg w29 hbox hb; have n0_ := Aside0.mk (blk_below (g := gb849) (o := .cells #[.slice A0_0 l0_0.length c0_0, .int .i64 a0_1, .slice A0_2 l0_2.length c0_2] 30 (0, 0)) (oK BK849) hb); have n1_ := Aside0.mk (below_step (oB HB) hb); have n2_ := Aside0.mk (hbox); have n3_ := Aside0.mk ((by rw [hg]; exact (below_size (oB HB)) : w.heap.size ≤ gb850)); have n4_ := Aside0.mk ((by rw [hg]; exact (below_size (oB HB)) : w.heap.size ≤ gb850)); have n5_ := Aside0.mk ((by rw [hg]; exact Nat.ne_of_lt (blk_lt (g := gb849) (o := .cells #[.slice A0_0 l0_0.length c0_0, .int .i64 a0_1, .slice A0_2 l0_2.length c0_2] 30 (0, 0)) (oK BK849)) : gb849 ≠ gb850)); have n6_ := Aside0.mk ((by rw [hg]; exact Nat.ne_of_gt (blk_lt (g := gb849) (o := .cells #[.slice A0_0 l0_0.length c0_0, .int .i64 a0_1, .slice A0_2 l0_2.length c0_2] 30 (0, 0)) (oK BK849)) : gb850 ≠ gb849)); clear BK849; clear HB; have BK849 := n0_; have HB := n1_; have BK850 := n2_; have GW850 := n3_; have GE850 := n4_; have NB849_850 := n5_; have NB850_849 := n6_; clear n0_ n1_ n2_ n3_ n4_ n5_ n6_; clear hb hbox hg; have hnb30 := NB849_850.out; have hnc30 := NB850_849.out; have hcz31_0 : w29.cell? ⟨gb849, 0, none⟩ = some (.slice A0_0 l0_0.length c0_0) := (blk_cell BK849.out 0).trans rfl; have hcz31_1 : w29.cell? ⟨gb849, 1, none⟩ = some (.int .i64 a0_1) := (blk_cell BK849.out 1).trans rfl; have hcz31_2 : w29.cell? ⟨gb849, 2, none⟩ = some (.slice A0_2 l0_2.length c0_2) := (blk_cell BK849.out 2).trans rfl; have hfz31_0 := blk_frozen BK849.out 0; have hfz31_1 := blk_frozen BK849.out 1; have hfz31_2 := blk_frozen BK849.out 2) | ((with_reducible refine gate_callee (f := 68) rfl ?_); refine goesL_ (some 9) rfl rfl Try.func68 (by kernel_rfl) rfl #[.agg #[.slice A0_0 l0_0.length c0_0, .int .i64 a0_1, .slice A0_2 l0_2.length c0_2]] rfl (by (try simp only [List.map_toArray, List.map_cons, List.map_nil]); first | done | rfl | (simp only [List.length_drop, List.length_take]; rfl)) ?_; (with_reducible refine (spec_l36Copy.calls _ _ l0_0 a0_1 _ _ l0_2 t851 t854 t855 _ ?side1 ?side2 ?side3 ?side4 A2.out).mono ?_); (case side1 => exact oc_ HR0_0.out); (case side2 => exact HC0_0.out); (case side3 => exact oc_ HR0_2.out); (case side4 => exact HC0_2.out); rintro e w32 ⟨v852, v856, rfl, ho0, ho1, hb⟩; refine ⟨_, rfl, ?_⟩; have n0_ := Aside0.mk (Kd.R_lower ho0 (below_size (oB HB))); have n1_ := Aside0.mk (Kd.R_lower ho1 (below_size (oB HB))); have n2_ := Aside0.mk (blk_below (g := gb849) (o := .cells #[.slice A0_0 l0_0.length c0_0, .int .i64 a0_1, .slice A0_2 l0_2.length c0_2] 30 (0, 0)) (oK BK849) hb); have n3_ := Aside0.mk (blk_below (g := gb850) (o := .cells #[.slice none 0 0, .int .i64 0, .slice none 0 0] 30 (0, 0)) (oK BK850) hb); have n4_ := Aside0.mk (below_step (oB HB) hb); clear BK849; clear BK850; clear HB; have HO853 := n0_; have HO857 := n1_; have BK849 := n2_; have BK850 := n3_; have HB := n4_; clear n0_ n1_ n2_ n3_ n4_; (try clear hb); (try clear hb2); (try clear hk); (try clear hi); (try clear ho0); (try clear ho1)) | ((with_reducible refine gate_dst (N := 4) rfl ?_); refine box_event ?hg (N := 4) ?hd (cs := #[.slice none 0 0, .int .i64 0, .slice none 0 0]) (t := 30) ?hr ?_; (case hd => rfl); (case hg => rfl); (case hr => first | (go_simp; done) | (go_simp; rfl)); intro gb858 hg w33 hbox hb; have n0_ := Aside0.mk (Kd.R_below (oR HO853) hb); have n1_ := Aside0.mk (Kd.R_below (oR HO857) hb); have n2_ := Aside0.mk (blk_below (g := gb849) (o := .cells #[.slice A0_0 l0_0.length c0_0, .int .i64 a0_1, .slice A0_2 l0_2.length c0_2] 30 (0, 0)) (oK BK849) hb); have n3_ := Aside0.mk (blk_below (g := gb850) (o := .cells #[.slice none 0 0, .int .i64 0, .slice none 0 0] 30 (0, 0)) (oK BK850) hb); have n4_ := Aside0.mk (below_step (oB HB) hb); have n5_ := Aside0.mk (hbox); have n6_ := Aside0.mk ((by rw [hg]; exact (below_size (oB HB)) : w.heap.size ≤ gb858)); have n7_ := Aside0.mk ((by rw [hg]; exact (below_size (oB HB)) : w.heap.size ≤ gb858)); have n8_ := Aside0.mk ((by rw [hg]; exact Nat.ne_of_lt (blk_lt (g := gb849) (o := .cells #[.slice A0_0 l0_0.length c0_0, .int .i64 a0_1, .slice A0_2 l0_2.length c0_2] 30 (0, 0)) (oK BK849)) : gb849 ≠ gb858)); have n9_ := Aside0.mk ((by rw [hg]; exact Nat.ne_of_gt (blk_lt (g := gb849) (o := .cells #[.slice A0_0 l0_0.length c0_0, .int .i64 a0_1, .slice A0_2 l0_2.length c0_2] 30 (0, 0)) (oK BK849)) : gb858 ≠ gb849)); have n10_ := Aside0.mk ((by rw [hg]; exact Nat.ne_of_lt (blk_lt (g := gb850) (o := .cells #[.slice none 0 0, .int .i64 0, .slice none 0 0] 30 (0, 0)) (oK BK850)) : gb850 ≠ gb858)); have n11_ := Aside0.mk ((by rw [hg]; exact Nat.ne_of_gt (blk_lt (g := gb850) (o := .cells #[.slice none 0 0, .int .i64 0, .slice none 0 0] 30 (0, 0)) (oK BK850)) : gb858 ≠ gb850)); clear HO853; clear HO857; clear BK849; clear BK850; clear HB; have HO853 := n0_; have HO857 := n1_; have BK849 := n2_; have BK850 := n3_; have HB := n4_; have BK858 := n5_; have GW858 := n6_; have GE858 := n7_; have NB849_858 := n8_; have NB858_849 := n9_; have NB850_858 := n10_; have NB858_850 := n11_; clear n0_ n1_ n2_ n3_ n4_ n5_ n6_ n7_ n8_ n9_ n10_ n11_; clear hb hbox hg; obtain ⟨Ao34, co34, eo34⟩ := Kd.R_slice HO853.out; subst eo34; have hnb35 := NB858_849.out; have hnc35 := NB849_858.out; have hnb36 := NB858_850.out; have hnc36 := NB850_858.out; have hcz37_0 : w33.cell? ⟨gb858, 0, none⟩ = some (.slice none 0 0) := (blk_cell BK858.out 0).trans rfl; have hcz37_1 : w33.cell? ⟨gb858, 1, none⟩ = some (.int .i64 0) := (blk_cell BK858.out 1).trans rfl; have hcz37_2 : w33.cell? ⟨gb858, 2, none⟩ = some (.slice none 0 0) := (blk_cell BK858.out 2).trans rfl; have hfz37_0 := blk_frozen BK858.out 0; have hfz37_1 := blk_frozen BK858.out 1; have hfz37_2 := blk_frozen BK858.out 2; obtain ⟨Ao38, co38, eo38⟩ := Kd.R_slice HO857.out; subst eo38; have hcz39_0 : w33.cell? ⟨gb849, 0, none⟩ = some (.slice A0_0 l0_0.length c0_0) := (blk_cell BK849.out 0).trans rfl; have hcz39_1 : w33.cell? ⟨gb849, 1, none⟩ = some (.int .i64 a0_1) := (blk_cell BK849.out 1).trans rfl; have hcz39_2 : w33.cell? ⟨gb849, 2, none⟩ = some (.slice A0_2 l0_2.length c0_2) := (blk_cell BK849.out 2).trans rfl; have hfz39_0 := blk_frozen BK849.out 0; have hfz39_1 := blk_frozen BK849.out 1; have hfz39_2 := blk_frozen BK849.out 2) | ((with_reducible refine gate_callee (f := 34) rfl ?_); refine goesL_ (some 11) rfl rfl Try.func34 (by kernel_rfl) rfl #[.agg #[.slice A0_0 l0_0.length c0_0, .int .i64 a0_1, .slice A0_2 l0_2.length c0_2]] rfl (by (try simp only [List.map_toArray, List.map_cons, List.map_nil]); first | done | rfl | (simp only [List.length_drop, List.length_take]; rfl)) ?_; (with_reducible refine (spec_WrongSteps.calls k _ _ l0_0 a0_1 _ _ l0_2 t859 _ ?side1 ?side2 ?side3 ?side4 A3.out).mono ?_); (case side1 => exact Kd.C_below HR0_0.out (oB HB)); (case side2 => exact HC0_0.out); (case side3 => exact Kd.C_below HR0_2.out (oB HB)); (case side4 => exact HC0_2.out); rintro e w40 ⟨v860, rfl, ho0, hb⟩; refine ⟨_, rfl, ?_⟩; have n0_ := Aside0.mk (Kd.R_below (by (with_reducible repeat (first | apply Kd.R_alloc | apply Kd.R_drewN | apply Kd.R_drew)); exact (Kd.R_mono (Kd.R_far (p := ⟨gb858, 2, none⟩) (Kd.R_far (p := ⟨gb858, 1, none⟩) (Kd.R_far (p := ⟨gb858, 0, none⟩) (Kd.R_types HO853.out BK858.out (by decide)) (fun _ hk => hk.2) (.slice Ao34 t851.length co34)) (fun _ hk => hk.2) (.int .i64 t854)) (fun _ hk => hk.2) (.slice Ao38 t855.length co38)) (fun _ h_ => h_.1))) hb); have n1_ := Aside0.mk (Kd.R_elder' (by (with_reducible repeat (first | apply Kd.R_alloc | apply Kd.R_drewN | apply Kd.R_drew)); exact (Kd.R_mono (Kd.R_far (p := ⟨gb858, 2, none⟩) (Kd.R_far (p := ⟨gb858, 1, none⟩) (Kd.R_far (p := ⟨gb858, 0, none⟩) (Kd.R_types HO857.out BK858.out (by decide)) (fun _ hk => hk.2) (.slice Ao34 t851.length co34)) (fun _ hk => hk.2) (.int .i64 t854)) (fun _ hk => hk.2) (.slice Ao38 t855.length co38)) (fun _ h_ => h_.1))) (Kd.R_base ho0) hb); have n2_ := Aside0.mk (Kd.R_lower (Kd.R_new' ho0 (Kd.R_lt (by (with_reducible repeat (first | apply Kd.R_alloc | apply Kd.R_drewN | apply Kd.R_drew)); exact (Kd.R_mono (Kd.R_far (p := ⟨gb858, 2, none⟩) (Kd.R_far (p := ⟨gb858, 1, none⟩) (Kd.R_far (p := ⟨gb858, 0, none⟩) (Kd.R_types HO857.out BK858.out (by decide)) (fun _ hk => hk.2) (.slice Ao34 t851.length co34)) (fun _ hk => hk.2) (.int .i64 t854)) (fun _ hk => hk.2) (.slice Ao38 t855.length co38)) (fun _ h_ => h_.1))))) (below_size (oB HB))); have n3_ := Aside0.mk (blk_below (g := gb849) (o := .cells #[.slice A0_0 l0_0.length c0_0, .int .i64 a0_1, .slice A0_2 l0_2.length c0_2] 30 (0, 0)) (by (with_reducible repeat (first | refine blk_drewN ?_ _ | refine blk_drew ?_ | refine blk_alloc ?_ _)); refine blk_far ?_ NB849_858.out _; (with_reducible repeat (first | refine blk_drewN ?_ _ | refine blk_drew ?_ | refine blk_alloc ?_ _)); refine blk_far ?_ NB849_858.out _; (with_reducible repeat (first | refine blk_drewN ?_ _ | refine blk_drew ?_ | refine blk_alloc ?_ _)); refine blk_far ?_ NB849_858.out _; (with_reducible repeat (first | refine blk_drewN ?_ _ | refine blk_drew ?_ | refine blk_alloc ?_ _)); exact BK849.out) hb); have n4_ := Aside0.mk (blk_below (g := gb850) (o := .cells #[.slice none 0 0, .int .i64 0, .slice none 0 0] 30 (0, 0)) (by (with_reducible repeat (first | refine blk_drewN ?_ _ | refine blk_drew ?_ | refine blk_alloc ?_ _)); refine blk_far ?_ NB850_858.out _; (with_reducible repeat (first | refine blk_drewN ?_ _ | refine blk_drew ?_ | refine blk_alloc ?_ _)); refine blk_far ?_ NB850_858.out _; (with_reducible repeat (first | refine blk_drewN ?_ _ | refine blk_drew ?_ | refine blk_alloc ?_ _)); refine blk_far ?_ NB850_858.out _; (with_reducible repeat (first | refine blk_drewN ?_ _ | refine blk_drew ?_ | refine blk_alloc ?_ _)); exact BK850.out) hb); have n5_ := Aside0.mk (blk_below (g := gb858) (o := .cells #[.slice Ao34 t851.length co34, .int .i64 t854, .slice Ao38 t855.length co38] 30 (0, 0)) (by (with_reducible repeat (first | refine blk_drewN ?_ _ | refine blk_drew ?_ | refine blk_alloc ?_ _)); refine blk_put (cs := #[.slice Ao34 t851.length co34, .int .i64 t854, .slice none 0 0]) ?_ 2 _ rfl; (with_reducible repeat (first | refine blk_drewN ?_ _ | refine blk_drew ?_ | refine blk_alloc ?_ _)); refine blk_put (cs := #[.slice Ao34 t851.length co34, .int .i64 0, .slice none 0 0]) ?_ 1 _ rfl; (with_reducible repeat (first | refine blk_drewN ?_ _ | refine blk_drew ?_ | refine blk_alloc ?_ _)); refine blk_put (cs := #[.slice none 0 0, .int .i64 0, .slice none 0 0]) ?_ 0 _ rfl; (with_reducible repeat (first | refine blk_drewN ?_ _ | refine blk_drew ?_ | refine blk_alloc ?_ _)); exact BK858.out) hb); have n6_ := Aside0.mk (below_step (oB HB) hb); clear HO853; clear HO857; clear BK849; clear BK850; clear BK858; clear HB; have HO853 := n0_; have HO857 := n1_; have HO861 := n2_; have BK849 := n3_; have BK850 := n4_; have BK858 := n5_; have HB := n6_; clear n0_ n1_ n2_ n3_ n4_ n5_ n6_; (try clear hb); (try clear hb2); (try clear hk); (try clear hi); (try clear ho0); obtain ⟨Ao41, co41, eo41⟩ := Kd.R_slice HO861.out; subst eo41))
                have n0_ := Aside0.mk (Kd.R_drew HO853.out)
                have n1_ := Aside0.mk (Kd.R_drew HO857.out)
                have n2_ := Aside0.mk (Kd.R_drew HO861.out)
                have n3_ := Aside0.mk (blk_drew BK849.out)
                have n4_ := Aside0.mk (blk_drew BK850.out)
                have n5_ := Aside0.mk (blk_drew BK858.out)
                have n6_ := Aside0.mk (below_drew1 HB.out)
                clear HO853
                clear HO857
                clear HO861
                clear BK849
                clear BK850
                clear BK858
                clear HB
                have HO853 := n0_
                have HO857 := n1_
                have HO861 := n2_
                have BK849 := n3_
                have BK850 := n4_
                have BK858 := n5_
                have HB := n6_
                clear n0_ n1_ n2_ n3_ n4_ n5_ n6_
                have p862 : 0 ≤ (0 : Int) := (by omega)
                have q862 : 0 < (t859.length : Int) := of_decide_eq_true (by first | (with_reducible assumption) | assumption)
                obtain ⟨ad862, e862, hx862_0⟩ := Kd.at_int (Kd.R_reads' HO861.out).2.2 0 p862 q862
                cases e862
                have qi862 : (0 < t859.length) = True := eq_true (by omega)
                (try rw [show ((0 : Int)).toNat = 0 from rfl] at hx862_0)
                (try rw [Addr.add_zero'] at hx862_0)
                replace p862 := eq_true p862
                replace q862 := eq_true q862
                have p863 : 0 ≤ ((rd t859 0) : Int) := of_decide_eq_true (by first | (with_reducible assumption) | assumption)
                have q863 : (rd t859 0) < (l0_0.length : Int) := of_decide_eq_true (by first | (with_reducible assumption) | assumption)
                obtain ⟨ad863, e863, hx863_0, hx863_1, hx863_2, hx863_3⟩ := at_T67 HR0_0.out (rd t859 0) p863 q863
                have hw863_3 := hx863_3
                have hw863_2 := hx863_2
                have hw863_1 := hx863_1
                have hw863_0 := hx863_0
                cases e863
                replace hx863_0 := (HB.out.cell (World.block_lt_of_cell? w _ hx863_0)).trans hx863_0
                replace hx863_1 := (HB.out.cell (World.block_lt_of_cell? w _ hx863_1)).trans hx863_1
                replace hx863_2 := (HB.out.cell (World.block_lt_of_cell? w _ hx863_2)).trans hx863_2
                replace hx863_3 := (HB.out.cell (World.block_lt_of_cell? w _ hx863_3)).trans hx863_3
                replace p863 := eq_true p863
                replace q863 := eq_true q863
                refine start_ (n := 9) (S := fun w' => w'.cell? ⟨gb849, 0, none⟩ = some (.slice (some ad863) l0_0.length c0_0) ∧ w'.cell? ⟨gb849, 1, none⟩ = some (.int .i64 a0_1) ∧ w'.cell? ⟨gb849, 2, none⟩ = some (.slice A0_2 l0_2.length c0_2) ∧ w'.cell? ad862 = some (.int .i64 (rd t859 0)) ∧ w'.cell? (ad863.add (((rd t859 0)).toNat * 4)) = some (.int .i64 ((rd_T67 l0_0 (rd t859 0)).f0)) ∧ w'.cell? ⟨(ad863.add (((rd t859 0)).toNat * 4)).block, (ad863.add (((rd t859 0)).toNat * 4)).off + 1, none⟩ = some (.int .i64 ((rd_T67 l0_0 (rd t859 0)).f1)) ∧ w'.cell? ⟨(ad863.add (((rd t859 0)).toNat * 4)).block, (ad863.add (((rd t859 0)).toNat * 4)).off + 2, none⟩ = some (.int .i64 ((rd_T67 l0_0 (rd t859 0)).f2)) ∧ w'.cell? ⟨(ad863.add (((rd t859 0)).toNat * 4)).block, (ad863.add (((rd t859 0)).toNat * 4)).off + 3, none⟩ = some (.int .i64 ((rd_T67 l0_0 (rd t859 0)).f3))) (ds := []) #[false, false, false, false, false, false, false, false, false] (by kernel_rfl) rfl rfl ⟨(blk_cell BK849.out 0).trans rfl, (blk_cell BK849.out 1).trans rfl, (blk_cell BK849.out 2).trans rfl, hx862_0, ((HB.out.cell (World.block_lt_of_cell? w _ hw863_0)).trans hw863_0), ((HB.out.cell (World.block_lt_of_cell? w _ hw863_1)).trans hw863_1), ((HB.out.cell (World.block_lt_of_cell? w _ hw863_2)).trans hw863_2), ((HB.out.cell (World.block_lt_of_cell? w _ hw863_3)).trans hw863_3)⟩ (fun hHeld => ?_); refine with_tabW spec_MendStep.tab5 spec_MendStep.bits5 (fun HT_ HW_ => ?_)
                generalize w40.drew = w42 at HO853 HO857 HO861 BK849 BK850 BK858 HB hx862_0 hx863_0 hx863_1 hx863_2 hx863_3 hHeld ⊢
                refine pure_ (i := 0) (N := some 16) (v := ?_) (a' := ?_) #[true, false, false, false, false, false, false, false, false] rfl rfl (any_of HT_.out (by kernel_rfl)) (fun _ _ _ h => h) (Or.inl ⟨by rfl, ?_⟩) ?_ ?_
                rotate_left
                · intro w'
                  go_simp
                  with_reducible rfl
                rotate_left
                · simp only [Act.put, List.setIfInBounds_toArray, List.set_cons_zero, List.set_cons_succ, i64_w, i32_w]
                  rfl
                refine pure_ (i := 2) (N := some 18) (v := ?_) (a' := ?_) #[true, false, true, false, false, false, false, false, false] rfl rfl (any_of HT_.out (by kernel_rfl)) (fun _ _ _ h => h) (Or.inl ⟨by rfl, ?_⟩) ?_ ?_
                rotate_left
                · intro w'
                  go_simp
                  with_reducible rfl
                rotate_left
                · simp only [Act.put, List.setIfInBounds_toArray, List.set_cons_zero, List.set_cons_succ, i64_w, i32_w]
                  rfl
                refine pure_ (i := 3) (N := some 19) (v := ?_) (a' := ?_) #[true, false, true, true, false, false, false, false, false] rfl rfl (any_of HT_.out (by kernel_rfl)) (fun _ _ _ h => h) (Or.inl ⟨by rfl, ?_⟩) ?_ ?_
                rotate_left
                · intro w'
                  go_simp
                  with_reducible rfl
                rotate_left
                · simp only [Act.put, List.setIfInBounds_toArray, List.set_cons_zero, List.set_cons_succ, i64_w, i32_w]
                  rfl
                refine take_ (i := 1) (N := some 17) (v := ?_) (a' := ?_) #[true, true, true, true, false, false, false, false, false] rfl rfl (take_ofW HT_.out HW_.out (by kernel_rfl)) (fun _ _ _ h => h) (Or.inl ⟨by rfl, ?_⟩) hHeld ?_ ?_
                rotate_left
                · rintro w' ⟨s0, s1, s2, s3, s4, s5, s6, s7⟩
                  go_simp
                  with_reducible rfl
                rotate_left
                · simp only [Act.put, List.setIfInBounds_toArray, List.set_cons_zero, List.set_cons_succ, i64_w, i32_w]
                  rfl
                refine take_ (i := 4) (N := some 20) (v := ?_) (a' := ?_) #[true, true, true, true, true, false, false, false, false] rfl rfl (take_ofW HT_.out HW_.out (by kernel_rfl)) (fun _ _ _ h => h) (Or.inl ⟨by rfl, ?_⟩) hHeld ?_ ?_
                rotate_left
                · rintro w' ⟨s0, s1, s2, s3, s4, s5, s6, s7⟩
                  go_simp
                  with_reducible rfl
                rotate_left
                · simp only [Act.put, List.setIfInBounds_toArray, List.set_cons_zero, List.set_cons_succ, i64_w, i32_w]
                  rfl
                refine pure_ (i := 5) (N := some 21) (v := ?_) (a' := ?_) #[true, true, true, true, true, true, false, false, false] rfl rfl (any_of HT_.out (by kernel_rfl)) (fun _ _ _ h => h) (Or.inl ⟨by rfl, ?_⟩) ?_ ?_
                rotate_left
                · intro w'
                  go_simp
                  with_reducible rfl
                rotate_left
                · simp only [Act.put, List.setIfInBounds_toArray, List.set_cons_zero, List.set_cons_succ, i64_w, i32_w]
                  rfl
                refine take_ (i := 6) (N := some 22) (v := ?_) (a' := ?_) #[true, true, true, true, true, true, true, false, false] rfl rfl (take_ofW HT_.out HW_.out (by kernel_rfl)) (fun _ _ _ h => h) (Or.inl ⟨by rfl, ?_⟩) hHeld ?_ ?_
                rotate_left
                · rintro w' ⟨s0, s1, s2, s3, s4, s5, s6, s7⟩
                  go_simp
                  with_reducible rfl
                rotate_left
                · simp only [Act.put, List.setIfInBounds_toArray, List.set_cons_zero, List.set_cons_succ, i64_w, i32_w]
                  rfl
                refine one_ (i := 7) (N := some 6) #[true, true, true, true, true, true, true, true, false] rfl rfl (one_of HT_.out (by kernel_rfl)) (by decide) (fun K hK => ?_)
                refine box_step ?hg (N := 6) ?hd (cs := #[.int .i64 0, .int .i64 0, .int .i64 0, .int .i64 0]) (t := 67) ?hr ?_; (case hd => rfl); (case hg => rfl); (case hr => first | (go_simp; done) | (go_simp; rfl))
                intro gb864 hg w43 hbox hb
                have HS3_ := (hb.cell (World.block_lt_of_cell? _ _ (hHeld.2.2.2.1))).trans (hHeld.2.2.2.1)
                have n0_ := Aside0.mk (Kd.R_below (Kd.R_elderB (oR HO853) gb864 (Nat.le_of_eq hg.symm)) hb)
                have n1_ := Aside0.mk (Kd.R_below (oR HO857) hb)
                have n2_ := Aside0.mk (Kd.R_below (oR HO861) hb)
                have n3_ := Aside0.mk (blk_below (g := gb849) (o := .cells #[.slice (some ad863) l0_0.length c0_0, .int .i64 a0_1, .slice A0_2 l0_2.length c0_2] 30 (0, 0)) (oK BK849) hb)
                have n4_ := Aside0.mk (blk_below (g := gb850) (o := .cells #[.slice none 0 0, .int .i64 0, .slice none 0 0] 30 (0, 0)) (oK BK850) hb)
                have n5_ := Aside0.mk (blk_below (g := gb858) (o := .cells #[.slice Ao34 t851.length co34, .int .i64 t854, .slice Ao38 t855.length co38] 30 (0, 0)) (oK BK858) hb)
                have n6_ := Aside0.mk (below_step (oB HB) hb)
                have n7_ := Aside0.mk (hbox)
                have n8_ := Aside0.mk ((by rw [hg]; exact (below_size (oB HB)) : w.heap.size ≤ gb864))
                have n9_ := Aside0.mk ((by rw [hg]; exact (below_size (oB HB)) : w.heap.size ≤ gb864))
                have n10_ := Aside0.mk ((by rw [hg]; exact Nat.ne_of_lt (blk_lt (g := gb849) (o := .cells #[.slice (some ad863) l0_0.length c0_0, .int .i64 a0_1, .slice A0_2 l0_2.length c0_2] 30 (0, 0)) (oK BK849)) : gb849 ≠ gb864))
                have n11_ := Aside0.mk ((by rw [hg]; exact Nat.ne_of_gt (blk_lt (g := gb849) (o := .cells #[.slice (some ad863) l0_0.length c0_0, .int .i64 a0_1, .slice A0_2 l0_2.length c0_2] 30 (0, 0)) (oK BK849)) : gb864 ≠ gb849))
                have n12_ := Aside0.mk ((by rw [hg]; exact Nat.ne_of_lt (blk_lt (g := gb850) (o := .cells #[.slice none 0 0, .int .i64 0, .slice none 0 0] 30 (0, 0)) (oK BK850)) : gb850 ≠ gb864))
                have n13_ := Aside0.mk ((by rw [hg]; exact Nat.ne_of_gt (blk_lt (g := gb850) (o := .cells #[.slice none 0 0, .int .i64 0, .slice none 0 0] 30 (0, 0)) (oK BK850)) : gb864 ≠ gb850))
                have n14_ := Aside0.mk ((by rw [hg]; exact Nat.ne_of_lt (blk_lt (g := gb858) (o := .cells #[.slice Ao34 t851.length co34, .int .i64 t854, .slice Ao38 t855.length co38] 30 (0, 0)) (oK BK858)) : gb858 ≠ gb864))
                have n15_ := Aside0.mk ((by rw [hg]; exact Nat.ne_of_gt (blk_lt (g := gb858) (o := .cells #[.slice Ao34 t851.length co34, .int .i64 t854, .slice Ao38 t855.length co38] 30 (0, 0)) (oK BK858)) : gb864 ≠ gb858))
                clear HO853
                clear HO857
                clear HO861
                clear BK849
                clear BK850
                clear BK858
                clear HB
                have HO853 := n0_
                have HO857 := n1_
                have HO861 := n2_
                have BK849 := n3_
                have BK850 := n4_
                have BK858 := n5_
                have HB := n6_
                have BK864 := n7_
                have GW864 := n8_
                have GE864 := n9_
                have NB849_864 := n10_
                have NB864_849 := n11_
                have NB850_864 := n12_
                have NB864_850 := n13_
                have NB858_864 := n14_
                have NB864_858 := n15_
                clear n0_ n1_ n2_ n3_ n4_ n5_ n6_ n7_ n8_ n9_ n10_ n11_ n12_ n13_ n14_ n15_
                clear hb hbox hg
                refine hK.out _ _ ⟨(blk_cell BK849.out 0).trans rfl, (blk_cell BK849.out 1).trans rfl, (blk_cell BK849.out 2).trans rfl, HS3_, ((HB.out.cell (World.block_lt_of_cell? w _ hw863_0)).trans hw863_0), ((HB.out.cell (World.block_lt_of_cell? w _ hw863_1)).trans hw863_1), ((HB.out.cell (World.block_lt_of_cell? w _ hw863_2)).trans hw863_2), ((HB.out.cell (World.block_lt_of_cell? w _ hw863_3)).trans hw863_3)⟩ (fun hHeld => ?_)
                clear hK K
                refine norm_ (a' := ?_) ?_ ?_
                rotate_left
                · show Act.put _ (some 6) _ = _
                  simp only [Act.put, List.setIfInBounds_toArray, List.set_cons_zero, List.set_cons_succ, i64_w, i32_w]
                  rfl
                refine one_ (i := 8) (N := none) #[true, true, true, true, true, true, true, true, true] rfl rfl (one_of HT_.out (by kernel_rfl)) (by decide) (fun K hK => ?_)
                have hs44 : w43.cell? ⟨gb864, 0, none⟩ = some (.int .i64 0) := (blk_cell BK864.out 0).trans rfl
                have hfs44 := blk_frozen BK864.out 0
                have hns44_0 := NB849_864.out
                have hns44_1 := NB850_864.out
                have hns44_2 := NB858_864.out
                have hms44_0 := NB864_849.out
                have hms44_1 := NB864_850.out
                have hms44_2 := NB864_858.out
                have hs45 : w43.cell? ⟨gb864, 1, none⟩ = some (.int .i64 0) := (blk_cell BK864.out 1).trans rfl
                have hfs45 := blk_frozen BK864.out 1
                have hns45_0 := NB849_864.out
                have hns45_1 := NB850_864.out
                have hns45_2 := NB858_864.out
                have hms45_0 := NB864_849.out
                have hms45_1 := NB864_850.out
                have hms45_2 := NB864_858.out
                have hs46 : w43.cell? ⟨gb864, 2, none⟩ = some (.int .i64 0) := (blk_cell BK864.out 2).trans rfl
                have hfs46 := blk_frozen BK864.out 2
                have hns46_0 := NB849_864.out
                have hns46_1 := NB850_864.out
                have hns46_2 := NB858_864.out
                have hms46_0 := NB864_849.out
                have hms46_1 := NB864_850.out
                have hms46_2 := NB864_858.out
                have hs47 : w43.cell? ⟨gb864, 3, none⟩ = some (.int .i64 0) := (blk_cell BK864.out 3).trans rfl
                have hfs47 := blk_frozen BK864.out 3
                have hns47_0 := NB849_864.out
                have hns47_1 := NB850_864.out
                have hns47_2 := NB858_864.out
                have hms47_0 := NB864_849.out
                have hms47_1 := NB864_850.out
                have hms47_2 := NB864_858.out
                refine skip_ (w1 := ?_) (by rfl) rfl ?_ ?_
                rotate_left
                · go_simp
                  rfl
                refine hK.out _ _ ⟨((cell_far (p := ⟨gb864, _, none⟩) NB849_864.out _).trans (((cell_far (p := ⟨gb864, _, none⟩) NB849_864.out _).trans (((cell_far (p := ⟨gb864, _, none⟩) NB849_864.out _).trans (((cell_far (p := ⟨gb864, _, none⟩) NB849_864.out _).trans (hHeld.1)))))))), ((cell_far (p := ⟨gb864, _, none⟩) NB849_864.out _).trans (((cell_far (p := ⟨gb864, _, none⟩) NB849_864.out _).trans (((cell_far (p := ⟨gb864, _, none⟩) NB849_864.out _).trans (((cell_far (p := ⟨gb864, _, none⟩) NB849_864.out _).trans (hHeld.2.1)))))))), ((cell_far (p := ⟨gb864, _, none⟩) NB849_864.out _).trans (((cell_far (p := ⟨gb864, _, none⟩) NB849_864.out _).trans (((cell_far (p := ⟨gb864, _, none⟩) NB849_864.out _).trans (((cell_far (p := ⟨gb864, _, none⟩) NB849_864.out _).trans (hHeld.2.2.1)))))))), ((cell_far (p := ⟨gb864, _, none⟩) (by first | exact Kd.own_blk (Kd.R_ne HO861.out BK864.out (by decide)) | (rw [add_block]; exact Kd.own_blk (Kd.R_ne HO861.out BK864.out (by decide))) | (show (Addr.add _ _).block ≠ _; rw [add_block]; exact Kd.own_blk (Kd.R_ne HO861.out BK864.out (by decide))) | (dsimp only; exact Kd.own_blk (Kd.R_ne HO861.out BK864.out (by decide)))) _).trans (((cell_far (p := ⟨gb864, _, none⟩) (by first | exact Kd.own_blk (Kd.R_ne HO861.out BK864.out (by decide)) | (rw [add_block]; exact Kd.own_blk (Kd.R_ne HO861.out BK864.out (by decide))) | (show (Addr.add _ _).block ≠ _; rw [add_block]; exact Kd.own_blk (Kd.R_ne HO861.out BK864.out (by decide))) | (dsimp only; exact Kd.own_blk (Kd.R_ne HO861.out BK864.out (by decide)))) _).trans (((cell_far (p := ⟨gb864, _, none⟩) (by first | exact Kd.own_blk (Kd.R_ne HO861.out BK864.out (by decide)) | (rw [add_block]; exact Kd.own_blk (Kd.R_ne HO861.out BK864.out (by decide))) | (show (Addr.add _ _).block ≠ _; rw [add_block]; exact Kd.own_blk (Kd.R_ne HO861.out BK864.out (by decide))) | (dsimp only; exact Kd.own_blk (Kd.R_ne HO861.out BK864.out (by decide)))) _).trans (((cell_far (p := ⟨gb864, _, none⟩) (by first | exact Kd.own_blk (Kd.R_ne HO861.out BK864.out (by decide)) | (rw [add_block]; exact Kd.own_blk (Kd.R_ne HO861.out BK864.out (by decide))) | (show (Addr.add _ _).block ≠ _; rw [add_block]; exact Kd.own_blk (Kd.R_ne HO861.out BK864.out (by decide))) | (dsimp only; exact Kd.own_blk (Kd.R_ne HO861.out BK864.out (by decide)))) _).trans (hHeld.2.2.2.1)))))))), ((cell_far (p := ⟨gb864, _, none⟩) (by first | exact Nat.ne_of_lt (Nat.lt_of_lt_of_le (by have := World.block_lt_of_cell? _ _ hw863_0; first | rwa [add_block] at this | exact this) GW864.out) | (rw [add_block]; exact Nat.ne_of_lt (Nat.lt_of_lt_of_le (by have := World.block_lt_of_cell? _ _ hw863_0; first | rwa [add_block] at this | exact this) GW864.out)) | (show (Addr.add _ _).block ≠ _; rw [add_block]; exact Nat.ne_of_lt (Nat.lt_of_lt_of_le (by have := World.block_lt_of_cell? _ _ hw863_0; first | rwa [add_block] at this | exact this) GW864.out)) | (dsimp only; exact Nat.ne_of_lt (Nat.lt_of_lt_of_le (by have := World.block_lt_of_cell? _ _ hw863_0; first | rwa [add_block] at this | exact this) GW864.out))) _).trans (((cell_far (p := ⟨gb864, _, none⟩) (by first | exact Nat.ne_of_lt (Nat.lt_of_lt_of_le (by have := World.block_lt_of_cell? _ _ hw863_0; first | rwa [add_block] at this | exact this) GW864.out) | (rw [add_block]; exact Nat.ne_of_lt (Nat.lt_of_lt_of_le (by have := World.block_lt_of_cell? _ _ hw863_0; first | rwa [add_block] at this | exact this) GW864.out)) | (show (Addr.add _ _).block ≠ _; rw [add_block]; exact Nat.ne_of_lt (Nat.lt_of_lt_of_le (by have := World.block_lt_of_cell? _ _ hw863_0; first | rwa [add_block] at this | exact this) GW864.out)) | (dsimp only; exact Nat.ne_of_lt (Nat.lt_of_lt_of_le (by have := World.block_lt_of_cell? _ _ hw863_0; first | rwa [add_block] at this | exact this) GW864.out))) _).trans (((cell_far (p := ⟨gb864, _, none⟩) (by first | exact Nat.ne_of_lt (Nat.lt_of_lt_of_le (by have := World.block_lt_of_cell? _ _ hw863_0; first | rwa [add_block] at this | exact this) GW864.out) | (rw [add_block]; exact Nat.ne_of_lt (Nat.lt_of_lt_of_le (by have := World.block_lt_of_cell? _ _ hw863_0; first | rwa [add_block] at this | exact this) GW864.out)) | (show (Addr.add _ _).block ≠ _; rw [add_block]; exact Nat.ne_of_lt (Nat.lt_of_lt_of_le (by have := World.block_lt_of_cell? _ _ hw863_0; first | rwa [add_block] at this | exact this) GW864.out)) | (dsimp only; exact Nat.ne_of_lt (Nat.lt_of_lt_of_le (by have := World.block_lt_of_cell? _ _ hw863_0; first | rwa [add_block] at this | exact this) GW864.out))) _).trans (((cell_far (p := ⟨gb864, _, none⟩) (by first | exact Nat.ne_of_lt (Nat.lt_of_lt_of_le (by have := World.block_lt_of_cell? _ _ hw863_0; first | rwa [add_block] at this | exact this) GW864.out) | (rw [add_block]; exact Nat.ne_of_lt (Nat.lt_of_lt_of_le (by have := World.block_lt_of_cell? _ _ hw863_0; first | rwa [add_block] at this | exact this) GW864.out)) | (show (Addr.add _ _).block ≠ _; rw [add_block]; exact Nat.ne_of_lt (Nat.lt_of_lt_of_le (by have := World.block_lt_of_cell? _ _ hw863_0; first | rwa [add_block] at this | exact this) GW864.out)) | (dsimp only; exact Nat.ne_of_lt (Nat.lt_of_lt_of_le (by have := World.block_lt_of_cell? _ _ hw863_0; first | rwa [add_block] at this | exact this) GW864.out))) _).trans (hHeld.2.2.2.2.1)))))))), ((cell_far (p := ⟨gb864, _, none⟩) (by first | exact Nat.ne_of_lt (Nat.lt_of_lt_of_le (by have := World.block_lt_of_cell? _ _ hw863_1; first | rwa [add_block] at this | exact this) GW864.out) | (rw [add_block]; exact Nat.ne_of_lt (Nat.lt_of_lt_of_le (by have := World.block_lt_of_cell? _ _ hw863_1; first | rwa [add_block] at this | exact this) GW864.out)) | (show (Addr.add _ _).block ≠ _; rw [add_block]; exact Nat.ne_of_lt (Nat.lt_of_lt_of_le (by have := World.block_lt_of_cell? _ _ hw863_1; first | rwa [add_block] at this | exact this) GW864.out)) | (dsimp only; exact Nat.ne_of_lt (Nat.lt_of_lt_of_le (by have := World.block_lt_of_cell? _ _ hw863_1; first | rwa [add_block] at this | exact this) GW864.out))) _).trans (((cell_far (p := ⟨gb864, _, none⟩) (by first | exact Nat.ne_of_lt (Nat.lt_of_lt_of_le (by have := World.block_lt_of_cell? _ _ hw863_1; first | rwa [add_block] at this | exact this) GW864.out) | (rw [add_block]; exact Nat.ne_of_lt (Nat.lt_of_lt_of_le (by have := World.block_lt_of_cell? _ _ hw863_1; first | rwa [add_block] at this | exact this) GW864.out)) | (show (Addr.add _ _).block ≠ _; rw [add_block]; exact Nat.ne_of_lt (Nat.lt_of_lt_of_le (by have := World.block_lt_of_cell? _ _ hw863_1; first | rwa [add_block] at this | exact this) GW864.out)) | (dsimp only; exact Nat.ne_of_lt (Nat.lt_of_lt_of_le (by have := World.block_lt_of_cell? _ _ hw863_1; first | rwa [add_block] at this | exact this) GW864.out))) _).trans (((cell_far (p := ⟨gb864, _, none⟩) (by first | exact Nat.ne_of_lt (Nat.lt_of_lt_of_le (by have := World.block_lt_of_cell? _ _ hw863_1; first | rwa [add_block] at this | exact this) GW864.out) | (rw [add_block]; exact Nat.ne_of_lt (Nat.lt_of_lt_of_le (by have := World.block_lt_of_cell? _ _ hw863_1; first | rwa [add_block] at this | exact this) GW864.out)) | (show (Addr.add _ _).block ≠ _; rw [add_block]; exact Nat.ne_of_lt (Nat.lt_of_lt_of_le (by have := World.block_lt_of_cell? _ _ hw863_1; first | rwa [add_block] at this | exact this) GW864.out)) | (dsimp only; exact Nat.ne_of_lt (Nat.lt_of_lt_of_le (by have := World.block_lt_of_cell? _ _ hw863_1; first | rwa [add_block] at this | exact this) GW864.out))) _).trans (((cell_far (p := ⟨gb864, _, none⟩) (by first | exact Nat.ne_of_lt (Nat.lt_of_lt_of_le (by have := World.block_lt_of_cell? _ _ hw863_1; first | rwa [add_block] at this | exact this) GW864.out) | (rw [add_block]; exact Nat.ne_of_lt (Nat.lt_of_lt_of_le (by have := World.block_lt_of_cell? _ _ hw863_1; first | rwa [add_block] at this | exact this) GW864.out)) | (show (Addr.add _ _).block ≠ _; rw [add_block]; exact Nat.ne_of_lt (Nat.lt_of_lt_of_le (by have := World.block_lt_of_cell? _ _ hw863_1; first | rwa [add_block] at this | exact this) GW864.out)) | (dsimp only; exact Nat.ne_of_lt (Nat.lt_of_lt_of_le (by have := World.block_lt_of_cell? _ _ hw863_1; first | rwa [add_block] at this | exact this) GW864.out))) _).trans (hHeld.2.2.2.2.2.1)))))))), ((cell_far (p := ⟨gb864, _, none⟩) (by first | exact Nat.ne_of_lt (Nat.lt_of_lt_of_le (by have := World.block_lt_of_cell? _ _ hw863_2; first | rwa [add_block] at this | exact this) GW864.out) | (rw [add_block]; exact Nat.ne_of_lt (Nat.lt_of_lt_of_le (by have := World.block_lt_of_cell? _ _ hw863_2; first | rwa [add_block] at this | exact this) GW864.out)) | (show (Addr.add _ _).block ≠ _; rw [add_block]; exact Nat.ne_of_lt (Nat.lt_of_lt_of_le (by have := World.block_lt_of_cell? _ _ hw863_2; first | rwa [add_block] at this | exact this) GW864.out)) | (dsimp only; exact Nat.ne_of_lt (Nat.lt_of_lt_of_le (by have := World.block_lt_of_cell? _ _ hw863_2; first | rwa [add_block] at this | exact this) GW864.out))) _).trans (((cell_far (p := ⟨gb864, _, none⟩) (by first | exact Nat.ne_of_lt (Nat.lt_of_lt_of_le (by have := World.block_lt_of_cell? _ _ hw863_2; first | rwa [add_block] at this | exact this) GW864.out) | (rw [add_block]; exact Nat.ne_of_lt (Nat.lt_of_lt_of_le (by have := World.block_lt_of_cell? _ _ hw863_2; first | rwa [add_block] at this | exact this) GW864.out)) | (show (Addr.add _ _).block ≠ _; rw [add_block]; exact Nat.ne_of_lt (Nat.lt_of_lt_of_le (by have := World.block_lt_of_cell? _ _ hw863_2; first | rwa [add_block] at this | exact this) GW864.out)) | (dsimp only; exact Nat.ne_of_lt (Nat.lt_of_lt_of_le (by have := World.block_lt_of_cell? _ _ hw863_2; first | rwa [add_block] at this | exact this) GW864.out))) _).trans (((cell_far (p := ⟨gb864, _, none⟩) (by first | exact Nat.ne_of_lt (Nat.lt_of_lt_of_le (by have := World.block_lt_of_cell? _ _ hw863_2; first | rwa [add_block] at this | exact this) GW864.out) | (rw [add_block]; exact Nat.ne_of_lt (Nat.lt_of_lt_of_le (by have := World.block_lt_of_cell? _ _ hw863_2; first | rwa [add_block] at this | exact this) GW864.out)) | (show (Addr.add _ _).block ≠ _; rw [add_block]; exact Nat.ne_of_lt (Nat.lt_of_lt_of_le (by have := World.block_lt_of_cell? _ _ hw863_2; first | rwa [add_block] at this | exact this) GW864.out)) | (dsimp only; exact Nat.ne_of_lt (Nat.lt_of_lt_of_le (by have := World.block_lt_of_cell? _ _ hw863_2; first | rwa [add_block] at this | exact this) GW864.out))) _).trans (((cell_far (p := ⟨gb864, _, none⟩) (by first | exact Nat.ne_of_lt (Nat.lt_of_lt_of_le (by have := World.block_lt_of_cell? _ _ hw863_2; first | rwa [add_block] at this | exact this) GW864.out) | (rw [add_block]; exact Nat.ne_of_lt (Nat.lt_of_lt_of_le (by have := World.block_lt_of_cell? _ _ hw863_2; first | rwa [add_block] at this | exact this) GW864.out)) | (show (Addr.add _ _).block ≠ _; rw [add_block]; exact Nat.ne_of_lt (Nat.lt_of_lt_of_le (by have := World.block_lt_of_cell? _ _ hw863_2; first | rwa [add_block] at this | exact this) GW864.out)) | (dsimp only; exact Nat.ne_of_lt (Nat.lt_of_lt_of_le (by have := World.block_lt_of_cell? _ _ hw863_2; first | rwa [add_block] at this | exact this) GW864.out))) _).trans (hHeld.2.2.2.2.2.2.1)))))))), ((cell_far (p := ⟨gb864, _, none⟩) (by first | exact Nat.ne_of_lt (Nat.lt_of_lt_of_le (by have := World.block_lt_of_cell? _ _ hw863_3; first | rwa [add_block] at this | exact this) GW864.out) | (rw [add_block]; exact Nat.ne_of_lt (Nat.lt_of_lt_of_le (by have := World.block_lt_of_cell? _ _ hw863_3; first | rwa [add_block] at this | exact this) GW864.out)) | (show (Addr.add _ _).block ≠ _; rw [add_block]; exact Nat.ne_of_lt (Nat.lt_of_lt_of_le (by have := World.block_lt_of_cell? _ _ hw863_3; first | rwa [add_block] at this | exact this) GW864.out)) | (dsimp only; exact Nat.ne_of_lt (Nat.lt_of_lt_of_le (by have := World.block_lt_of_cell? _ _ hw863_3; first | rwa [add_block] at this | exact this) GW864.out))) _).trans (((cell_far (p := ⟨gb864, _, none⟩) (by first | exact Nat.ne_of_lt (Nat.lt_of_lt_of_le (by have := World.block_lt_of_cell? _ _ hw863_3; first | rwa [add_block] at this | exact this) GW864.out) | (rw [add_block]; exact Nat.ne_of_lt (Nat.lt_of_lt_of_le (by have := World.block_lt_of_cell? _ _ hw863_3; first | rwa [add_block] at this | exact this) GW864.out)) | (show (Addr.add _ _).block ≠ _; rw [add_block]; exact Nat.ne_of_lt (Nat.lt_of_lt_of_le (by have := World.block_lt_of_cell? _ _ hw863_3; first | rwa [add_block] at this | exact this) GW864.out)) | (dsimp only; exact Nat.ne_of_lt (Nat.lt_of_lt_of_le (by have := World.block_lt_of_cell? _ _ hw863_3; first | rwa [add_block] at this | exact this) GW864.out))) _).trans (((cell_far (p := ⟨gb864, _, none⟩) (by first | exact Nat.ne_of_lt (Nat.lt_of_lt_of_le (by have := World.block_lt_of_cell? _ _ hw863_3; first | rwa [add_block] at this | exact this) GW864.out) | (rw [add_block]; exact Nat.ne_of_lt (Nat.lt_of_lt_of_le (by have := World.block_lt_of_cell? _ _ hw863_3; first | rwa [add_block] at this | exact this) GW864.out)) | (show (Addr.add _ _).block ≠ _; rw [add_block]; exact Nat.ne_of_lt (Nat.lt_of_lt_of_le (by have := World.block_lt_of_cell? _ _ hw863_3; first | rwa [add_block] at this | exact this) GW864.out)) | (dsimp only; exact Nat.ne_of_lt (Nat.lt_of_lt_of_le (by have := World.block_lt_of_cell? _ _ hw863_3; first | rwa [add_block] at this | exact this) GW864.out))) _).trans (((cell_far (p := ⟨gb864, _, none⟩) (by first | exact Nat.ne_of_lt (Nat.lt_of_lt_of_le (by have := World.block_lt_of_cell? _ _ hw863_3; first | rwa [add_block] at this | exact this) GW864.out) | (rw [add_block]; exact Nat.ne_of_lt (Nat.lt_of_lt_of_le (by have := World.block_lt_of_cell? _ _ hw863_3; first | rwa [add_block] at this | exact this) GW864.out)) | (show (Addr.add _ _).block ≠ _; rw [add_block]; exact Nat.ne_of_lt (Nat.lt_of_lt_of_le (by have := World.block_lt_of_cell? _ _ hw863_3; first | rwa [add_block] at this | exact this) GW864.out)) | (dsimp only; exact Nat.ne_of_lt (Nat.lt_of_lt_of_le (by have := World.block_lt_of_cell? _ _ hw863_3; first | rwa [add_block] at this | exact this) GW864.out))) _).trans (hHeld.2.2.2.2.2.2.2))))))))⟩ (fun hHeld => ?_)
                clear hK K
                refine done_ (done_of HT_.out (by kernel_rfl)) ?_
                try go_wp2
                have n0_ : Aside0 (Kd.R k67 67 ((((w43.setCell ⟨gb864, 0, none⟩ (.int .i64 ((rd_T67 l0_0 (rd t859 0)).f0))).setCell ⟨gb864, 1, none⟩ (.int .i64 ((rd_T67 l0_0 (rd t859 0)).f1))).setCell ⟨gb864, 2, none⟩ (.int .i64 ((rd_T67 l0_0 (rd t859 0)).f2))).setCell ⟨gb864, 3, none⟩ (.int .i64 ((rd_T67 l0_0 (rd t859 0)).f3))) w.heap.size (fun k_ => k_ ≠ gb864) (.slice Ao34 t851.length co34) t851) := ⟨by (with_reducible repeat (first | apply Kd.R_alloc | apply Kd.R_drewN | apply Kd.R_drew)); exact Kd.R_mono (Kd.R_far (p := ⟨gb864, 3, none⟩) (Kd.R_far (p := ⟨gb864, 2, none⟩) (Kd.R_far (p := ⟨gb864, 1, none⟩) (Kd.R_far (p := ⟨gb864, 0, none⟩) (Kd.R_mono HO853.out (fun k_ hk => (⟨hk, hk.2⟩ : _ ∧ k_ ≠ gb864))) (fun _ hk => hk.2) (.int .i64 ((rd_T67 l0_0 (rd t859 0)).f0))) (fun _ hk => hk.2) (.int .i64 ((rd_T67 l0_0 (rd t859 0)).f1))) (fun _ hk => hk.2) (.int .i64 ((rd_T67 l0_0 (rd t859 0)).f2))) (fun _ hk => hk.2) (.int .i64 ((rd_T67 l0_0 (rd t859 0)).f3))) (fun _ hk => hk.1.2)⟩
                have n1_ : Aside0 (Kd.R (Kd.int .i64) 3 ((((w43.setCell ⟨gb864, 0, none⟩ (.int .i64 ((rd_T67 l0_0 (rd t859 0)).f0))).setCell ⟨gb864, 1, none⟩ (.int .i64 ((rd_T67 l0_0 (rd t859 0)).f1))).setCell ⟨gb864, 2, none⟩ (.int .i64 ((rd_T67 l0_0 (rd t859 0)).f2))).setCell ⟨gb864, 3, none⟩ (.int .i64 ((rd_T67 l0_0 (rd t859 0)).f3))) w.heap.size (fun k_ => some k_ ≠ (.slice (some ad862) t859.length co41 : Value).ownBlock) (.slice Ao38 t855.length co38) t855) := ⟨by (with_reducible repeat (first | apply Kd.R_alloc | apply Kd.R_drewN | apply Kd.R_drew)); exact Kd.R_mono (Kd.R_far (p := ⟨gb864, 3, none⟩) (Kd.R_far (p := ⟨gb864, 2, none⟩) (Kd.R_far (p := ⟨gb864, 1, none⟩) (Kd.R_far (p := ⟨gb864, 0, none⟩) (Kd.R_types HO857.out BK864.out (by decide)) (fun _ hk => hk.2) (.int .i64 ((rd_T67 l0_0 (rd t859 0)).f0))) (fun _ hk => hk.2) (.int .i64 ((rd_T67 l0_0 (rd t859 0)).f1))) (fun _ hk => hk.2) (.int .i64 ((rd_T67 l0_0 (rd t859 0)).f2))) (fun _ hk => hk.2) (.int .i64 ((rd_T67 l0_0 (rd t859 0)).f3))) (fun _ hk => hk.1.2)⟩
                have n2_ : Aside0 (Kd.R (Kd.int .i64) 3 ((((w43.setCell ⟨gb864, 0, none⟩ (.int .i64 ((rd_T67 l0_0 (rd t859 0)).f0))).setCell ⟨gb864, 1, none⟩ (.int .i64 ((rd_T67 l0_0 (rd t859 0)).f1))).setCell ⟨gb864, 2, none⟩ (.int .i64 ((rd_T67 l0_0 (rd t859 0)).f2))).setCell ⟨gb864, 3, none⟩ (.int .i64 ((rd_T67 l0_0 (rd t859 0)).f3))) w.heap.size (fun k_ => some k_ ≠ (.slice Ao38 t855.length co38 : Value).ownBlock) (.slice (some ad862) t859.length co41) t859) := ⟨by (with_reducible repeat (first | apply Kd.R_alloc | apply Kd.R_drewN | apply Kd.R_drew)); exact Kd.R_mono (Kd.R_far (p := ⟨gb864, 3, none⟩) (Kd.R_far (p := ⟨gb864, 2, none⟩) (Kd.R_far (p := ⟨gb864, 1, none⟩) (Kd.R_far (p := ⟨gb864, 0, none⟩) (Kd.R_types HO861.out BK864.out (by decide)) (fun _ hk => hk.2) (.int .i64 ((rd_T67 l0_0 (rd t859 0)).f0))) (fun _ hk => hk.2) (.int .i64 ((rd_T67 l0_0 (rd t859 0)).f1))) (fun _ hk => hk.2) (.int .i64 ((rd_T67 l0_0 (rd t859 0)).f2))) (fun _ hk => hk.2) (.int .i64 ((rd_T67 l0_0 (rd t859 0)).f3))) (fun _ hk => hk.1.2)⟩
                have n3_ : Aside0 (((((w43.setCell ⟨gb864, 0, none⟩ (.int .i64 ((rd_T67 l0_0 (rd t859 0)).f0))).setCell ⟨gb864, 1, none⟩ (.int .i64 ((rd_T67 l0_0 (rd t859 0)).f1))).setCell ⟨gb864, 2, none⟩ (.int .i64 ((rd_T67 l0_0 (rd t859 0)).f2))).setCell ⟨gb864, 3, none⟩ (.int .i64 ((rd_T67 l0_0 (rd t859 0)).f3))).heap[gb849]? = some (.cells #[.slice (some ad863) l0_0.length c0_0, .int .i64 a0_1, .slice A0_2 l0_2.length c0_2] 30 (0, 0))) := ⟨by (with_reducible repeat (first | refine blk_drewN ?_ _ | refine blk_drew ?_ | refine blk_alloc ?_ _)); refine blk_far ?_ NB849_864.out _; (with_reducible repeat (first | refine blk_drewN ?_ _ | refine blk_drew ?_ | refine blk_alloc ?_ _)); refine blk_far ?_ NB849_864.out _; (with_reducible repeat (first | refine blk_drewN ?_ _ | refine blk_drew ?_ | refine blk_alloc ?_ _)); refine blk_far ?_ NB849_864.out _; (with_reducible repeat (first | refine blk_drewN ?_ _ | refine blk_drew ?_ | refine blk_alloc ?_ _)); refine blk_far ?_ NB849_864.out _; (with_reducible repeat (first | refine blk_drewN ?_ _ | refine blk_drew ?_ | refine blk_alloc ?_ _)); exact BK849.out⟩
                have n4_ : Aside0 (((((w43.setCell ⟨gb864, 0, none⟩ (.int .i64 ((rd_T67 l0_0 (rd t859 0)).f0))).setCell ⟨gb864, 1, none⟩ (.int .i64 ((rd_T67 l0_0 (rd t859 0)).f1))).setCell ⟨gb864, 2, none⟩ (.int .i64 ((rd_T67 l0_0 (rd t859 0)).f2))).setCell ⟨gb864, 3, none⟩ (.int .i64 ((rd_T67 l0_0 (rd t859 0)).f3))).heap[gb850]? = some (.cells #[.slice none 0 0, .int .i64 0, .slice none 0 0] 30 (0, 0))) := ⟨by (with_reducible repeat (first | refine blk_drewN ?_ _ | refine blk_drew ?_ | refine blk_alloc ?_ _)); refine blk_far ?_ NB850_864.out _; (with_reducible repeat (first | refine blk_drewN ?_ _ | refine blk_drew ?_ | refine blk_alloc ?_ _)); refine blk_far ?_ NB850_864.out _; (with_reducible repeat (first | refine blk_drewN ?_ _ | refine blk_drew ?_ | refine blk_alloc ?_ _)); refine blk_far ?_ NB850_864.out _; (with_reducible repeat (first | refine blk_drewN ?_ _ | refine blk_drew ?_ | refine blk_alloc ?_ _)); refine blk_far ?_ NB850_864.out _; (with_reducible repeat (first | refine blk_drewN ?_ _ | refine blk_drew ?_ | refine blk_alloc ?_ _)); exact BK850.out⟩
                have n5_ : Aside0 (((((w43.setCell ⟨gb864, 0, none⟩ (.int .i64 ((rd_T67 l0_0 (rd t859 0)).f0))).setCell ⟨gb864, 1, none⟩ (.int .i64 ((rd_T67 l0_0 (rd t859 0)).f1))).setCell ⟨gb864, 2, none⟩ (.int .i64 ((rd_T67 l0_0 (rd t859 0)).f2))).setCell ⟨gb864, 3, none⟩ (.int .i64 ((rd_T67 l0_0 (rd t859 0)).f3))).heap[gb858]? = some (.cells #[.slice Ao34 t851.length co34, .int .i64 t854, .slice Ao38 t855.length co38] 30 (0, 0))) := ⟨by (with_reducible repeat (first | refine blk_drewN ?_ _ | refine blk_drew ?_ | refine blk_alloc ?_ _)); refine blk_far ?_ NB858_864.out _; (with_reducible repeat (first | refine blk_drewN ?_ _ | refine blk_drew ?_ | refine blk_alloc ?_ _)); refine blk_far ?_ NB858_864.out _; (with_reducible repeat (first | refine blk_drewN ?_ _ | refine blk_drew ?_ | refine blk_alloc ?_ _)); refine blk_far ?_ NB858_864.out _; (with_reducible repeat (first | refine blk_drewN ?_ _ | refine blk_drew ?_ | refine blk_alloc ?_ _)); refine blk_far ?_ NB858_864.out _; (with_reducible repeat (first | refine blk_drewN ?_ _ | refine blk_drew ?_ | refine blk_alloc ?_ _)); exact BK858.out⟩
                have n6_ : Aside0 (((((w43.setCell ⟨gb864, 0, none⟩ (.int .i64 ((rd_T67 l0_0 (rd t859 0)).f0))).setCell ⟨gb864, 1, none⟩ (.int .i64 ((rd_T67 l0_0 (rd t859 0)).f1))).setCell ⟨gb864, 2, none⟩ (.int .i64 ((rd_T67 l0_0 (rd t859 0)).f2))).setCell ⟨gb864, 3, none⟩ (.int .i64 ((rd_T67 l0_0 (rd t859 0)).f3))).heap[gb864]? = some (.cells #[.int .i64 ((rd_T67 l0_0 (rd t859 0)).f0), .int .i64 ((rd_T67 l0_0 (rd t859 0)).f1), .int .i64 ((rd_T67 l0_0 (rd t859 0)).f2), .int .i64 ((rd_T67 l0_0 (rd t859 0)).f3)] 67 (0, 0))) := ⟨by (with_reducible repeat (first | refine blk_drewN ?_ _ | refine blk_drew ?_ | refine blk_alloc ?_ _)); refine blk_put (cs := #[.int .i64 ((rd_T67 l0_0 (rd t859 0)).f0), .int .i64 ((rd_T67 l0_0 (rd t859 0)).f1), .int .i64 ((rd_T67 l0_0 (rd t859 0)).f2), .int .i64 0]) ?_ 3 _ rfl; (with_reducible repeat (first | refine blk_drewN ?_ _ | refine blk_drew ?_ | refine blk_alloc ?_ _)); refine blk_put (cs := #[.int .i64 ((rd_T67 l0_0 (rd t859 0)).f0), .int .i64 ((rd_T67 l0_0 (rd t859 0)).f1), .int .i64 0, .int .i64 0]) ?_ 2 _ rfl; (with_reducible repeat (first | refine blk_drewN ?_ _ | refine blk_drew ?_ | refine blk_alloc ?_ _)); refine blk_put (cs := #[.int .i64 ((rd_T67 l0_0 (rd t859 0)).f0), .int .i64 0, .int .i64 0, .int .i64 0]) ?_ 1 _ rfl; (with_reducible repeat (first | refine blk_drewN ?_ _ | refine blk_drew ?_ | refine blk_alloc ?_ _)); refine blk_put (cs := #[.int .i64 0, .int .i64 0, .int .i64 0, .int .i64 0]) ?_ 0 _ rfl; (with_reducible repeat (first | refine blk_drewN ?_ _ | refine blk_drew ?_ | refine blk_alloc ?_ _)); exact BK864.out⟩
                have n7_ : Aside0 (Below w.heap.size w ((((w43.setCell ⟨gb864, 0, none⟩ (.int .i64 ((rd_T67 l0_0 (rd t859 0)).f0))).setCell ⟨gb864, 1, none⟩ (.int .i64 ((rd_T67 l0_0 (rd t859 0)).f1))).setCell ⟨gb864, 2, none⟩ (.int .i64 ((rd_T67 l0_0 (rd t859 0)).f2))).setCell ⟨gb864, 3, none⟩ (.int .i64 ((rd_T67 l0_0 (rd t859 0)).f3)))) := ⟨oB HB⟩
                (try clear HO853)
                (try clear HO857)
                (try clear HO861)
                (try clear BK849)
                (try clear BK850)
                (try clear BK858)
                (try clear BK864)
                (try clear HB)
                generalize ((((w43.setCell ⟨gb864, 0, none⟩ (.int .i64 ((rd_T67 l0_0 (rd t859 0)).f0))).setCell ⟨gb864, 1, none⟩ (.int .i64 ((rd_T67 l0_0 (rd t859 0)).f1))).setCell ⟨gb864, 2, none⟩ (.int .i64 ((rd_T67 l0_0 (rd t859 0)).f2))).setCell ⟨gb864, 3, none⟩ (.int .i64 ((rd_T67 l0_0 (rd t859 0)).f3))) = w48 at n0_ n1_ n2_ n3_ n4_ n5_ n6_ n7_ ⊢
                have HO853 := n0_
                have HO857 := n1_
                have HO861 := n2_
                have BK849 := n3_
                have BK850 := n4_
                have BK858 := n5_
                have BK864 := n6_
                have HB := n7_
                clear n0_ n1_ n2_ n3_ n4_ n5_ n6_ n7_
                have n0_ := Aside0.mk (Kd.R_drew HO853.out)
                have n1_ := Aside0.mk (Kd.R_drew HO857.out)
                have n2_ := Aside0.mk (Kd.R_drew HO861.out)
                have n3_ := Aside0.mk (blk_drew BK849.out)
                have n4_ := Aside0.mk (blk_drew BK850.out)
                have n5_ := Aside0.mk (blk_drew BK858.out)
                have n6_ := Aside0.mk (blk_drew BK864.out)
                have n7_ := Aside0.mk (below_drew1 HB.out)
                clear HO853
                clear HO857
                clear HO861
                clear BK849
                clear BK850
                clear BK858
                clear BK864
                clear HB
                have HO853 := n0_
                have HO857 := n1_
                have HO861 := n2_
                have BK849 := n3_
                have BK850 := n4_
                have BK858 := n5_
                have BK864 := n6_
                have HB := n7_
                clear n0_ n1_ n2_ n3_ n4_ n5_ n6_ n7_
                have p865 : 0 ≤ (((rd_T67 l0_0 (rd t859 0)).f0) : Int) := of_decide_eq_true (by first | (with_reducible assumption) | assumption)
                have q865 : ((rd_T67 l0_0 (rd t859 0)).f0) < (l0_2.length : Int) := of_decide_eq_true (by first | (with_reducible assumption) | assumption)
                obtain ⟨ad865, e865, hx865_0⟩ := Kd.at_int HR0_2.out ((rd_T67 l0_0 (rd t859 0)).f0) p865 q865
                have hw865_0 := hx865_0
                cases e865
                replace hx865_0 := (HB.out.cell (World.block_lt_of_cell? w _ hx865_0)).trans hx865_0
                replace p865 := eq_true p865
                replace q865 := eq_true q865
                refine start_ (n := 12) (S := fun w' => w'.cell? ⟨gb849, 0, none⟩ = some (.slice (some ad863) l0_0.length c0_0) ∧ w'.cell? ⟨gb849, 1, none⟩ = some (.int .i64 a0_1) ∧ w'.cell? ⟨gb849, 2, none⟩ = some (.slice (some ad865) l0_2.length c0_2) ∧ w'.cell? ⟨gb864, 0, none⟩ = some (.int .i64 ((rd_T67 l0_0 (rd t859 0)).f0)) ∧ w'.cell? ⟨gb864, 1, none⟩ = some (.int .i64 ((rd_T67 l0_0 (rd t859 0)).f1)) ∧ w'.cell? ⟨gb864, 2, none⟩ = some (.int .i64 ((rd_T67 l0_0 (rd t859 0)).f2)) ∧ w'.cell? ⟨gb864, 3, none⟩ = some (.int .i64 ((rd_T67 l0_0 (rd t859 0)).f3)) ∧ w'.cell? (ad865.add (((rd_T67 l0_0 (rd t859 0)).f0)).toNat) = some (.int .i64 (rd l0_2 ((rd_T67 l0_0 (rd t859 0)).f0)))) (ds := []) #[false, false, false, false, false, false, false, false, false, false, false, false] (by kernel_rfl) rfl rfl ⟨(blk_cell BK849.out 0).trans rfl, (blk_cell BK849.out 1).trans rfl, (blk_cell BK849.out 2).trans rfl, (blk_cell BK864.out 0).trans rfl, (blk_cell BK864.out 1).trans rfl, (blk_cell BK864.out 2).trans rfl, (blk_cell BK864.out 3).trans rfl, ((HB.out.cell (World.block_lt_of_cell? w _ hw865_0)).trans hw865_0)⟩ (fun hHeld => ?_); refine with_tabW spec_MendStep.tab6 spec_MendStep.bits6 (fun HT_ HW_ => ?_)
                generalize w48.drew = w49 at HO853 HO857 HO861 BK849 BK850 BK858 BK864 HB hx865_0 hHeld ⊢
                refine pure_ (i := 0) (N := some 23) (v := ?_) (a' := ?_) #[true, false, false, false, false, false, false, false, false, false, false, false] rfl rfl (any_of HT_.out (by kernel_rfl)) (fun _ _ _ h => h) (Or.inl ⟨by rfl, ?_⟩) ?_ ?_
                rotate_left
                · intro w'
                  go_simp
                  with_reducible rfl
                rotate_left
                · simp only [Act.put, List.setIfInBounds_toArray, List.set_cons_zero, List.set_cons_succ, i64_w, i32_w]
                  rfl
                refine pure_ (i := 2) (N := some 25) (v := ?_) (a' := ?_) #[true, false, true, false, false, false, false, false, false, false, false, false] rfl rfl (any_of HT_.out (by kernel_rfl)) (fun _ _ _ h => h) (Or.inl ⟨by rfl, ?_⟩) ?_ ?_
                rotate_left
                · intro w'
                  go_simp
                  with_reducible rfl
                rotate_left
                · simp only [Act.put, List.setIfInBounds_toArray, List.set_cons_zero, List.set_cons_succ, i64_w, i32_w]
                  rfl
                refine pure_ (i := 6) (N := some 29) (v := ?_) (a' := ?_) #[true, false, true, false, false, false, true, false, false, false, false, false] rfl rfl (any_of HT_.out (by kernel_rfl)) (fun _ _ _ h => h) (Or.inl ⟨by rfl, ?_⟩) ?_ ?_
                rotate_left
                · intro w'
                  go_simp
                  with_reducible rfl
                rotate_left
                · simp only [Act.put, List.setIfInBounds_toArray, List.set_cons_zero, List.set_cons_succ, i64_w, i32_w]
                  rfl
                refine pure_ (i := 8) (N := some 31) (v := ?_) (a' := ?_) #[true, false, true, false, false, false, true, false, true, false, false, false] rfl rfl (any_of HT_.out (by kernel_rfl)) (fun _ _ _ h => h) (Or.inl ⟨by rfl, ?_⟩) ?_ ?_
                rotate_left
                · intro w'
                  go_simp
                  with_reducible rfl
                rotate_left
                · simp only [Act.put, List.setIfInBounds_toArray, List.set_cons_zero, List.set_cons_succ, i64_w, i32_w]
                  rfl
                refine take_ (i := 1) (N := some 24) (v := ?_) (a' := ?_) #[true, true, true, false, false, false, true, false, true, false, false, false] rfl rfl (take_ofW HT_.out HW_.out (by kernel_rfl)) (fun _ _ _ h => h) (Or.inl ⟨by rfl, ?_⟩) hHeld ?_ ?_
                rotate_left
                · rintro w' ⟨s0, s1, s2, s3, s4, s5, s6, s7⟩
                  go_simp
                  with_reducible rfl
                rotate_left
                · simp only [Act.put, List.setIfInBounds_toArray, List.set_cons_zero, List.set_cons_succ, i64_w, i32_w]
                  rfl
                refine take_ (i := 3) (N := some 26) (v := ?_) (a' := ?_) #[true, true, true, true, false, false, true, false, true, false, false, false] rfl rfl (take_ofW HT_.out HW_.out (by kernel_rfl)) (fun _ _ _ h => h) (Or.inl ⟨by rfl, ?_⟩) hHeld ?_ ?_
                rotate_left
                · rintro w' ⟨s0, s1, s2, s3, s4, s5, s6, s7⟩
                  go_simp
                  with_reducible rfl
                rotate_left
                · simp only [Act.put, List.setIfInBounds_toArray, List.set_cons_zero, List.set_cons_succ, i64_w, i32_w]
                  rfl
                refine pure_ (i := 4) (N := some 27) (v := ?_) (a' := ?_) #[true, true, true, true, true, false, true, false, true, false, false, false] rfl rfl (any_of HT_.out (by kernel_rfl)) (fun _ _ _ h => h) (Or.inl ⟨by rfl, ?_⟩) ?_ ?_
                rotate_left
                · intro w'
                  go_simp
                  with_reducible rfl
                rotate_left
                · simp only [Act.put, List.setIfInBounds_toArray, List.set_cons_zero, List.set_cons_succ, i64_w, i32_w]
                  rfl
                refine take_ (i := 5) (N := some 28) (v := ?_) (a' := ?_) #[true, true, true, true, true, true, true, false, true, false, false, false] rfl rfl (take_ofW HT_.out HW_.out (by kernel_rfl)) (fun _ _ _ h => h) (Or.inl ⟨by rfl, ?_⟩) hHeld ?_ ?_
                rotate_left
                · rintro w' ⟨s0, s1, s2, s3, s4, s5, s6, s7⟩
                  go_simp
                  with_reducible rfl
                rotate_left
                · simp only [Act.put, List.setIfInBounds_toArray, List.set_cons_zero, List.set_cons_succ, i64_w, i32_w]
                  rfl
                refine take_ (i := 7) (N := some 30) (v := ?_) (a' := ?_) #[true, true, true, true, true, true, true, true, true, false, false, false] rfl rfl (take_ofW HT_.out HW_.out (by kernel_rfl)) (fun _ _ _ h => h) (Or.inl ⟨by rfl, ?_⟩) hHeld ?_ ?_
                rotate_left
                · rintro w' ⟨s0, s1, s2, s3, s4, s5, s6, s7⟩
                  go_simp
                  with_reducible rfl
                rotate_left
                · simp only [Act.put, List.setIfInBounds_toArray, List.set_cons_zero, List.set_cons_succ, i64_w, i32_w]
                  rfl
                refine take_ (i := 9) (N := some 32) (v := ?_) (a' := ?_) #[true, true, true, true, true, true, true, true, true, true, false, false] rfl rfl (take_ofW HT_.out HW_.out (by kernel_rfl)) (fun _ _ _ h => h) (Or.inl ⟨by rfl, ?_⟩) hHeld ?_ ?_
                rotate_left
                · rintro w' ⟨s0, s1, s2, s3, s4, s5, s6, s7⟩
                  go_simp
                  with_reducible rfl
                rotate_left
                · simp only [Act.put, List.setIfInBounds_toArray, List.set_cons_zero, List.set_cons_succ, i64_w, i32_w]
                  rfl
                refine one_ (i := 10) (N := some 33) #[true, true, true, true, true, true, true, true, true, true, true, false] rfl rfl (one_of HT_.out (by kernel_rfl)) (by decide) (fun K hK => ?_)
                refine goes_ Try.func72 (by kernel_rfl) rfl #[.int .i64 (rd l0_2 ((rd_T67 l0_0 (rd t859 0)).f0)), .int .i64 ((rd_T67 l0_0 (rd t859 0)).f2), .int .i64 ((rd_T67 l0_0 (rd t859 0)).f3)] (by rfl) rfl rfl (by (try simp only [List.map_toArray, List.map_cons, List.map_nil]); first | done | rfl | (simp only [List.length_drop, List.length_take]; rfl)) ?_
                with_reducible refine (spec_TunedPitch.calls k (rd l0_2 ((rd_T67 l0_0 (rd t859 0)).f0)) ((rd_T67 l0_0 (rd t859 0)).f2) ((rd_T67 l0_0 (rd t859 0)).f3) t866 _ A26.out).mono ?_
                rintro e w50 ⟨rfl, hb⟩
                refine ⟨_, rfl, ?_⟩
                have n0_ := Aside0.mk (Kd.R_below (oR HO853) hb)
                have n1_ := Aside0.mk (Kd.R_below (oR HO857) hb)
                have n2_ := Aside0.mk (Kd.R_below (oR HO861) hb)
                have n3_ := Aside0.mk (blk_below (g := gb849) (o := .cells #[.slice (some ad863) l0_0.length c0_0, .int .i64 a0_1, .slice (some ad865) l0_2.length c0_2] 30 (0, 0)) (oK BK849) hb)
                have n4_ := Aside0.mk (blk_below (g := gb850) (o := .cells #[.slice none 0 0, .int .i64 0, .slice none 0 0] 30 (0, 0)) (oK BK850) hb)
                have n5_ := Aside0.mk (blk_below (g := gb858) (o := .cells #[.slice Ao34 t851.length co34, .int .i64 t854, .slice Ao38 t855.length co38] 30 (0, 0)) (oK BK858) hb)
                have n6_ := Aside0.mk (blk_below (g := gb864) (o := .cells #[.int .i64 ((rd_T67 l0_0 (rd t859 0)).f0), .int .i64 ((rd_T67 l0_0 (rd t859 0)).f1), .int .i64 ((rd_T67 l0_0 (rd t859 0)).f2), .int .i64 ((rd_T67 l0_0 (rd t859 0)).f3)] 67 (0, 0)) (oK BK864) hb)
                have n7_ := Aside0.mk (below_step (oB HB) hb)
                clear HO853
                clear HO857
                clear HO861
                clear BK849
                clear BK850
                clear BK858
                clear BK864
                clear HB
                have HO853 := n0_
                have HO857 := n1_
                have HO861 := n2_
                have BK849 := n3_
                have BK850 := n4_
                have BK858 := n5_
                have BK864 := n6_
                have HB := n7_
                clear n0_ n1_ n2_ n3_ n4_ n5_ n6_ n7_
                (try clear hb)
                (try clear hb2)
                (try clear hk)
                (try clear hi)
                refine hK.out _ _ ⟨(blk_cell BK849.out 0).trans rfl, (blk_cell BK849.out 1).trans rfl, (blk_cell BK849.out 2).trans rfl, (blk_cell BK864.out 0).trans rfl, (blk_cell BK864.out 1).trans rfl, (blk_cell BK864.out 2).trans rfl, (blk_cell BK864.out 3).trans rfl, ((HB.out.cell (World.block_lt_of_cell? w _ hw865_0)).trans hw865_0)⟩ (fun hHeld => ?_)
                clear hK K
                refine norm_ (a' := ?_) ?_ ?_
                rotate_left
                · show Act.put _ (some 33) _ = _
                  simp only [Act.put, List.setIfInBounds_toArray, List.set_cons_zero, List.set_cons_succ, i64_w, i32_w]
                  rfl
                refine pure_ (i := 11) (N := some 7) (v := ?_) (a' := ?_) #[true, true, true, true, true, true, true, true, true, true, true, true] rfl rfl (any_of HT_.out (by kernel_rfl)) (fun _ _ _ h => h) (Or.inl ⟨by rfl, ?_⟩) ?_ ?_
                rotate_left
                · intro w'
                  go_simp
                  with_reducible rfl
                rotate_left
                · simp only [Act.put, List.setIfInBounds_toArray, List.set_cons_zero, List.set_cons_succ, i64_w, i32_w]
                  rfl
                refine done_ (done_of HT_.out (by kernel_rfl)) ?_
                have hnb51 := NB858_864.out
                have hnc51 := NB864_858.out
                have hcz52_0 : w50.cell? ⟨gb858, 0, none⟩ = some (.slice Ao34 t851.length co34) := (blk_cell BK858.out 0).trans rfl
                have hcz52_1 : w50.cell? ⟨gb858, 1, none⟩ = some (.int .i64 t854) := (blk_cell BK858.out 1).trans rfl
                have hcz52_2 : w50.cell? ⟨gb858, 2, none⟩ = some (.slice Ao38 t855.length co38) := (blk_cell BK858.out 2).trans rfl
                have hfz52_0 := blk_frozen BK858.out 0
                have hfz52_1 := blk_frozen BK858.out 1
                have hfz52_2 := blk_frozen BK858.out 2
                have hnb53 := NB850_864.out
                have hnc53 := NB864_850.out
                have hcz54_0 : w50.cell? ⟨gb850, 0, none⟩ = some (.slice none 0 0) := (blk_cell BK850.out 0).trans rfl
                have hcz54_1 : w50.cell? ⟨gb850, 1, none⟩ = some (.int .i64 0) := (blk_cell BK850.out 1).trans rfl
                have hcz54_2 : w50.cell? ⟨gb850, 2, none⟩ = some (.slice none 0 0) := (blk_cell BK850.out 2).trans rfl
                have hfz54_0 := blk_frozen BK850.out 0
                have hfz54_1 := blk_frozen BK850.out 1
                have hfz54_2 := blk_frozen BK850.out 2
                try go_wp2
                refine bodyPost_ret (results_ct rfl _ _ gb850 30 #[.slice Ao34 t851.length co34, .int .i64 t854, .slice Ao38 t855.length co38] (0, 0) _ rfl (by (with_reducible repeat (first | refine blk_drewN ?_ _ | refine blk_drew ?_ | refine blk_alloc ?_ _)); refine blk_put (cs := #[.slice Ao34 t851.length co34, .int .i64 t854, .slice none 0 0]) ?_ 2 _ rfl; (with_reducible repeat (first | refine blk_drewN ?_ _ | refine blk_drew ?_ | refine blk_alloc ?_ _)); refine blk_put (cs := #[.slice Ao34 t851.length co34, .int .i64 0, .slice none 0 0]) ?_ 1 _ rfl; (with_reducible repeat (first | refine blk_drewN ?_ _ | refine blk_drew ?_ | refine blk_alloc ?_ _)); refine blk_put (cs := #[.slice none 0 0, .int .i64 0, .slice none 0 0]) ?_ 0 _ rfl; (with_reducible repeat (first | refine blk_drewN ?_ _ | refine blk_drew ?_ | refine blk_alloc ?_ _)); exact BK850.out) Try.underlying30 rfl (by kernel_rfl)) rfl ?_
                exact ⟨_, _, by first | rfl | (simp [errW_none, errW_some] <;> rfl) | (simp [*, errW_none, errW_some] <;> rfl), by (with_reducible repeat (first | apply Kd.R_alloc | apply Kd.R_drewN | apply Kd.R_drew)); exact Kd.R_mono (Kd.R_far (p := ⟨gb850, 2, none⟩) (Kd.R_far (p := ⟨gb850, 1, none⟩) (Kd.R_far (p := ⟨gb850, 0, none⟩) (Kd.R_types HO853.out BK850.out (by decide)) (fun _ hk => hk.2) (.slice Ao34 t851.length co34)) (fun _ hk => hk.2) (.int .i64 t854)) (fun _ hk => hk.2) (.slice Ao38 t855.length co38)) (fun _ hk => trivial), by (with_reducible repeat (first | apply Kd.R_alloc | apply Kd.R_drewN | apply Kd.R_drew)); exact Kd.R_mono (Kd.R_far (p := ⟨gb850, 2, none⟩) (Kd.R_far (p := ⟨gb850, 1, none⟩) (Kd.R_far (p := ⟨gb850, 0, none⟩) (Kd.R_types HO857.out BK850.out (by decide)) (fun _ hk => hk.2) (.slice Ao34 t851.length co34)) (fun _ hk => hk.2) (.int .i64 t854)) (fun _ hk => hk.2) (.slice Ao38 t855.length co38)) (fun _ hk => trivial), oB HB⟩
              · rw [if_neg c27] at H
                have c27b0 : (t866 == 0) = false := beq_eq_false_iff_ne.mpr c27
                have c27b1 : (t866 != 0) = true := bne_iff_ne.mpr c27
                by_cases c55 : 0 ≤ ((rd_T67 l0_0 (rd t859 0)).f1)
                · rw [if_pos c55] at H
                  have c55b0 : decide (0 ≤ ((rd_T67 l0_0 (rd t859 0)).f1)) = true := decide_eq_true c55
                  clear c55
                  by_cases c56 : ((rd_T67 l0_0 (rd t859 0)).f1) < (t855.length : Int)
                  · rw [if_pos c56] at H
                    have c56b0 : decide (((rd_T67 l0_0 (rd t859 0)).f1) < (t855.length : Int)) = true := decide_eq_true c56
                    clear c56
                    obtain ⟨y867, hy867⟩ : ∃ y_ : List Int, y_ = (t855.set (((rd_T67 l0_0 (rd t859 0)).f1) : Int).toNat t866) := ⟨_, rfl⟩
                    replace H : (some (t851, t854, y867, true)) = some (r1, r2, r3, r4) := by first | (rw [hy867]; with_reducible exact H) | (have H2_ := (Option.bind_some _ _).symm.trans H; rw [hy867]; with_reducible exact H2_) | (have H2_ := (Option.bind_some _ _).symm.trans H; with_reducible exact H2_) | with_reducible exact H | (rw [hy867]; exact H) | exact H
                    have Ny867 := Aside0.mk hy867
                    clear hy867
                    simp only [Option.some.injEq, Prod.mk.injEq] at H
                    obtain ⟨rfl, rfl, rfl, rfl⟩ := H
                    go_enter Try.func43, Try.ntmps43
                    try go_wp2_with (first | ((with_reducible refine gate_dst (N := 1) rfl ?_); refine box_event ?hg (N := 1) ?hd (cs := #[.slice A0_0 l0_0.length c0_0, .int .i64 a0_1, .slice A0_2 l0_2.length c0_2]) (t := 30) ?hr ?_; (case hd => rfl); (case hg => rfl); (case hr => first | (go_simp; done) | (go_simp; rfl)); intro gb849 hg w58 hbox hb; have n0_ := Aside0.mk (below_step (oB HB) hb); have n1_ := Aside0.mk (hbox); have n2_ := Aside0.mk ((by rw [hg]; exact (below_size (oB HB)) : w.heap.size ≤ gb849)); have n3_ := Aside0.mk ((by rw [hg]; exact (below_size (oB HB)) : w.heap.size ≤ gb849)); clear HB; have HB := n0_; have BK849 := n1_; have GW849 := n2_; have GE849 := n3_; clear n0_ n1_ n2_ n3_; clear hb hbox hg) | ((with_reducible refine gate_dst (N := 2) rfl ?_); refine box_event ?hg (N := 2) ?hd (cs := #[.slice none 0 0, .int .i64 0, .slice none 0 0]) (t := 30) ?hr ?_; (case hd => rfl); (case hg => rfl); (case hr => first | (go_simp; done) | (go_simp; rfl)); intro gb850 hg w59 hbox hb; have n0_ := Aside0.mk (blk_below (g := gb849) (o := .cells #[.slice A0_0 l0_0.length c0_0, .int .i64 a0_1, .slice A0_2 l0_2.length c0_2] 30 (0, 0)) (oK BK849) hb); have n1_ := Aside0.mk (below_step (oB HB) hb); have n2_ := Aside0.mk (hbox); have n3_ := Aside0.mk ((by rw [hg]; exact (below_size (oB HB)) : w.heap.size ≤ gb850)); have n4_ := Aside0.mk ((by rw [hg]; exact (below_size (oB HB)) : w.heap.size ≤ gb850)); have n5_ := Aside0.mk ((by rw [hg]; exact Nat.ne_of_lt (blk_lt (g := gb849) (o := .cells #[.slice A0_0 l0_0.length c0_0, .int .i64 a0_1, .slice A0_2 l0_2.length c0_2] 30 (0, 0)) (oK BK849)) : gb849 ≠ gb850)); have n6_ := Aside0.mk ((by rw [hg]; exact Nat.ne_of_gt (blk_lt (g := gb849) (o := .cells #[.slice A0_0 l0_0.length c0_0, .int .i64 a0_1, .slice A0_2 l0_2.length c0_2] 30 (0, 0)) (oK BK849)) : gb850 ≠ gb849)); clear BK849; clear HB; have BK849 := n0_; have HB := n1_; have BK850 := n2_; have GW850 := n3_; have GE850 := n4_; have NB849_850 := n5_; have NB850_849 := n6_; clear n0_ n1_ n2_ n3_ n4_ n5_ n6_; clear hb hbox hg; have hnb60 := NB849_850.out; have hnc60 := NB850_849.out; have hcz61_0 : w59.cell? ⟨gb849, 0, none⟩ = some (.slice A0_0 l0_0.length c0_0) := (blk_cell BK849.out 0).trans rfl; have hcz61_1 : w59.cell? ⟨gb849, 1, none⟩ = some (.int .i64 a0_1) := (blk_cell BK849.out 1).trans rfl; have hcz61_2 : w59.cell? ⟨gb849, 2, none⟩ = some (.slice A0_2 l0_2.length c0_2) := (blk_cell BK849.out 2).trans rfl; have hfz61_0 := blk_frozen BK849.out 0; have hfz61_1 := blk_frozen BK849.out 1; have hfz61_2 := blk_frozen BK849.out 2) | ((with_reducible refine gate_callee (f := 68) rfl ?_); refine goesL_ (some 9) rfl rfl Try.func68 (by kernel_rfl) rfl #[.agg #[.slice A0_0 l0_0.length c0_0, .int .i64 a0_1, .slice A0_2 l0_2.length c0_2]] rfl (by (try simp only [List.map_toArray, List.map_cons, List.map_nil]); first | done | rfl | (simp only [List.length_drop, List.length_take]; rfl)) ?_; (with_reducible refine (spec_l36Copy.calls _ _ l0_0 a0_1 _ _ l0_2 t851 t854 t855 _ ?side1 ?side2 ?side3 ?side4 A2.out).mono ?_); (case side1 => exact oc_ HR0_0.out); (case side2 => exact HC0_0.out); (case side3 => exact oc_ HR0_2.out); (case side4 => exact HC0_2.out); rintro e w62 ⟨v852, v856, rfl, ho0, ho1, hb⟩; refine ⟨_, rfl, ?_⟩; have n0_ := Aside0.mk (Kd.R_lower ho0 (below_size (oB HB))); have n1_ := Aside0.mk (Kd.R_lower ho1 (below_size (oB HB))); have n2_ := Aside0.mk (blk_below (g := gb849) (o := .cells #[.slice A0_0 l0_0.length c0_0, .int .i64 a0_1, .slice A0_2 l0_2.length c0_2] 30 (0, 0)) (oK BK849) hb); have n3_ := Aside0.mk (blk_below (g := gb850) (o := .cells #[.slice none 0 0, .int .i64 0, .slice none 0 0] 30 (0, 0)) (oK BK850) hb); have n4_ := Aside0.mk (below_step (oB HB) hb); clear BK849; clear BK850; clear HB; have HO853 := n0_; have HO857 := n1_; have BK849 := n2_; have BK850 := n3_; have HB := n4_; clear n0_ n1_ n2_ n3_ n4_; (try clear hb); (try clear hb2); (try clear hk); (try clear hi); (try clear ho0); (try clear ho1)) | ((with_reducible refine gate_dst (N := 4) rfl ?_); refine box_event ?hg (N := 4) ?hd (cs := #[.slice none 0 0, .int .i64 0, .slice none 0 0]) (t := 30) ?hr ?_; (case hd => rfl); (case hg => rfl); (case hr => first | (go_simp; done) | (go_simp; rfl)); intro gb858 hg w63 hbox hb; have n0_ := Aside0.mk (Kd.R_below (oR HO853) hb); have n1_ := Aside0.mk (Kd.R_below (oR HO857) hb); have n2_ := Aside0.mk (blk_below (g := gb849) (o := .cells #[.slice A0_0 l0_0.length c0_0, .int .i64 a0_1, .slice A0_2 l0_2.length c0_2] 30 (0, 0)) (oK BK849) hb); have n3_ := Aside0.mk (blk_below (g := gb850) (o := .cells #[.slice none 0 0, .int .i64 0, .slice none 0 0] 30 (0, 0)) (oK BK850) hb); have n4_ := Aside0.mk (below_step (oB HB) hb); have n5_ := Aside0.mk (hbox); have n6_ := Aside0.mk ((by rw [hg]; exact (below_size (oB HB)) : w.heap.size ≤ gb858)); have n7_ := Aside0.mk ((by rw [hg]; exact (below_size (oB HB)) : w.heap.size ≤ gb858)); have n8_ := Aside0.mk ((by rw [hg]; exact Nat.ne_of_lt (blk_lt (g := gb849) (o := .cells #[.slice A0_0 l0_0.length c0_0, .int .i64 a0_1, .slice A0_2 l0_2.length c0_2] 30 (0, 0)) (oK BK849)) : gb849 ≠ gb858)); have n9_ := Aside0.mk ((by rw [hg]; exact Nat.ne_of_gt (blk_lt (g := gb849) (o := .cells #[.slice A0_0 l0_0.length c0_0, .int .i64 a0_1, .slice A0_2 l0_2.length c0_2] 30 (0, 0)) (oK BK849)) : gb858 ≠ gb849)); have n10_ := Aside0.mk ((by rw [hg]; exact Nat.ne_of_lt (blk_lt (g := gb850) (o := .cells #[.slice none 0 0, .int .i64 0, .slice none 0 0] 30 (0, 0)) (oK BK850)) : gb850 ≠ gb858)); have n11_ := Aside0.mk ((by rw [hg]; exact Nat.ne_of_gt (blk_lt (g := gb850) (o := .cells #[.slice none 0 0, .int .i64 0, .slice none 0 0] 30 (0, 0)) (oK BK850)) : gb858 ≠ gb850)); clear HO853; clear HO857; clear BK849; clear BK850; clear HB; have HO853 := n0_; have HO857 := n1_; have BK849 := n2_; have BK850 := n3_; have HB := n4_; have BK858 := n5_; have GW858 := n6_; have GE858 := n7_; have NB849_858 := n8_; have NB858_849 := n9_; have NB850_858 := n10_; have NB858_850 := n11_; clear n0_ n1_ n2_ n3_ n4_ n5_ n6_ n7_ n8_ n9_ n10_ n11_; clear hb hbox hg; obtain ⟨Ao64, co64, eo64⟩ := Kd.R_slice HO853.out; subst eo64; have hnb65 := NB858_849.out; have hnc65 := NB849_858.out; have hnb66 := NB858_850.out; have hnc66 := NB850_858.out; have hcz67_0 : w63.cell? ⟨gb858, 0, none⟩ = some (.slice none 0 0) := (blk_cell BK858.out 0).trans rfl; have hcz67_1 : w63.cell? ⟨gb858, 1, none⟩ = some (.int .i64 0) := (blk_cell BK858.out 1).trans rfl; have hcz67_2 : w63.cell? ⟨gb858, 2, none⟩ = some (.slice none 0 0) := (blk_cell BK858.out 2).trans rfl; have hfz67_0 := blk_frozen BK858.out 0; have hfz67_1 := blk_frozen BK858.out 1; have hfz67_2 := blk_frozen BK858.out 2; obtain ⟨Ao68, co68, eo68⟩ := Kd.R_slice HO857.out; subst eo68; have hcz69_0 : w63.cell? ⟨gb849, 0, none⟩ = some (.slice A0_0 l0_0.length c0_0) := (blk_cell BK849.out 0).trans rfl; have hcz69_1 : w63.cell? ⟨gb849, 1, none⟩ = some (.int .i64 a0_1) := (blk_cell BK849.out 1).trans rfl; have hcz69_2 : w63.cell? ⟨gb849, 2, none⟩ = some (.slice A0_2 l0_2.length c0_2) := (blk_cell BK849.out 2).trans rfl; have hfz69_0 := blk_frozen BK849.out 0; have hfz69_1 := blk_frozen BK849.out 1; have hfz69_2 := blk_frozen BK849.out 2) | ((with_reducible refine gate_callee (f := 34) rfl ?_); refine goesL_ (some 11) rfl rfl Try.func34 (by kernel_rfl) rfl #[.agg #[.slice A0_0 l0_0.length c0_0, .int .i64 a0_1, .slice A0_2 l0_2.length c0_2]] rfl (by (try simp only [List.map_toArray, List.map_cons, List.map_nil]); first | done | rfl | (simp only [List.length_drop, List.length_take]; rfl)) ?_; (with_reducible refine (spec_WrongSteps.calls k _ _ l0_0 a0_1 _ _ l0_2 t859 _ ?side1 ?side2 ?side3 ?side4 A3.out).mono ?_); (case side1 => exact Kd.C_below HR0_0.out (oB HB)); (case side2 => exact HC0_0.out); (case side3 => exact Kd.C_below HR0_2.out (oB HB)); (case side4 => exact HC0_2.out); rintro e w70 ⟨v860, rfl, ho0, hb⟩; refine ⟨_, rfl, ?_⟩; have n0_ := Aside0.mk (Kd.R_below (by (with_reducible repeat (first | apply Kd.R_alloc | apply Kd.R_drewN | apply Kd.R_drew)); exact (Kd.R_mono (Kd.R_far (p := ⟨gb858, 2, none⟩) (Kd.R_far (p := ⟨gb858, 1, none⟩) (Kd.R_far (p := ⟨gb858, 0, none⟩) (Kd.R_types HO853.out BK858.out (by decide)) (fun _ hk => hk.2) (.slice Ao64 t851.length co64)) (fun _ hk => hk.2) (.int .i64 t854)) (fun _ hk => hk.2) (.slice Ao68 t855.length co68)) (fun _ h_ => h_.1))) hb); have n1_ := Aside0.mk (Kd.R_elder' (by (with_reducible repeat (first | apply Kd.R_alloc | apply Kd.R_drewN | apply Kd.R_drew)); exact (Kd.R_mono (Kd.R_far (p := ⟨gb858, 2, none⟩) (Kd.R_far (p := ⟨gb858, 1, none⟩) (Kd.R_far (p := ⟨gb858, 0, none⟩) (Kd.R_types HO857.out BK858.out (by decide)) (fun _ hk => hk.2) (.slice Ao64 t851.length co64)) (fun _ hk => hk.2) (.int .i64 t854)) (fun _ hk => hk.2) (.slice Ao68 t855.length co68)) (fun _ h_ => h_.1))) (Kd.R_base ho0) hb); have n2_ := Aside0.mk (Kd.R_lower (Kd.R_new' ho0 (Kd.R_lt (by (with_reducible repeat (first | apply Kd.R_alloc | apply Kd.R_drewN | apply Kd.R_drew)); exact (Kd.R_mono (Kd.R_far (p := ⟨gb858, 2, none⟩) (Kd.R_far (p := ⟨gb858, 1, none⟩) (Kd.R_far (p := ⟨gb858, 0, none⟩) (Kd.R_types HO857.out BK858.out (by decide)) (fun _ hk => hk.2) (.slice Ao64 t851.length co64)) (fun _ hk => hk.2) (.int .i64 t854)) (fun _ hk => hk.2) (.slice Ao68 t855.length co68)) (fun _ h_ => h_.1))))) (below_size (oB HB))); have n3_ := Aside0.mk (blk_below (g := gb849) (o := .cells #[.slice A0_0 l0_0.length c0_0, .int .i64 a0_1, .slice A0_2 l0_2.length c0_2] 30 (0, 0)) (by (with_reducible repeat (first | refine blk_drewN ?_ _ | refine blk_drew ?_ | refine blk_alloc ?_ _)); refine blk_far ?_ NB849_858.out _; (with_reducible repeat (first | refine blk_drewN ?_ _ | refine blk_drew ?_ | refine blk_alloc ?_ _)); refine blk_far ?_ NB849_858.out _; (with_reducible repeat (first | refine blk_drewN ?_ _ | refine blk_drew ?_ | refine blk_alloc ?_ _)); refine blk_far ?_ NB849_858.out _; (with_reducible repeat (first | refine blk_drewN ?_ _ | refine blk_drew ?_ | refine blk_alloc ?_ _)); exact BK849.out) hb); have n4_ := Aside0.mk (blk_below (g := gb850) (o := .cells #[.slice none 0 0, .int .i64 0, .slice none 0 0] 30 (0, 0)) (by (with_reducible repeat (first | refine blk_drewN ?_ _ | refine blk_drew ?_ | refine blk_alloc ?_ _)); refine blk_far ?_ NB850_858.out _; (with_reducible repeat (first | refine blk_drewN ?_ _ | refine blk_drew ?_ | refine blk_alloc ?_ _)); refine blk_far ?_ NB850_858.out _; (with_reducible repeat (first | refine blk_drewN ?_ _ | refine blk_drew ?_ | refine blk_alloc ?_ _)); refine blk_far ?_ NB850_858.out _; (with_reducible repeat (first | refine blk_drewN ?_ _ | refine blk_drew ?_ | refine blk_alloc ?_ _)); exact BK850.out) hb); have n5_ := Aside0.mk (blk_below (g := gb858) (o := .cells #[.slice Ao64 t851.length co64, .int .i64 t854, .slice Ao68 t855.length co68] 30 (0, 0)) (by (with_reducible repeat (first | refine blk_drewN ?_ _ | refine blk_drew ?_ | refine blk_alloc ?_ _)); refine blk_put (cs := #[.slice Ao64 t851.length co64, .int .i64 t854, .slice none 0 0]) ?_ 2 _ rfl; (with_reducible repeat (first | refine blk_drewN ?_ _ | refine blk_drew ?_ | refine blk_alloc ?_ _)); refine blk_put (cs := #[.slice Ao64 t851.length co64, .int .i64 0, .slice none 0 0]) ?_ 1 _ rfl; (with_reducible repeat (first | refine blk_drewN ?_ _ | refine blk_drew ?_ | refine blk_alloc ?_ _)); refine blk_put (cs := #[.slice none 0 0, .int .i64 0, .slice none 0 0]) ?_ 0 _ rfl; (with_reducible repeat (first | refine blk_drewN ?_ _ | refine blk_drew ?_ | refine blk_alloc ?_ _)); exact BK858.out) hb); have n6_ := Aside0.mk (below_step (oB HB) hb); clear HO853; clear HO857; clear BK849; clear BK850; clear BK858; clear HB; have HO853 := n0_; have HO857 := n1_; have HO861 := n2_; have BK849 := n3_; have BK850 := n4_; have BK858 := n5_; have HB := n6_; clear n0_ n1_ n2_ n3_ n4_ n5_ n6_; (try clear hb); (try clear hb2); (try clear hk); (try clear hi); (try clear ho0); obtain ⟨Ao71, co71, eo71⟩ := Kd.R_slice HO861.out; subst eo71))
                    have n0_ := Aside0.mk (Kd.R_drew HO853.out)
                    have n1_ := Aside0.mk (Kd.R_drew HO857.out)
                    have n2_ := Aside0.mk (Kd.R_drew HO861.out)
                    have n3_ := Aside0.mk (blk_drew BK849.out)
                    have n4_ := Aside0.mk (blk_drew BK850.out)
                    have n5_ := Aside0.mk (blk_drew BK858.out)
                    have n6_ := Aside0.mk (below_drew1 HB.out)
                    clear HO853
                    clear HO857
                    clear HO861
                    clear BK849
                    clear BK850
                    clear BK858
                    clear HB
                    have HO853 := n0_
                    have HO857 := n1_
                    have HO861 := n2_
                    have BK849 := n3_
                    have BK850 := n4_
                    have BK858 := n5_
                    have HB := n6_
                    clear n0_ n1_ n2_ n3_ n4_ n5_ n6_
                    have p862 : 0 ≤ (0 : Int) := (by omega)
                    have q862 : 0 < (t859.length : Int) := of_decide_eq_true (by first | (with_reducible assumption) | assumption)
                    obtain ⟨ad862, e862, hx862_0⟩ := Kd.at_int (Kd.R_reads' HO861.out).2.2 0 p862 q862
                    cases e862
                    have qi862 : (0 < t859.length) = True := eq_true (by omega)
                    (try rw [show ((0 : Int)).toNat = 0 from rfl] at hx862_0)
                    (try rw [Addr.add_zero'] at hx862_0)
                    replace p862 := eq_true p862
                    replace q862 := eq_true q862
                    have p863 : 0 ≤ ((rd t859 0) : Int) := of_decide_eq_true (by first | (with_reducible assumption) | assumption)
                    have q863 : (rd t859 0) < (l0_0.length : Int) := of_decide_eq_true (by first | (with_reducible assumption) | assumption)
                    obtain ⟨ad863, e863, hx863_0, hx863_1, hx863_2, hx863_3⟩ := at_T67 HR0_0.out (rd t859 0) p863 q863
                    have hw863_3 := hx863_3
                    have hw863_2 := hx863_2
                    have hw863_1 := hx863_1
                    have hw863_0 := hx863_0
                    cases e863
                    replace hx863_0 := (HB.out.cell (World.block_lt_of_cell? w _ hx863_0)).trans hx863_0
                    replace hx863_1 := (HB.out.cell (World.block_lt_of_cell? w _ hx863_1)).trans hx863_1
                    replace hx863_2 := (HB.out.cell (World.block_lt_of_cell? w _ hx863_2)).trans hx863_2
                    replace hx863_3 := (HB.out.cell (World.block_lt_of_cell? w _ hx863_3)).trans hx863_3
                    replace p863 := eq_true p863
                    replace q863 := eq_true q863
                    refine start_ (n := 9) (S := fun w' => w'.cell? ⟨gb849, 0, none⟩ = some (.slice (some ad863) l0_0.length c0_0) ∧ w'.cell? ⟨gb849, 1, none⟩ = some (.int .i64 a0_1) ∧ w'.cell? ⟨gb849, 2, none⟩ = some (.slice A0_2 l0_2.length c0_2) ∧ w'.cell? ad862 = some (.int .i64 (rd t859 0)) ∧ w'.cell? (ad863.add (((rd t859 0)).toNat * 4)) = some (.int .i64 ((rd_T67 l0_0 (rd t859 0)).f0)) ∧ w'.cell? ⟨(ad863.add (((rd t859 0)).toNat * 4)).block, (ad863.add (((rd t859 0)).toNat * 4)).off + 1, none⟩ = some (.int .i64 ((rd_T67 l0_0 (rd t859 0)).f1)) ∧ w'.cell? ⟨(ad863.add (((rd t859 0)).toNat * 4)).block, (ad863.add (((rd t859 0)).toNat * 4)).off + 2, none⟩ = some (.int .i64 ((rd_T67 l0_0 (rd t859 0)).f2)) ∧ w'.cell? ⟨(ad863.add (((rd t859 0)).toNat * 4)).block, (ad863.add (((rd t859 0)).toNat * 4)).off + 3, none⟩ = some (.int .i64 ((rd_T67 l0_0 (rd t859 0)).f3))) (ds := []) #[false, false, false, false, false, false, false, false, false] (by kernel_rfl) rfl rfl ⟨(blk_cell BK849.out 0).trans rfl, (blk_cell BK849.out 1).trans rfl, (blk_cell BK849.out 2).trans rfl, hx862_0, ((HB.out.cell (World.block_lt_of_cell? w _ hw863_0)).trans hw863_0), ((HB.out.cell (World.block_lt_of_cell? w _ hw863_1)).trans hw863_1), ((HB.out.cell (World.block_lt_of_cell? w _ hw863_2)).trans hw863_2), ((HB.out.cell (World.block_lt_of_cell? w _ hw863_3)).trans hw863_3)⟩ (fun hHeld => ?_); refine with_tabW spec_MendStep.tab5 spec_MendStep.bits5 (fun HT_ HW_ => ?_)
                    generalize w70.drew = w72 at HO853 HO857 HO861 BK849 BK850 BK858 HB hx862_0 hx863_0 hx863_1 hx863_2 hx863_3 hHeld ⊢
                    refine pure_ (i := 0) (N := some 16) (v := ?_) (a' := ?_) #[true, false, false, false, false, false, false, false, false] rfl rfl (any_of HT_.out (by kernel_rfl)) (fun _ _ _ h => h) (Or.inl ⟨by rfl, ?_⟩) ?_ ?_
                    rotate_left
                    · intro w'
                      go_simp
                      with_reducible rfl
                    rotate_left
                    · simp only [Act.put, List.setIfInBounds_toArray, List.set_cons_zero, List.set_cons_succ, i64_w, i32_w]
                      rfl
                    refine pure_ (i := 2) (N := some 18) (v := ?_) (a' := ?_) #[true, false, true, false, false, false, false, false, false] rfl rfl (any_of HT_.out (by kernel_rfl)) (fun _ _ _ h => h) (Or.inl ⟨by rfl, ?_⟩) ?_ ?_
                    rotate_left
                    · intro w'
                      go_simp
                      with_reducible rfl
                    rotate_left
                    · simp only [Act.put, List.setIfInBounds_toArray, List.set_cons_zero, List.set_cons_succ, i64_w, i32_w]
                      rfl
                    refine pure_ (i := 3) (N := some 19) (v := ?_) (a' := ?_) #[true, false, true, true, false, false, false, false, false] rfl rfl (any_of HT_.out (by kernel_rfl)) (fun _ _ _ h => h) (Or.inl ⟨by rfl, ?_⟩) ?_ ?_
                    rotate_left
                    · intro w'
                      go_simp
                      with_reducible rfl
                    rotate_left
                    · simp only [Act.put, List.setIfInBounds_toArray, List.set_cons_zero, List.set_cons_succ, i64_w, i32_w]
                      rfl
                    refine take_ (i := 1) (N := some 17) (v := ?_) (a' := ?_) #[true, true, true, true, false, false, false, false, false] rfl rfl (take_ofW HT_.out HW_.out (by kernel_rfl)) (fun _ _ _ h => h) (Or.inl ⟨by rfl, ?_⟩) hHeld ?_ ?_
                    rotate_left
                    · rintro w' ⟨s0, s1, s2, s3, s4, s5, s6, s7⟩
                      go_simp
                      with_reducible rfl
                    rotate_left
                    · simp only [Act.put, List.setIfInBounds_toArray, List.set_cons_zero, List.set_cons_succ, i64_w, i32_w]
                      rfl
                    refine take_ (i := 4) (N := some 20) (v := ?_) (a' := ?_) #[true, true, true, true, true, false, false, false, false] rfl rfl (take_ofW HT_.out HW_.out (by kernel_rfl)) (fun _ _ _ h => h) (Or.inl ⟨by rfl, ?_⟩) hHeld ?_ ?_
                    rotate_left
                    · rintro w' ⟨s0, s1, s2, s3, s4, s5, s6, s7⟩
                      go_simp
                      with_reducible rfl
                    rotate_left
                    · simp only [Act.put, List.setIfInBounds_toArray, List.set_cons_zero, List.set_cons_succ, i64_w, i32_w]
                      rfl
                    refine pure_ (i := 5) (N := some 21) (v := ?_) (a' := ?_) #[true, true, true, true, true, true, false, false, false] rfl rfl (any_of HT_.out (by kernel_rfl)) (fun _ _ _ h => h) (Or.inl ⟨by rfl, ?_⟩) ?_ ?_
                    rotate_left
                    · intro w'
                      go_simp
                      with_reducible rfl
                    rotate_left
                    · simp only [Act.put, List.setIfInBounds_toArray, List.set_cons_zero, List.set_cons_succ, i64_w, i32_w]
                      rfl
                    refine take_ (i := 6) (N := some 22) (v := ?_) (a' := ?_) #[true, true, true, true, true, true, true, false, false] rfl rfl (take_ofW HT_.out HW_.out (by kernel_rfl)) (fun _ _ _ h => h) (Or.inl ⟨by rfl, ?_⟩) hHeld ?_ ?_
                    rotate_left
                    · rintro w' ⟨s0, s1, s2, s3, s4, s5, s6, s7⟩
                      go_simp
                      with_reducible rfl
                    rotate_left
                    · simp only [Act.put, List.setIfInBounds_toArray, List.set_cons_zero, List.set_cons_succ, i64_w, i32_w]
                      rfl
                    refine one_ (i := 7) (N := some 6) #[true, true, true, true, true, true, true, true, false] rfl rfl (one_of HT_.out (by kernel_rfl)) (by decide) (fun K hK => ?_)
                    refine box_step ?hg (N := 6) ?hd (cs := #[.int .i64 0, .int .i64 0, .int .i64 0, .int .i64 0]) (t := 67) ?hr ?_; (case hd => rfl); (case hg => rfl); (case hr => first | (go_simp; done) | (go_simp; rfl))
                    intro gb864 hg w73 hbox hb
                    have HS3_ := (hb.cell (World.block_lt_of_cell? _ _ (hHeld.2.2.2.1))).trans (hHeld.2.2.2.1)
                    have n0_ := Aside0.mk (Kd.R_below (Kd.R_elderB (oR HO853) gb864 (Nat.le_of_eq hg.symm)) hb)
                    have n1_ := Aside0.mk (Kd.R_below (oR HO857) hb)
                    have n2_ := Aside0.mk (Kd.R_below (oR HO861) hb)
                    have n3_ := Aside0.mk (blk_below (g := gb849) (o := .cells #[.slice (some ad863) l0_0.length c0_0, .int .i64 a0_1, .slice A0_2 l0_2.length c0_2] 30 (0, 0)) (oK BK849) hb)
                    have n4_ := Aside0.mk (blk_below (g := gb850) (o := .cells #[.slice none 0 0, .int .i64 0, .slice none 0 0] 30 (0, 0)) (oK BK850) hb)
                    have n5_ := Aside0.mk (blk_below (g := gb858) (o := .cells #[.slice Ao64 t851.length co64, .int .i64 t854, .slice Ao68 t855.length co68] 30 (0, 0)) (oK BK858) hb)
                    have n6_ := Aside0.mk (below_step (oB HB) hb)
                    have n7_ := Aside0.mk (hbox)
                    have n8_ := Aside0.mk ((by rw [hg]; exact (below_size (oB HB)) : w.heap.size ≤ gb864))
                    have n9_ := Aside0.mk ((by rw [hg]; exact (below_size (oB HB)) : w.heap.size ≤ gb864))
                    have n10_ := Aside0.mk ((by rw [hg]; exact Nat.ne_of_lt (blk_lt (g := gb849) (o := .cells #[.slice (some ad863) l0_0.length c0_0, .int .i64 a0_1, .slice A0_2 l0_2.length c0_2] 30 (0, 0)) (oK BK849)) : gb849 ≠ gb864))
                    have n11_ := Aside0.mk ((by rw [hg]; exact Nat.ne_of_gt (blk_lt (g := gb849) (o := .cells #[.slice (some ad863) l0_0.length c0_0, .int .i64 a0_1, .slice A0_2 l0_2.length c0_2] 30 (0, 0)) (oK BK849)) : gb864 ≠ gb849))
                    have n12_ := Aside0.mk ((by rw [hg]; exact Nat.ne_of_lt (blk_lt (g := gb850) (o := .cells #[.slice none 0 0, .int .i64 0, .slice none 0 0] 30 (0, 0)) (oK BK850)) : gb850 ≠ gb864))
                    have n13_ := Aside0.mk ((by rw [hg]; exact Nat.ne_of_gt (blk_lt (g := gb850) (o := .cells #[.slice none 0 0, .int .i64 0, .slice none 0 0] 30 (0, 0)) (oK BK850)) : gb864 ≠ gb850))
                    have n14_ := Aside0.mk ((by rw [hg]; exact Nat.ne_of_lt (blk_lt (g := gb858) (o := .cells #[.slice Ao64 t851.length co64, .int .i64 t854, .slice Ao68 t855.length co68] 30 (0, 0)) (oK BK858)) : gb858 ≠ gb864))
                    have n15_ := Aside0.mk ((by rw [hg]; exact Nat.ne_of_gt (blk_lt (g := gb858) (o := .cells #[.slice Ao64 t851.length co64, .int .i64 t854, .slice Ao68 t855.length co68] 30 (0, 0)) (oK BK858)) : gb864 ≠ gb858))
                    clear HO853
                    clear HO857
                    clear HO861
                    clear BK849
                    clear BK850
                    clear BK858
                    clear HB
                    have HO853 := n0_
                    have HO857 := n1_
                    have HO861 := n2_
                    have BK849 := n3_
                    have BK850 := n4_
                    have BK858 := n5_
                    have HB := n6_
                    have BK864 := n7_
                    have GW864 := n8_
                    have GE864 := n9_
                    have NB849_864 := n10_
                    have NB864_849 := n11_
                    have NB850_864 := n12_
                    have NB864_850 := n13_
                    have NB858_864 := n14_
                    have NB864_858 := n15_
                    clear n0_ n1_ n2_ n3_ n4_ n5_ n6_ n7_ n8_ n9_ n10_ n11_ n12_ n13_ n14_ n15_
                    clear hb hbox hg
                    refine hK.out _ _ ⟨(blk_cell BK849.out 0).trans rfl, (blk_cell BK849.out 1).trans rfl, (blk_cell BK849.out 2).trans rfl, HS3_, ((HB.out.cell (World.block_lt_of_cell? w _ hw863_0)).trans hw863_0), ((HB.out.cell (World.block_lt_of_cell? w _ hw863_1)).trans hw863_1), ((HB.out.cell (World.block_lt_of_cell? w _ hw863_2)).trans hw863_2), ((HB.out.cell (World.block_lt_of_cell? w _ hw863_3)).trans hw863_3)⟩ (fun hHeld => ?_)
                    clear hK K
                    refine norm_ (a' := ?_) ?_ ?_
                    rotate_left
                    · show Act.put _ (some 6) _ = _
                      simp only [Act.put, List.setIfInBounds_toArray, List.set_cons_zero, List.set_cons_succ, i64_w, i32_w]
                      rfl
                    refine one_ (i := 8) (N := none) #[true, true, true, true, true, true, true, true, true] rfl rfl (one_of HT_.out (by kernel_rfl)) (by decide) (fun K hK => ?_)
                    have hs74 : w73.cell? ⟨gb864, 0, none⟩ = some (.int .i64 0) := (blk_cell BK864.out 0).trans rfl
                    have hfs74 := blk_frozen BK864.out 0
                    have hns74_0 := NB849_864.out
                    have hns74_1 := NB850_864.out
                    have hns74_2 := NB858_864.out
                    have hms74_0 := NB864_849.out
                    have hms74_1 := NB864_850.out
                    have hms74_2 := NB864_858.out
                    have hs75 : w73.cell? ⟨gb864, 1, none⟩ = some (.int .i64 0) := (blk_cell BK864.out 1).trans rfl
                    have hfs75 := blk_frozen BK864.out 1
                    have hns75_0 := NB849_864.out
                    have hns75_1 := NB850_864.out
                    have hns75_2 := NB858_864.out
                    have hms75_0 := NB864_849.out
                    have hms75_1 := NB864_850.out
                    have hms75_2 := NB864_858.out
                    have hs76 : w73.cell? ⟨gb864, 2, none⟩ = some (.int .i64 0) := (blk_cell BK864.out 2).trans rfl
                    have hfs76 := blk_frozen BK864.out 2
                    have hns76_0 := NB849_864.out
                    have hns76_1 := NB850_864.out
                    have hns76_2 := NB858_864.out
                    have hms76_0 := NB864_849.out
                    have hms76_1 := NB864_850.out
                    have hms76_2 := NB864_858.out
                    have hs77 : w73.cell? ⟨gb864, 3, none⟩ = some (.int .i64 0) := (blk_cell BK864.out 3).trans rfl
                    have hfs77 := blk_frozen BK864.out 3
                    have hns77_0 := NB849_864.out
                    have hns77_1 := NB850_864.out
                    have hns77_2 := NB858_864.out
                    have hms77_0 := NB864_849.out
                    have hms77_1 := NB864_850.out
                    have hms77_2 := NB864_858.out
                    refine skip_ (w1 := ?_) (by rfl) rfl ?_ ?_
                    rotate_left
                    · go_simp
                      rfl
                    refine hK.out _ _ ⟨((cell_far (p := ⟨gb864, _, none⟩) NB849_864.out _).trans (((cell_far (p := ⟨gb864, _, none⟩) NB849_864.out _).trans (((cell_far (p := ⟨gb864, _, none⟩) NB849_864.out _).trans (((cell_far (p := ⟨gb864, _, none⟩) NB849_864.out _).trans (hHeld.1)))))))), ((cell_far (p := ⟨gb864, _, none⟩) NB849_864.out _).trans (((cell_far (p := ⟨gb864, _, none⟩) NB849_864.out _).trans (((cell_far (p := ⟨gb864, _, none⟩) NB849_864.out _).trans (((cell_far (p := ⟨gb864, _, none⟩) NB849_864.out _).trans (hHeld.2.1)))))))), ((cell_far (p := ⟨gb864, _, none⟩) NB849_864.out _).trans (((cell_far (p := ⟨gb864, _, none⟩) NB849_864.out _).trans (((cell_far (p := ⟨gb864, _, none⟩) NB849_864.out _).trans (((cell_far (p := ⟨gb864, _, none⟩) NB849_864.out _).trans (hHeld.2.2.1)))))))), ((cell_far (p := ⟨gb864, _, none⟩) (by first | exact Kd.own_blk (Kd.R_ne HO861.out BK864.out (by decide)) | (rw [add_block]; exact Kd.own_blk (Kd.R_ne HO861.out BK864.out (by decide))) | (show (Addr.add _ _).block ≠ _; rw [add_block]; exact Kd.own_blk (Kd.R_ne HO861.out BK864.out (by decide))) | (dsimp only; exact Kd.own_blk (Kd.R_ne HO861.out BK864.out (by decide)))) _).trans (((cell_far (p := ⟨gb864, _, none⟩) (by first | exact Kd.own_blk (Kd.R_ne HO861.out BK864.out (by decide)) | (rw [add_block]; exact Kd.own_blk (Kd.R_ne HO861.out BK864.out (by decide))) | (show (Addr.add _ _).block ≠ _; rw [add_block]; exact Kd.own_blk (Kd.R_ne HO861.out BK864.out (by decide))) | (dsimp only; exact Kd.own_blk (Kd.R_ne HO861.out BK864.out (by decide)))) _).trans (((cell_far (p := ⟨gb864, _, none⟩) (by first | exact Kd.own_blk (Kd.R_ne HO861.out BK864.out (by decide)) | (rw [add_block]; exact Kd.own_blk (Kd.R_ne HO861.out BK864.out (by decide))) | (show (Addr.add _ _).block ≠ _; rw [add_block]; exact Kd.own_blk (Kd.R_ne HO861.out BK864.out (by decide))) | (dsimp only; exact Kd.own_blk (Kd.R_ne HO861.out BK864.out (by decide)))) _).trans (((cell_far (p := ⟨gb864, _, none⟩) (by first | exact Kd.own_blk (Kd.R_ne HO861.out BK864.out (by decide)) | (rw [add_block]; exact Kd.own_blk (Kd.R_ne HO861.out BK864.out (by decide))) | (show (Addr.add _ _).block ≠ _; rw [add_block]; exact Kd.own_blk (Kd.R_ne HO861.out BK864.out (by decide))) | (dsimp only; exact Kd.own_blk (Kd.R_ne HO861.out BK864.out (by decide)))) _).trans (hHeld.2.2.2.1)))))))), ((cell_far (p := ⟨gb864, _, none⟩) (by first | exact Nat.ne_of_lt (Nat.lt_of_lt_of_le (by have := World.block_lt_of_cell? _ _ hw863_0; first | rwa [add_block] at this | exact this) GW864.out) | (rw [add_block]; exact Nat.ne_of_lt (Nat.lt_of_lt_of_le (by have := World.block_lt_of_cell? _ _ hw863_0; first | rwa [add_block] at this | exact this) GW864.out)) | (show (Addr.add _ _).block ≠ _; rw [add_block]; exact Nat.ne_of_lt (Nat.lt_of_lt_of_le (by have := World.block_lt_of_cell? _ _ hw863_0; first | rwa [add_block] at this | exact this) GW864.out)) | (dsimp only; exact Nat.ne_of_lt (Nat.lt_of_lt_of_le (by have := World.block_lt_of_cell? _ _ hw863_0; first | rwa [add_block] at this | exact this) GW864.out))) _).trans (((cell_far (p := ⟨gb864, _, none⟩) (by first | exact Nat.ne_of_lt (Nat.lt_of_lt_of_le (by have := World.block_lt_of_cell? _ _ hw863_0; first | rwa [add_block] at this | exact this) GW864.out) | (rw [add_block]; exact Nat.ne_of_lt (Nat.lt_of_lt_of_le (by have := World.block_lt_of_cell? _ _ hw863_0; first | rwa [add_block] at this | exact this) GW864.out)) | (show (Addr.add _ _).block ≠ _; rw [add_block]; exact Nat.ne_of_lt (Nat.lt_of_lt_of_le (by have := World.block_lt_of_cell? _ _ hw863_0; first | rwa [add_block] at this | exact this) GW864.out)) | (dsimp only; exact Nat.ne_of_lt (Nat.lt_of_lt_of_le (by have := World.block_lt_of_cell? _ _ hw863_0; first | rwa [add_block] at this | exact this) GW864.out))) _).trans (((cell_far (p := ⟨gb864, _, none⟩) (by first | exact Nat.ne_of_lt (Nat.lt_of_lt_of_le (by have := World.block_lt_of_cell? _ _ hw863_0; first | rwa [add_block] at this | exact this) GW864.out) | (rw [add_block]; exact Nat.ne_of_lt (Nat.lt_of_lt_of_le (by have := World.block_lt_of_cell? _ _ hw863_0; first | rwa [add_block] at this | exact this) GW864.out)) | (show (Addr.add _ _).block ≠ _; rw [add_block]; exact Nat.ne_of_lt (Nat.lt_of_lt_of_le (by have := World.block_lt_of_cell? _ _ hw863_0; first | rwa [add_block] at this | exact this) GW864.out)) | (dsimp only; exact Nat.ne_of_lt (Nat.lt_of_lt_of_le (by have := World.block_lt_of_cell? _ _ hw863_0; first | rwa [add_block] at this | exact this) GW864.out))) _).trans (((cell_far (p := ⟨gb864, _, none⟩) (by first | exact Nat.ne_of_lt (Nat.lt_of_lt_of_le (by have := World.block_lt_of_cell? _ _ hw863_0; first | rwa [add_block] at this | exact this) GW864.out) | (rw [add_block]; exact Nat.ne_of_lt (Nat.lt_of_lt_of_le (by have := World.block_lt_of_cell? _ _ hw863_0; first | rwa [add_block] at this | exact this) GW864.out)) | (show (Addr.add _ _).block ≠ _; rw [add_block]; exact Nat.ne_of_lt (Nat.lt_of_lt_of_le (by have := World.block_lt_of_cell? _ _ hw863_0; first | rwa [add_block] at this | exact this) GW864.out)) | (dsimp only; exact Nat.ne_of_lt (Nat.lt_of_lt_of_le (by have := World.block_lt_of_cell? _ _ hw863_0; first | rwa [add_block] at this | exact this) GW864.out))) _).trans (hHeld.2.2.2.2.1)))))))), ((cell_far (p := ⟨gb864, _, none⟩) (by first | exact Nat.ne_of_lt (Nat.lt_of_lt_of_le (by have := World.block_lt_of_cell? _ _ hw863_1; first | rwa [add_block] at this | exact this) GW864.out) | (rw [add_block]; exact Nat.ne_of_lt (Nat.lt_of_lt_of_le (by have := World.block_lt_of_cell? _ _ hw863_1; first | rwa [add_block] at this | exact this) GW864.out)) | (show (Addr.add _ _).block ≠ _; rw [add_block]; exact Nat.ne_of_lt (Nat.lt_of_lt_of_le (by have := World.block_lt_of_cell? _ _ hw863_1; first | rwa [add_block] at this | exact this) GW864.out)) | (dsimp only; exact Nat.ne_of_lt (Nat.lt_of_lt_of_le (by have := World.block_lt_of_cell? _ _ hw863_1; first | rwa [add_block] at this | exact this) GW864.out))) _).trans (((cell_far (p := ⟨gb864, _, none⟩) (by first | exact Nat.ne_of_lt (Nat.lt_of_lt_of_le (by have := World.block_lt_of_cell? _ _ hw863_1; first | rwa [add_block] at this | exact this) GW864.out) | (rw [add_block]; exact Nat.ne_of_lt (Nat.lt_of_lt_of_le (by have := World.block_lt_of_cell? _ _ hw863_1; first | rwa [add_block] at this | exact this) GW864.out)) | (show (Addr.add _ _).block ≠ _; rw [add_block]; exact Nat.ne_of_lt (Nat.lt_of_lt_of_le (by have := World.block_lt_of_cell? _ _ hw863_1; first | rwa [add_block] at this | exact this) GW864.out)) | (dsimp only; exact Nat.ne_of_lt (Nat.lt_of_lt_of_le (by have := World.block_lt_of_cell? _ _ hw863_1; first | rwa [add_block] at this | exact this) GW864.out))) _).trans (((cell_far (p := ⟨gb864, _, none⟩) (by first | exact Nat.ne_of_lt (Nat.lt_of_lt_of_le (by have := World.block_lt_of_cell? _ _ hw863_1; first | rwa [add_block] at this | exact this) GW864.out) | (rw [add_block]; exact Nat.ne_of_lt (Nat.lt_of_lt_of_le (by have := World.block_lt_of_cell? _ _ hw863_1; first | rwa [add_block] at this | exact this) GW864.out)) | (show (Addr.add _ _).block ≠ _; rw [add_block]; exact Nat.ne_of_lt (Nat.lt_of_lt_of_le (by have := World.block_lt_of_cell? _ _ hw863_1; first | rwa [add_block] at this | exact this) GW864.out)) | (dsimp only; exact Nat.ne_of_lt (Nat.lt_of_lt_of_le (by have := World.block_lt_of_cell? _ _ hw863_1; first | rwa [add_block] at this | exact this) GW864.out))) _).trans (((cell_far (p := ⟨gb864, _, none⟩) (by first | exact Nat.ne_of_lt (Nat.lt_of_lt_of_le (by have := World.block_lt_of_cell? _ _ hw863_1; first | rwa [add_block] at this | exact this) GW864.out) | (rw [add_block]; exact Nat.ne_of_lt (Nat.lt_of_lt_of_le (by have := World.block_lt_of_cell? _ _ hw863_1; first | rwa [add_block] at this | exact this) GW864.out)) | (show (Addr.add _ _).block ≠ _; rw [add_block]; exact Nat.ne_of_lt (Nat.lt_of_lt_of_le (by have := World.block_lt_of_cell? _ _ hw863_1; first | rwa [add_block] at this | exact this) GW864.out)) | (dsimp only; exact Nat.ne_of_lt (Nat.lt_of_lt_of_le (by have := World.block_lt_of_cell? _ _ hw863_1; first | rwa [add_block] at this | exact this) GW864.out))) _).trans (hHeld.2.2.2.2.2.1)))))))), ((cell_far (p := ⟨gb864, _, none⟩) (by first | exact Nat.ne_of_lt (Nat.lt_of_lt_of_le (by have := World.block_lt_of_cell? _ _ hw863_2; first | rwa [add_block] at this | exact this) GW864.out) | (rw [add_block]; exact Nat.ne_of_lt (Nat.lt_of_lt_of_le (by have := World.block_lt_of_cell? _ _ hw863_2; first | rwa [add_block] at this | exact this) GW864.out)) | (show (Addr.add _ _).block ≠ _; rw [add_block]; exact Nat.ne_of_lt (Nat.lt_of_lt_of_le (by have := World.block_lt_of_cell? _ _ hw863_2; first | rwa [add_block] at this | exact this) GW864.out)) | (dsimp only; exact Nat.ne_of_lt (Nat.lt_of_lt_of_le (by have := World.block_lt_of_cell? _ _ hw863_2; first | rwa [add_block] at this | exact this) GW864.out))) _).trans (((cell_far (p := ⟨gb864, _, none⟩) (by first | exact Nat.ne_of_lt (Nat.lt_of_lt_of_le (by have := World.block_lt_of_cell? _ _ hw863_2; first | rwa [add_block] at this | exact this) GW864.out) | (rw [add_block]; exact Nat.ne_of_lt (Nat.lt_of_lt_of_le (by have := World.block_lt_of_cell? _ _ hw863_2; first | rwa [add_block] at this | exact this) GW864.out)) | (show (Addr.add _ _).block ≠ _; rw [add_block]; exact Nat.ne_of_lt (Nat.lt_of_lt_of_le (by have := World.block_lt_of_cell? _ _ hw863_2; first | rwa [add_block] at this | exact this) GW864.out)) | (dsimp only; exact Nat.ne_of_lt (Nat.lt_of_lt_of_le (by have := World.block_lt_of_cell? _ _ hw863_2; first | rwa [add_block] at this | exact this) GW864.out))) _).trans (((cell_far (p := ⟨gb864, _, none⟩) (by first | exact Nat.ne_of_lt (Nat.lt_of_lt_of_le (by have := World.block_lt_of_cell? _ _ hw863_2; first | rwa [add_block] at this | exact this) GW864.out) | (rw [add_block]; exact Nat.ne_of_lt (Nat.lt_of_lt_of_le (by have := World.block_lt_of_cell? _ _ hw863_2; first | rwa [add_block] at this | exact this) GW864.out)) | (show (Addr.add _ _).block ≠ _; rw [add_block]; exact Nat.ne_of_lt (Nat.lt_of_lt_of_le (by have := World.block_lt_of_cell? _ _ hw863_2; first | rwa [add_block] at this | exact this) GW864.out)) | (dsimp only; exact Nat.ne_of_lt (Nat.lt_of_lt_of_le (by have := World.block_lt_of_cell? _ _ hw863_2; first | rwa [add_block] at this | exact this) GW864.out))) _).trans (((cell_far (p := ⟨gb864, _, none⟩) (by first | exact Nat.ne_of_lt (Nat.lt_of_lt_of_le (by have := World.block_lt_of_cell? _ _ hw863_2; first | rwa [add_block] at this | exact this) GW864.out) | (rw [add_block]; exact Nat.ne_of_lt (Nat.lt_of_lt_of_le (by have := World.block_lt_of_cell? _ _ hw863_2; first | rwa [add_block] at this | exact this) GW864.out)) | (show (Addr.add _ _).block ≠ _; rw [add_block]; exact Nat.ne_of_lt (Nat.lt_of_lt_of_le (by have := World.block_lt_of_cell? _ _ hw863_2; first | rwa [add_block] at this | exact this) GW864.out)) | (dsimp only; exact Nat.ne_of_lt (Nat.lt_of_lt_of_le (by have := World.block_lt_of_cell? _ _ hw863_2; first | rwa [add_block] at this | exact this) GW864.out))) _).trans (hHeld.2.2.2.2.2.2.1)))))))), ((cell_far (p := ⟨gb864, _, none⟩) (by first | exact Nat.ne_of_lt (Nat.lt_of_lt_of_le (by have := World.block_lt_of_cell? _ _ hw863_3; first | rwa [add_block] at this | exact this) GW864.out) | (rw [add_block]; exact Nat.ne_of_lt (Nat.lt_of_lt_of_le (by have := World.block_lt_of_cell? _ _ hw863_3; first | rwa [add_block] at this | exact this) GW864.out)) | (show (Addr.add _ _).block ≠ _; rw [add_block]; exact Nat.ne_of_lt (Nat.lt_of_lt_of_le (by have := World.block_lt_of_cell? _ _ hw863_3; first | rwa [add_block] at this | exact this) GW864.out)) | (dsimp only; exact Nat.ne_of_lt (Nat.lt_of_lt_of_le (by have := World.block_lt_of_cell? _ _ hw863_3; first | rwa [add_block] at this | exact this) GW864.out))) _).trans (((cell_far (p := ⟨gb864, _, none⟩) (by first | exact Nat.ne_of_lt (Nat.lt_of_lt_of_le (by have := World.block_lt_of_cell? _ _ hw863_3; first | rwa [add_block] at this | exact this) GW864.out) | (rw [add_block]; exact Nat.ne_of_lt (Nat.lt_of_lt_of_le (by have := World.block_lt_of_cell? _ _ hw863_3; first | rwa [add_block] at this | exact this) GW864.out)) | (show (Addr.add _ _).block ≠ _; rw [add_block]; exact Nat.ne_of_lt (Nat.lt_of_lt_of_le (by have := World.block_lt_of_cell? _ _ hw863_3; first | rwa [add_block] at this | exact this) GW864.out)) | (dsimp only; exact Nat.ne_of_lt (Nat.lt_of_lt_of_le (by have := World.block_lt_of_cell? _ _ hw863_3; first | rwa [add_block] at this | exact this) GW864.out))) _).trans (((cell_far (p := ⟨gb864, _, none⟩) (by first | exact Nat.ne_of_lt (Nat.lt_of_lt_of_le (by have := World.block_lt_of_cell? _ _ hw863_3; first | rwa [add_block] at this | exact this) GW864.out) | (rw [add_block]; exact Nat.ne_of_lt (Nat.lt_of_lt_of_le (by have := World.block_lt_of_cell? _ _ hw863_3; first | rwa [add_block] at this | exact this) GW864.out)) | (show (Addr.add _ _).block ≠ _; rw [add_block]; exact Nat.ne_of_lt (Nat.lt_of_lt_of_le (by have := World.block_lt_of_cell? _ _ hw863_3; first | rwa [add_block] at this | exact this) GW864.out)) | (dsimp only; exact Nat.ne_of_lt (Nat.lt_of_lt_of_le (by have := World.block_lt_of_cell? _ _ hw863_3; first | rwa [add_block] at this | exact this) GW864.out))) _).trans (((cell_far (p := ⟨gb864, _, none⟩) (by first | exact Nat.ne_of_lt (Nat.lt_of_lt_of_le (by have := World.block_lt_of_cell? _ _ hw863_3; first | rwa [add_block] at this | exact this) GW864.out) | (rw [add_block]; exact Nat.ne_of_lt (Nat.lt_of_lt_of_le (by have := World.block_lt_of_cell? _ _ hw863_3; first | rwa [add_block] at this | exact this) GW864.out)) | (show (Addr.add _ _).block ≠ _; rw [add_block]; exact Nat.ne_of_lt (Nat.lt_of_lt_of_le (by have := World.block_lt_of_cell? _ _ hw863_3; first | rwa [add_block] at this | exact this) GW864.out)) | (dsimp only; exact Nat.ne_of_lt (Nat.lt_of_lt_of_le (by have := World.block_lt_of_cell? _ _ hw863_3; first | rwa [add_block] at this | exact this) GW864.out))) _).trans (hHeld.2.2.2.2.2.2.2))))))))⟩ (fun hHeld => ?_)
                    clear hK K
                    refine done_ (done_of HT_.out (by kernel_rfl)) ?_
                    try go_wp2
                    have n0_ : Aside0 (Kd.R k67 67 ((((w73.setCell ⟨gb864, 0, none⟩ (.int .i64 ((rd_T67 l0_0 (rd t859 0)).f0))).setCell ⟨gb864, 1, none⟩ (.int .i64 ((rd_T67 l0_0 (rd t859 0)).f1))).setCell ⟨gb864, 2, none⟩ (.int .i64 ((rd_T67 l0_0 (rd t859 0)).f2))).setCell ⟨gb864, 3, none⟩ (.int .i64 ((rd_T67 l0_0 (rd t859 0)).f3))) w.heap.size (fun k_ => k_ ≠ gb864) (.slice Ao64 t851.length co64) t851) := ⟨by (with_reducible repeat (first | apply Kd.R_alloc | apply Kd.R_drewN | apply Kd.R_drew)); exact Kd.R_mono (Kd.R_far (p := ⟨gb864, 3, none⟩) (Kd.R_far (p := ⟨gb864, 2, none⟩) (Kd.R_far (p := ⟨gb864, 1, none⟩) (Kd.R_far (p := ⟨gb864, 0, none⟩) (Kd.R_mono HO853.out (fun k_ hk => (⟨hk, hk.2⟩ : _ ∧ k_ ≠ gb864))) (fun _ hk => hk.2) (.int .i64 ((rd_T67 l0_0 (rd t859 0)).f0))) (fun _ hk => hk.2) (.int .i64 ((rd_T67 l0_0 (rd t859 0)).f1))) (fun _ hk => hk.2) (.int .i64 ((rd_T67 l0_0 (rd t859 0)).f2))) (fun _ hk => hk.2) (.int .i64 ((rd_T67 l0_0 (rd t859 0)).f3))) (fun _ hk => hk.1.2)⟩
                    have n1_ : Aside0 (Kd.R (Kd.int .i64) 3 ((((w73.setCell ⟨gb864, 0, none⟩ (.int .i64 ((rd_T67 l0_0 (rd t859 0)).f0))).setCell ⟨gb864, 1, none⟩ (.int .i64 ((rd_T67 l0_0 (rd t859 0)).f1))).setCell ⟨gb864, 2, none⟩ (.int .i64 ((rd_T67 l0_0 (rd t859 0)).f2))).setCell ⟨gb864, 3, none⟩ (.int .i64 ((rd_T67 l0_0 (rd t859 0)).f3))) w.heap.size (fun k_ => some k_ ≠ (.slice (some ad862) t859.length co71 : Value).ownBlock) (.slice Ao68 t855.length co68) t855) := ⟨by (with_reducible repeat (first | apply Kd.R_alloc | apply Kd.R_drewN | apply Kd.R_drew)); exact Kd.R_mono (Kd.R_far (p := ⟨gb864, 3, none⟩) (Kd.R_far (p := ⟨gb864, 2, none⟩) (Kd.R_far (p := ⟨gb864, 1, none⟩) (Kd.R_far (p := ⟨gb864, 0, none⟩) (Kd.R_types HO857.out BK864.out (by decide)) (fun _ hk => hk.2) (.int .i64 ((rd_T67 l0_0 (rd t859 0)).f0))) (fun _ hk => hk.2) (.int .i64 ((rd_T67 l0_0 (rd t859 0)).f1))) (fun _ hk => hk.2) (.int .i64 ((rd_T67 l0_0 (rd t859 0)).f2))) (fun _ hk => hk.2) (.int .i64 ((rd_T67 l0_0 (rd t859 0)).f3))) (fun _ hk => hk.1.2)⟩
                    have n2_ : Aside0 (Kd.R (Kd.int .i64) 3 ((((w73.setCell ⟨gb864, 0, none⟩ (.int .i64 ((rd_T67 l0_0 (rd t859 0)).f0))).setCell ⟨gb864, 1, none⟩ (.int .i64 ((rd_T67 l0_0 (rd t859 0)).f1))).setCell ⟨gb864, 2, none⟩ (.int .i64 ((rd_T67 l0_0 (rd t859 0)).f2))).setCell ⟨gb864, 3, none⟩ (.int .i64 ((rd_T67 l0_0 (rd t859 0)).f3))) w.heap.size (fun k_ => some k_ ≠ (.slice Ao68 t855.length co68 : Value).ownBlock) (.slice (some ad862) t859.length co71) t859) := ⟨by (with_reducible repeat (first | apply Kd.R_alloc | apply Kd.R_drewN | apply Kd.R_drew)); exact Kd.R_mono (Kd.R_far (p := ⟨gb864, 3, none⟩) (Kd.R_far (p := ⟨gb864, 2, none⟩) (Kd.R_far (p := ⟨gb864, 1, none⟩) (Kd.R_far (p := ⟨gb864, 0, none⟩) (Kd.R_types HO861.out BK864.out (by decide)) (fun _ hk => hk.2) (.int .i64 ((rd_T67 l0_0 (rd t859 0)).f0))) (fun _ hk => hk.2) (.int .i64 ((rd_T67 l0_0 (rd t859 0)).f1))) (fun _ hk => hk.2) (.int .i64 ((rd_T67 l0_0 (rd t859 0)).f2))) (fun _ hk => hk.2) (.int .i64 ((rd_T67 l0_0 (rd t859 0)).f3))) (fun _ hk => hk.1.2)⟩
                    have n3_ : Aside0 (((((w73.setCell ⟨gb864, 0, none⟩ (.int .i64 ((rd_T67 l0_0 (rd t859 0)).f0))).setCell ⟨gb864, 1, none⟩ (.int .i64 ((rd_T67 l0_0 (rd t859 0)).f1))).setCell ⟨gb864, 2, none⟩ (.int .i64 ((rd_T67 l0_0 (rd t859 0)).f2))).setCell ⟨gb864, 3, none⟩ (.int .i64 ((rd_T67 l0_0 (rd t859 0)).f3))).heap[gb849]? = some (.cells #[.slice (some ad863) l0_0.length c0_0, .int .i64 a0_1, .slice A0_2 l0_2.length c0_2] 30 (0, 0))) := ⟨by (with_reducible repeat (first | refine blk_drewN ?_ _ | refine blk_drew ?_ | refine blk_alloc ?_ _)); refine blk_far ?_ NB849_864.out _; (with_reducible repeat (first | refine blk_drewN ?_ _ | refine blk_drew ?_ | refine blk_alloc ?_ _)); refine blk_far ?_ NB849_864.out _; (with_reducible repeat (first | refine blk_drewN ?_ _ | refine blk_drew ?_ | refine blk_alloc ?_ _)); refine blk_far ?_ NB849_864.out _; (with_reducible repeat (first | refine blk_drewN ?_ _ | refine blk_drew ?_ | refine blk_alloc ?_ _)); refine blk_far ?_ NB849_864.out _; (with_reducible repeat (first | refine blk_drewN ?_ _ | refine blk_drew ?_ | refine blk_alloc ?_ _)); exact BK849.out⟩
                    have n4_ : Aside0 (((((w73.setCell ⟨gb864, 0, none⟩ (.int .i64 ((rd_T67 l0_0 (rd t859 0)).f0))).setCell ⟨gb864, 1, none⟩ (.int .i64 ((rd_T67 l0_0 (rd t859 0)).f1))).setCell ⟨gb864, 2, none⟩ (.int .i64 ((rd_T67 l0_0 (rd t859 0)).f2))).setCell ⟨gb864, 3, none⟩ (.int .i64 ((rd_T67 l0_0 (rd t859 0)).f3))).heap[gb850]? = some (.cells #[.slice none 0 0, .int .i64 0, .slice none 0 0] 30 (0, 0))) := ⟨by (with_reducible repeat (first | refine blk_drewN ?_ _ | refine blk_drew ?_ | refine blk_alloc ?_ _)); refine blk_far ?_ NB850_864.out _; (with_reducible repeat (first | refine blk_drewN ?_ _ | refine blk_drew ?_ | refine blk_alloc ?_ _)); refine blk_far ?_ NB850_864.out _; (with_reducible repeat (first | refine blk_drewN ?_ _ | refine blk_drew ?_ | refine blk_alloc ?_ _)); refine blk_far ?_ NB850_864.out _; (with_reducible repeat (first | refine blk_drewN ?_ _ | refine blk_drew ?_ | refine blk_alloc ?_ _)); refine blk_far ?_ NB850_864.out _; (with_reducible repeat (first | refine blk_drewN ?_ _ | refine blk_drew ?_ | refine blk_alloc ?_ _)); exact BK850.out⟩
                    have n5_ : Aside0 (((((w73.setCell ⟨gb864, 0, none⟩ (.int .i64 ((rd_T67 l0_0 (rd t859 0)).f0))).setCell ⟨gb864, 1, none⟩ (.int .i64 ((rd_T67 l0_0 (rd t859 0)).f1))).setCell ⟨gb864, 2, none⟩ (.int .i64 ((rd_T67 l0_0 (rd t859 0)).f2))).setCell ⟨gb864, 3, none⟩ (.int .i64 ((rd_T67 l0_0 (rd t859 0)).f3))).heap[gb858]? = some (.cells #[.slice Ao64 t851.length co64, .int .i64 t854, .slice Ao68 t855.length co68] 30 (0, 0))) := ⟨by (with_reducible repeat (first | refine blk_drewN ?_ _ | refine blk_drew ?_ | refine blk_alloc ?_ _)); refine blk_far ?_ NB858_864.out _; (with_reducible repeat (first | refine blk_drewN ?_ _ | refine blk_drew ?_ | refine blk_alloc ?_ _)); refine blk_far ?_ NB858_864.out _; (with_reducible repeat (first | refine blk_drewN ?_ _ | refine blk_drew ?_ | refine blk_alloc ?_ _)); refine blk_far ?_ NB858_864.out _; (with_reducible repeat (first | refine blk_drewN ?_ _ | refine blk_drew ?_ | refine blk_alloc ?_ _)); refine blk_far ?_ NB858_864.out _; (with_reducible repeat (first | refine blk_drewN ?_ _ | refine blk_drew ?_ | refine blk_alloc ?_ _)); exact BK858.out⟩
                    have n6_ : Aside0 (((((w73.setCell ⟨gb864, 0, none⟩ (.int .i64 ((rd_T67 l0_0 (rd t859 0)).f0))).setCell ⟨gb864, 1, none⟩ (.int .i64 ((rd_T67 l0_0 (rd t859 0)).f1))).setCell ⟨gb864, 2, none⟩ (.int .i64 ((rd_T67 l0_0 (rd t859 0)).f2))).setCell ⟨gb864, 3, none⟩ (.int .i64 ((rd_T67 l0_0 (rd t859 0)).f3))).heap[gb864]? = some (.cells #[.int .i64 ((rd_T67 l0_0 (rd t859 0)).f0), .int .i64 ((rd_T67 l0_0 (rd t859 0)).f1), .int .i64 ((rd_T67 l0_0 (rd t859 0)).f2), .int .i64 ((rd_T67 l0_0 (rd t859 0)).f3)] 67 (0, 0))) := ⟨by (with_reducible repeat (first | refine blk_drewN ?_ _ | refine blk_drew ?_ | refine blk_alloc ?_ _)); refine blk_put (cs := #[.int .i64 ((rd_T67 l0_0 (rd t859 0)).f0), .int .i64 ((rd_T67 l0_0 (rd t859 0)).f1), .int .i64 ((rd_T67 l0_0 (rd t859 0)).f2), .int .i64 0]) ?_ 3 _ rfl; (with_reducible repeat (first | refine blk_drewN ?_ _ | refine blk_drew ?_ | refine blk_alloc ?_ _)); refine blk_put (cs := #[.int .i64 ((rd_T67 l0_0 (rd t859 0)).f0), .int .i64 ((rd_T67 l0_0 (rd t859 0)).f1), .int .i64 0, .int .i64 0]) ?_ 2 _ rfl; (with_reducible repeat (first | refine blk_drewN ?_ _ | refine blk_drew ?_ | refine blk_alloc ?_ _)); refine blk_put (cs := #[.int .i64 ((rd_T67 l0_0 (rd t859 0)).f0), .int .i64 0, .int .i64 0, .int .i64 0]) ?_ 1 _ rfl; (with_reducible repeat (first | refine blk_drewN ?_ _ | refine blk_drew ?_ | refine blk_alloc ?_ _)); refine blk_put (cs := #[.int .i64 0, .int .i64 0, .int .i64 0, .int .i64 0]) ?_ 0 _ rfl; (with_reducible repeat (first | refine blk_drewN ?_ _ | refine blk_drew ?_ | refine blk_alloc ?_ _)); exact BK864.out⟩
                    have n7_ : Aside0 (Below w.heap.size w ((((w73.setCell ⟨gb864, 0, none⟩ (.int .i64 ((rd_T67 l0_0 (rd t859 0)).f0))).setCell ⟨gb864, 1, none⟩ (.int .i64 ((rd_T67 l0_0 (rd t859 0)).f1))).setCell ⟨gb864, 2, none⟩ (.int .i64 ((rd_T67 l0_0 (rd t859 0)).f2))).setCell ⟨gb864, 3, none⟩ (.int .i64 ((rd_T67 l0_0 (rd t859 0)).f3)))) := ⟨oB HB⟩
                    (try clear HO853)
                    (try clear HO857)
                    (try clear HO861)
                    (try clear BK849)
                    (try clear BK850)
                    (try clear BK858)
                    (try clear BK864)
                    (try clear HB)
                    generalize ((((w73.setCell ⟨gb864, 0, none⟩ (.int .i64 ((rd_T67 l0_0 (rd t859 0)).f0))).setCell ⟨gb864, 1, none⟩ (.int .i64 ((rd_T67 l0_0 (rd t859 0)).f1))).setCell ⟨gb864, 2, none⟩ (.int .i64 ((rd_T67 l0_0 (rd t859 0)).f2))).setCell ⟨gb864, 3, none⟩ (.int .i64 ((rd_T67 l0_0 (rd t859 0)).f3))) = w78 at n0_ n1_ n2_ n3_ n4_ n5_ n6_ n7_ ⊢
                    have HO853 := n0_
                    have HO857 := n1_
                    have HO861 := n2_
                    have BK849 := n3_
                    have BK850 := n4_
                    have BK858 := n5_
                    have BK864 := n6_
                    have HB := n7_
                    clear n0_ n1_ n2_ n3_ n4_ n5_ n6_ n7_
                    have n0_ := Aside0.mk (Kd.R_drew HO853.out)
                    have n1_ := Aside0.mk (Kd.R_drew HO857.out)
                    have n2_ := Aside0.mk (Kd.R_drew HO861.out)
                    have n3_ := Aside0.mk (blk_drew BK849.out)
                    have n4_ := Aside0.mk (blk_drew BK850.out)
                    have n5_ := Aside0.mk (blk_drew BK858.out)
                    have n6_ := Aside0.mk (blk_drew BK864.out)
                    have n7_ := Aside0.mk (below_drew1 HB.out)
                    clear HO853
                    clear HO857
                    clear HO861
                    clear BK849
                    clear BK850
                    clear BK858
                    clear BK864
                    clear HB
                    have HO853 := n0_
                    have HO857 := n1_
                    have HO861 := n2_
                    have BK849 := n3_
                    have BK850 := n4_
                    have BK858 := n5_
                    have BK864 := n6_
                    have HB := n7_
                    clear n0_ n1_ n2_ n3_ n4_ n5_ n6_ n7_
                    have p865 : 0 ≤ (((rd_T67 l0_0 (rd t859 0)).f0) : Int) := of_decide_eq_true (by first | (with_reducible assumption) | assumption)
                    have q865 : ((rd_T67 l0_0 (rd t859 0)).f0) < (l0_2.length : Int) := of_decide_eq_true (by first | (with_reducible assumption) | assumption)
                    obtain ⟨ad865, e865, hx865_0⟩ := Kd.at_int HR0_2.out ((rd_T67 l0_0 (rd t859 0)).f0) p865 q865
                    have hw865_0 := hx865_0
                    cases e865
                    replace hx865_0 := (HB.out.cell (World.block_lt_of_cell? w _ hx865_0)).trans hx865_0
                    replace p865 := eq_true p865
                    replace q865 := eq_true q865
                    refine start_ (n := 12) (S := fun w' => w'.cell? ⟨gb849, 0, none⟩ = some (.slice (some ad863) l0_0.length c0_0) ∧ w'.cell? ⟨gb849, 1, none⟩ = some (.int .i64 a0_1) ∧ w'.cell? ⟨gb849, 2, none⟩ = some (.slice (some ad865) l0_2.length c0_2) ∧ w'.cell? ⟨gb864, 0, none⟩ = some (.int .i64 ((rd_T67 l0_0 (rd t859 0)).f0)) ∧ w'.cell? ⟨gb864, 1, none⟩ = some (.int .i64 ((rd_T67 l0_0 (rd t859 0)).f1)) ∧ w'.cell? ⟨gb864, 2, none⟩ = some (.int .i64 ((rd_T67 l0_0 (rd t859 0)).f2)) ∧ w'.cell? ⟨gb864, 3, none⟩ = some (.int .i64 ((rd_T67 l0_0 (rd t859 0)).f3)) ∧ w'.cell? (ad865.add (((rd_T67 l0_0 (rd t859 0)).f0)).toNat) = some (.int .i64 (rd l0_2 ((rd_T67 l0_0 (rd t859 0)).f0)))) (ds := []) #[false, false, false, false, false, false, false, false, false, false, false, false] (by kernel_rfl) rfl rfl ⟨(blk_cell BK849.out 0).trans rfl, (blk_cell BK849.out 1).trans rfl, (blk_cell BK849.out 2).trans rfl, (blk_cell BK864.out 0).trans rfl, (blk_cell BK864.out 1).trans rfl, (blk_cell BK864.out 2).trans rfl, (blk_cell BK864.out 3).trans rfl, ((HB.out.cell (World.block_lt_of_cell? w _ hw865_0)).trans hw865_0)⟩ (fun hHeld => ?_); refine with_tabW spec_MendStep.tab6 spec_MendStep.bits6 (fun HT_ HW_ => ?_)
                    generalize w78.drew = w79 at HO853 HO857 HO861 BK849 BK850 BK858 BK864 HB hx865_0 hHeld ⊢
                    refine pure_ (i := 0) (N := some 23) (v := ?_) (a' := ?_) #[true, false, false, false, false, false, false, false, false, false, false, false] rfl rfl (any_of HT_.out (by kernel_rfl)) (fun _ _ _ h => h) (Or.inl ⟨by rfl, ?_⟩) ?_ ?_
                    rotate_left
                    · intro w'
                      go_simp
                      with_reducible rfl
                    rotate_left
                    · simp only [Act.put, List.setIfInBounds_toArray, List.set_cons_zero, List.set_cons_succ, i64_w, i32_w]
                      rfl
                    refine pure_ (i := 2) (N := some 25) (v := ?_) (a' := ?_) #[true, false, true, false, false, false, false, false, false, false, false, false] rfl rfl (any_of HT_.out (by kernel_rfl)) (fun _ _ _ h => h) (Or.inl ⟨by rfl, ?_⟩) ?_ ?_
                    rotate_left
                    · intro w'
                      go_simp
                      with_reducible rfl
                    rotate_left
                    · simp only [Act.put, List.setIfInBounds_toArray, List.set_cons_zero, List.set_cons_succ, i64_w, i32_w]
                      rfl
                    refine pure_ (i := 6) (N := some 29) (v := ?_) (a' := ?_) #[true, false, true, false, false, false, true, false, false, false, false, false] rfl rfl (any_of HT_.out (by kernel_rfl)) (fun _ _ _ h => h) (Or.inl ⟨by rfl, ?_⟩) ?_ ?_
                    rotate_left
                    · intro w'
                      go_simp
                      with_reducible rfl
                    rotate_left
                    · simp only [Act.put, List.setIfInBounds_toArray, List.set_cons_zero, List.set_cons_succ, i64_w, i32_w]
                      rfl
                    refine pure_ (i := 8) (N := some 31) (v := ?_) (a' := ?_) #[true, false, true, false, false, false, true, false, true, false, false, false] rfl rfl (any_of HT_.out (by kernel_rfl)) (fun _ _ _ h => h) (Or.inl ⟨by rfl, ?_⟩) ?_ ?_
                    rotate_left
                    · intro w'
                      go_simp
                      with_reducible rfl
                    rotate_left
                    · simp only [Act.put, List.setIfInBounds_toArray, List.set_cons_zero, List.set_cons_succ, i64_w, i32_w]
                      rfl
                    refine take_ (i := 1) (N := some 24) (v := ?_) (a' := ?_) #[true, true, true, false, false, false, true, false, true, false, false, false] rfl rfl (take_ofW HT_.out HW_.out (by kernel_rfl)) (fun _ _ _ h => h) (Or.inl ⟨by rfl, ?_⟩) hHeld ?_ ?_
                    rotate_left
                    · rintro w' ⟨s0, s1, s2, s3, s4, s5, s6, s7⟩
                      go_simp
                      with_reducible rfl
                    rotate_left
                    · simp only [Act.put, List.setIfInBounds_toArray, List.set_cons_zero, List.set_cons_succ, i64_w, i32_w]
                      rfl
                    refine take_ (i := 3) (N := some 26) (v := ?_) (a' := ?_) #[true, true, true, true, false, false, true, false, true, false, false, false] rfl rfl (take_ofW HT_.out HW_.out (by kernel_rfl)) (fun _ _ _ h => h) (Or.inl ⟨by rfl, ?_⟩) hHeld ?_ ?_
                    rotate_left
                    · rintro w' ⟨s0, s1, s2, s3, s4, s5, s6, s7⟩
                      go_simp
                      with_reducible rfl
                    rotate_left
                    · simp only [Act.put, List.setIfInBounds_toArray, List.set_cons_zero, List.set_cons_succ, i64_w, i32_w]
                      rfl
                    refine pure_ (i := 4) (N := some 27) (v := ?_) (a' := ?_) #[true, true, true, true, true, false, true, false, true, false, false, false] rfl rfl (any_of HT_.out (by kernel_rfl)) (fun _ _ _ h => h) (Or.inl ⟨by rfl, ?_⟩) ?_ ?_
                    rotate_left
                    · intro w'
                      go_simp
                      with_reducible rfl
                    rotate_left
                    · simp only [Act.put, List.setIfInBounds_toArray, List.set_cons_zero, List.set_cons_succ, i64_w, i32_w]
                      rfl
                    refine take_ (i := 5) (N := some 28) (v := ?_) (a' := ?_) #[true, true, true, true, true, true, true, false, true, false, false, false] rfl rfl (take_ofW HT_.out HW_.out (by kernel_rfl)) (fun _ _ _ h => h) (Or.inl ⟨by rfl, ?_⟩) hHeld ?_ ?_
                    rotate_left
                    · rintro w' ⟨s0, s1, s2, s3, s4, s5, s6, s7⟩
                      go_simp
                      with_reducible rfl
                    rotate_left
                    · simp only [Act.put, List.setIfInBounds_toArray, List.set_cons_zero, List.set_cons_succ, i64_w, i32_w]
                      rfl
                    refine take_ (i := 7) (N := some 30) (v := ?_) (a' := ?_) #[true, true, true, true, true, true, true, true, true, false, false, false] rfl rfl (take_ofW HT_.out HW_.out (by kernel_rfl)) (fun _ _ _ h => h) (Or.inl ⟨by rfl, ?_⟩) hHeld ?_ ?_
                    rotate_left
                    · rintro w' ⟨s0, s1, s2, s3, s4, s5, s6, s7⟩
                      go_simp
                      with_reducible rfl
                    rotate_left
                    · simp only [Act.put, List.setIfInBounds_toArray, List.set_cons_zero, List.set_cons_succ, i64_w, i32_w]
                      rfl
                    refine take_ (i := 9) (N := some 32) (v := ?_) (a' := ?_) #[true, true, true, true, true, true, true, true, true, true, false, false] rfl rfl (take_ofW HT_.out HW_.out (by kernel_rfl)) (fun _ _ _ h => h) (Or.inl ⟨by rfl, ?_⟩) hHeld ?_ ?_
                    rotate_left
                    · rintro w' ⟨s0, s1, s2, s3, s4, s5, s6, s7⟩
                      go_simp
                      with_reducible rfl
                    rotate_left
                    · simp only [Act.put, List.setIfInBounds_toArray, List.set_cons_zero, List.set_cons_succ, i64_w, i32_w]
                      rfl
                    refine one_ (i := 10) (N := some 33) #[true, true, true, true, true, true, true, true, true, true, true, false] rfl rfl (one_of HT_.out (by kernel_rfl)) (by decide) (fun K hK => ?_)
                    refine goes_ Try.func72 (by kernel_rfl) rfl #[.int .i64 (rd l0_2 ((rd_T67 l0_0 (rd t859 0)).f0)), .int .i64 ((rd_T67 l0_0 (rd t859 0)).f2), .int .i64 ((rd_T67 l0_0 (rd t859 0)).f3)] (by rfl) rfl rfl (by (try simp only [List.map_toArray, List.map_cons, List.map_nil]); first | done | rfl | (simp only [List.length_drop, List.length_take]; rfl)) ?_
                    with_reducible refine (spec_TunedPitch.calls k (rd l0_2 ((rd_T67 l0_0 (rd t859 0)).f0)) ((rd_T67 l0_0 (rd t859 0)).f2) ((rd_T67 l0_0 (rd t859 0)).f3) t866 _ A26.out).mono ?_
                    rintro e w80 ⟨rfl, hb⟩
                    refine ⟨_, rfl, ?_⟩
                    have n0_ := Aside0.mk (Kd.R_below (oR HO853) hb)
                    have n1_ := Aside0.mk (Kd.R_below (oR HO857) hb)
                    have n2_ := Aside0.mk (Kd.R_below (oR HO861) hb)
                    have n3_ := Aside0.mk (blk_below (g := gb849) (o := .cells #[.slice (some ad863) l0_0.length c0_0, .int .i64 a0_1, .slice (some ad865) l0_2.length c0_2] 30 (0, 0)) (oK BK849) hb)
                    have n4_ := Aside0.mk (blk_below (g := gb850) (o := .cells #[.slice none 0 0, .int .i64 0, .slice none 0 0] 30 (0, 0)) (oK BK850) hb)
                    have n5_ := Aside0.mk (blk_below (g := gb858) (o := .cells #[.slice Ao64 t851.length co64, .int .i64 t854, .slice Ao68 t855.length co68] 30 (0, 0)) (oK BK858) hb)
                    have n6_ := Aside0.mk (blk_below (g := gb864) (o := .cells #[.int .i64 ((rd_T67 l0_0 (rd t859 0)).f0), .int .i64 ((rd_T67 l0_0 (rd t859 0)).f1), .int .i64 ((rd_T67 l0_0 (rd t859 0)).f2), .int .i64 ((rd_T67 l0_0 (rd t859 0)).f3)] 67 (0, 0)) (oK BK864) hb)
                    have n7_ := Aside0.mk (below_step (oB HB) hb)
                    clear HO853
                    clear HO857
                    clear HO861
                    clear BK849
                    clear BK850
                    clear BK858
                    clear BK864
                    clear HB
                    have HO853 := n0_
                    have HO857 := n1_
                    have HO861 := n2_
                    have BK849 := n3_
                    have BK850 := n4_
                    have BK858 := n5_
                    have BK864 := n6_
                    have HB := n7_
                    clear n0_ n1_ n2_ n3_ n4_ n5_ n6_ n7_
                    (try clear hb)
                    (try clear hb2)
                    (try clear hk)
                    (try clear hi)
                    refine hK.out _ _ ⟨(blk_cell BK849.out 0).trans rfl, (blk_cell BK849.out 1).trans rfl, (blk_cell BK849.out 2).trans rfl, (blk_cell BK864.out 0).trans rfl, (blk_cell BK864.out 1).trans rfl, (blk_cell BK864.out 2).trans rfl, (blk_cell BK864.out 3).trans rfl, ((HB.out.cell (World.block_lt_of_cell? w _ hw865_0)).trans hw865_0)⟩ (fun hHeld => ?_)
                    clear hK K
                    refine norm_ (a' := ?_) ?_ ?_
                    rotate_left
                    · show Act.put _ (some 33) _ = _
                      simp only [Act.put, List.setIfInBounds_toArray, List.set_cons_zero, List.set_cons_succ, i64_w, i32_w]
                      rfl
                    refine pure_ (i := 11) (N := some 7) (v := ?_) (a' := ?_) #[true, true, true, true, true, true, true, true, true, true, true, true] rfl rfl (any_of HT_.out (by kernel_rfl)) (fun _ _ _ h => h) (Or.inl ⟨by rfl, ?_⟩) ?_ ?_
                    rotate_left
                    · intro w'
                      go_simp
                      with_reducible rfl
                    rotate_left
                    · simp only [Act.put, List.setIfInBounds_toArray, List.set_cons_zero, List.set_cons_succ, i64_w, i32_w]
                      rfl
                    refine done_ (done_of HT_.out (by kernel_rfl)) ?_
                    have hnb81 := NB858_864.out
                    have hnc81 := NB864_858.out
                    have hcz82_0 : w80.cell? ⟨gb858, 0, none⟩ = some (.slice Ao64 t851.length co64) := (blk_cell BK858.out 0).trans rfl
                    have hcz82_1 : w80.cell? ⟨gb858, 1, none⟩ = some (.int .i64 t854) := (blk_cell BK858.out 1).trans rfl
                    have hcz82_2 : w80.cell? ⟨gb858, 2, none⟩ = some (.slice Ao68 t855.length co68) := (blk_cell BK858.out 2).trans rfl
                    have hfz82_0 := blk_frozen BK858.out 0
                    have hfz82_1 := blk_frozen BK858.out 1
                    have hfz82_2 := blk_frozen BK858.out 2
                    have hnb83 := NB864_849.out
                    have hnc83 := NB849_864.out
                    have hnb84 := NB864_850.out
                    have hnc84 := NB850_864.out
                    have hcz85_0 : w80.cell? ⟨gb864, 0, none⟩ = some (.int .i64 ((rd_T67 l0_0 (rd t859 0)).f0)) := (blk_cell BK864.out 0).trans rfl
                    have hcz85_1 : w80.cell? ⟨gb864, 1, none⟩ = some (.int .i64 ((rd_T67 l0_0 (rd t859 0)).f1)) := (blk_cell BK864.out 1).trans rfl
                    have hcz85_2 : w80.cell? ⟨gb864, 2, none⟩ = some (.int .i64 ((rd_T67 l0_0 (rd t859 0)).f2)) := (blk_cell BK864.out 2).trans rfl
                    have hcz85_3 : w80.cell? ⟨gb864, 3, none⟩ = some (.int .i64 ((rd_T67 l0_0 (rd t859 0)).f3)) := (blk_cell BK864.out 3).trans rfl
                    have hfz85_0 := blk_frozen BK864.out 0
                    have hfz85_1 := blk_frozen BK864.out 1
                    have hfz85_2 := blk_frozen BK864.out 2
                    have hfz85_3 := blk_frozen BK864.out 3
                    have p57 : 0 ≤ (((rd_T67 l0_0 (rd t859 0)).f1) : Int) := of_decide_eq_true (by first | (with_reducible assumption) | assumption)
                    have q57 : (((rd_T67 l0_0 (rd t859 0)).f1) : Int) < ((t855.length : Int) : Int) := of_decide_eq_true (by first | (with_reducible assumption) | assumption)
                    obtain ⟨go57, co57, eo57, gb57, gl57, cl57, HG57⟩ := Kd.R_form HO857.out (by omega)
                    (first | cases eo57 | (injection eo57 with ea_ en_ ec_; (first | subst ea_ | (injection ea_ with ea_; subst ea_)); subst ec_; clear en_))
                    have GB57 := Aside0.mk gb57
                    have GG57 := Aside0.mk HG57
                    clear gb57 gl57 HG57
                    obtain ⟨hx57_0, hf57_0⟩ := Kd.R_celln 0 HO857.out (((rd_T67 l0_0 (rd t859 0)).f1) : Int) p57 q57
                    replace p57 := eq_true p57
                    replace q57 := eq_true q57
                    obtain ⟨hy86_, hz86_⟩ := Kd.R_celln 0 HO857.out (((rd_T67 l0_0 (rd t859 0)).f1) : Int) (of_decide_eq_true (by first | (with_reducible assumption) | assumption)) (of_decide_eq_true (by first | (with_reducible assumption) | assumption))
                    have HP86 := Kd.R_putg HO857.out (((rd_T67 l0_0 (rd t859 0)).f1) : Int) t866
                    try go_wp2_with (first | ((with_reducible refine gate_store (t := 3) (p := 42) rfl ?_); refine store_event (t := 3) (p := 42) (v := ?vo_w87) (w1 := (w80.setCell ⟨go57, (((rd_T67 l0_0 (rd t859 0)).f1) : Int).toNat, none⟩ (.int .i64 t866))) ?hg ?ho ?hn ?hr ?_; (case ho => rfl); (case hg => rfl); (case hn => rfl); (case hr => first | (go_simp; done) | (go_simp; rfl)); intro w87 hw; have hg : w80.grownBy w87 (some go57) := (by rw [hw]; exact HP86.2); have hp_ : Kd.R (Kd.int .i64) 3 w87 w.heap.size (fun k_ => some k_ ≠ (.slice (some ad862) t859.length co71 : Value).ownBlock) (.slice (some ⟨go57, 0, none⟩) t855.length co68) y867 := (by rw [hw, Ny867.out]; exact HP86.1); clear HP86; have n0_ := Aside0.mk (blk_grown (g := gb849) (o := .cells #[.slice (some ad863) l0_0.length c0_0, .int .i64 a0_1, .slice (some ad865) l0_2.length c0_2] 30 (0, 0)) (oK BK849) hg (Kd.R_ne HO857.out BK849.out (by decide))); have n1_ := Aside0.mk (blk_grown (g := gb850) (o := .cells #[.slice none 0 0, .int .i64 0, .slice none 0 0] 30 (0, 0)) (oK BK850) hg (Kd.R_ne HO857.out BK850.out (by decide))); have n2_ := Aside0.mk (Kd.R_over' (v := (.slice (some ⟨go57, 0, none⟩) t855.length co68)) (oR HO853) (Kd.R_typed HO857.out) (by decide) hg); have n3_ := Aside0.mk (hp_); have n4_ := Aside0.mk (blk_grown (g := gb858) (o := .cells #[.slice Ao64 t851.length co64, .int .i64 t854, .slice (some ⟨go57, 0, none⟩) t855.length co68] 30 (0, 0)) (oK BK858) hg (Kd.R_ne HO857.out BK858.out (by decide))); have n5_ := Aside0.mk (Kd.R_after (v := (.slice (some ⟨go57, 0, none⟩) t855.length co68)) (v1 := (.slice (some ⟨go57, 0, none⟩) t855.length co68)) (ok := (fun _ => True)) (by (with_reducible repeat (first | apply Kd.R_alloc | apply Kd.R_drewN | apply Kd.R_drew)); exact Kd.R_mono HO861.out (fun _ hk => ⟨trivial, hk⟩)) hg (.inl rfl)); have n6_ := Aside0.mk (blk_grown (g := gb864) (o := .cells #[.int .i64 ((rd_T67 l0_0 (rd t859 0)).f0), .int .i64 ((rd_T67 l0_0 (rd t859 0)).f1), .int .i64 ((rd_T67 l0_0 (rd t859 0)).f2), .int .i64 ((rd_T67 l0_0 (rd t859 0)).f3)] 67 (0, 0)) (oK BK864) hg (Kd.R_ne HO857.out BK864.out (by decide))); have n7_ := Aside0.mk ((by rw [hw]; exact below_set (HB.out) GB57.out : Below w.heap.size w w87)); clear BK849; clear BK850; clear HO853; clear HO857; clear BK858; clear HO861; clear BK864; clear HB; have BK849 := n0_; have BK850 := n1_; have HO853 := n2_; have HO857 := n3_; have BK858 := n4_; have HO861 := n5_; have BK864 := n6_; have HB := n7_; clear n0_ n1_ n2_ n3_ n4_ n5_ n6_ n7_; clear hg hw hp_; have hcz88_0 : w87.cell? ⟨gb858, 0, none⟩ = some (.slice Ao64 t851.length co64) := (blk_cell BK858.out 0).trans rfl; have hcz88_1 : w87.cell? ⟨gb858, 1, none⟩ = some (.int .i64 t854) := (blk_cell BK858.out 1).trans rfl; have hcz88_2 : w87.cell? ⟨gb858, 2, none⟩ = some (.slice (some ⟨go57, 0, none⟩) t855.length co68) := (blk_cell BK858.out 2).trans rfl; have hfz88_0 := blk_frozen BK858.out 0; have hfz88_1 := blk_frozen BK858.out 1; have hfz88_2 := blk_frozen BK858.out 2; have hcz89_0 : w87.cell? ⟨gb850, 0, none⟩ = some (.slice none 0 0) := (blk_cell BK850.out 0).trans rfl; have hcz89_1 : w87.cell? ⟨gb850, 1, none⟩ = some (.int .i64 0) := (blk_cell BK850.out 1).trans rfl; have hcz89_2 : w87.cell? ⟨gb850, 2, none⟩ = some (.slice none 0 0) := (blk_cell BK850.out 2).trans rfl; have hfz89_0 := blk_frozen BK850.out 0; have hfz89_1 := blk_frozen BK850.out 1; have hfz89_2 := blk_frozen BK850.out 2))
                    refine bodyPost_ret (results_ct rfl _ _ gb850 30 #[.slice Ao64 t851.length co64, .int .i64 t854, .slice (some ⟨go57, 0, none⟩) t855.length co68] (0, 0) _ rfl (by (with_reducible repeat (first | refine blk_drewN ?_ _ | refine blk_drew ?_ | refine blk_alloc ?_ _)); refine blk_put (cs := #[.slice Ao64 t851.length co64, .int .i64 t854, .slice none 0 0]) ?_ 2 _ rfl; (with_reducible repeat (first | refine blk_drewN ?_ _ | refine blk_drew ?_ | refine blk_alloc ?_ _)); refine blk_put (cs := #[.slice Ao64 t851.length co64, .int .i64 0, .slice none 0 0]) ?_ 1 _ rfl; (with_reducible repeat (first | refine blk_drewN ?_ _ | refine blk_drew ?_ | refine blk_alloc ?_ _)); refine blk_put (cs := #[.slice none 0 0, .int .i64 0, .slice none 0 0]) ?_ 0 _ rfl; (with_reducible repeat (first | refine blk_drewN ?_ _ | refine blk_drew ?_ | refine blk_alloc ?_ _)); exact BK850.out) Try.underlying30 rfl (by kernel_rfl)) rfl ?_
                    exact ⟨_, _, by first | rfl | (simp [errW_none, errW_some] <;> rfl) | (simp [*, errW_none, errW_some] <;> rfl), by (with_reducible repeat (first | apply Kd.R_alloc | apply Kd.R_drewN | apply Kd.R_drew)); exact Kd.R_mono (Kd.R_far (p := ⟨gb850, 2, none⟩) (Kd.R_far (p := ⟨gb850, 1, none⟩) (Kd.R_far (p := ⟨gb850, 0, none⟩) (Kd.R_types HO853.out BK850.out (by decide)) (fun _ hk => hk.2) (.slice Ao64 t851.length co64)) (fun _ hk => hk.2) (.int .i64 t854)) (fun _ hk => hk.2) (.slice (some ⟨go57, 0, none⟩) t855.length co68)) (fun _ hk => trivial), by (with_reducible repeat (first | apply Kd.R_alloc | apply Kd.R_drewN | apply Kd.R_drew)); exact Kd.R_mono (Kd.R_far (p := ⟨gb850, 2, none⟩) (Kd.R_far (p := ⟨gb850, 1, none⟩) (Kd.R_far (p := ⟨gb850, 0, none⟩) (Kd.R_types HO857.out BK850.out (by decide)) (fun _ hk => hk.2) (.slice Ao64 t851.length co64)) (fun _ hk => hk.2) (.int .i64 t854)) (fun _ hk => hk.2) (.slice (some ⟨go57, 0, none⟩) t855.length co68)) (fun _ hk => trivial), oB HB⟩
                  · rw [if_neg c56] at H
                    exact absurd H (by simp)
                · rw [if_neg c55] at H
                  exact absurd H (by simp)
            · rw [if_neg c25] at H
              exact absurd H (by simp)
          · rw [if_neg c24] at H
            exact absurd H (by simp)
        · rw [if_neg c23] at H
          exact absurd H (by simp)
      · rw [if_neg c22] at H
        exact absurd H (by simp)
    · rw [if_neg c21] at H
      exact absurd H (by simp)
end Go.Proofs.Ytlhlmjklajdejaa.P

