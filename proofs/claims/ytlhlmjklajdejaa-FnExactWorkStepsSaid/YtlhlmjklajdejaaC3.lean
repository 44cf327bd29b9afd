/- What functions of the program come to (f), that their calls come to just this (calls), and the plain laws over lists and numbers. No condition but those of the given row. -/
import Derived.Test.YtlhlmjklajdejaaC2
namespace Go.Proofs.Ytlhlmjklajdejaa.P
open Go.RowKit Go.Proofs.YtlhlmjklajdejaaW.PrintWords Go.Proofs.YtlhlmjklajdejaaW.PrintLast Go.Proofs.YtlhlmjklajdejaaW.PrintMore
attribute [local go_sem] max2_int min2_int max_two min_two max_three min_three max_four min_four
set_option linter.unusedVariables false
set_option linter.unusedSimpArgs false
def impl_TunedPitch.j0 : Nat → Int → Int → Int → Bool → Option (Int)
  | 0, _, _, _, _ => none
  | k + 1, x0, x1, x2, x27 => if x27 = true then (some 0) else (if x1 = 1 then ((impl_isFine.f (wrap64 (Int.tdiv (mx (wrap64 ((wrap64 (3 * x0)) - x2)) 0) 2))).bind fun t259 => (if t259 = true then (some (wrap64 (Int.tdiv (mx (wrap64 ((wrap64 (3 * x0)) - x2)) 0) 2))) else (some 0))) else (if x1 = 2 then ((impl_isFine.f (wrap64 (Int.tdiv (mx (wrap64 ((wrap64 (3 * x0)) - x2)) 0) 4))).bind fun t260 => (if t260 = true then (some (wrap64 (Int.tdiv (mx (wrap64 ((wrap64 (3 * x0)) - x2)) 0) 4))) else (some 0))) else (if x1 = 3 then ((impl_isFine.f (wrap64 (2 * x0))).bind fun t261 => (if t261 = true then (some (wrap64 (2 * x0))) else (some 0))) else (if x1 = 4 then ((impl_isFine.f (wrap64 (Int.tdiv x0 2))).bind fun t262 => (if t262 = true then (some (wrap64 (Int.tdiv x0 2))) else (some 0))) else ((impl_isFine.f 0).bind fun t263 => (if t263 = true then (some 0) else (some 0)))))))
def impl_TunedPitch.f (k : Nat) (a0 : Int) (a1 : Int) (a2 : Int) : Option (Int) := (impl_isFine.f a0).bind fun t257 => (if t257 = true then ((impl_within.f a2 0 100000).bind fun t258 => (if t258 = true then (if a2 = 0 then (impl_TunedPitch.j0 k a0 a1 a2 false) else (if a1 = 3 then (impl_TunedPitch.j0 k a0 a1 a2 true) else (impl_TunedPitch.j0 k a0 a1 a2 (a1 == 4)))) else (impl_TunedPitch.j0 k a0 a1 a2 true))) else (impl_TunedPitch.j0 k a0 a1 a2 true))
set_option maxHeartbeats 8000000 in
set_option maxRecDepth 100000 in
theorem impl_TunedPitch.calls (k : Nat) (a0 : Int) (a1 : Int) (a2 : Int) (r : Int) (w : World) (h : impl_TunedPitch.f k a0 a1 a2 = some r) :
    Calls Try.prog 77 #[.int .i64 a0, .int .i64 a1, .int .i64 a2] w fun e w' => e = .returned (.int .i64 r) ∧ Below w.heap.size w w' := by
  have HB := Aside0.mk (Below.refl w.heap.size w)
  have H : ((impl_isFine.f a0).bind fun t257 => (if t257 = true then ((impl_within.f a2 0 100000).bind fun t258 => (if t258 = true then (if a2 = 0 then (impl_TunedPitch.j0 k a0 a1 a2 false) else (if a1 = 3 then (impl_TunedPitch.j0 k a0 a1 a2 true) else (impl_TunedPitch.j0 k a0 a1 a2 (a1 == 4)))) else (impl_TunedPitch.j0 k a0 a1 a2 true))) else (impl_TunedPitch.j0 k a0 a1 a2 true))) = some r := h
  clear h
  have HC4 := Aside0.mk H
  clear H
  go_enter Try.func77, Try.ntmps77
  go_upto_region 1 with (fail)
  go_cut [27] (fun v27 wc => ∃ (kq : Nat) (x27_3 : Bool), v27 = .bool x27_3 ∧ Aside0 (impl_TunedPitch.j0 kq a0 a1 a2 x27_3 = some r) ∧ Aside0 (kq ≤ k) ∧ Aside0 (Below w.heap.size w wc))
  case first =>
    have H := HC4.out
    clear HC4
    replace H := Option.bind_eq_some_iff.mp H
    obtain ⟨t257, A50, H⟩ := H
    (try dsimp only at H)
    have A5 := Aside0.mk A50
    clear A50
    by_cases c6 : t257 = true
    · subst c6
      rw [if_pos rfl] at H
      replace H := Option.bind_eq_some_iff.mp H
      obtain ⟨t258, A70, H⟩ := H
      (try dsimp only at H)
      have A7 := Aside0.mk A70
      clear A70
      by_cases c8 : t258 = true
      · subst c8
        rw [if_pos rfl] at H
        by_cases c9 : a2 = 0
        · rw [if_pos c9] at H
          have c9b0 : (a2 == 0) = true := beq_iff_eq.mpr c9
          have c9b1 : (a2 != 0) = false := bne_eq_false_iff_eq.mpr c9
          clear c9
          (first | rw [c9b0] | (simp only [i64_w, i32_w]; rw [c9b0]) | skip)
          have H' := Aside0.mk H
          clear H
          go_wp2_with (first | ((with_reducible refine gate_callee (f := 61) rfl ?_); refine goesL_ (some 9) rfl rfl Try.func61 (by kernel_rfl) rfl #[.int .i64 a0] rfl (by (try simp only [List.map_toArray, List.map_cons, List.map_nil]); first | done | rfl | (simp only [List.length_drop, List.length_take]; rfl)) ?_; (with_reducible refine (impl_isFine.calls a0 true _ A5.out).mono ?_); rintro e w' ⟨rfl, ⟨nd, rfl⟩⟩; refine ⟨_, rfl, ?_⟩) | (go_at_call 60; (with_reducible refine (impl_within.calls a2 0 100000 true _ A7.out).mono ?_); rintro e w' ⟨rfl, ⟨nd, rfl⟩⟩))
          go_meet
          case rel => exact ⟨_, (false), (by first | rfl | (simp; done) | (simp [*]; done)), H', ⟨by first | omega | exact Nat.le_refl _⟩, ⟨oB HB⟩⟩
        · rw [if_neg c9] at H
          have c9b0 : (a2 == 0) = false := beq_eq_false_iff_ne.mpr c9
          have c9b1 : (a2 != 0) = true := bne_iff_ne.mpr c9
          (first | rw [c9b0] | (simp only [i64_w, i32_w]; rw [c9b0]) | skip)
          by_cases c10 : a1 = 3
          · rw [if_pos c10] at H
            have c10b0 : (a1 == 3) = true := beq_iff_eq.mpr c10
            have c10b1 : (a1 != 3) = false := bne_eq_false_iff_eq.mpr c10
            clear c10
            have H' := Aside0.mk H
            clear H
            go_wp2_with (first | ((with_reducible refine gate_callee (f := 61) rfl ?_); refine goesL_ (some 9) rfl rfl Try.func61 (by kernel_rfl) rfl #[.int .i64 a0] rfl (by (try simp only [List.map_toArray, List.map_cons, List.map_nil]); first | done | rfl | (simp only [List.length_drop, List.length_take]; rfl)) ?_; (with_reducible refine (impl_isFine.calls a0 true _ A5.out).mono ?_); rintro e w' ⟨rfl, ⟨nd, rfl⟩⟩; refine ⟨_, rfl, ?_⟩) | (go_at_call 60; (with_reducible refine (impl_within.calls a2 0 100000 true _ A7.out).mono ?_); rintro e w' ⟨rfl, ⟨nd, rfl⟩⟩))
            go_meet
            case rel => exact ⟨_, (true), (by first | rfl | (simp; done) | (simp [*]; done)), H', ⟨by first | omega | exact Nat.le_refl _⟩, ⟨oB HB⟩⟩
          · rw [if_neg c10] at H
            have c10b0 : (a1 == 3) = false := beq_eq_false_iff_ne.mpr c10
            have c10b1 : (a1 != 3) = true := bne_iff_ne.mpr c10
            have H' := Aside0.mk H
            clear H
            go_wp2_with (first | ((with_reducible refine gate_callee (f := 61) rfl ?_); refine goesL_ (some 9) rfl rfl Try.func61 (by kernel_rfl) rfl #[.int .i64 a0] rfl (by (try simp only [List.map_toArray, List.map_cons, List.map_nil]); first | done | rfl | (simp only [List.length_drop, List.length_take]; rfl)) ?_; (with_reducible refine (impl_isFine.calls a0 true _ A5.out).mono ?_); rintro e w' ⟨rfl, ⟨nd, rfl⟩⟩; refine ⟨_, rfl, ?_⟩) | (go_at_call 60; (with_reducible refine (impl_within.calls a2 0 100000 true _ A7.out).mono ?_); rintro e w' ⟨rfl, ⟨nd, rfl⟩⟩))
            go_meet
            case rel => exact ⟨_, ((a1 == 4)), (by first | rfl | (simp; done) | (simp [*]; done)), H', ⟨by first | omega | exact Nat.le_refl _⟩, ⟨oB HB⟩⟩
      · replace c8 := Bool.eq_false_iff.mpr c8
        subst c8
        rw [if_neg (show ¬ (false = true) by decide)] at H
        have H' := Aside0.mk H
        clear H
        go_wp2_with (first | ((with_reducible refine gate_callee (f := 61) rfl ?_); refine goesL_ (some 9) rfl rfl Try.func61 (by kernel_rfl) rfl #[.int .i64 a0] rfl (by (try simp only [List.map_toArray, List.map_cons, List.map_nil]); first | done | rfl | (simp only [List.length_drop, List.length_take]; rfl)) ?_; (with_reducible refine (impl_isFine.calls a0 true _ A5.out).mono ?_); rintro e w' ⟨rfl, ⟨nd, rfl⟩⟩; refine ⟨_, rfl, ?_⟩) | (go_at_call 60; (with_reducible refine (impl_within.calls a2 0 100000 false _ A7.out).mono ?_); rintro e w' ⟨rfl, ⟨nd, rfl⟩⟩))
        go_meet
        case rel => exact ⟨_, (true), (by first | rfl | (simp; done) | (simp [*]; done)), H', ⟨by first | omega | exact Nat.le_refl _⟩, ⟨oB HB⟩⟩
    · replace c6 := Bool.eq_false_iff.mpr c6
      subst c6
      rw [if_neg (show ¬ (false = true) by decide)] at H
      have H' := Aside0.mk H
      clear H
      go_wp2_with (first | ((with_reducible refine gate_callee (f := 61) rfl ?_); refine goesL_ (some 9) rfl rfl Try.func61 (by kernel_rfl) rfl #[.int .i64 a0] rfl (by (try simp only [List.map_toArray, List.map_cons, List.map_nil]); first | done | rfl | (simp only [List.length_drop, List.length_take]; rfl)) ?_; (with_reducible refine (impl_isFine.calls a0 false _ A5.out).mono ?_); rintro e w' ⟨rfl, ⟨nd, rfl⟩⟩; refine ⟨_, rfl, ?_⟩))
      go_meet
      case rel => exact ⟨_, (true), (by first | rfl | (simp; done) | (simp [*]; done)), H', ⟨by first | omega | exact Nat.le_refl _⟩, ⟨oB HB⟩⟩
  case rest =>
    clear HC4
    try clear c1
    try clear p2
    try clear c6
    try clear c7
    try clear c8
    try clear c9
    try clear c9b0
    try clear c9b1
    try clear c10
    try clear c10b0
    try clear c10b1
    obtain ⟨kq, x27_3, rfl, HA, HJ3, HB⟩ := hcut
    cases kq with
    | zero => exact absurd HA.out (by simp [impl_TunedPitch.j0])
    | succ kj3 =>
      have H := HA.out
      clear HA
      simp only [impl_TunedPitch.j0] at H
      by_cases c11 : x27_3 = true
      · subst c11
        rw [if_pos rfl] at H
        obtain rfl := Option.some.inj H
        go_wp2
        go_ret
        exact ⟨by first | rfl | (simp [errW_none, errW_some] <;> rfl) | (simp [*, errW_none, errW_some] <;> rfl), oB HB⟩
      · replace c11 := Bool.eq_false_iff.mpr c11
        subst c11
        rw [if_neg (show ¬ (false = true) by decide)] at H
        by_cases c12 : a1 = 1
        · rw [if_pos c12] at H
          have c12b0 : (a1 == 1) = true := beq_iff_eq.mpr c12
          have c12b1 : (a1 != 1) = false := bne_eq_false_iff_eq.mpr c12
          clear c12
          obtain ⟨ji13, hji13⟩ : ∃ j_ : Int, (mx (wrap64 ((wrap64 (3 * a0)) - a2)) 0) = j_ := ⟨_, rfl⟩
          replace H : ((impl_isFine.f (wrap64 (Int.tdiv (ji13) 2))).bind fun t259 => (if t259 = true then (some (wrap64 (Int.tdiv (ji13) 2))) else (some 0))) = some r := by first | (rw [hji13] at H; exact H) | (simp only [hji13] at H ⊢; exact H)
          have hji13_ : (if (wrap64 ((wrap64 (3 * a0)) - a2)) < 0 then 0 else (wrap64 ((wrap64 (3 * a0)) - a2))) = ji13 := hji13
          replace H := Option.bind_eq_some_iff.mp H
          obtain ⟨t259, A140, H⟩ := H
          (try dsimp only at H)
          have A14 := Aside0.mk A140
          clear A140
          by_cases c15 : t259 = true
          · subst c15
            rw [if_pos rfl] at H
            obtain rfl := Option.some.inj H
            go_wp2_with (first | ((with_reducible refine gate_callee (f := 61) rfl ?_); refine goesL_ (some 54) rfl rfl Try.func61 (by kernel_rfl) rfl #[.int .i64 (wrap64 (Int.tdiv (ji13) 2))] rfl (by (try simp only [List.map_toArray, List.map_cons, List.map_nil]); first | done | (simp only [hji13]; rfl) | rfl | (simp only [List.length_drop, List.length_take]; rfl)) ?_; (with_reducible refine (impl_isFine.calls (wrap64 (Int.tdiv (ji13) 2)) true _ A14.out).mono ?_); rintro e w' ⟨rfl, ⟨nd, rfl⟩⟩; refine ⟨_, rfl, ?_⟩))
            go_ret
            exact ⟨by first | rfl | (simp [errW_none, errW_some] <;> rfl) | (simp only [← hji13]; first | rfl | (simp [errW_none, errW_some] <;> rfl)) | (simp [*, errW_none, errW_some] <;> rfl), oB HB⟩
          · replace c15 := Bool.eq_false_iff.mpr c15
            subst c15
            rw [if_neg (show ¬ (false = true) by decide)] at H
            obtain rfl := Option.some.inj H
            go_wp2_with (first | ((with_reducible refine gate_callee (f := 61) rfl ?_); refine goesL_ (some 54) rfl rfl Try.func61 (by kernel_rfl) rfl #[.int .i64 (wrap64 (Int.tdiv (ji13) 2))] rfl (by (try simp only [List.map_toArray, List.map_cons, List.map_nil]); first | done | (simp only [hji13]; rfl) | rfl | (simp only [List.length_drop, List.length_take]; rfl)) ?_; (with_reducible refine (impl_isFine.calls (wrap64 (Int.tdiv (ji13) 2)) false _ A14.out).mono ?_); rintro e w' ⟨rfl, ⟨nd, rfl⟩⟩; refine ⟨_, rfl, ?_⟩))
            go_ret
            exact ⟨by first | rfl | (simp [errW_none, errW_some] <;> rfl) | (simp only [← hji13]; first | rfl | (simp [errW_none, errW_some] <;> rfl)) | (simp [*, errW_none, errW_some] <;> rfl), oB HB⟩
        · rw [if_neg c12] at H
          have c12b0 : (a1 == 1) = false := beq_eq_false_iff_ne.mpr c12
          have c12b1 : (a1 != 1) = true := bne_iff_ne.mpr c12
          by_cases c16 : a1 = 2
          · rw [if_pos c16] at H
            have c16b0 : (a1 == 2) = true := beq_iff_eq.mpr c16
            have c16b1 : (a1 != 2) = false := bne_eq_false_iff_eq.mpr c16
            clear c16
            obtain ⟨ji17, hji17⟩ : ∃ j_ : Int, (mx (wrap64 ((wrap64 (3 * a0)) - a2)) 0) = j_ := ⟨_, rfl⟩
            replace H : ((impl_isFine.f (wrap64 (Int.tdiv (ji17) 4))).bind fun t260 => (if t260 = true then (some (wrap64 (Int.tdiv (ji17) 4))) else (some 0))) = some r := by first | (rw [hji17] at H; exact H) | (simp only [hji17] at H ⊢; exact H)
            have hji17_ : (if (wrap64 ((wrap64 (3 * a0)) - a2)) < 0 then 0 else (wrap64 ((wrap64 (3 * a0)) - a2))) = ji17 := hji17
            replace H := Option.bind_eq_some_iff.mp H
            obtain ⟨t260, A180, H⟩ := H
            (try dsimp only at H)
            have A18 := Aside0.mk A180
            clear A180
            by_cases c19 : t260 = true
            · subst c19
              rw [if_pos rfl] at H
              obtain rfl := Option.some.inj H
              go_wp2_with (first | ((with_reducible refine gate_callee (f := 61) rfl ?_); refine goesL_ (some 54) rfl rfl Try.func61 (by kernel_rfl) rfl #[.int .i64 (wrap64 (Int.tdiv (ji17) 4))] rfl (by (try simp only [List.map_toArray, List.map_cons, List.map_nil]); first | done | (simp only [hji17]; rfl) | rfl | (simp only [List.length_drop, List.length_take]; rfl)) ?_; (with_reducible refine (impl_isFine.calls (wrap64 (Int.tdiv (ji17) 4)) true _ A18.out).mono ?_); rintro e w' ⟨rfl, ⟨nd, rfl⟩⟩; refine ⟨_, rfl, ?_⟩))
              go_ret
              exact ⟨by first | rfl | (simp [errW_none, errW_some] <;> rfl) | (simp only [← hji17]; first | rfl | (simp [errW_none, errW_some] <;> rfl)) | (simp [*, errW_none, errW_some] <;> rfl), oB HB⟩
            · replace c19 := Bool.eq_false_iff.mpr c19
              subst c19
              rw [if_neg (show ¬ (false = true) by decide)] at H
              obtain rfl := Option.some.inj H
              go_wp2_with (first | ((with_reducible refine gate_callee (f := 61) rfl ?_); refine goesL_ (some 54) rfl rfl Try.func61 (by kernel_rfl) rfl #[.int .i64 (wrap64 (Int.tdiv (ji17) 4))] rfl (by (try simp only [List.map_toArray, List.map_cons, List.map_nil]); first | done | (simp only [hji17]; rfl) | rfl | (simp only [List.length_drop, List.length_take]; rfl)) ?_; (with_reducible refine (impl_isFine.calls (wrap64 (Int.tdiv (ji17) 4)) false _ A18.out).mono ?_); rintro e w' ⟨rfl, ⟨nd, rfl⟩⟩; refine ⟨_, rfl, ?_⟩))
              go_ret
              exact ⟨by first | rfl | (simp [errW_none, errW_some] <;> rfl) | (simp only [← hji17]; first | rfl | (simp [errW_none, errW_some] <;> rfl)) | (simp [*, errW_none, errW_some] <;> rfl), oB HB⟩
          · rw [if_neg c16] at H
            have c16b0 : (a1 == 2) = false := beq_eq_false_iff_ne.mpr c16
            have c16b1 : (a1 != 2) = true := bne_iff_ne.mpr c16
            by_cases c20 : a1 = 3
            · rw [if_pos c20] at H
              have c20b0 : (a1 == 3) = true := beq_iff_eq.mpr c20
              have c20b1 : (a1 != 3) = false := bne_eq_false_iff_eq.mpr c20
              clear c20
              replace H := Option.bind_eq_some_iff.mp H
              obtain ⟨t261, A210, H⟩ := H
              (try dsimp only at H)
              have A21 := Aside0.mk A210
              clear A210
              by_cases c22 : t261 = true
              · subst c22
                rw [if_pos rfl] at H
                obtain rfl := Option.some.inj H
                go_wp2_with (first | ((with_reducible refine gate_callee (f := 61) rfl ?_); refine goesL_ (some 54) rfl rfl Try.func61 (by kernel_rfl) rfl #[.int .i64 (wrap64 (2 * a0))] rfl (by (try simp only [List.map_toArray, List.map_cons, List.map_nil]); first | done | rfl | (simp only [List.length_drop, List.length_take]; rfl)) ?_; (with_reducible refine (impl_isFine.calls (wrap64 (2 * a0)) true _ A21.out).mono ?_); rintro e w' ⟨rfl, ⟨nd, rfl⟩⟩; refine ⟨_, rfl, ?_⟩))
                go_ret
                exact ⟨by first | rfl | (simp [errW_none, errW_some] <;> rfl) | (simp [*, errW_none, errW_some] <;> rfl), oB HB⟩
              · replace c22 := Bool.eq_false_iff.mpr c22
                subst c22
                rw [if_neg (show ¬ (false = true) by decide)] at H
                obtain rfl := Option.some.inj H
                go_wp2_with (first | ((with_reducible refine gate_callee (f := 61) rfl ?_); refine goesL_ (some 54) rfl rfl Try.func61 (by kernel_rfl) rfl #[.int .i64 (wrap64 (2 * a0))] rfl (by (try simp only [List.map_toArray, List.map_cons, List.map_nil]); first | done | rfl | (simp only [List.length_drop, List.length_take]; rfl)) ?_; (with_reducible refine (impl_isFine.calls (wrap64 (2 * a0)) false _ A21.out).mono ?_); rintro e w' ⟨rfl, ⟨nd, rfl⟩⟩; refine ⟨_, rfl, ?_⟩))
                go_ret
                exact ⟨by first | rfl | (simp [errW_none, errW_some] <;> rfl) | (simp [*, errW_none, errW_some] <;> rfl), oB HB⟩
            · rw [if_neg c20] at H
              have c20b0 : (a1 == 3) = false := beq_eq_false_iff_ne.mpr c20
              have c20b1 : (a1 != 3) = true := bne_iff_ne.mpr c20
              by_cases c23 : a1 = 4
              · rw [if_pos c23] at H
                have c23b0 : (a1 == 4) = true := beq_iff_eq.mpr c23
                have c23b1 : (a1 != 4) = false := bne_eq_false_iff_eq.mpr c23
                clear c23
                replace H := Option.bind_eq_some_iff.mp H
                obtain ⟨t262, A240, H⟩ := H
                (try dsimp only at H)
                have A24 := Aside0.mk A240
                clear A240
                by_cases c25 : t262 = true
                · subst c25
                  rw [if_pos rfl] at H
                  obtain rfl := Option.some.inj H
                  go_wp2_with (first | ((with_reducible refine gate_callee (f := 61) rfl ?_); refine goesL_ (some 54) rfl rfl Try.func61 (by kernel_rfl) rfl #[.int .i64 (wrap64 (Int.tdiv a0 2))] rfl (by (try simp only [List.map_toArray, List.map_cons, List.map_nil]); first | done | rfl | (simp only [List.length_drop, List.length_take]; rfl)) ?_; (with_reducible refine (impl_isFine.calls (wrap64 (Int.tdiv a0 2)) true _ A24.out).mono ?_); rintro e w' ⟨rfl, ⟨nd, rfl⟩⟩; refine ⟨_, rfl, ?_⟩))
                  go_ret
                  exact ⟨by first | rfl | (simp [errW_none, errW_some] <;> rfl) | (simp [*, errW_none, errW_some] <;> rfl), oB HB⟩
                · replace c25 := Bool.eq_false_iff.mpr c25
                  subst c25
                  rw [if_neg (show ¬ (false = true) by decide)] at H
                  obtain rfl := Option.some.inj H
                  go_wp2_with (first | ((with_reducible refine gate_callee (f := 61) rfl ?_); refine goesL_ (some 54) rfl rfl Try.func61 (by kernel_rfl) rfl #[.int .i64 (wrap64 (Int.tdiv a0 2))] rfl (by (try simp only [List.map_toArray, List.map_cons, List.map_nil]); first | done | rfl | (simp only [List.length_drop, List.length_take]; rfl)) ?_; (with_reducible refine (impl_isFine.calls (wrap64 (Int.tdiv a0 2)) false _ A24.out).mono ?_); rintro e w' ⟨rfl, ⟨nd, rfl⟩⟩; refine ⟨_, rfl, ?_⟩))
                  go_ret
                  exact ⟨by first | rfl | (simp [errW_none, errW_some] <;> rfl) | (simp [*, errW_none, errW_some] <;> rfl), oB HB⟩
              · rw [if_neg c23] at H
                have c23b0 : (a1 == 4) = false := beq_eq_false_iff_ne.mpr c23
                have c23b1 : (a1 != 4) = true := bne_iff_ne.mpr c23
                replace H := Option.bind_eq_some_iff.mp H
                obtain ⟨t263, A260, H⟩ := H
                (try dsimp only at H)
                have A26 := Aside0.mk A260
                clear A260
                by_cases c27 : t263 = true
                · subst c27
                  rw [if_pos rfl] at H
                  obtain rfl := Option.some.inj H
                  go_wp2_with (first | ((with_reducible refine gate_callee (f := 61) rfl ?_); refine goesL_ (some 54) rfl rfl Try.func61 (by kernel_rfl) rfl #[.int .i64 0] rfl (by (try simp only [List.map_toArray, List.map_cons, List.map_nil]); first | done | rfl | (simp only [List.length_drop, List.length_take]; rfl)) ?_; (with_reducible refine (impl_isFine.calls 0 true _ A26.out).mono ?_); rintro e w' ⟨rfl, ⟨nd, rfl⟩⟩; refine ⟨_, rfl, ?_⟩))
                  go_ret
                  exact ⟨by first | rfl | (simp [errW_none, errW_some] <;> rfl) | (simp [*, errW_none, errW_some] <;> rfl), oB HB⟩
                · replace c27 := Bool.eq_false_iff.mpr c27
                  subst c27
                  rw [if_neg (show ¬ (false = true) by decide)] at H
                  obtain rfl := Option.some.inj H
                  go_wp2_with (first | ((with_reducible refine gate_callee (f := 61) rfl ?_); refine goesL_ (some 54) rfl rfl Try.func61 (by kernel_rfl) rfl #[.int .i64 0] rfl (by (try simp only [List.map_toArray, List.map_cons, List.map_nil]); first | done | rfl | (simp only [List.length_drop, List.length_take]; rfl)) ?_; (with_reducible refine (impl_isFine.calls 0 false _ A26.out).mono ?_); rintro e w' ⟨rfl, ⟨nd, rfl⟩⟩; refine ⟨_, rfl, ?_⟩))
                  go_ret
                  exact ⟨by first | rfl | (simp [errW_none, errW_some] <;> rfl) | (simp [*, errW_none, errW_some] <;> rfl), oB HB⟩
end Go.Proofs.Ytlhlmjklajdejaa.P


namespace Go.Proofs.Ytlhlmjklajdejaa.P
open Go.RowKit Go.Proofs.YtlhlmjklajdejaaW.PrintWords Go.Proofs.YtlhlmjklajdejaaW.PrintLast Go.Proofs.YtlhlmjklajdejaaW.PrintMore
attribute [local go_sem] max2_int min2_int max_two min_two max_three min_three max_four min_four
set_option linter.unusedVariables false
set_option linter.unusedSimpArgs false
def impl_tunedBy.f (k : Nat) (l0_0 : List (S67)) (a0_1 : Int) (l0_2 : List Int) (a1 : Int) : Option (Int) := if 0 ≤ a1 then (if a1 < (l0_0.length : Int) then (if 0 ≤ ((rd_T67 l0_0 a1).f0) then (if ((rd_T67 l0_0 a1).f0) < (l0_2.length : Int) then ((impl_TunedPitch.f k (rd l0_2 ((rd_T67 l0_0 a1).f0)) ((rd_T67 l0_0 a1).f2) ((rd_T67 l0_0 a1).f3)).bind fun t576 => (some t576)) else (none)) else (none)) else (none)) else (none)
def impl_tunedBy.T2 : Bool × List (List Nat × List Nat) := (true, [([], []), ([0], [0]), ([], []), ([2], [2]), ([1, 3], [1, 3]), ([4], [4]), ([], []), ([6], [6]), ([], []), ([8], [8]), ([5, 7, 9], [5, 7, 9]), ([10, 10, 0, 1, 2, 3, 4, 5, 6, 7, 8, 9, 10], [10])])
def impl_tunedBy.B2 : List Nat := [0, 1, 0, 4, 15, 31, 0, 64, 0, 256, 1023, 2047]
theorem impl_tunedBy.tab2 : rtab .any (opsOf Try.f73 2) = impl_tunedBy.T2 := by kernel_rfl
theorem impl_tunedBy.bits2 : waitsOk impl_tunedBy.T2.2 impl_tunedBy.B2 = true := by kernel_rfl
set_option maxHeartbeats 8000000 in
set_option maxRecDepth 100000 in
theorem impl_tunedBy.calls (k : Nat) (A0_0 : Option Addr) (c0_0 : Nat) (l0_0 : List (S67)) (a0_1 : Int) (A0_2 : Option Addr) (c0_2 : Nat) (l0_2 : List Int) (a1 : Int) (r : Int) (w : World) (hr0_0 : Kd.C k67 w A0_0 l0_0.length l0_0) (hc0_0 : l0_0.length ≤ c0_0) (hr0_2 : Kd.C (Kd.int .i64) w A0_2 l0_2.length l0_2) (hc0_2 : l0_2.length ≤ c0_2) (h : impl_tunedBy.f k l0_0 a0_1 l0_2 a1 = some r) :
    Calls Try.prog 73 #[.agg #[.slice A0_0 l0_0.length c0_0, .int .i64 a0_1, .slice A0_2 l0_2.length c0_2], .int .i64 a1] w fun e w' => e = .returned (.int .i64 r) ∧ Below w.heap.size w w' := by
  have hu30 := Try.underlying30
  have hu67 := Try.underlying67
  have HR0_0 := Aside0.mk hr0_0
  have HC0_0 := Aside0.mk hc0_0
  clear hr0_0 hc0_0
  have HR0_2 := Aside0.mk hr0_2
  have HC0_2 := Aside0.mk hc0_2
  clear hr0_2 hc0_2
  have HB := Aside0.mk (Below.refl w.heap.size w)
  have H : (if 0 ≤ a1 then (if a1 < (l0_0.length : Int) then (if 0 ≤ ((rd_T67 l0_0 a1).f0) then (if ((rd_T67 l0_0 a1).f0) < (l0_2.length : Int) then ((impl_TunedPitch.f k (rd l0_2 ((rd_T67 l0_0 a1).f0)) ((rd_T67 l0_0 a1).f2) ((rd_T67 l0_0 a1).f3)).bind fun t576 => (some t576)) else (none)) else (none)) else (none)) else (none)) = some r := h
  clear h
  by_cases c3 : 0 ≤ a1
  · rw [if_pos c3] at H
    have c3b0 : decide (0 ≤ a1) = true := decide_eq_true c3
    clear c3
    by_cases c4 : a1 < (l0_0.length : Int)
    · rw [if_pos c4] at H
      have c4b0 : decide (a1 < (l0_0.length : Int)) = true := decide_eq_true c4
      clear c4
      by_cases c5 : 0 ≤ ((rd_T67 l0_0 a1).f0)
      · rw [if_pos c5] at H
        have c5b0 : decide (0 ≤ ((rd_T67 l0_0 a1).f0)) = true := decide_eq_true c5
        clear c5
        by_cases c6 : ((rd_T67 l0_0 a1).f0) < (l0_2.length : Int)
        · rw [if_pos c6] at H
          have c6b0 : decide (((rd_T67 l0_0 a1).f0) < (l0_2.length : Int)) = true := decide_eq_true c6
          clear c6
          replace H := Option.bind_eq_some_iff.mp H
          obtain ⟨t576, A70, H⟩ := H
          (try dsimp only at H)
          have A7 := Aside0.mk A70
          clear A70
          obtain rfl := Option.some.inj H
          go_enter Try.func73, Try.ntmps73
          try go_wp2_with (first | ((with_reducible refine gate_dst (N := 2) rfl ?_); refine box_event ?hg (N := 2) ?hd (cs := #[.slice A0_0 l0_0.length c0_0, .int .i64 a0_1, .slice A0_2 l0_2.length c0_2]) (t := 30) ?hr ?_; (case hd => rfl); (case hg => rfl); (case hr => first | (go_simp; done) | (go_simp; rfl)); intro gb572 hg w8 hbox hb; have n0_ := Aside0.mk (below_step (oB HB) hb); have n1_ := Aside0.mk (hbox); have n2_ := Aside0.mk ((by rw [hg]; exact (below_size (oB HB)) : w.heap.size ≤ gb572)); have n3_ := Aside0.mk ((by rw [hg]; exact (below_size (oB HB)) : w.heap.size ≤ gb572)); clear HB; have HB := n0_; have BK572 := n1_; have GW572 := n2_; have GE572 := n3_; clear n0_ n1_ n2_ n3_; clear hb hbox hg; have hcz9_0 : w8.cell? ⟨gb572, 0, none⟩ = some (.slice A0_0 l0_0.length c0_0) := (blk_cell BK572.out 0).trans rfl; have hcz9_1 : w8.cell? ⟨gb572, 1, none⟩ = some (.int .i64 a0_1) := (blk_cell BK572.out 1).trans rfl; have hcz9_2 : w8.cell? ⟨gb572, 2, none⟩ = some (.slice A0_2 l0_2.length c0_2) := (blk_cell BK572.out 2).trans rfl; have hfz9_0 := blk_frozen BK572.out 0; have hfz9_1 := blk_frozen BK572.out 1; have hfz9_2 := blk_frozen BK572.out 2; have p573 : 0 ≤ (a1 : Int) := of_decide_eq_true (by first | (with_reducible assumption) | assumption); have q573 : a1 < (l0_0.length : Int) := of_decide_eq_true (by first | (with_reducible assumption) | assumption); obtain ⟨ad573, e573, hx573_0, hx573_1, hx573_2, hx573_3⟩ := at_T67 HR0_0.out a1 p573 q573; cases e573; replace hx573_0 := (HB.out.cell (World.block_lt_of_cell? w _ hx573_0)).trans hx573_0; replace hx573_1 := (HB.out.cell (World.block_lt_of_cell? w _ hx573_1)).trans hx573_1; replace hx573_2 := (HB.out.cell (World.block_lt_of_cell? w _ hx573_2)).trans hx573_2; replace hx573_3 := (HB.out.cell (World.block_lt_of_cell? w _ hx573_3)).trans hx573_3; replace p573 := eq_true p573; replace q573 := eq_true q573) | ((with_reducible refine gate_dst (N := 5) rfl ?_); refine box_event ?hg (N := 5) ?hd (cs := #[.int .i64 0, .int .i64 0, .int .i64 0, .int .i64 0]) (t := 67) ?hr ?_; (case hd => rfl); (case hg => rfl); (case hr => first | (go_simp; done) | (go_simp; rfl)); intro gb574 hg w10 hbox hb; have n0_ := Aside0.mk (blk_below (g := gb572) (o := .cells #[.slice (some ad573) l0_0.length c0_0, .int .i64 a0_1, .slice A0_2 l0_2.length c0_2] 30 (0, 0)) (oK BK572) hb); have n1_ := Aside0.mk (below_step (oB HB) hb); have n2_ := Aside0.mk (hbox); have n3_ := Aside0.mk ((by rw [hg]; exact (below_size (oB HB)) : w.heap.size ≤ gb574)); have n4_ := Aside0.mk ((by rw [hg]; exact (below_size (oB HB)) : w.heap.size ≤ gb574)); have n5_ := Aside0.mk ((by rw [hg]; exact Nat.ne_of_lt (blk_lt (g := gb572) (o := .cells #[.slice (some ad573) l0_0.length c0_0, .int .i64 a0_1, .slice A0_2 l0_2.length c0_2] 30 (0, 0)) (oK BK572)) : gb572 ≠ gb574)); have n6_ := Aside0.mk ((by rw [hg]; exact Nat.ne_of_gt (blk_lt (g := gb572) (o := .cells #[.slice (some ad573) l0_0.length c0_0, .int .i64 a0_1, .slice A0_2 l0_2.length c0_2] 30 (0, 0)) (oK BK572)) : gb574 ≠ gb572)); clear BK572; clear HB; have BK572 := n0_; have HB := n1_; have BK574 := n2_; have GW574 := n3_; have GE574 := n4_; have NB572_574 := n5_; have NB574_572 := n6_; clear n0_ n1_ n2_ n3_ n4_ n5_ n6_; clear hb hbox hg; have hnb11 := NB574_572.out; have hnc11 := NB572_574.out; have hcz12_0 : w10.cell? ⟨gb574, 0, none⟩ = some (.int .i64 0) := (blk_cell BK574.out 0).trans rfl; have hcz12_1 : w10.cell? ⟨gb574, 1, none⟩ = some (.int .i64 0) := (blk_cell BK574.out 1).trans rfl; have hcz12_2 : w10.cell? ⟨gb574, 2, none⟩ = some (.int .i64 0) := (blk_cell BK574.out 2).trans rfl; have hcz12_3 : w10.cell? ⟨gb574, 3, none⟩ = some (.int .i64 0) := (blk_cell BK574.out 3).trans rfl; have hfz12_0 := blk_frozen BK574.out 0; have hfz12_1 := blk_frozen BK574.out 1; have hfz12_2 := blk_frozen BK574.out 2; have hfz12_3 := blk_frozen BK574.out 3))
          have n0_ : Aside0 (((((w10.setCell ⟨gb574, 0, none⟩ (.int .i64 ((rd_T67 l0_0 a1).f0))).setCell ⟨gb574, 1, none⟩ (.int .i64 ((rd_T67 l0_0 a1).f1))).setCell ⟨gb574, 2, none⟩ (.int .i64 ((rd_T67 l0_0 a1).f2))).setCell ⟨gb574, 3, none⟩ (.int .i64 ((rd_T67 l0_0 a1).f3))).heap[gb572]? = some (.cells #[.slice (some ad573) l0_0.length c0_0, .int .i64 a0_1, .slice A0_2 l0_2.length c0_2] 30 (0, 0))) := ⟨by (with_reducible repeat (first | refine blk_drewN ?_ _ | refine blk_drew ?_ | refine blk_alloc ?_ _)); refine blk_far ?_ NB572_574.out _; (with_reducible repeat (first | refine blk_drewN ?_ _ | refine blk_drew ?_ | refine blk_alloc ?_ _)); refine blk_far ?_ NB572_574.out _; (with_reducible repeat (first | refine blk_drewN ?_ _ | refine blk_drew ?_ | refine blk_alloc ?_ _)); refine blk_far ?_ NB572_574.out _; (with_reducible repeat (first | refine blk_drewN ?_ _ | refine blk_drew ?_ | refine blk_alloc ?_ _)); refine blk_far ?_ NB572_574.out _; (with_reducible repeat (first | refine blk_drewN ?_ _ | refine blk_drew ?_ | refine blk_alloc ?_ _)); exact BK572.out⟩
          have n1_ : Aside0 (((((w10.setCell ⟨gb574, 0, none⟩ (.int .i64 ((rd_T67 l0_0 a1).f0))).setCell ⟨gb574, 1, none⟩ (.int .i64 ((rd_T67 l0_0 a1).f1))).setCell ⟨gb574, 2, none⟩ (.int .i64 ((rd_T67 l0_0 a1).f2))).setCell ⟨gb574, 3, none⟩ (.int .i64 ((rd_T67 l0_0 a1).f3))).heap[gb574]? = some (.cells #[.int .i64 ((rd_T67 l0_0 a1).f0), .int .i64 ((rd_T67 l0_0 a1).f1), .int .i64 ((rd_T67 l0_0 a1).f2), .int .i64 ((rd_T67 l0_0 a1).f3)] 67 (0, 0))) := ⟨by (with_reducible repeat (first | refine blk_drewN ?_ _ | refine blk_drew ?_ | refine blk_alloc ?_ _)); refine blk_put (cs := #[.int .i64 ((rd_T67 l0_0 a1).f0), .int .i64 ((rd_T67 l0_0 a1).f1), .int .i64 ((rd_T67 l0_0 a1).f2), .int .i64 0]) ?_ 3 _ rfl; (with_reducible repeat (first | refine blk_drewN ?_ _ | refine blk_drew ?_ | refine blk_alloc ?_ _)); refine blk_put (cs := #[.int .i64 ((rd_T67 l0_0 a1).f0), .int .i64 ((rd_T67 l0_0 a1).f1), .int .i64 0, .int .i64 0]) ?_ 2 _ rfl; (with_reducible repeat (first | refine blk_drewN ?_ _ | refine blk_drew ?_ | refine blk_alloc ?_ _)); refine blk_put (cs := #[.int .i64 ((rd_T67 l0_0 a1).f0), .int .i64 0, .int .i64 0, .int .i64 0]) ?_ 1 _ rfl; (with_reducible repeat (first | refine blk_drewN ?_ _ | refine blk_drew ?_ | refine blk_alloc ?_ _)); refine blk_put (cs := #[.int .i64 0, .int .i64 0, .int .i64 0, .int .i64 0]) ?_ 0 _ rfl; (with_reducible repeat (first | refine blk_drewN ?_ _ | refine blk_drew ?_ | refine blk_alloc ?_ _)); exact BK574.out⟩
          have n2_ : Aside0 (Below w.heap.size w ((((w10.setCell ⟨gb574, 0, none⟩ (.int .i64 ((rd_T67 l0_0 a1).f0))).setCell ⟨gb574, 1, none⟩ (.int .i64 ((rd_T67 l0_0 a1).f1))).setCell ⟨gb574, 2, none⟩ (.int .i64 ((rd_T67 l0_0 a1).f2))).setCell ⟨gb574, 3, none⟩ (.int .i64 ((rd_T67 l0_0 a1).f3)))) := ⟨oB HB⟩
          (try clear BK572)
          (try clear BK574)
          (try clear HB)
          generalize ((((w10.setCell ⟨gb574, 0, none⟩ (.int .i64 ((rd_T67 l0_0 a1).f0))).setCell ⟨gb574, 1, none⟩ (.int .i64 ((rd_T67 l0_0 a1).f1))).setCell ⟨gb574, 2, none⟩ (.int .i64 ((rd_T67 l0_0 a1).f2))).setCell ⟨gb574, 3, none⟩ (.int .i64 ((rd_T67 l0_0 a1).f3))) = w13 at n0_ n1_ n2_ ⊢
          have BK572 := n0_
          have BK574 := n1_
          have HB := n2_
          clear n0_ n1_ n2_
          have n0_ := Aside0.mk (blk_drew BK572.out)
          have n1_ := Aside0.mk (blk_drew BK574.out)
          have n2_ := Aside0.mk (below_drew1 HB.out)
          clear BK572
          clear BK574
          clear HB
          have BK572 := n0_
          have BK574 := n1_
          have HB := n2_
          clear n0_ n1_ n2_
          have p575 : 0 ≤ (((rd_T67 l0_0 a1).f0) : Int) := of_decide_eq_true (by first | (with_reducible assumption) | assumption)
          have q575 : ((rd_T67 l0_0 a1).f0) < (l0_2.length : Int) := of_decide_eq_true (by first | (with_reducible assumption) | assumption)
          obtain ⟨ad575, e575, hx575_0⟩ := Kd.at_int HR0_2.out ((rd_T67 l0_0 a1).f0) p575 q575
          have hw575_0 := hx575_0
          cases e575
          replace hx575_0 := (HB.out.cell (World.block_lt_of_cell? w _ hx575_0)).trans hx575_0
          replace p575 := eq_true p575
          replace q575 := eq_true q575
          refine start_ (n := 12) (S := fun w' => w'.cell? ⟨gb572, 0, none⟩ = some (.slice (some ad573) l0_0.length c0_0) ∧ w'.cell? ⟨gb572, 1, none⟩ = some (.int .i64 a0_1) ∧ w'.cell? ⟨gb572, 2, none⟩ = some (.slice (some ad575) l0_2.length c0_2) ∧ w'.cell? ⟨gb574, 0, none⟩ = some (.int .i64 ((rd_T67 l0_0 a1).f0)) ∧ w'.cell? ⟨gb574, 1, none⟩ = some (.int .i64 ((rd_T67 l0_0 a1).f1)) ∧ w'.cell? ⟨gb574, 2, none⟩ = some (.int .i64 ((rd_T67 l0_0 a1).f2)) ∧ w'.cell? ⟨gb574, 3, none⟩ = some (.int .i64 ((rd_T67 l0_0 a1).f3)) ∧ w'.cell? (ad575.add (((rd_T67 l0_0 a1).f0)).toNat) = some (.int .i64 (rd l0_2 ((rd_T67 l0_0 a1).f0)))) (ds := []) #[false, false, false, false, false, false, false, false, false, false, false, false] (by kernel_rfl) rfl rfl ⟨(blk_cell BK572.out 0).trans rfl, (blk_cell BK572.out 1).trans rfl, (blk_cell BK572.out 2).trans rfl, (blk_cell BK574.out 0).trans rfl, (blk_cell BK574.out 1).trans rfl, (blk_cell BK574.out 2).trans rfl, (blk_cell BK574.out 3).trans rfl, ((HB.out.cell (World.block_lt_of_cell? w _ hw575_0)).trans hw575_0)⟩ (fun hHeld => ?_); refine with_tabW impl_tunedBy.tab2 impl_tunedBy.bits2 (fun HT_ HW_ => ?_)
          generalize w13.drew = w14 at BK572 BK574 HB hx575_0 hHeld ⊢
          refine pure_ (i := 0) (N := some 11) (v := ?_) (a' := ?_) #[true, false, false, false, false, false, false, false, false, false, false, false] rfl rfl (any_of HT_.out (by kernel_rfl)) (fun _ _ _ h => h) (Or.inl ⟨by rfl, ?_⟩) ?_ ?_
          rotate_left
          · intro w'
            go_simp
            with_reducible rfl
          rotate_left
          · simp only [Act.put, List.setIfInBounds_toArray, List.set_cons_zero, List.set_cons_succ, i64_w, i32_w]
            rfl
          refine pure_ (i := 2) (N := some 13) (v := ?_) (a' := ?_) #[true, false, true, false, false, false, false, false, false, false, false, false] rfl rfl (any_of HT_.out (by kernel_rfl)) (fun _ _ _ h => h) (Or.inl ⟨by rfl, ?_⟩) ?_ ?_
          rotate_left
          · intro w'
            go_simp
            with_reducible rfl
          rotate_left
          · simp only [Act.put, List.setIfInBounds_toArray, List.set_cons_zero, List.set_cons_succ, i64_w, i32_w]
            rfl
          refine pure_ (i := 6) (N := some 17) (v := ?_) (a' := ?_) #[true, false, true, false, false, false, true, false, false, false, false, false] rfl rfl (any_of HT_.out (by kernel_rfl)) (fun _ _ _ h => h) (Or.inl ⟨by rfl, ?_⟩) ?_ ?_
          rotate_left
          · intro w'
            go_simp
            with_reducible rfl
          rotate_left
          · simp only [Act.put, List.setIfInBounds_toArray, List.set_cons_zero, List.set_cons_succ, i64_w, i32_w]
            rfl
          refine pure_ (i := 8) (N := some 19) (v := ?_) (a' := ?_) #[true, false, true, false, false, false, true, false, true, false, false, false] rfl rfl (any_of HT_.out (by kernel_rfl)) (fun _ _ _ h => h) (Or.inl ⟨by rfl, ?_⟩) ?_ ?_
          rotate_left
          · intro w'
            go_simp
            with_reducible rfl
          rotate_left
          · simp only [Act.put, List.setIfInBounds_toArray, List.set_cons_zero, List.set_cons_succ, i64_w, i32_w]
            rfl
          refine take_ (i := 1) (N := some 12) (v := ?_) (a' := ?_) #[true, true, true, false, false, false, true, false, true, false, false, false] rfl rfl (take_ofW HT_.out HW_.out (by kernel_rfl)) (fun _ _ _ h => h) (Or.inl ⟨by rfl, ?_⟩) hHeld ?_ ?_
          rotate_left
          · rintro w' ⟨s0, s1, s2, s3, s4, s5, s6, s7⟩
            go_simp
            with_reducible rfl
          rotate_left
          · simp only [Act.put, List.setIfInBounds_toArray, List.set_cons_zero, List.set_cons_succ, i64_w, i32_w]
            rfl
          refine take_ (i := 3) (N := some 14) (v := ?_) (a' := ?_) #[true, true, true, true, false, false, true, false, true, false, false, false] rfl rfl (take_ofW HT_.out HW_.out (by kernel_rfl)) (fun _ _ _ h => h) (Or.inl ⟨by rfl, ?_⟩) hHeld ?_ ?_
          rotate_left
          · rintro w' ⟨s0, s1, s2, s3, s4, s5, s6, s7⟩
            go_simp
            with_reducible rfl
          rotate_left
          · simp only [Act.put, List.setIfInBounds_toArray, List.set_cons_zero, List.set_cons_succ, i64_w, i32_w]
            rfl
          refine pure_ (i := 4) (N := some 15) (v := ?_) (a' := ?_) #[true, true, true, true, true, false, true, false, true, false, false, false] rfl rfl (any_of HT_.out (by kernel_rfl)) (fun _ _ _ h => h) (Or.inl ⟨by rfl, ?_⟩) ?_ ?_
          rotate_left
          · intro w'
            go_simp
            with_reducible rfl
          rotate_left
          · simp only [Act.put, List.setIfInBounds_toArray, List.set_cons_zero, List.set_cons_succ, i64_w, i32_w]
            rfl
          refine take_ (i := 5) (N := some 16) (v := ?_) (a' := ?_) #[true, true, true, true, true, true, true, false, true, false, false, false] rfl rfl (take_ofW HT_.out HW_.out (by kernel_rfl)) (fun _ _ _ h => h) (Or.inl ⟨by rfl, ?_⟩) hHeld ?_ ?_
          rotate_left
          · rintro w' ⟨s0, s1, s2, s3, s4, s5, s6, s7⟩
            go_simp
            with_reducible rfl
          rotate_left
          · simp only [Act.put, List.setIfInBounds_toArray, List.set_cons_zero, List.set_cons_succ, i64_w, i32_w]
            rfl
          refine take_ (i := 7) (N := some 18) (v := ?_) (a' := ?_) #[true, true, true, true, true, true, true, true, true, false, false, false] rfl rfl (take_ofW HT_.out HW_.out (by kernel_rfl)) (fun _ _ _ h => h) (Or.inl ⟨by rfl, ?_⟩) hHeld ?_ ?_
          rotate_left
          · rintro w' ⟨s0, s1, s2, s3, s4, s5, s6, s7⟩
            go_simp
            with_reducible rfl
          rotate_left
          · simp only [Act.put, List.setIfInBounds_toArray, List.set_cons_zero, List.set_cons_succ, i64_w, i32_w]
            rfl
          refine take_ (i := 9) (N := some 20) (v := ?_) (a' := ?_) #[true, true, true, true, true, true, true, true, true, true, false, false] rfl rfl (take_ofW HT_.out HW_.out (by kernel_rfl)) (fun _ _ _ h => h) (Or.inl ⟨by rfl, ?_⟩) hHeld ?_ ?_
          rotate_left
          · rintro w' ⟨s0, s1, s2, s3, s4, s5, s6, s7⟩
            go_simp
            with_reducible rfl
          rotate_left
          · simp only [Act.put, List.setIfInBounds_toArray, List.set_cons_zero, List.set_cons_succ, i64_w, i32_w]
            rfl
          refine one_ (i := 10) (N := some 21) #[true, true, true, true, true, true, true, true, true, true, true, false] rfl rfl (one_of HT_.out (by kernel_rfl)) (by decide) (fun K hK => ?_)
          refine goes_ Try.func77 (by kernel_rfl) rfl #[.int .i64 (rd l0_2 ((rd_T67 l0_0 a1).f0)), .int .i64 ((rd_T67 l0_0 a1).f2), .int .i64 ((rd_T67 l0_0 a1).f3)] (by rfl) rfl rfl (by (try simp only [List.map_toArray, List.map_cons, List.map_nil]); first | done | rfl | (simp only [List.length_drop, List.length_take]; rfl)) ?_
          with_reducible refine (impl_TunedPitch.calls k (rd l0_2 ((rd_T67 l0_0 a1).f0)) ((rd_T67 l0_0 a1).f2) ((rd_T67 l0_0 a1).f3) t576 _ A7.out).mono ?_
          rintro e w15 ⟨rfl, hb⟩
          refine ⟨_, rfl, ?_⟩
          have n0_ := Aside0.mk (blk_below (g := gb572) (o := .cells #[.slice (some ad573) l0_0.length c0_0, .int .i64 a0_1, .slice (some ad575) l0_2.length c0_2] 30 (0, 0)) (oK BK572) hb)
          have n1_ := Aside0.mk (blk_below (g := gb574) (o := .cells #[.int .i64 ((rd_T67 l0_0 a1).f0), .int .i64 ((rd_T67 l0_0 a1).f1), .int .i64 ((rd_T67 l0_0 a1).f2), .int .i64 ((rd_T67 l0_0 a1).f3)] 67 (0, 0)) (oK BK574) hb)
          have n2_ := Aside0.mk (below_step (oB HB) hb)
          clear BK572
          clear BK574
          clear HB
          have BK572 := n0_
          have BK574 := n1_
          have HB := n2_
          clear n0_ n1_ n2_
          (try clear hb)
          (try clear hb2)
          (try clear hk)
          (try clear hi)
          refine hK.out _ _ ⟨(blk_cell BK572.out 0).trans rfl, (blk_cell BK572.out 1).trans rfl, (blk_cell BK572.out 2).trans rfl, (blk_cell BK574.out 0).trans rfl, (blk_cell BK574.out 1).trans rfl, (blk_cell BK574.out 2).trans rfl, (blk_cell BK574.out 3).trans rfl, ((HB.out.cell (World.block_lt_of_cell? w _ hw575_0)).trans hw575_0)⟩ (fun hHeld => ?_)
          clear hK K
          refine norm_ (a' := ?_) ?_ ?_
          rotate_left
          · show Act.put _ (some 21) _ = _
            simp only [Act.put, List.setIfInBounds_toArray, List.set_cons_zero, List.set_cons_succ, i64_w, i32_w]
            rfl
          refine pure_ (i := 11) (N := some 4) (v := ?_) (a' := ?_) #[true, true, true, true, true, true, true, true, true, true, true, true] rfl rfl (any_of HT_.out (by kernel_rfl)) (fun _ _ _ h => h) (Or.inl ⟨by rfl, ?_⟩) ?_ ?_
          rotate_left
          · intro w'
            go_simp
            with_reducible rfl
          rotate_left
          · simp only [Act.put, List.setIfInBounds_toArray, List.set_cons_zero, List.set_cons_succ, i64_w, i32_w]
            rfl
          refine done_ (done_of HT_.out (by kernel_rfl)) ?_
          try go_wp2
          go_ret
          exact ⟨by first | rfl | (simp [errW_none, errW_some] <;> rfl) | (simp [*, errW_none, errW_some] <;> rfl), oB HB⟩
        · rw [if_neg c6] at H
          exact absurd H (by simp)
      · rw [if_neg c5] at H
        exact absurd H (by simp)
    · rw [if_neg c4] at H
      exact absurd H (by simp)
  · rw [if_neg c3] at H
    exact absurd H (by simp)
end Go.Proofs.Ytlhlmjklajdejaa.P


namespace Go.Proofs.Ytlhlmjklajdejaa.P
open Go.RowKit Go.Proofs.YtlhlmjklajdejaaW.PrintWords Go.Proofs.YtlhlmjklajdejaaW.PrintLast Go.Proofs.YtlhlmjklajdejaaW.PrintMore
attribute [local go_sem] max2_int min2_int max_two min_two max_three min_three max_four min_four
set_option linter.unusedVariables false
set_option linter.unusedSimpArgs false
def impl_WorkStep.j0 : Nat → Bool → List (S67) → Int → List Int → List (S67) → Int → List Int → Option ((List (S67)) × Int × List Int × Bool)
  | 0, _, _, _, _, _, _, _ => none
  | k + 1, x18, x661000, x661001, x661002, x670000, x670001, x670002 => if x18 = true then (some (x670000, x670001, x670002, false)) else ((impl_tunedBy.f k x661000 x661001 x661002 x661001).bind fun t671 => (if t671 = 0 then (some (x670000, x670001, x670002, false)) else (if 0 ≤ x661001 then (if x661001 < (x661000.length : Int) then (if 0 ≤ ((rd_T67 x661000 x661001).f1) then (if ((rd_T67 x661000 x661001).f1) < (x670002.length : Int) then (some (x670000, wrap64 (x670001 + 1), (x670002.set (((rd_T67 x661000 x661001).f1) : Int).toNat t671), true)) else (none)) else (none)) else (none)) else (none))))
def impl_WorkStep.f (k : Nat) (l0_0 : List (S67)) (a0_1 : Int) (l0_2 : List Int) : Option ((List (S67)) × Int × List Int × Bool) := (impl_copyWork.f l0_0 a0_1 l0_2).bind fun bt662 => ((impl_WorkOk.f l0_0 a0_1 l0_2).bind fun t670 => (if t670 = true then (impl_WorkStep.j0 k (a0_1 == (l0_0.length : Int)) l0_0 a0_1 l0_2 bt662.1 bt662.2.1 bt662.2.2) else (impl_WorkStep.j0 k true l0_0 a0_1 l0_2 bt662.1 bt662.2.1 bt662.2.2)))
def impl_WorkStep.T7 : Bool × List (List Nat × List Nat) := (true, [([], []), ([0], [0]), ([], []), ([2], [2]), ([], []), ([4], [4]), ([3, 5], [3, 5]), ([6], [6]), ([7], [7]), ([], []), ([1, 8, 0, 1, 2, 3, 4, 5, 6, 7, 8, 9], [1, 8]), ([10, 9, 0, 1, 2, 3, 4, 5, 6, 7, 8, 9], [9, 10])])
def impl_WorkStep.B7 : List Nat := [0, 1, 0, 4, 0, 16, 60, 124, 252, 0, 1023, 2047]
theorem impl_WorkStep.tab7 : rtab .any (opsOf Try.f40 7) = impl_WorkStep.T7 := by kernel_rfl
theorem impl_WorkStep.bits7 : waitsOk impl_WorkStep.T7.2 impl_WorkStep.B7 = true := by kernel_rfl
set_option maxHeartbeats 8000000 in
set_option maxRecDepth 100000 in
theorem impl_WorkStep.calls (k : Nat) (A0_0 : Option Addr) (c0_0 : Nat) (l0_0 : List (S67)) (a0_1 : Int) (A0_2 : Option Addr) (c0_2 : Nat) (l0_2 : List Int) (r1 : List (S67)) (r2 : Int) (r3 : List Int) (r4 : Bool) (w : World) (hr0_0 : Kd.C k67 w A0_0 l0_0.length l0_0) (hc0_0 : l0_0.length ≤ c0_0) (hr0_2 : Kd.C (Kd.int .i64) w A0_2 l0_2.length l0_2) (hc0_2 : l0_2.length ≤ c0_2) (h : impl_WorkStep.f k l0_0 a0_1 l0_2 = some (r1, r2, r3, r4)) :
    Calls Try.prog 40 #[.agg #[.slice A0_0 l0_0.length c0_0, .int .i64 a0_1, .slice A0_2 l0_2.length c0_2]] w fun e w' => ∃ v0_ v2_ : Value, e = .returned (.tuple #[.agg #[v0_, .int .i64 r2, v2_], .bool r4]) ∧ Kd.R k67 67 w' w.heap.size (fun _ => True) v0_ r1 ∧ Kd.R (Kd.int .i64) 3 w' w.heap.size (fun _ => True) v2_ r3 ∧ Below w.heap.size w w' := by
  have hu30 := Try.underlying30
  have HR0_0 := Aside0.mk hr0_0
  have HC0_0 := Aside0.mk hc0_0
  clear hr0_0 hc0_0
  have HR0_2 := Aside0.mk hr0_2
  have HC0_2 := Aside0.mk hc0_2
  clear hr0_2 hc0_2
  have HB := Aside0.mk (Below.refl w.heap.size w)
  have H : ((impl_copyWork.f l0_0 a0_1 l0_2).bind fun bt662 => ((impl_WorkOk.f l0_0 a0_1 l0_2).bind fun t670 => (if t670 = true then (impl_WorkStep.j0 k (a0_1 == (l0_0.length : Int)) l0_0 a0_1 l0_2 bt662.1 bt662.2.1 bt662.2.2) else (impl_WorkStep.j0 k true l0_0 a0_1 l0_2 bt662.1 bt662.2.1 bt662.2.2)))) = some (r1, r2, r3, r4) := h
  clear h
  replace H := Option.bind_eq_some_iff.mp H
  obtain ⟨⟨t662, t665, t666⟩, A20, H⟩ := H
  (try dsimp only at H)
  have A2 := Aside0.mk A20
  clear A20
  have HC3 := Aside0.mk H
  clear H
  go_enter Try.func40, Try.ntmps40
  go_upto_region 2 with (first | ((with_reducible refine gate_dst (N := 1) rfl ?_); (try (refine gate_guard (by rfl) ?_; dsimp only)); refine box_event ?hg (N := 1) ?hd (cs := #[.slice A0_0 l0_0.length c0_0, .int .i64 a0_1, .slice A0_2 l0_2.length c0_2]) (t := 30) ?hr ?_; (case hd => rfl); (case hg => rfl); (case hr => first | (go_simp; done) | (go_simp; rfl)); intro gb660 hg w4 hbox hb; have n0_ := Aside0.mk (below_step (oB HB) hb); have n1_ := Aside0.mk (hbox); have n2_ := Aside0.mk ((by rw [hg]; exact (below_size (oB HB)) : w.heap.size ≤ gb660)); have n3_ := Aside0.mk ((by rw [hg]; exact (below_size (oB HB)) : w.heap.size ≤ gb660)); clear HB; have HB := n0_; have BK660 := n1_; have GW660 := n2_; have GE660 := n3_; clear n0_ n1_ n2_ n3_; clear hb hbox hg) | ((with_reducible refine gate_dst (N := 2) rfl ?_); (try (refine gate_guard (by rfl) ?_; dsimp only)); refine box_event ?hg (N := 2) ?hd (cs := #[.slice none 0 0, .int .i64 0, .slice none 0 0]) (t := 30) ?hr ?_; (case hd => rfl); (case hg => rfl); (case hr => first | (go_simp; done) | (go_simp; rfl)); intro gb661 hg w5 hbox hb; have n0_ := Aside0.mk (blk_below (g := gb660) (o := .cells #[.slice A0_0 l0_0.length c0_0, .int .i64 a0_1, .slice A0_2 l0_2.length c0_2] 30 (0, 0)) (oK BK660) hb); have n1_ := Aside0.mk (below_step (oB HB) hb); have n2_ := Aside0.mk (hbox); have n3_ := Aside0.mk ((by rw [hg]; exact (below_size (oB HB)) : w.heap.size ≤ gb661)); have n4_ := Aside0.mk ((by rw [hg]; exact (below_size (oB HB)) : w.heap.size ≤ gb661)); have n5_ := Aside0.mk ((by rw [hg]; exact Nat.ne_of_lt (blk_lt (g := gb660) (o := .cells #[.slice A0_0 l0_0.length c0_0, .int .i64 a0_1, .slice A0_2 l0_2.length c0_2] 30 (0, 0)) (oK BK660)) : gb660 ≠ gb661)); have n6_ := Aside0.mk ((by rw [hg]; exact Nat.ne_of_gt (blk_lt (g := gb660) (o := .cells #[.slice A0_0 l0_0.length c0_0, .int .i64 a0_1, .slice A0_2 l0_2.length c0_2] 30 (0, 0)) (oK BK660)) : gb661 ≠ gb660)); clear BK660; clear HB; have BK660 := n0_; have HB := n1_; have BK661 := n2_; have GW661 := n3_; have GE661 := n4_; have NB660_661 := n5_; have NB661_660 := n6_; clear n0_ n1_ n2_ n3_ n4_ n5_ n6_; clear hb hbox hg; have hnb6 := NB660_661.out; have hnc6 := NB661_660.out; have hcz7_0 : w5.cell? ⟨gb660, 0, none⟩ = some (.slice A0_0 l0_0.length c0_0) := (blk_cell BK660.out 0).trans rfl; have hcz7_1 : w5.cell? ⟨gb660, 1, none⟩ = some (.int .i64 a0_1) := (blk_cell BK660.out 1).trans rfl; have hcz7_2 : w5.cell? ⟨gb660, 2, none⟩ = some (.slice A0_2 l0_2.length c0_2) := (blk_cell BK660.out 2).trans rfl; have hfz7_0 := blk_frozen BK660.out 0; have hfz7_1 := blk_frozen BK660.out 1; have hfz7_2 := blk_frozen BK660.out 2) | ((with_reducible refine gate_callee (f := 69) rfl ?_); refine goesL_ (some 7) rfl rfl Try.func69 (by kernel_rfl) rfl #[.agg #[.slice A0_0 l0_0.length c0_0, .int .i64 a0_1, .slice A0_2 l0_2.length c0_2]] rfl (by (try simp only [List.map_toArray, List.map_cons, List.map_nil]); first | done | rfl | (simp only [List.length_drop, List.length_take]; rfl)) ?_; (with_reducible refine (impl_copyWork.calls _ _ l0_0 a0_1 _ _ l0_2 t662 t665 t666 _ ?side1 ?side2 ?side3 ?side4 A2.out).mono ?_); (case side1 => exact oc_ HR0_0.out); (case side2 => exact HC0_0.out); (case side3 => exact oc_ HR0_2.out); (case side4 => exact HC0_2.out); rintro e w8 ⟨v663, v667, rfl, ho0, ho1, hb⟩; refine ⟨_, rfl, ?_⟩; have n0_ := Aside0.mk (Kd.R_lower ho0 (below_size (oB HB))); have n1_ := Aside0.mk (Kd.R_lower ho1 (below_size (oB HB))); have n2_ := Aside0.mk (blk_below (g := gb660) (o := .cells #[.slice A0_0 l0_0.length c0_0, .int .i64 a0_1, .slice A0_2 l0_2.length c0_2] 30 (0, 0)) (oK BK660) hb); have n3_ := Aside0.mk (blk_below (g := gb661) (o := .cells #[.slice none 0 0, .int .i64 0, .slice none 0 0] 30 (0, 0)) (oK BK661) hb); have n4_ := Aside0.mk (below_step (oB HB) hb); clear BK660; clear BK661; clear HB; have HO664 := n0_; have HO668 := n1_; have BK660 := n2_; have BK661 := n3_; have HB := n4_; clear n0_ n1_ n2_ n3_ n4_; (try clear hb); (try clear hb2); (try clear hk); (try clear hi); (try clear ho0); (try clear ho1)) | ((with_reducible refine gate_dst (N := 4) rfl ?_); (try (refine gate_guard (by rfl) ?_; dsimp only)); refine box_event ?hg (N := 4) ?hd (cs := #[.slice none 0 0, .int .i64 0, .slice none 0 0]) (t := 30) ?hr ?_; (case hd => rfl); (case hg => rfl); (case hr => first | (go_simp; done) | (go_simp; rfl)); intro gb669 hg w9 hbox hb; have n0_ := Aside0.mk (Kd.R_below (oR HO664) hb); have n1_ := Aside0.mk (Kd.R_below (oR HO668) hb); have n2_ := Aside0.mk (blk_below (g := gb660) (o := .cells #[.slice A0_0 l0_0.length c0_0, .int .i64 a0_1, .slice A0_2 l0_2.length c0_2] 30 (0, 0)) (oK BK660) hb); have n3_ := Aside0.mk (blk_below (g := gb661) (o := .cells #[.slice none 0 0, .int .i64 0, .slice none 0 0] 30 (0, 0)) (oK BK661) hb); have n4_ := Aside0.mk (below_step (oB HB) hb); have n5_ := Aside0.mk (hbox); have n6_ := Aside0.mk ((by rw [hg]; exact (below_size (oB HB)) : w.heap.size ≤ gb669)); have n7_ := Aside0.mk ((by rw [hg]; exact (below_size (oB HB)) : w.heap.size ≤ gb669)); have n8_ := Aside0.mk ((by rw [hg]; exact Nat.ne_of_lt (blk_lt (g := gb660) (o := .cells #[.slice A0_0 l0_0.length c0_0, .int .i64 a0_1, .slice A0_2 l0_2.length c0_2] 30 (0, 0)) (oK BK660)) : gb660 ≠ gb669)); have n9_ := Aside0.mk ((by rw [hg]; exact Nat.ne_of_gt (blk_lt (g := gb660) (o := .cells #[.slice A0_0 l0_0.length c0_0, .int .i64 a0_1, .slice A0_2 l0_2.length c0_2] 30 (0, 0)) (oK BK660)) : gb669 ≠ gb660)); have n10_ := Aside0.mk ((by rw [hg]; exact Nat.ne_of_lt (blk_lt (g := gb661) (o := .cells #[.slice none 0 0, .int .i64 0, .slice none 0 0] 30 (0, 0)) (oK BK661)) : gb661 ≠ gb669)); have n11_ := Aside0.mk ((by rw [hg]; exact Nat.ne_of_gt (blk_lt (g := gb661) (o := .cells #[.slice none 0 0, .int .i64 0, .slice none 0 0] 30 (0, 0)) (oK BK661)) : gb669 ≠ gb661)); clear HO664; clear HO668; clear BK660; clear BK661; clear HB; have HO664 := n0_; have HO668 := n1_; have BK660 := n2_; have BK661 := n3_; have HB := n4_; have BK669 := n5_; have GW669 := n6_; have GE669 := n7_; have NB660_669 := n8_; have NB669_660 := n9_; have NB661_669 := n10_; have NB669_661 := n11_; clear n0_ n1_ n2_ n3_ n4_ n5_ n6_ n7_ n8_ n9_ n10_ n11_; clear hb hbox hg; obtain ⟨Ao10, co10, eo10⟩ := Kd.R_slice HO664.out; subst eo10; have hnb11 := NB669_660.out; have hnc11 := NB660_669.out; have hnb12 := NB669_661.out; have hnc12 := NB661_669.out; have hcz13_0 : w9.cell? ⟨gb669, 0, none⟩ = some (.slice none 0 0) := (blk_cell BK669.out 0).trans rfl; have hcz13_1 : w9.cell? ⟨gb669, 1, none⟩ = some (.int .i64 0) := (blk_cell BK669.out 1).trans rfl; have hcz13_2 : w9.cell? ⟨gb669, 2, none⟩ = some (.slice none 0 0) := (blk_cell BK669.out 2).trans rfl; have hfz13_0 := blk_frozen BK669.out 0; have hfz13_1 := blk_frozen BK669.out 1; have hfz13_2 := blk_frozen BK669.out 2; obtain ⟨Ao14, co14, eo14⟩ := Kd.R_slice HO668.out; subst eo14))
  (try simp only [Act.put, List.setIfInBounds_toArray, List.set_cons_zero, List.set_cons_succ])
  go_cut [18] (fun v18 wc => ∃ (kq : Nat) (x18_2 : Bool), v18 = .bool x18_2 ∧ Aside0 (impl_WorkStep.j0 kq x18_2 l0_0 a0_1 l0_2 t662 t665 t666 = some (r1, r2, r3, r4)) ∧ Aside0 (kq ≤ k) ∧ Aside0 (Kd.R k67 67 wc w.heap.size (fun _ => True) (.slice Ao10 t662.length co10) t662) ∧ Aside0 (Kd.R (Kd.int .i64) 3 wc w.heap.size (fun _ => True) (.slice Ao14 t666.length co14) t666) ∧ Aside0 (wc.heap[gb660]? = some (.cells #[(.slice A0_0 l0_0.length c0_0), .int .i64 a0_1, (.slice A0_2 l0_2.length c0_2)] 30 (0, 0))) ∧ Aside0 (wc.heap[gb661]? = some (.cells #[(.slice none 0 0), .int .i64 0, (.slice none 0 0)] 30 (0, 0))) ∧ Aside0 (wc.heap[gb669]? = some (.cells #[(.slice Ao10 t662.length co10), .int .i64 t665, (.slice Ao14 t666.length co14)] 30 (0, 0))) ∧ Aside0 (Below w.heap.size w wc))
  case first =>
    have H := HC3.out
    clear HC3
    replace H := Option.bind_eq_some_iff.mp H
    obtain ⟨t670, A150, H⟩ := H
    (try dsimp only at H)
    have A15 := Aside0.mk A150
    clear A150
    by_cases c16 : t670 = true
    · subst c16
      rw [if_pos rfl] at H
      have H' := Aside0.mk H
      clear H
      have hnb17 := NB660_661.out
      have hnc17 := NB661_660.out
      have hnb18 := NB660_669.out
      have hnc18 := NB669_660.out
      have hcz19_0 : w9.cell? ⟨gb660, 0, none⟩ = some (.slice A0_0 l0_0.length c0_0) := (blk_cell BK660.out 0).trans rfl
      have hcz19_1 : w9.cell? ⟨gb660, 1, none⟩ = some (.int .i64 a0_1) := (blk_cell BK660.out 1).trans rfl
      have hcz19_2 : w9.cell? ⟨gb660, 2, none⟩ = some (.slice A0_2 l0_2.length c0_2) := (blk_cell BK660.out 2).trans rfl
      have hfz19_0 := blk_frozen BK660.out 0
      have hfz19_1 := blk_frozen BK660.out 1
      have hfz19_2 := blk_frozen BK660.out 2
      go_wp2_with (first | ((with_reducible refine gate_callee (f := 18) rfl ?_); refine goesL_ (some 9) rfl rfl Try.func18 (by kernel_rfl) rfl #[.agg #[.slice A0_0 l0_0.length c0_0, .int .i64 a0_1, .slice A0_2 l0_2.length c0_2]] rfl (by (try simp only [List.map_toArray, List.map_cons, List.map_nil]); first | done | rfl | (simp only [List.length_drop, List.length_take]; rfl)) ?_; (with_reducible refine (impl_WorkOk.calls _ _ l0_0 a0_1 _ _ l0_2 true _ ?side1 ?side2 ?side3 ?side4 A15.out).mono ?_); (case side1 => exact Kd.C_below HR0_0.out (oB HB)); (case side2 => exact HC0_0.out); (case side3 => exact Kd.C_below HR0_2.out (oB HB)); (case side4 => exact HC0_2.out); rintro e w20 ⟨rfl, hb⟩; refine ⟨_, rfl, ?_⟩; have n0_ := Aside0.mk (Kd.R_below (by (with_reducible repeat (first | apply Kd.R_alloc | apply Kd.R_drewN | apply Kd.R_drew)); exact (Kd.R_mono (Kd.R_far (p := ⟨gb669, 2, none⟩) (Kd.R_far (p := ⟨gb669, 1, none⟩) (Kd.R_far (p := ⟨gb669, 0, none⟩) (Kd.R_types HO664.out BK669.out (by decide)) (fun _ hk => hk.2) (.slice Ao10 t662.length co10)) (fun _ hk => hk.2) (.int .i64 t665)) (fun _ hk => hk.2) (.slice Ao14 t666.length co14)) (fun _ h_ => h_.1))) hb); have n1_ := Aside0.mk (Kd.R_below (by (with_reducible repeat (first | apply Kd.R_alloc | apply Kd.R_drewN | apply Kd.R_drew)); exact (Kd.R_mono (Kd.R_far (p := ⟨gb669, 2, none⟩) (Kd.R_far (p := ⟨gb669, 1, none⟩) (Kd.R_far (p := ⟨gb669, 0, none⟩) (Kd.R_types HO668.out BK669.out (by decide)) (fun _ hk => hk.2) (.slice Ao10 t662.length co10)) (fun _ hk => hk.2) (.int .i64 t665)) (fun _ hk => hk.2) (.slice Ao14 t666.length co14)) (fun _ h_ => h_.1))) hb); have n2_ := Aside0.mk (blk_below (g := gb660) (o := .cells #[.slice A0_0 l0_0.length c0_0, .int .i64 a0_1, .slice A0_2 l0_2.length c0_2] 30 (0, 0)) (by (with_reducible repeat (first | refine blk_drewN ?_ _ | refine blk_drew ?_ | refine blk_alloc ?_ _)); refine blk_far ?_ NB660_669.out _; (with_reducible repeat (first | refine blk_drewN ?_ _ | refine blk_drew ?_ | refine blk_alloc ?_ _)); refine blk_far ?_ NB660_669.out _; (with_reducible repeat (first | refine blk_drewN ?_ _ | refine blk_drew ?_ | refine blk_alloc ?_ _)); refine blk_far ?_ NB660_669.out _; (with_reducible repeat (first | refine blk_drewN ?_ _ | refine blk_drew ?_ | refine blk_alloc ?_ _)); exact BK660.out) hb); have n3_ := Aside0.mk (blk_below (g := gb661) (o := .cells #[.slice none 0 0, .int .i64 0, .slice none 0 0] 30 (0, 0)) (by (with_reducible repeat (first | refine blk_drewN ?_ _ | refine blk_drew ?_ | refine blk_alloc ?_ _)); refine blk_far ?_ NB661_669.out _; (with_reducible repeat (first | refine blk_drewN ?_ _ | refine blk_drew ?_ | refine blk_alloc ?_ _)); refine blk_far ?_ NB661_669.out _; (with_reducible repeat (first | refine blk_drewN ?_ _ | refine blk_drew ?_ | refine blk_alloc ?_ _)); refine blk_far ?_ NB661_669.out _; (with_reducible repeat (first | refine blk_drewN ?_ _ | refine blk_drew ?_ | refine blk_alloc ?_ _)); exact BK661.out) hb); have n4_ := Aside0.mk (blk_below (g := gb669) (o := .cells #[.slice Ao10 t662.length co10, .int .i64 t665, .slice Ao14 t666.length co14] 30 (0, 0)) (by (with_reducible repeat (first | refine blk_drewN ?_ _ | refine blk_drew ?_ | refine blk_alloc ?_ _)); refine blk_put (cs := #[.slice Ao10 t662.length co10, .int .i64 t665, .slice none 0 0]) ?_ 2 _ rfl; (with_reducible repeat (first | refine blk_drewN ?_ _ | refine blk_drew ?_ | refine blk_alloc ?_ _)); refine blk_put (cs := #[.slice Ao10 t662.length co10, .int .i64 0, .slice none 0 0]) ?_ 1 _ rfl; (with_reducible repeat (first | refine blk_drewN ?_ _ | refine blk_drew ?_ | refine blk_alloc ?_ _)); refine blk_put (cs := #[.slice none 0 0, .int .i64 0, .slice none 0 0]) ?_ 0 _ rfl; (with_reducible repeat (first | refine blk_drewN ?_ _ | refine blk_drew ?_ | refine blk_alloc ?_ _)); exact BK669.out) hb); have n5_ := Aside0.mk (below_step (oB HB) hb); clear HO664; clear HO668; clear BK660; clear BK661; clear BK669; clear HB; have HO664 := n0_; have HO668 := n1_; have BK660 := n2_; have BK661 := n3_; have BK669 := n4_; have HB := n5_; clear n0_ n1_ n2_ n3_ n4_ n5_; (try clear hb); (try clear hb2); (try clear hk); (try clear hi); have hcz21_0 : w20.cell? ⟨gb660, 0, none⟩ = some (.slice A0_0 l0_0.length c0_0) := (blk_cell BK660.out 0).trans rfl; have hcz21_1 : w20.cell? ⟨gb660, 1, none⟩ = some (.int .i64 a0_1) := (blk_cell BK660.out 1).trans rfl; have hcz21_2 : w20.cell? ⟨gb660, 2, none⟩ = some (.slice A0_2 l0_2.length c0_2) := (blk_cell BK660.out 2).trans rfl; have hfz21_0 := blk_frozen BK660.out 0; have hfz21_1 := blk_frozen BK660.out 1; have hfz21_2 := blk_frozen BK660.out 2))
      go_meet
      case rel => exact ⟨_, ((a0_1 == (l0_0.length : Int))), (by first | rfl | (simp; done) | (simp [*]; done)), H', ⟨by first | omega | exact Nat.le_refl _⟩, ⟨oR HO664⟩, ⟨oR HO668⟩, ⟨oK BK660⟩, ⟨oK BK661⟩, ⟨oK BK669⟩, ⟨oB HB⟩⟩
    · replace c16 := Bool.eq_false_iff.mpr c16
      subst c16
      rw [if_neg (show ¬ (false = true) by decide)] at H
      have H' := Aside0.mk H
      clear H
      have hnb22 := NB660_661.out
      have hnc22 := NB661_660.out
      have hnb23 := NB660_669.out
      have hnc23 := NB669_660.out
      have hcz24_0 : w9.cell? ⟨gb660, 0, none⟩ = some (.slice A0_0 l0_0.length c0_0) := (blk_cell BK660.out 0).trans rfl
      have hcz24_1 : w9.cell? ⟨gb660, 1, none⟩ = some (.int .i64 a0_1) := (blk_cell BK660.out 1).trans rfl
      have hcz24_2 : w9.cell? ⟨gb660, 2, none⟩ = some (.slice A0_2 l0_2.length c0_2) := (blk_cell BK660.out 2).trans rfl
      have hfz24_0 := blk_frozen BK660.out 0
      have hfz24_1 := blk_frozen BK660.out 1
      have hfz24_2 := blk_frozen BK660.out 2
      go_wp2_with (first | ((with_reducible refine gate_callee (f := 18) rfl ?_); refine goesL_ (some 9) rfl rfl Try.func18 (by kernel_rfl) rfl #[.agg #[.slice A0_0 l0_0.length c0_0, .int .i64 a0_1, .slice A0_2 l0_2.length c0_2]] rfl (by (try simp only [List.map_toArray, List.map_cons, List.map_nil]); first | done | rfl | (simp only [List.length_drop, List.length_take]; rfl)) ?_; (with_reducible refine (impl_WorkOk.calls _ _ l0_0 a0_1 _ _ l0_2 false _ ?side1 ?side2 ?side3 ?side4 A15.out).mono ?_); (case side1 => exact Kd.C_below HR0_0.out (oB HB)); (case side2 => exact HC0_0.out); (case side3 => exact Kd.C_below HR0_2.out (oB HB)); (case side4 => exact HC0_2.out); rintro e w25 ⟨rfl, hb⟩; refine ⟨_, rfl, ?_⟩; have n0_ := Aside0.mk (Kd.R_below (by (with_reducible repeat (first | apply Kd.R_alloc | apply Kd.R_drewN | apply Kd.R_drew)); exact (Kd.R_mono (Kd.R_far (p := ⟨gb669, 2, none⟩) (Kd.R_far (p := ⟨gb669, 1, none⟩) (Kd.R_far (p := ⟨gb669, 0, none⟩) (Kd.R_types HO664.out BK669.out (by decide)) (fun _ hk => hk.2) (.slice Ao10 t662.length co10)) (fun _ hk => hk.2) (.int .i64 t665)) (fun _ hk => hk.2) (.slice Ao14 t666.length co14)) (fun _ h_ => h_.1))) hb); have n1_ := Aside0.mk (Kd.R_below (by (with_reducible repeat (first | apply Kd.R_alloc | apply Kd.R_drewN | apply Kd.R_drew)); exact (Kd.R_mono (Kd.R_far (p := ⟨gb669, 2, none⟩) (Kd.R_far (p := ⟨gb669, 1, none⟩) (Kd.R_far (p := ⟨gb669, 0, none⟩) (Kd.R_types HO668.out BK669.out (by decide)) (fun _ hk => hk.2) (.slice Ao10 t662.length co10)) (fun _ hk => hk.2) (.int .i64 t665)) (fun _ hk => hk.2) (.slice Ao14 t666.length co14)) (fun _ h_ => h_.1))) hb); have n2_ := Aside0.mk (blk_below (g := gb660) (o := .cells #[.slice A0_0 l0_0.length c0_0, .int .i64 a0_1, .slice A0_2 l0_2.length c0_2] 30 (0, 0)) (by (with_reducible repeat (first | refine blk_drewN ?_ _ | refine blk_drew ?_ | refine blk_alloc ?_ _)); refine blk_far ?_ NB660_669.out _; (with_reducible repeat (first | refine blk_drewN ?_ _ | refine blk_drew ?_ | refine blk_alloc ?_ _)); refine blk_far ?_ NB660_669.out _; (with_reducible repeat (first | refine blk_drewN ?_ _ | refine blk_drew ?_ | refine blk_alloc ?_ _)); refine blk_far ?_ NB660_669.out _; (with_reducible repeat (first | refine blk_drewN ?_ _ | refine blk_drew ?_ | refine blk_alloc ?_ _)); exact BK660.out) hb); have n3_ := Aside0.mk (blk_below (g := gb661) (o := .cells #[.slice none 0 0, .int .i64 0, .slice none 0 0] 30 (0, 0)) (by (with_reducible repeat (first | refine blk_drewN ?_ _ | refine blk_drew ?_ | refine blk_alloc ?_ _)); refine blk_far ?_ NB661_669.out _; (with_reducible repeat (first | refine blk_drewN ?_ _ | refine blk_drew ?_ | refine blk_alloc ?_ _)); refine blk_far ?_ NB661_669.out _; (with_reducible repeat (first | refine blk_drewN ?_ _ | refine blk_drew ?_ | refine blk_alloc ?_ _)); refine blk_far ?_ NB661_669.out _; (with_reducible repeat (first | refine blk_drewN ?_ _ | refine blk_drew ?_ | refine blk_alloc ?_ _)); exact BK661.out) hb); have n4_ := Aside0.mk (blk_below (g := gb669) (o := .cells #[.slice Ao10 t662.length co10, .int .i64 t665, .slice Ao14 t666.length co14] 30 (0, 0)) (by (with_reducible repeat (first | refine blk_drewN ?_ _ | refine blk_drew ?_ | refine blk_alloc ?_ _)); refine blk_put (cs := #[.slice Ao10 t662.length co10, .int .i64 t665, .slice none 0 0]) ?_ 2 _ rfl; (with_reducible repeat (first | refine blk_drewN ?_ _ | refine blk_drew ?_ | refine blk_alloc ?_ _)); refine blk_put (cs := #[.slice Ao10 t662.length co10, .int .i64 0, .slice none 0 0]) ?_ 1 _ rfl; (with_reducible repeat (first | refine blk_drewN ?_ _ | refine blk_drew ?_ | refine blk_alloc ?_ _)); refine blk_put (cs := #[.slice none 0 0, .int .i64 0, .slice none 0 0]) ?_ 0 _ rfl; (with_reducible repeat (first | refine blk_drewN ?_ _ | refine blk_drew ?_ | refine blk_alloc ?_ _)); exact BK669.out) hb); have n5_ := Aside0.mk (below_step (oB HB) hb); clear HO664; clear HO668; clear BK660; clear BK661; clear BK669; clear HB; have HO664 := n0_; have HO668 := n1_; have BK660 := n2_; have BK661 := n3_; have BK669 := n4_; have HB := n5_; clear n0_ n1_ n2_ n3_ n4_ n5_; (try clear hb); (try clear hb2); (try clear hk); (try clear hi)))
      go_meet
      case rel => exact ⟨_, (true), (by first | rfl | (simp; done) | (simp [*]; done)), H', ⟨by first | omega | exact Nat.le_refl _⟩, ⟨oR HO664⟩, ⟨oR HO668⟩, ⟨oK BK660⟩, ⟨oK BK661⟩, ⟨oK BK669⟩, ⟨oB HB⟩⟩
  case rest =>
    clear HC3
    try clear c1
    try clear c2
    try clear p2
    try clear c4
    try clear c6
    try clear c11
    try clear c12
    try clear c16
    try clear c17
    try clear c18
    try clear c22
    try clear c23
    try clear hcz13_0
    try clear hcz13_1
    try clear hcz13_2
    try clear hcz19_0
    try clear hcz19_1
    try clear hcz19_2
    try clear hcz21_0
    try clear hcz21_1
    try clear hcz21_2
    try clear hcz24_0
    try clear hcz24_1
    try clear hcz24_2
    try clear hcz7_0
    try clear hcz7_1
    try clear hcz7_2
    try clear hfz13_0
    try clear hfz13_1
    try clear hfz13_2
    try clear hfz19_0
    try clear hfz19_1
    try clear hfz19_2
    try clear hfz21_0
    try clear hfz21_1
    try clear hfz21_2
    try clear hfz24_0
    try clear hfz24_1
    try clear hfz24_2
    try clear hfz7_0
    try clear hfz7_1
    try clear hfz7_2
    obtain ⟨kq, x18_2, rfl, HA, HJ2, HO_670000, HO_670002, BK660, BK661, BK669, HB⟩ := hcut
    cases kq with
    | zero => exact absurd HA.out (by simp [impl_WorkStep.j0])
    | succ kj2 =>
      have H := HA.out
      clear HA
      simp only [impl_WorkStep.j0] at H
      by_cases c26 : x18_2 = true
      · subst c26
        rw [if_pos rfl] at H
        simp only [Option.some.injEq, Prod.mk.injEq] at H
        obtain ⟨rfl, rfl, rfl, rfl⟩ := H
        have hnb27 := NB669_660.out
        have hnc27 := NB660_669.out
        have hnb28 := NB669_661.out
        have hnc28 := NB661_669.out
        have hcz29_0 : wc.cell? ⟨gb669, 0, none⟩ = some (.slice Ao10 t662.length co10) := (blk_cell BK669.out 0).trans rfl
        have hcz29_1 : wc.cell? ⟨gb669, 1, none⟩ = some (.int .i64 t665) := (blk_cell BK669.out 1).trans rfl
        have hcz29_2 : wc.cell? ⟨gb669, 2, none⟩ = some (.slice Ao14 t666.length co14) := (blk_cell BK669.out 2).trans rfl
        have hfz29_0 := blk_frozen BK669.out 0
        have hfz29_1 := blk_frozen BK669.out 1
        have hfz29_2 := blk_frozen BK669.out 2
        have hnb30 := NB661_660.out
        have hnc30 := NB660_661.out
        have hcz31_0 : wc.cell? ⟨gb661, 0, none⟩ = some (.slice none 0 0) := (blk_cell BK661.out 0).trans rfl
        have hcz31_1 : wc.cell? ⟨gb661, 1, none⟩ = some (.int .i64 0) := (blk_cell BK661.out 1).trans rfl
        have hcz31_2 : wc.cell? ⟨gb661, 2, none⟩ = some (.slice none 0 0) := (blk_cell BK661.out 2).trans rfl
        have hfz31_0 := blk_frozen BK661.out 0
        have hfz31_1 := blk_frozen BK661.out 1
        have hfz31_2 := blk_frozen BK661.out 2
        go_wp2
        refine bodyPost_ret (results_ct rfl _ _ gb661 30 #[.slice Ao10 t662.length co10, .int .i64 t665, .slice Ao14 t666.length co14] (0, 0) _ rfl (by (with_reducible repeat (first | refine blk_drewN ?_ _ | refine blk_drew ?_ | refine blk_alloc ?_ _)); refine blk_put (cs := #[.slice Ao10 t662.length co10, .int .i64 t665, .slice none 0 0]) ?_ 2 _ rfl; (with_reducible repeat (first | refine blk_drewN ?_ _ | refine blk_drew ?_ | refine blk_alloc ?_ _)); refine blk_put (cs := #[.slice Ao10 t662.length co10, .int .i64 0, .slice none 0 0]) ?_ 1 _ rfl; (with_reducible repeat (first | refine blk_drewN ?_ _ | refine blk_drew ?_ | refine blk_alloc ?_ _)); refine blk_put (cs := #[.slice none 0 0, .int .i64 0, .slice none 0 0]) ?_ 0 _ rfl; (with_reducible repeat (first | refine blk_drewN ?_ _ | refine blk_drew ?_ | refine blk_alloc ?_ _)); exact BK661.out) Try.underlying30 rfl (by kernel_rfl)) rfl ?_
        exact ⟨_, _, by first | rfl | (simp [errW_none, errW_some] <;> rfl) | (simp [*, errW_none, errW_some] <;> rfl), by (with_reducible repeat (first | apply Kd.R_alloc | apply Kd.R_drewN | apply Kd.R_drew)); exact Kd.R_mono (Kd.R_far (p := ⟨gb661, 2, none⟩) (Kd.R_far (p := ⟨gb661, 1, none⟩) (Kd.R_far (p := ⟨gb661, 0, none⟩) (Kd.R_types HO_670000.out BK661.out (by decide)) (fun _ hk => hk.2) (.slice Ao10 t662.length co10)) (fun _ hk => hk.2) (.int .i64 t665)) (fun _ hk => hk.2) (.slice Ao14 t666.length co14)) (fun _ hk => trivial), by (with_reducible repeat (first | apply Kd.R_alloc | apply Kd.R_drewN | apply Kd.R_drew)); exact Kd.R_mono (Kd.R_far (p := ⟨gb661, 2, none⟩) (Kd.R_far (p := ⟨gb661, 1, none⟩) (Kd.R_far (p := ⟨gb661, 0, none⟩) (Kd.R_types HO_670002.out BK661.out (by decide)) (fun _ hk => hk.2) (.slice Ao10 t662.length co10)) (fun _ hk => hk.2) (.int .i64 t665)) (fun _ hk => hk.2) (.slice Ao14 t666.length co14)) (fun _ hk => trivial), oB HB⟩
      · replace c26 := Bool.eq_false_iff.mpr c26
        subst c26
        rw [if_neg (show ¬ (false = true) by decide)] at H
        replace H := Option.bind_eq_some_iff.mp H
        obtain ⟨t671, A320, H⟩ := H
        (try dsimp only at H)
        have A32 := Aside0.mk A320
        clear A320
        by_cases c33 : t671 = 0
        · rw [if_pos c33] at H
          have c33b0 : (t671 == 0) = true := beq_iff_eq.mpr c33
          have c33b1 : (t671 != 0) = false := bne_eq_false_iff_eq.mpr c33
          clear c33
          simp only [Option.some.injEq, Prod.mk.injEq] at H
          obtain ⟨rfl, rfl, rfl, rfl⟩ := H
          have hnb34 := NB660_661.out
          have hnc34 := NB661_660.out
          have hnb35 := NB660_669.out
          have hnc35 := NB669_660.out
          have hcz36_0 : wc.cell? ⟨gb660, 0, none⟩ = some (.slice A0_0 l0_0.length c0_0) := (blk_cell BK660.out 0).trans rfl
          have hcz36_1 : wc.cell? ⟨gb660, 1, none⟩ = some (.int .i64 a0_1) := (blk_cell BK660.out 1).trans rfl
          have hcz36_2 : wc.cell? ⟨gb660, 2, none⟩ = some (.slice A0_2 l0_2.length c0_2) := (blk_cell BK660.out 2).trans rfl
          have hfz36_0 := blk_frozen BK660.out 0
          have hfz36_1 := blk_frozen BK660.out 1
          have hfz36_2 := blk_frozen BK660.out 2
          go_wp2_with (first | ((with_reducible refine gate_callee (f := 73) rfl ?_); refine goesL_ (some 23) rfl rfl Try.func73 (by kernel_rfl) rfl #[.agg #[.slice A0_0 l0_0.length c0_0, .int .i64 a0_1, .slice A0_2 l0_2.length c0_2], .int .i64 a0_1] rfl (by (try simp only [List.map_toArray, List.map_cons, List.map_nil]); first | done | rfl | (simp only [List.length_drop, List.length_take]; rfl)) ?_; (with_reducible refine (impl_tunedBy.calls kj2 _ _ l0_0 a0_1 _ _ l0_2 a0_1 t671 _ ?side1 ?side2 ?side3 ?side4 A32.out).mono ?_); (case side1 => exact oc_ HR0_0.out); (case side2 => exact HC0_0.out); (case side3 => exact oc_ HR0_2.out); (case side4 => exact HC0_2.out); rintro e w37 ⟨rfl, hb⟩; refine ⟨_, rfl, ?_⟩; have n0_ := Aside0.mk (Kd.R_below (oR HO_670000) hb); have n1_ := Aside0.mk (Kd.R_below (oR HO_670002) hb); have n2_ := Aside0.mk (blk_below (g := gb660) (o := .cells #[.slice A0_0 l0_0.length c0_0, .int .i64 a0_1, .slice A0_2 l0_2.length c0_2] 30 (0, 0)) (oK BK660) hb); have n3_ := Aside0.mk (blk_below (g := gb661) (o := .cells #[.slice none 0 0, .int .i64 0, .slice none 0 0] 30 (0, 0)) (oK BK661) hb); have n4_ := Aside0.mk (blk_below (g := gb669) (o := .cells #[.slice Ao10 t662.length co10, .int .i64 t665, .slice Ao14 t666.length co14] 30 (0, 0)) (oK BK669) hb); have n5_ := Aside0.mk (below_step (oB HB) hb); clear HO_670000; clear HO_670002; clear BK660; clear BK661; clear BK669; clear HB; have HO_670000 := n0_; have HO_670002 := n1_; have BK660 := n2_; have BK661 := n3_; have BK669 := n4_; have HB := n5_; clear n0_ n1_ n2_ n3_ n4_ n5_; (try clear hb); (try clear hb2); (try clear hk); (try clear hi); have hnb38 := NB669_661.out; have hnc38 := NB661_669.out; have hcz39_0 : w37.cell? ⟨gb669, 0, none⟩ = some (.slice Ao10 t662.length co10) := (blk_cell BK669.out 0).trans rfl; have hcz39_1 : w37.cell? ⟨gb669, 1, none⟩ = some (.int .i64 t665) := (blk_cell BK669.out 1).trans rfl; have hcz39_2 : w37.cell? ⟨gb669, 2, none⟩ = some (.slice Ao14 t666.length co14) := (blk_cell BK669.out 2).trans rfl; have hfz39_0 := blk_frozen BK669.out 0; have hfz39_1 := blk_frozen BK669.out 1; have hfz39_2 := blk_frozen BK669.out 2; have hcz40_0 : w37.cell? ⟨gb661, 0, none⟩ = some (.slice none 0 0) := (blk_cell BK661.out 0).trans rfl; have hcz40_1 : w37.cell? ⟨gb661, 1, none⟩ = some (.int .i64 0) := (blk_cell BK661.out 1).trans rfl; have hcz40_2 : w37.cell? ⟨gb661, 2, none⟩ = some (.slice none 0 0) := (blk_cell BK661.out 2).trans rfl; have hfz40_0 := blk_frozen BK661.out 0; have hfz40_1 := blk_frozen BK661.out 1; have hfz40_2 := blk_frozen BK661.out 2))
          refine bodyPost_ret (results_ct rfl _ _ gb661 30 #[.slice Ao10 t662.length co10, .int .i64 t665, .slice Ao14 t666.length co14] (0, 0) _ rfl (by (with_reducible repeat (first | refine blk_drewN ?_ _ | refine blk_drew ?_ | refine blk_alloc ?_ _)); refine blk_put (cs := #[.slice Ao10 t662.length co10, .int .i64 t665, .slice none 0 0]) ?_ 2 _ rfl; (with_reducible repeat (first | refine blk_drewN ?_ _ | refine blk_drew ?_ | refine blk_alloc ?_ _)); refine blk_put (cs := #[.slice Ao10 t662.length co10, .int .i64 0, .slice none 0 0]) ?_ 1 _ rfl; (with_reducible repeat (first | refine blk_drewN ?_ _ | refine blk_drew ?_ | refine blk_alloc ?_ _)); refine blk_put (cs := #[.slice none 0 0, .int .i64 0, .slice none 0 0]) ?_ 0 _ rfl; (with_reducible repeat (first | refine blk_drewN ?_ _ | refine blk_drew ?_ | refine blk_alloc ?_ _)); exact BK661.out) Try.underlying30 rfl (by kernel_rfl)) rfl ?_
          exact ⟨_, _, by first | rfl | (simp [errW_none, errW_some] <;> rfl) | (simp [*, errW_none, errW_some] <;> rfl), by (with_reducible repeat (first | apply Kd.R_alloc | apply Kd.R_drewN | apply Kd.R_drew)); exact Kd.R_mono (Kd.R_far (p := ⟨gb661, 2, none⟩) (Kd.R_far (p := ⟨gb661, 1, none⟩) (Kd.R_far (p := ⟨gb661, 0, none⟩) (Kd.R_types HO_670000.out BK661.out (by decide)) (fun _ hk => hk.2) (.slice Ao10 t662.length co10)) (fun _ hk => hk.2) (.int .i64 t665)) (fun _ hk => hk.2) (.slice Ao14 t666.length co14)) (fun _ hk => trivial), by (with_reducible repeat (first | apply Kd.R_alloc | apply Kd.R_drewN | apply Kd.R_drew)); exact Kd.R_mono (Kd.R_far (p := ⟨gb661, 2, none⟩) (Kd.R_far (p := ⟨gb661, 1, none⟩) (Kd.R_far (p := ⟨gb661, 0, none⟩) (Kd.R_types HO_670002.out BK661.out (by decide)) (fun _ hk => hk.2) (.slice Ao10 t662.length co10)) (fun _ hk => hk.2) (.int .i64 t665)) (fun _ hk => hk.2) (.slice Ao14 t666.length co14)) (fun _ hk => trivial), oB HB⟩
        · rw [if_neg c33] at H
          have c33b0 : (t671 == 0) = false := beq_eq_false_iff_ne.mpr c33
          have c33b1 : (t671 != 0) = true := bne_iff_ne.mpr c33
          by_cases c41 : 0 ≤ a0_1
          · rw [if_pos c41] at H
            have c41b0 : decide (0 ≤ a0_1) = true := decide_eq_true c41
            clear c41
            by_cases c42 : a0_1 < (l0_0.length : Int)
            · rw [if_pos c42] at H
              have c42b0 : decide (a0_1 < (l0_0.length : Int)) = true := decide_eq_true c42
              clear c42
              by_cases c43 : 0 ≤ ((rd_T67 l0_0 a0_1).f1)
              · rw [if_pos c43] at H
                have c43b0 : decide (0 ≤ ((rd_T67 l0_0 a0_1).f1)) = true := decide_eq_true c43
                clear c43
                by_cases c44 : ((rd_T67 l0_0 a0_1).f1) < (t666.length : Int)
                · rw [if_pos c44] at H
                  have c44b0 : decide (((rd_T67 l0_0 a0_1).f1) < (t666.length : Int)) = true := decide_eq_true c44
                  clear c44
                  obtain ⟨y673, hy673⟩ : ∃ y_ : List Int, y_ = (t666.set (((rd_T67 l0_0 a0_1).f1) : Int).toNat t671) := ⟨_, rfl⟩
                  replace H : (some (t662, wrap64 (t665 + 1), y673, true)) = some (r1, r2, r3, r4) := by first | (rw [hy673]; with_reducible exact H) | (have H2_ := (Option.bind_some _ _).symm.trans H; rw [hy673]; with_reducible exact H2_) | (have H2_ := (Option.bind_some _ _).symm.trans H; with_reducible exact H2_) | with_reducible exact H | (rw [hy673]; exact H) | exact H
                  have Ny673 := Aside0.mk hy673
                  clear hy673
                  simp only [Option.some.injEq, Prod.mk.injEq] at H
                  obtain ⟨rfl, rfl, rfl, rfl⟩ := H
                  have hnb46 := NB660_661.out
                  have hnc46 := NB661_660.out
                  have hnb47 := NB660_669.out
                  have hnc47 := NB669_660.out
                  have hcz48_0 : wc.cell? ⟨gb660, 0, none⟩ = some (.slice A0_0 l0_0.length c0_0) := (blk_cell BK660.out 0).trans rfl
                  have hcz48_1 : wc.cell? ⟨gb660, 1, none⟩ = some (.int .i64 a0_1) := (blk_cell BK660.out 1).trans rfl
                  have hcz48_2 : wc.cell? ⟨gb660, 2, none⟩ = some (.slice A0_2 l0_2.length c0_2) := (blk_cell BK660.out 2).trans rfl
                  have hfz48_0 := blk_frozen BK660.out 0
                  have hfz48_1 := blk_frozen BK660.out 1
                  have hfz48_2 := blk_frozen BK660.out 2
                  try go_wp2_with (first | ((with_reducible refine gate_callee (f := 73) rfl ?_); refine goesL_ (some 23) rfl rfl Try.func73 (by kernel_rfl) rfl #[.agg #[.slice A0_0 l0_0.length c0_0, .int .i64 a0_1, .slice A0_2 l0_2.length c0_2], .int .i64 a0_1] rfl (by (try simp only [List.map_toArray, List.map_cons, List.map_nil]); first | done | rfl | (simp only [List.length_drop, List.length_take]; rfl)) ?_; (with_reducible refine (impl_tunedBy.calls kj2 _ _ l0_0 a0_1 _ _ l0_2 a0_1 t671 _ ?side1 ?side2 ?side3 ?side4 A32.out).mono ?_); (case side1 => exact oc_ HR0_0.out); (case side2 => exact HC0_0.out); (case side3 => exact oc_ HR0_2.out); (case side4 => exact HC0_2.out); rintro e w49 ⟨rfl, hb⟩; refine ⟨_, rfl, ?_⟩; have n0_ := Aside0.mk (Kd.R_below (oR HO_670000) hb); have n1_ := Aside0.mk (Kd.R_below (oR HO_670002) hb); have n2_ := Aside0.mk (blk_below (g := gb660) (o := .cells #[.slice A0_0 l0_0.length c0_0, .int .i64 a0_1, .slice A0_2 l0_2.length c0_2] 30 (0, 0)) (oK BK660) hb); have n3_ := Aside0.mk (blk_below (g := gb661) (o := .cells #[.slice none 0 0, .int .i64 0, .slice none 0 0] 30 (0, 0)) (oK BK661) hb); have n4_ := Aside0.mk (blk_below (g := gb669) (o := .cells #[.slice Ao10 t662.length co10, .int .i64 t665, .slice Ao14 t666.length co14] 30 (0, 0)) (oK BK669) hb); have n5_ := Aside0.mk (below_step (oB HB) hb); clear HO_670000; clear HO_670002; clear BK660; clear BK661; clear BK669; clear HB; have HO_670000 := n0_; have HO_670002 := n1_; have BK660 := n2_; have BK661 := n3_; have BK669 := n4_; have HB := n5_; clear n0_ n1_ n2_ n3_ n4_ n5_; (try clear hb); (try clear hb2); (try clear hk); (try clear hi)))
                  have n0_ := Aside0.mk (Kd.R_drew HO_670000.out)
                  have n1_ := Aside0.mk (Kd.R_drew HO_670002.out)
                  have n2_ := Aside0.mk (blk_drew BK660.out)
                  have n3_ := Aside0.mk (blk_drew BK661.out)
                  have n4_ := Aside0.mk (blk_drew BK669.out)
                  have n5_ := Aside0.mk (below_drew1 HB.out)
                  clear HO_670000
                  clear HO_670002
                  clear BK660
                  clear BK661
                  clear BK669
                  clear HB
                  have HO_670000 := n0_
                  have HO_670002 := n1_
                  have BK660 := n2_
                  have BK661 := n3_
                  have BK669 := n4_
                  have HB := n5_
                  clear n0_ n1_ n2_ n3_ n4_ n5_
                  have p672 : 0 ≤ (a0_1 : Int) := of_decide_eq_true (by first | (with_reducible assumption) | assumption)
                  have q672 : a0_1 < (l0_0.length : Int) := of_decide_eq_true (by first | (with_reducible assumption) | assumption)
                  obtain ⟨ad672, e672, hx672_0, hx672_1, hx672_2, hx672_3⟩ := at_T67 HR0_0.out a0_1 p672 q672
                  have hw672_3 := hx672_3
                  have hw672_2 := hx672_2
                  have hw672_1 := hx672_1
                  have hw672_0 := hx672_0
                  cases e672
                  replace hx672_0 := (HB.out.cell (World.block_lt_of_cell? w _ hx672_0)).trans hx672_0
                  replace hx672_1 := (HB.out.cell (World.block_lt_of_cell? w _ hx672_1)).trans hx672_1
                  replace hx672_2 := (HB.out.cell (World.block_lt_of_cell? w _ hx672_2)).trans hx672_2
                  replace hx672_3 := (HB.out.cell (World.block_lt_of_cell? w _ hx672_3)).trans hx672_3
                  replace p672 := eq_true p672
                  replace q672 := eq_true q672
                  have p45 : 0 ≤ (((rd_T67 l0_0 a0_1).f1) : Int) := of_decide_eq_true (by first | (with_reducible assumption) | assumption)
                  have q45 : (((rd_T67 l0_0 a0_1).f1) : Int) < ((t666.length : Int) : Int) := of_decide_eq_true (by first | (with_reducible assumption) | assumption)
                  obtain ⟨go45, co45, eo45, gb45, gl45, cl45, HG45⟩ := Kd.R_form HO_670002.out (by omega)
                  (first | cases eo45 | (injection eo45 with ea_ en_ ec_; (first | subst ea_ | (injection ea_ with ea_; subst ea_)); subst ec_; clear en_))
                  have GB45 := Aside0.mk gb45
                  have GG45 := Aside0.mk HG45
                  clear gb45 gl45 HG45
                  obtain ⟨hx45_0, hf45_0⟩ := Kd.R_celln 0 HO_670002.out (((rd_T67 l0_0 a0_1).f1) : Int) p45 q45
                  replace p45 := eq_true p45
                  replace q45 := eq_true q45
                  have HP51 := Kd.R_putn HO_670002.out (((rd_T67 l0_0 a0_1).f1) : Int) t671
                  rw [← Ny673.out] at HP51
                  have HQ51 := Aside0.mk HP51
                  clear HP51
                  refine start_ (n := 12) (S := fun w' => w'.cell? ⟨gb669, 0, none⟩ = some (.slice Ao10 t662.length co10) ∧ w'.cell? ⟨gb669, 1, none⟩ = some (.int .i64 t665) ∧ w'.cell? ⟨gb669, 2, none⟩ = some (.slice (some ⟨go45, 0, none⟩) t666.length co14) ∧ w'.cell? ⟨gb660, 0, none⟩ = some (.slice (some ad672) l0_0.length c0_0) ∧ w'.cell? ⟨gb660, 1, none⟩ = some (.int .i64 a0_1) ∧ w'.cell? ⟨gb660, 2, none⟩ = some (.slice A0_2 l0_2.length c0_2) ∧ w'.cell? (ad672.add ((a0_1).toNat * 4)) = some (.int .i64 ((rd_T67 l0_0 a0_1).f0)) ∧ w'.cell? ⟨(ad672.add ((a0_1).toNat * 4)).block, (ad672.add ((a0_1).toNat * 4)).off + 1, none⟩ = some (.int .i64 ((rd_T67 l0_0 a0_1).f1)) ∧ w'.cell? ⟨(ad672.add ((a0_1).toNat * 4)).block, (ad672.add ((a0_1).toNat * 4)).off + 2, none⟩ = some (.int .i64 ((rd_T67 l0_0 a0_1).f2)) ∧ w'.cell? ⟨(ad672.add ((a0_1).toNat * 4)).block, (ad672.add ((a0_1).toNat * 4)).off + 3, none⟩ = some (.int .i64 ((rd_T67 l0_0 a0_1).f3))) (ds := [11]) #[false, false, false, false, false, false, false, false, false, false, false, false] (by kernel_rfl) rfl rfl ⟨(blk_cell BK669.out 0).trans rfl, (blk_cell BK669.out 1).trans rfl, (blk_cell BK669.out 2).trans rfl, (blk_cell BK660.out 0).trans rfl, (blk_cell BK660.out 1).trans rfl, (blk_cell BK660.out 2).trans rfl, ((HB.out.cell (World.block_lt_of_cell? w _ hw672_0)).trans hw672_0), ((HB.out.cell (World.block_lt_of_cell? w _ hw672_1)).trans hw672_1), ((HB.out.cell (World.block_lt_of_cell? w _ hw672_2)).trans hw672_2), ((HB.out.cell (World.block_lt_of_cell? w _ hw672_3)).trans hw672_3)⟩ (fun hHeld => ?_); refine with_tabW impl_WorkStep.tab7 impl_WorkStep.bits7 (fun HT_ HW_ => ?_)
                  generalize w49.drew = w50 at HO_670000 HO_670002 BK660 BK661 BK669 HB GG45 HQ51 hf45_0 hx45_0 hx672_0 hx672_1 hx672_2 hx672_3 hHeld ⊢
                  refine pure_ (i := 0) (N := some 27) (v := ?_) (a' := ?_) #[true, false, false, false, false, false, false, false, false, false, false, false] rfl rfl (any_of HT_.out (by kernel_rfl)) (fun _ _ _ h => h) (Or.inl ⟨by rfl, ?_⟩) ?_ ?_
                  rotate_left
                  · intro w'
                    go_simp
                    with_reducible rfl
                  rotate_left
                  · simp only [Act.put, List.setIfInBounds_toArray, List.set_cons_zero, List.set_cons_succ, i64_w, i32_w]
                    rfl
                  refine pure_ (i := 2) (N := some 29) (v := ?_) (a' := ?_) #[true, false, true, false, false, false, false, false, false, false, false, false] rfl rfl (any_of HT_.out (by kernel_rfl)) (fun _ _ _ h => h) (Or.inl ⟨by rfl, ?_⟩) ?_ ?_
                  rotate_left
                  · intro w'
                    go_simp
                    with_reducible rfl
                  rotate_left
                  · simp only [Act.put, List.setIfInBounds_toArray, List.set_cons_zero, List.set_cons_succ, i64_w, i32_w]
                    rfl
                  refine pure_ (i := 4) (N := some 31) (v := ?_) (a' := ?_) #[true, false, true, false, true, false, false, false, false, false, false, false] rfl rfl (any_of HT_.out (by kernel_rfl)) (fun _ _ _ h => h) (Or.inl ⟨by rfl, ?_⟩) ?_ ?_
                  rotate_left
                  · intro w'
                    go_simp
                    with_reducible rfl
                  rotate_left
                  · simp only [Act.put, List.setIfInBounds_toArray, List.set_cons_zero, List.set_cons_succ, i64_w, i32_w]
                    rfl
                  refine pure_ (i := 9) (N := some 36) (v := ?_) (a' := ?_) #[true, false, true, false, true, false, false, false, false, true, false, false] rfl rfl (any_of HT_.out (by kernel_rfl)) (fun _ _ _ h => h) (Or.inl ⟨by rfl, ?_⟩) ?_ ?_
                  rotate_left
                  · intro w'
                    go_simp
                    with_reducible rfl
                  rotate_left
                  · simp only [Act.put, List.setIfInBounds_toArray, List.set_cons_zero, List.set_cons_succ, i64_w, i32_w]
                    rfl
                  refine take_ (i := 1) (N := some 28) (v := ?_) (a' := ?_) #[true, true, true, false, true, false, false, false, false, true, false, false] rfl rfl (take_ofW HT_.out HW_.out (by kernel_rfl)) (fun _ _ _ h => h) (Or.inl ⟨by rfl, ?_⟩) hHeld ?_ ?_
                  rotate_left
                  · rintro w' ⟨s0, s1, s2, s3, s4, s5, s6, s7, s8, s9⟩
                    go_simp
                    with_reducible rfl
                  rotate_left
                  · simp only [Act.put, List.setIfInBounds_toArray, List.set_cons_zero, List.set_cons_succ, i64_w, i32_w]
                    rfl
                  refine take_ (i := 3) (N := some 30) (v := ?_) (a' := ?_) #[true, true, true, true, true, false, false, false, false, true, false, false] rfl rfl (take_ofW HT_.out HW_.out (by kernel_rfl)) (fun _ _ _ h => h) (Or.inl ⟨by rfl, ?_⟩) hHeld ?_ ?_
                  rotate_left
                  · rintro w' ⟨s0, s1, s2, s3, s4, s5, s6, s7, s8, s9⟩
                    go_simp
                    with_reducible rfl
                  rotate_left
                  · simp only [Act.put, List.setIfInBounds_toArray, List.set_cons_zero, List.set_cons_succ, i64_w, i32_w]
                    rfl
                  refine take_ (i := 5) (N := some 32) (v := ?_) (a' := ?_) #[true, true, true, true, true, true, false, false, false, true, false, false] rfl rfl (take_ofW HT_.out HW_.out (by kernel_rfl)) (fun _ _ _ h => h) (Or.inl ⟨by rfl, ?_⟩) hHeld ?_ ?_
                  rotate_left
                  · rintro w' ⟨s0, s1, s2, s3, s4, s5, s6, s7, s8, s9⟩
                    go_simp
                    with_reducible rfl
                  rotate_left
                  · simp only [Act.put, List.setIfInBounds_toArray, List.set_cons_zero, List.set_cons_succ, i64_w, i32_w]
                    rfl
                  refine pure_ (i := 6) (N := some 33) (v := ?_) (a' := ?_) #[true, true, true, true, true, true, true, false, false, true, false, false] rfl rfl (any_of HT_.out (by kernel_rfl)) (fun _ _ _ h => h) (Or.inl ⟨by rfl, ?_⟩) ?_ ?_
                  rotate_left
                  · intro w'
                    go_simp
                    with_reducible rfl
                  rotate_left
                  · simp only [Act.put, List.setIfInBounds_toArray, List.set_cons_zero, List.set_cons_succ, i64_w, i32_w]
                    rfl
                  refine pure_ (i := 7) (N := some 34) (v := ?_) (a' := ?_) #[true, true, true, true, true, true, true, true, false, true, false, false] rfl rfl (any_of HT_.out (by kernel_rfl)) (fun _ _ _ h => h) (Or.inl ⟨by rfl, ?_⟩) ?_ ?_
                  rotate_left
                  · intro w'
                    go_simp
                    with_reducible rfl
                  rotate_left
                  · simp only [Act.put, List.setIfInBounds_toArray, List.set_cons_zero, List.set_cons_succ, i64_w, i32_w]
                    rfl
                  refine take_ (i := 8) (N := some 35) (v := ?_) (a' := ?_) #[true, true, true, true, true, true, true, true, true, true, false, false] rfl rfl (take_ofW HT_.out HW_.out (by kernel_rfl)) (fun _ _ _ h => h) (Or.inl ⟨by rfl, ?_⟩) hHeld ?_ ?_
                  rotate_left
                  · rintro w' ⟨s0, s1, s2, s3, s4, s5, s6, s7, s8, s9⟩
                    go_simp
                    with_reducible rfl
                  rotate_left
                  · simp only [Act.put, List.setIfInBounds_toArray, List.set_cons_zero, List.set_cons_succ, i64_w, i32_w]
                    rfl
                  refine pure_ (i := 10) (N := some 37) (v := ?_) (a' := ?_) #[true, true, true, true, true, true, true, true, true, true, true, false] rfl rfl (any_of HT_.out (by kernel_rfl)) (fun _ _ _ h => h) (Or.inl ⟨by rfl, ?_⟩) ?_ ?_
                  rotate_left
                  · intro w'
                    go_simp
                    with_reducible rfl
                  rotate_left
                  · simp only [Act.put, List.setIfInBounds_toArray, List.set_cons_zero, List.set_cons_succ, i64_w, i32_w]
                    rfl
                  refine last_ (i := 11) (N := none) #[true, true, true, true, true, true, true, true, true, true, true, true] rfl rfl (one_of HT_.out (by kernel_rfl)) (by decide) (fun K hK => ?_)
                  refine skip_ (w1 := ?_) (by rfl) rfl ?_ ?_
                  rotate_left
                  · go_simp
                    rfl
                  refine hK.out _ _ ?_
                  clear hK K
                  refine done_ (done_of HT_.out (by kernel_rfl)) ?_
                  have n0_ : Aside0 (Kd.R k67 67 (w50.setCell ⟨go45, (((rd_T67 l0_0 a0_1).f1) : Int).toNat, none⟩ (.int .i64 t671)) w.heap.size (fun _ => True) (.slice Ao10 t662.length co10) t662) := ⟨by (with_reducible repeat (first | apply Kd.R_alloc | apply Kd.R_drewN | apply Kd.R_drew)); exact Kd.R_mono (Kd.R_far (p := ⟨go45, (((rd_T67 l0_0 a0_1).f1) : Int).toNat, none⟩) (Kd.R_types HO_670000.out GG45.out (by decide)) (fun _ hk => hk.2) (.int .i64 t671)) (fun _ hk => trivial)⟩
                  have n1_ : Aside0 (Kd.R (Kd.int .i64) 3 (w50.setCell ⟨go45, (((rd_T67 l0_0 a0_1).f1) : Int).toNat, none⟩ (.int .i64 t671)) w.heap.size (fun _ => True) (.slice (some ⟨go45, 0, none⟩) t666.length co14) y673) := ⟨by (with_reducible repeat (first | apply Kd.R_alloc | apply Kd.R_drewN | apply Kd.R_drew)); exact HQ51.out⟩
                  have n2_ : Aside0 ((w50.setCell ⟨go45, (((rd_T67 l0_0 a0_1).f1) : Int).toNat, none⟩ (.int .i64 t671)).heap[gb660]? = some (.cells #[.slice (some ad672) l0_0.length c0_0, .int .i64 a0_1, .slice A0_2 l0_2.length c0_2] 30 (0, 0))) := ⟨by (with_reducible repeat (first | refine blk_drewN ?_ _ | refine blk_drew ?_ | refine blk_alloc ?_ _)); refine blk_far ?_ (by have h_ := Kd.R_ne HO_670002.out BK660.out (by decide); intro e_; exact h_ (by rw [e_]; rfl)) _; (with_reducible repeat (first | refine blk_drewN ?_ _ | refine blk_drew ?_ | refine blk_alloc ?_ _)); exact BK660.out⟩
                  have n3_ : Aside0 ((w50.setCell ⟨go45, (((rd_T67 l0_0 a0_1).f1) : Int).toNat, none⟩ (.int .i64 t671)).heap[gb661]? = some (.cells #[.slice none 0 0, .int .i64 0, .slice none 0 0] 30 (0, 0))) := ⟨by (with_reducible repeat (first | refine blk_drewN ?_ _ | refine blk_drew ?_ | refine blk_alloc ?_ _)); refine blk_far ?_ (by have h_ := Kd.R_ne HO_670002.out BK661.out (by decide); intro e_; exact h_ (by rw [e_]; rfl)) _; (with_reducible repeat (first | refine blk_drewN ?_ _ | refine blk_drew ?_ | refine blk_alloc ?_ _)); exact BK661.out⟩
                  have n4_ : Aside0 ((w50.setCell ⟨go45, (((rd_T67 l0_0 a0_1).f1) : Int).toNat, none⟩ (.int .i64 t671)).heap[gb669]? = some (.cells #[.slice Ao10 t662.length co10, .int .i64 t665, .slice (some ⟨go45, 0, none⟩) t666.length co14] 30 (0, 0))) := ⟨by (with_reducible repeat (first | refine blk_drewN ?_ _ | refine blk_drew ?_ | refine blk_alloc ?_ _)); refine blk_far ?_ (by have h_ := Kd.R_ne HO_670002.out BK669.out (by decide); intro e_; exact h_ (by rw [e_]; rfl)) _; (with_reducible repeat (first | refine blk_drewN ?_ _ | refine blk_drew ?_ | refine blk_alloc ?_ _)); exact BK669.out⟩
                  have n5_ : Aside0 (Below w.heap.size w (w50.setCell ⟨go45, (((rd_T67 l0_0 a0_1).f1) : Int).toNat, none⟩ (.int .i64 t671))) := ⟨oB HB⟩
                  (try clear HO_670000)
                  (try clear HO_670002)
                  (try clear BK660)
                  (try clear BK661)
                  (try clear BK669)
                  (try clear HB)
                  generalize (w50.setCell ⟨go45, (((rd_T67 l0_0 a0_1).f1) : Int).toNat, none⟩ (.int .i64 t671)) = w52 at n0_ n1_ n2_ n3_ n4_ n5_ ⊢
                  have HO_670000 := n0_
                  have HO_670002 := n1_
                  have BK660 := n2_
                  have BK661 := n3_
                  have BK669 := n4_
                  have HB := n5_
                  clear n0_ n1_ n2_ n3_ n4_ n5_
                  have hnb53 := NB669_661.out
                  have hnc53 := NB661_669.out
                  have hcz54_0 : w52.cell? ⟨gb669, 0, none⟩ = some (.slice Ao10 t662.length co10) := (blk_cell BK669.out 0).trans rfl
                  have hcz54_1 : w52.cell? ⟨gb669, 1, none⟩ = some (.int .i64 t665) := (blk_cell BK669.out 1).trans rfl
                  have hcz54_2 : w52.cell? ⟨gb669, 2, none⟩ = some (.slice (some ⟨go45, 0, none⟩) t666.length co14) := (blk_cell BK669.out 2).trans rfl
                  have hfz54_0 := blk_frozen BK669.out 0
                  have hfz54_1 := blk_frozen BK669.out 1
                  have hfz54_2 := blk_frozen BK669.out 2
                  have hcz55_0 : w52.cell? ⟨gb661, 0, none⟩ = some (.slice none 0 0) := (blk_cell BK661.out 0).trans rfl
                  have hcz55_1 : w52.cell? ⟨gb661, 1, none⟩ = some (.int .i64 0) := (blk_cell BK661.out 1).trans rfl
                  have hcz55_2 : w52.cell? ⟨gb661, 2, none⟩ = some (.slice none 0 0) := (blk_cell BK661.out 2).trans rfl
                  have hfz55_0 := blk_frozen BK661.out 0
                  have hfz55_1 := blk_frozen BK661.out 1
                  have hfz55_2 := blk_frozen BK661.out 2
                  try go_wp2
                  refine bodyPost_ret (results_ct rfl _ _ gb661 30 #[.slice Ao10 t662.length co10, .int .i64 (wrap64 (t665 + 1)), .slice (some ⟨go45, 0, none⟩) t666.length co14] (0, 0) _ rfl (by (with_reducible repeat (first | refine blk_drewN ?_ _ | refine blk_drew ?_ | refine blk_alloc ?_ _)); refine blk_put (cs := #[.slice Ao10 t662.length co10, .int .i64 (wrap64 (t665 + 1)), .slice none 0 0]) ?_ 2 _ rfl; (with_reducible repeat (first | refine blk_drewN ?_ _ | refine blk_drew ?_ | refine blk_alloc ?_ _)); refine blk_put (cs := #[.slice Ao10 t662.length co10, .int .i64 0, .slice none 0 0]) ?_ 1 _ rfl; (with_reducible repeat (first | refine blk_drewN ?_ _ | refine blk_drew ?_ | refine blk_alloc ?_ _)); refine blk_put (cs := #[.slice none 0 0, .int .i64 0, .slice none 0 0]) ?_ 0 _ rfl; (with_reducible repeat (first | refine blk_drewN ?_ _ | refine blk_drew ?_ | refine blk_alloc ?_ _)); refine blk_far ?_ NB661_669.out _; (with_reducible repeat (first | refine blk_drewN ?_ _ | refine blk_drew ?_ | refine blk_alloc ?_ _)); exact BK661.out) Try.underlying30 rfl (by kernel_rfl)) rfl ?_
                  exact ⟨_, _, by first | rfl | (simp [errW_none, errW_some] <;> rfl) | (simp [*, errW_none, errW_some] <;> rfl), by (with_reducible repeat (first | apply Kd.R_alloc | apply Kd.R_drewN | apply Kd.R_drew)); exact Kd.R_mono (Kd.R_far (p := ⟨gb661, 2, none⟩) (Kd.R_far (p := ⟨gb661, 1, none⟩) (Kd.R_far (p := ⟨gb661, 0, none⟩) (Kd.R_far (p := ⟨gb669, 1, none⟩) (Kd.R_types (Kd.R_types HO_670000.out BK669.out (by decide)) BK661.out (by decide)) (fun _ hk => hk.1.2) (.int .i64 (wrap64 (t665 + 1)))) (fun _ hk => hk.2) (.slice Ao10 t662.length co10)) (fun _ hk => hk.2) (.int .i64 (wrap64 (t665 + 1)))) (fun _ hk => hk.2) (.slice (some ⟨go45, 0, none⟩) t666.length co14)) (fun _ hk => trivial), by (with_reducible repeat (first | apply Kd.R_alloc | apply Kd.R_drewN | apply Kd.R_drew)); exact Kd.R_mono (Kd.R_far (p := ⟨gb661, 2, none⟩) (Kd.R_far (p := ⟨gb661, 1, none⟩) (Kd.R_far (p := ⟨gb661, 0, none⟩) (Kd.R_far (p := ⟨gb669, 1, none⟩) (Kd.R_types (Kd.R_types HO_670002.out BK669.out (by decide)) BK661.out (by decide)) (fun _ hk => hk.1.2) (.int .i64 (wrap64 (t665 + 1)))) (fun _ hk => hk.2) (.slice Ao10 t662.length co10)) (fun _ hk => hk.2) (.int .i64 (wrap64 (t665 + 1)))) (fun _ hk => hk.2) (.slice (some ⟨go45, 0, none⟩) t666.length co14)) (fun _ hk => trivial), oB HB⟩
                · rw [if_neg c44] at H
                  exact absurd H (by simp)
              · rw [if_neg c43] at H
                exact absurd H (by simp)
            · rw [if_neg c42] at H
              exact absurd H (by simp)
          · rw [if_neg c41] at H
            exact absurd H (by simp)
end Go.Proofs.Ytlhlmjklajdejaa.P


namespace Go.Proofs.Ytlhlmjklajdejaa.P
open Go.RowKit Go.Proofs.YtlhlmjklajdejaaW.PrintWords Go.Proofs.YtlhlmjklajdejaaW.PrintLast Go.Proofs.YtlhlmjklajdejaaW.PrintMore
attribute [local go_sem] max2_int min2_int max_two min_two max_three min_three max_four min_four
set_option linter.unusedVariables false
set_option linter.unusedSimpArgs false
def impl_WorkSteps.l0 : Nat → Int → Int → List (S67) → Int → List Int → Option ((List (S67)) × Int × List Int)
  | 0, _, _, _, _, _ => none
  | k + 1, x1, x6, x773000, x773001, x773002 => if x6 < (mn x1 100) then ((impl_WorkStep.f k x773000 x773001 x773002).bind fun bt773 => (if bt773.2.2.2 = true then (impl_WorkSteps.l0 k x1 (wrap64 (x6 + 1)) bt773.1 bt773.2.1 bt773.2.2.1) else (some (x773000, x773001, x773002)))) else (some (x773000, x773001, x773002))
def impl_WorkSteps.f (k : Nat) (l0_0 : List (S67)) (a0_1 : Int) (l0_2 : List Int) (a1 : Int) : Option ((List (S67)) × Int × List Int) := (impl_copyWork.f l0_0 a0_1 l0_2).bind fun bt765 => (impl_WorkSteps.l0 k a1 0 bt765.1 bt765.2.1 bt765.2.2)
set_option maxHeartbeats 8000000 in
set_option maxRecDepth 100000 in
theorem impl_WorkSteps.calls (k : Nat) (A0_0 : Option Addr) (c0_0 : Nat) (l0_0 : List (S67)) (a0_1 : Int) (A0_2 : Option Addr) (c0_2 : Nat) (l0_2 : List Int) (a1 : Int) (r1 : List (S67)) (r2 : Int) (r3 : List Int) (w : World) (hr0_0 : Kd.C k67 w A0_0 l0_0.length l0_0) (hc0_0 : l0_0.length ≤ c0_0) (hr0_2 : Kd.C (Kd.int .i64) w A0_2 l0_2.length l0_2) (hc0_2 : l0_2.length ≤ c0_2) (h : impl_WorkSteps.f k l0_0 a0_1 l0_2 a1 = some (r1, r2, r3)) :
    Calls Try.prog 42 #[.agg #[.slice A0_0 l0_0.length c0_0, .int .i64 a0_1, .slice A0_2 l0_2.length c0_2], .int .i64 a1] w fun e w' => ∃ v0_ v2_ : Value, e = .returned (.agg #[v0_, .int .i64 r2, v2_]) ∧ Kd.R k67 67 w' w.heap.size (fun _ => True) v0_ r1 ∧ Kd.R (Kd.int .i64) 3 w' w.heap.size (fun _ => True) v2_ r3 ∧ Below w.heap.size w w' := by
  have hu30 := Try.underlying30
  have HR0_0 := Aside0.mk hr0_0
  have HC0_0 := Aside0.mk hc0_0
  clear hr0_0 hc0_0
  have HR0_2 := Aside0.mk hr0_2
  have HC0_2 := Aside0.mk hc0_2
  clear hr0_2 hc0_2
  have HB := Aside0.mk (Below.refl w.heap.size w)
  have H : ((impl_copyWork.f l0_0 a0_1 l0_2).bind fun bt765 => (impl_WorkSteps.l0 k a1 0 bt765.1 bt765.2.1 bt765.2.2)) = some (r1, r2, r3) := h
  clear h
  replace H := Option.bind_eq_some_iff.mp H
  obtain ⟨⟨t765, t768, t769⟩, A30, H⟩ := H
  (try dsimp only at H)
  have A3 := Aside0.mk A30
  clear A30
  have H' := Aside0.mk H
  clear H
  go_enter Try.func42, Try.ntmps42
  go_wp2_with (first | ((with_reducible refine gate_dst (N := 2) rfl ?_); refine box_event ?hg (N := 2) ?hd (cs := #[.slice A0_0 l0_0.length c0_0, .int .i64 a0_1, .slice A0_2 l0_2.length c0_2]) (t := 30) ?hr ?_; (case hd => rfl); (case hg => rfl); (case hr => first | (go_simp; done) | (go_simp; rfl)); intro gb763 hg w4 hbox hb; have n0_ := Aside0.mk (below_step (oB HB) hb); have n1_ := Aside0.mk (hbox); have n2_ := Aside0.mk ((by rw [hg]; exact (below_size (oB HB)) : w.heap.size ≤ gb763)); have n3_ := Aside0.mk ((by rw [hg]; exact (below_size (oB HB)) : w.heap.size ≤ gb763)); clear HB; have HB := n0_; have BK763 := n1_; have GW763 := n2_; have GE763 := n3_; clear n0_ n1_ n2_ n3_; clear hb hbox hg) | ((with_reducible refine gate_dst (N := 4) rfl ?_); refine box_event ?hg (N := 4) ?hd (cs := #[.slice none 0 0, .int .i64 0, .slice none 0 0]) (t := 30) ?hr ?_; (case hd => rfl); (case hg => rfl); (case hr => first | (go_simp; done) | (go_simp; rfl)); intro gb764 hg w5 hbox hb; have n0_ := Aside0.mk (blk_below (g := gb763) (o := .cells #[.slice A0_0 l0_0.length c0_0, .int .i64 a0_1, .slice A0_2 l0_2.length c0_2] 30 (0, 0)) (oK BK763) hb); have n1_ := Aside0.mk (below_step (oB HB) hb); have n2_ := Aside0.mk (hbox); have n3_ := Aside0.mk ((by rw [hg]; exact (below_size (oB HB)) : w.heap.size ≤ gb764)); have n4_ := Aside0.mk ((by rw [hg]; exact (below_size (oB HB)) : w.heap.size ≤ gb764)); have n5_ := Aside0.mk ((by rw [hg]; exact Nat.ne_of_lt (blk_lt (g := gb763) (o := .cells #[.slice A0_0 l0_0.length c0_0, .int .i64 a0_1, .slice A0_2 l0_2.length c0_2] 30 (0, 0)) (oK BK763)) : gb763 ≠ gb764)); have n6_ := Aside0.mk ((by rw [hg]; exact Nat.ne_of_gt (blk_lt (g := gb763) (o := .cells #[.slice A0_0 l0_0.length c0_0, .int .i64 a0_1, .slice A0_2 l0_2.length c0_2] 30 (0, 0)) (oK BK763)) : gb764 ≠ gb763)); clear BK763; clear HB; have BK763 := n0_; have HB := n1_; have BK764 := n2_; have GW764 := n3_; have GE764 := n4_; have NB763_764 := n5_; have NB764_763 := n6_; clear n0_ n1_ n2_ n3_ n4_ n5_ n6_; clear hb hbox hg; have hnb6 := NB763_764.out; have hnc6 := NB764_763.out; have hcz7_0 : w5.cell? ⟨gb763, 0, none⟩ = some (.slice A0_0 l0_0.length c0_0) := (blk_cell BK763.out 0).trans rfl; have hcz7_1 : w5.cell? ⟨gb763, 1, none⟩ = some (.int .i64 a0_1) := (blk_cell BK763.out 1).trans rfl; have hcz7_2 : w5.cell? ⟨gb763, 2, none⟩ = some (.slice A0_2 l0_2.length c0_2) := (blk_cell BK763.out 2).trans rfl; have hfz7_0 := blk_frozen BK763.out 0; have hfz7_1 := blk_frozen BK763.out 1; have hfz7_2 := blk_frozen BK763.out 2) | ((with_reducible refine gate_callee (f := 69) rfl ?_); refine goesL_ (some 10) rfl rfl Try.func69 (by kernel_rfl) rfl #[.agg #[.slice A0_0 l0_0.length c0_0, .int .i64 a0_1, .slice A0_2 l0_2.length c0_2]] rfl (by (try simp only [List.map_toArray, List.map_cons, List.map_nil]); first | done | rfl | (simp only [List.length_drop, List.length_take]; rfl)) ?_; (with_reducible refine (impl_copyWork.calls _ _ l0_0 a0_1 _ _ l0_2 t765 t768 t769 _ ?side1 ?side2 ?side3 ?side4 A3.out).mono ?_); (case side1 => exact oc_ HR0_0.out); (case side2 => exact HC0_0.out); (case side3 => exact oc_ HR0_2.out); (case side4 => exact HC0_2.out); rintro e w8 ⟨v766, v770, rfl, ho0, ho1, hb⟩; refine ⟨_, rfl, ?_⟩; have n0_ := Aside0.mk (Kd.R_lower ho0 (below_size (oB HB))); have n1_ := Aside0.mk (Kd.R_lower ho1 (below_size (oB HB))); have n2_ := Aside0.mk (blk_below (g := gb763) (o := .cells #[.slice A0_0 l0_0.length c0_0, .int .i64 a0_1, .slice A0_2 l0_2.length c0_2] 30 (0, 0)) (oK BK763) hb); have n3_ := Aside0.mk (blk_below (g := gb764) (o := .cells #[.slice none 0 0, .int .i64 0, .slice none 0 0] 30 (0, 0)) (oK BK764) hb); have n4_ := Aside0.mk (below_step (oB HB) hb); clear BK763; clear BK764; clear HB; have HO767 := n0_; have HO771 := n1_; have BK763 := n2_; have BK764 := n3_; have HB := n4_; clear n0_ n1_ n2_ n3_ n4_; (try clear hb); (try clear hb2); (try clear hk); (try clear hi); (try clear ho0); (try clear ho1)) | ((with_reducible refine gate_dst (N := 5) rfl ?_); refine box_event ?hg (N := 5) ?hd (cs := #[.slice none 0 0, .int .i64 0, .slice none 0 0]) (t := 30) ?hr ?_; (case hd => rfl); (case hg => rfl); (case hr => first | (go_simp; done) | (go_simp; rfl)); intro gb772 hg w9 hbox hb; have n0_ := Aside0.mk (Kd.R_below (oR HO767) hb); have n1_ := Aside0.mk (Kd.R_below (oR HO771) hb); have n2_ := Aside0.mk (blk_below (g := gb763) (o := .cells #[.slice A0_0 l0_0.length c0_0, .int .i64 a0_1, .slice A0_2 l0_2.length c0_2] 30 (0, 0)) (oK BK763) hb); have n3_ := Aside0.mk (blk_below (g := gb764) (o := .cells #[.slice none 0 0, .int .i64 0, .slice none 0 0] 30 (0, 0)) (oK BK764) hb); have n4_ := Aside0.mk (below_step (oB HB) hb); have n5_ := Aside0.mk (hbox); have n6_ := Aside0.mk ((by rw [hg]; exact (below_size (oB HB)) : w.heap.size ≤ gb772)); have n7_ := Aside0.mk ((by rw [hg]; exact (below_size (oB HB)) : w.heap.size ≤ gb772)); have n8_ := Aside0.mk ((by rw [hg]; exact Nat.ne_of_lt (blk_lt (g := gb763) (o := .cells #[.slice A0_0 l0_0.length c0_0, .int .i64 a0_1, .slice A0_2 l0_2.length c0_2] 30 (0, 0)) (oK BK763)) : gb763 ≠ gb772)); have n9_ := Aside0.mk ((by rw [hg]; exact Nat.ne_of_gt (blk_lt (g := gb763) (o := .cells #[.slice A0_0 l0_0.length c0_0, .int .i64 a0_1, .slice A0_2 l0_2.length c0_2] 30 (0, 0)) (oK BK763)) : gb772 ≠ gb763)); have n10_ := Aside0.mk ((by rw [hg]; exact Nat.ne_of_lt (blk_lt (g := gb764) (o := .cells #[.slice none 0 0, .int .i64 0, .slice none 0 0] 30 (0, 0)) (oK BK764)) : gb764 ≠ gb772)); have n11_ := Aside0.mk ((by rw [hg]; exact Nat.ne_of_gt (blk_lt (g := gb764) (o := .cells #[.slice none 0 0, .int .i64 0, .slice none 0 0] 30 (0, 0)) (oK BK764)) : gb772 ≠ gb764)); clear HO767; clear HO771; clear BK763; clear BK764; clear HB; have HO767 := n0_; have HO771 := n1_; have BK763 := n2_; have BK764 := n3_; have HB := n4_; have BK772 := n5_; have GW772 := n6_; have GE772 := n7_; have NB763_772 := n8_; have NB772_763 := n9_; have NB764_772 := n10_; have NB772_764 := n11_; clear n0_ n1_ n2_ n3_ n4_ n5_ n6_ n7_ n8_ n9_ n10_ n11_; clear hb hbox hg; obtain ⟨Ao10, co10, eo10⟩ := Kd.R_slice HO767.out; subst eo10; have hnb11 := NB772_763.out; have hnc11 := NB763_772.out; have hnb12 := NB772_764.out; have hnc12 := NB764_772.out; have hcz13_0 : w9.cell? ⟨gb772, 0, none⟩ = some (.slice none 0 0) := (blk_cell BK772.out 0).trans rfl; have hcz13_1 : w9.cell? ⟨gb772, 1, none⟩ = some (.int .i64 0) := (blk_cell BK772.out 1).trans rfl; have hcz13_2 : w9.cell? ⟨gb772, 2, none⟩ = some (.slice none 0 0) := (blk_cell BK772.out 2).trans rfl; have hfz13_0 := blk_frozen BK772.out 0; have hfz13_1 := blk_frozen BK772.out 1; have hfz13_2 := blk_frozen BK772.out 2; obtain ⟨Ao14, co14, eo14⟩ := Kd.R_slice HO771.out; subst eo14))
  go_loopg [6] k (fun kq v6 w' => ∃ (x6_1 : Int) (x773000_1 : List (S67)) (x773001_1 : Int) (x773002_1 : List Int) (u773000 : Value) (u773002 : Value), v6 = .int .i64 x6_1 ∧ Aside0 (impl_WorkSteps.l0 kq a1 x6_1 x773000_1 x773001_1 x773002_1 = some (r1, r2, r3)) ∧ Aside0 (kq ≤ k) ∧ Aside0 (Kd.R k67 67 w' w.heap.size (fun _ => True) u773000 x773000_1) ∧ Aside0 (Kd.R (Kd.int .i64) 3 w' w.heap.size (fun _ => True) u773002 x773002_1) ∧ Aside0 (w'.heap[gb763]? = some (.cells #[(.slice A0_0 l0_0.length c0_0), .int .i64 a0_1, (.slice A0_2 l0_2.length c0_2)] 30 (0, 0))) ∧ Aside0 (w'.heap[gb764]? = some (.cells #[(.slice none 0 0), .int .i64 0, (.slice none 0 0)] 30 (0, 0))) ∧ Aside0 (w'.heap[gb772]? = some (.cells #[u773000, .int .i64 x773001_1, u773002] 30 (0, 0))) ∧ Aside0 (Below w.heap.size w w'))
  case atStart => exact ⟨(0), (t765), (t768), (t769), (.slice Ao10 t765.length co10), (.slice Ao14 t769.length co14), (by first | rfl | (simp; done) | (simp [*]; done)), H', ⟨Nat.le_refl _⟩, ⟨by (with_reducible repeat (first | apply Kd.R_alloc | apply Kd.R_drewN | apply Kd.R_drew)); exact Kd.R_mono (Kd.R_far (p := ⟨gb772, 2, none⟩) (Kd.R_far (p := ⟨gb772, 1, none⟩) (Kd.R_far (p := ⟨gb772, 0, none⟩) (Kd.R_types HO767.out BK772.out (by decide)) (fun _ hk => hk.2) (.slice Ao10 t765.length co10)) (fun _ hk => hk.2) (.int .i64 t768)) (fun _ hk => hk.2) (.slice Ao14 t769.length co14)) (fun _ hk => trivial)⟩, ⟨by (with_reducible repeat (first | apply Kd.R_alloc | apply Kd.R_drewN | apply Kd.R_drew)); exact Kd.R_mono (Kd.R_far (p := ⟨gb772, 2, none⟩) (Kd.R_far (p := ⟨gb772, 1, none⟩) (Kd.R_far (p := ⟨gb772, 0, none⟩) (Kd.R_types HO771.out BK772.out (by decide)) (fun _ hk => hk.2) (.slice Ao10 t765.length co10)) (fun _ hk => hk.2) (.int .i64 t768)) (fun _ hk => hk.2) (.slice Ao14 t769.length co14)) (fun _ hk => trivial)⟩, ⟨by (with_reducible repeat (first | refine blk_drewN ?_ _ | refine blk_drew ?_ | refine blk_alloc ?_ _)); refine blk_far ?_ NB763_772.out _; (with_reducible repeat (first | refine blk_drewN ?_ _ | refine blk_drew ?_ | refine blk_alloc ?_ _)); refine blk_far ?_ NB763_772.out _; (with_reducible repeat (first | refine blk_drewN ?_ _ | refine blk_drew ?_ | refine blk_alloc ?_ _)); refine blk_far ?_ NB763_772.out _; (with_reducible repeat (first | refine blk_drewN ?_ _ | refine blk_drew ?_ | refine blk_alloc ?_ _)); exact BK763.out⟩, ⟨by (with_reducible repeat (first | refine blk_drewN ?_ _ | refine blk_drew ?_ | refine blk_alloc ?_ _)); refine blk_far ?_ NB764_772.out _; (with_reducible repeat (first | refine blk_drewN ?_ _ | refine blk_drew ?_ | refine blk_alloc ?_ _)); refine blk_far ?_ NB764_772.out _; (with_reducible repeat (first | refine blk_drewN ?_ _ | refine blk_drew ?_ | refine blk_alloc ?_ _)); refine blk_far ?_ NB764_772.out _; (with_reducible repeat (first | refine blk_drewN ?_ _ | refine blk_drew ?_ | refine blk_alloc ?_ _)); exact BK764.out⟩, ⟨by (with_reducible repeat (first | refine blk_drewN ?_ _ | refine blk_drew ?_ | refine blk_alloc ?_ _)); refine blk_put (cs := #[.slice Ao10 t765.length co10, .int .i64 t768, .slice none 0 0]) ?_ 2 _ rfl; (with_reducible repeat (first | refine blk_drewN ?_ _ | refine blk_drew ?_ | refine blk_alloc ?_ _)); refine blk_put (cs := #[.slice Ao10 t765.length co10, .int .i64 0, .slice none 0 0]) ?_ 1 _ rfl; (with_reducible repeat (first | refine blk_drewN ?_ _ | refine blk_drew ?_ | refine blk_alloc ?_ _)); refine blk_put (cs := #[.slice none 0 0, .int .i64 0, .slice none 0 0]) ?_ 0 _ rfl; (with_reducible repeat (first | refine blk_drewN ?_ _ | refine blk_drew ?_ | refine blk_alloc ?_ _)); exact BK772.out⟩, ⟨oB HB⟩⟩
  case round =>
    clear H'
    try clear c1
    try clear p2
    try clear c4
    try clear c6
    try clear c11
    try clear c12
    try clear hcz13_0
    try clear hcz13_1
    try clear hcz13_2
    try clear hcz7_0
    try clear hcz7_1
    try clear hcz7_2
    try clear hfz13_0
    try clear hfz13_1
    try clear hfz13_2
    try clear hfz7_0
    try clear hfz7_1
    try clear hfz7_2
    obtain ⟨x6_1, x773000_1, x773001_1, x773002_1, u773000, u773002, rfl, HA, HK1, HO_773000, HO_773002, BK763, BK764, BK772, HB⟩ := hrel
    cases gk with
    | zero => exact absurd HA.out (by simp [impl_WorkSteps.l0])
    | succ k1 =>
      have H := HA.out
      clear HA
      simp only [impl_WorkSteps.l0] at H
      obtain ⟨ji15, hji15⟩ : ∃ j_ : Int, (mn a1 100) = j_ := ⟨_, rfl⟩
      replace H : (if x6_1 < (ji15) then ((impl_WorkStep.f k1 x773000_1 x773001_1 x773002_1).bind fun bt773 => (if bt773.2.2.2 = true then (impl_WorkSteps.l0 k1 a1 (wrap64 (x6_1 + 1)) bt773.1 bt773.2.1 bt773.2.2.1) else (some (x773000_1, x773001_1, x773002_1)))) else (some (x773000_1, x773001_1, x773002_1))) = some (r1, r2, r3) := by first | (rw [hji15] at H; exact H) | (simp only [hji15] at H ⊢; exact H)
      have hji15_ : (if 100 < a1 then 100 else a1) = ji15 := hji15
      by_cases c16 : x6_1 < (ji15)
      · rw [if_pos c16] at H
        have c16b0 : decide (x6_1 < (ji15)) = true := decide_eq_true c16
        clear c16
        replace H := Option.bind_eq_some_iff.mp H
        obtain ⟨⟨t773, t776, t777, t780⟩, A170, H⟩ := H
        (try dsimp only at H)
        have A17 := Aside0.mk A170
        clear A170
        by_cases c18 : t780 = true
        · subst c18
          rw [if_pos rfl] at H
          have H' := Aside0.mk H
          clear H
          have hnb19 := NB772_763.out
          have hnc19 := NB763_772.out
          have hnb20 := NB772_764.out
          have hnc20 := NB764_772.out
          have hcz21_0 : wr.cell? ⟨gb772, 0, none⟩ = some (u773000) := (blk_cell BK772.out 0).trans rfl
          have hcz21_1 : wr.cell? ⟨gb772, 1, none⟩ = some (.int .i64 x773001_1) := (blk_cell BK772.out 1).trans rfl
          have hcz21_2 : wr.cell? ⟨gb772, 2, none⟩ = some (u773002) := (blk_cell BK772.out 2).trans rfl
          have hfz21_0 := blk_frozen BK772.out 0
          have hfz21_1 := blk_frozen BK772.out 1
          have hfz21_2 := blk_frozen BK772.out 2
          obtain ⟨Ao22, co22, eo22⟩ := Kd.R_slice HO_773000.out
          subst eo22
          obtain ⟨Ao23, co23, eo23⟩ := Kd.R_slice HO_773002.out
          subst eo23
          go_wp2_with (first | ((with_reducible refine gate_callee (f := 40) rfl ?_); refine goesL_ (some 19) rfl rfl Try.func40 (by kernel_rfl) rfl #[.agg #[.slice Ao22 x773000_1.length co22, .int .i64 x773001_1, .slice Ao23 x773002_1.length co23]] rfl (by (try simp only [List.map_toArray, List.map_cons, List.map_nil]); first | done | rfl | (simp only [List.length_drop, List.length_take]; rfl)) ?_; (with_reducible refine (impl_WorkStep.calls k1 _ _ x773000_1 x773001_1 _ _ x773002_1 t773 t776 t777 true _ ?side1 ?side2 ?side3 ?side4 A17.out).mono ?_); (case side1 => repeat (first | exact (Kd.R_reads' HO_773000.out).2.2 | (with_reducible refine Kd.C_alloc ?_ _) | (with_reducible refine Kd.C_drewN ?_ _) | (with_reducible refine Kd.C_drew ?_))); (case side2 => exact (Kd.R_reads' HO_773000.out).2.1); (case side3 => repeat (first | exact (Kd.R_reads' HO_773002.out).2.2 | (with_reducible refine Kd.C_alloc ?_ _) | (with_reducible refine Kd.C_drewN ?_ _) | (with_reducible refine Kd.C_drew ?_))); (case side4 => exact (Kd.R_reads' HO_773002.out).2.1); rintro e w24 ⟨v774, v778, rfl, ho0, ho1, hb⟩; refine ⟨_, rfl, ?_⟩; have n0_ := Aside0.mk (Kd.R_elder' (oR HO_773000) (Kd.R_base ho0) hb); have n1_ := Aside0.mk (Kd.R_elder' (oR HO_773002) (Kd.R_base ho1) hb); have n2_ := Aside0.mk (Kd.R_lower (Kd.R_new' ho0 (Kd.R_lt (oR HO_773000))) (below_size (oB HB))); have n3_ := Aside0.mk (Kd.R_lower (Kd.R_new' ho1 (Kd.R_lt (oR HO_773002))) (below_size (oB HB))); have n4_ := Aside0.mk (blk_below (g := gb763) (o := .cells #[.slice A0_0 l0_0.length c0_0, .int .i64 a0_1, .slice A0_2 l0_2.length c0_2] 30 (0, 0)) (oK BK763) hb); have n5_ := Aside0.mk (blk_below (g := gb764) (o := .cells #[.slice none 0 0, .int .i64 0, .slice none 0 0] 30 (0, 0)) (oK BK764) hb); have n6_ := Aside0.mk (blk_below (g := gb772) (o := .cells #[.slice Ao22 x773000_1.length co22, .int .i64 x773001_1, .slice Ao23 x773002_1.length co23] 30 (0, 0)) (oK BK772) hb); have n7_ := Aside0.mk (below_step (oB HB) hb); clear HO_773000; clear HO_773002; clear BK763; clear BK764; clear BK772; clear HB; have HO_773000 := n0_; have HO_773002 := n1_; have HO775 := n2_; have HO779 := n3_; have BK763 := n4_; have BK764 := n5_; have BK772 := n6_; have HB := n7_; clear n0_ n1_ n2_ n3_ n4_ n5_ n6_ n7_; (try clear hb); (try clear hb2); (try clear hk); (try clear hi); (try clear ho0); (try clear ho1)) | ((with_reducible refine gate_dst (N := 7) rfl ?_); refine box_event ?hg (N := 7) ?hd (cs := #[.slice none 0 0, .int .i64 0, .slice none 0 0]) (t := 30) ?hr ?_; (case hd => rfl); (case hg => rfl); (case hr => first | (go_simp; done) | (go_simp; rfl)); intro gb781 hg w25 hbox hb; have n0_ := Aside0.mk (Kd.R_below (oR HO_773000) hb); have n1_ := Aside0.mk (Kd.R_below (oR HO_773002) hb); have n2_ := Aside0.mk (Kd.R_below (oR HO775) hb); have n3_ := Aside0.mk (Kd.R_below (oR HO779) hb); have n4_ := Aside0.mk (blk_below (g := gb763) (o := .cells #[.slice A0_0 l0_0.length c0_0, .int .i64 a0_1, .slice A0_2 l0_2.length c0_2] 30 (0, 0)) (oK BK763) hb); have n5_ := Aside0.mk (blk_below (g := gb764) (o := .cells #[.slice none 0 0, .int .i64 0, .slice none 0 0] 30 (0, 0)) (oK BK764) hb); have n6_ := Aside0.mk (blk_below (g := gb772) (o := .cells #[.slice Ao22 x773000_1.length co22, .int .i64 x773001_1, .slice Ao23 x773002_1.length co23] 30 (0, 0)) (oK BK772) hb); have n7_ := Aside0.mk (below_step (oB HB) hb); have n8_ := Aside0.mk (hbox); have n9_ := Aside0.mk ((by rw [hg]; exact (below_size (oB HB)) : w.heap.size ≤ gb781)); have n10_ := Aside0.mk ((by rw [hg]; exact (below_size (oB HB)) : w.heap.size ≤ gb781)); have n11_ := Aside0.mk ((by rw [hg]; exact Nat.ne_of_lt (blk_lt (g := gb763) (o := .cells #[.slice A0_0 l0_0.length c0_0, .int .i64 a0_1, .slice A0_2 l0_2.length c0_2] 30 (0, 0)) (oK BK763)) : gb763 ≠ gb781)); have n12_ := Aside0.mk ((by rw [hg]; exact Nat.ne_of_gt (blk_lt (g := gb763) (o := .cells #[.slice A0_0 l0_0.length c0_0, .int .i64 a0_1, .slice A0_2 l0_2.length c0_2] 30 (0, 0)) (oK BK763)) : gb781 ≠ gb763)); have n13_ := Aside0.mk ((by rw [hg]; exact Nat.ne_of_lt (blk_lt (g := gb764) (o := .cells #[.slice none 0 0, .int .i64 0, .slice none 0 0] 30 (0, 0)) (oK BK764)) : gb764 ≠ gb781)); have n14_ := Aside0.mk ((by rw [hg]; exact Nat.ne_of_gt (blk_lt (g := gb764) (o := .cells #[.slice none 0 0, .int .i64 0, .slice none 0 0] 30 (0, 0)) (oK BK764)) : gb781 ≠ gb764)); have n15_ := Aside0.mk ((by rw [hg]; exact Nat.ne_of_lt (blk_lt (g := gb772) (o := .cells #[.slice Ao22 x773000_1.length co22, .int .i64 x773001_1, .slice Ao23 x773002_1.length co23] 30 (0, 0)) (oK BK772)) : gb772 ≠ gb781)); have n16_ := Aside0.mk ((by rw [hg]; exact Nat.ne_of_gt (blk_lt (g := gb772) (o := .cells #[.slice Ao22 x773000_1.length co22, .int .i64 x773001_1, .slice Ao23 x773002_1.length co23] 30 (0, 0)) (oK BK772)) : gb781 ≠ gb772)); clear HO_773000; clear HO_773002; clear HO775; clear HO779; clear BK763; clear BK764; clear BK772; clear HB; have HO_773000 := n0_; have HO_773002 := n1_; have HO775 := n2_; have HO779 := n3_; have BK763 := n4_; have BK764 := n5_; have BK772 := n6_; have HB := n7_; have BK781 := n8_; have GW781 := n9_; have GE781 := n10_; have NB763_781 := n11_; have NB781_763 := n12_; have NB764_781 := n13_; have NB781_764 := n14_; have NB772_781 := n15_; have NB781_772 := n16_; clear n0_ n1_ n2_ n3_ n4_ n5_ n6_ n7_ n8_ n9_ n10_ n11_ n12_ n13_ n14_ n15_ n16_; clear hb hbox hg; obtain ⟨Ao26, co26, eo26⟩ := Kd.R_slice HO775.out; subst eo26; have hnb27 := NB781_763.out; have hnc27 := NB763_781.out; have hnb28 := NB781_764.out; have hnc28 := NB764_781.out; have hnb29 := NB781_772.out; have hnc29 := NB772_781.out; have hcz30_0 : w25.cell? ⟨gb781, 0, none⟩ = some (.slice none 0 0) := (blk_cell BK781.out 0).trans rfl; have hcz30_1 : w25.cell? ⟨gb781, 1, none⟩ = some (.int .i64 0) := (blk_cell BK781.out 1).trans rfl; have hcz30_2 : w25.cell? ⟨gb781, 2, none⟩ = some (.slice none 0 0) := (blk_cell BK781.out 2).trans rfl; have hfz30_0 := blk_frozen BK781.out 0; have hfz30_1 := blk_frozen BK781.out 1; have hfz30_2 := blk_frozen BK781.out 2; obtain ⟨Ao31, co31, eo31⟩ := Kd.R_slice HO779.out; subst eo31; have hcz32_0 : w25.cell? ⟨gb772, 0, none⟩ = some (.slice Ao22 x773000_1.length co22) := (blk_cell BK772.out 0).trans rfl; have hcz32_1 : w25.cell? ⟨gb772, 1, none⟩ = some (.int .i64 x773001_1) := (blk_cell BK772.out 1).trans rfl; have hcz32_2 : w25.cell? ⟨gb772, 2, none⟩ = some (.slice Ao23 x773002_1.length co23) := (blk_cell BK772.out 2).trans rfl; have hfz32_0 := blk_frozen BK772.out 0; have hfz32_1 := blk_frozen BK772.out 1; have hfz32_2 := blk_frozen BK772.out 2))
          go_roundg k1
          case measure => have := HK1.out; omega
          case rel => exact ⟨(wrap64 (x6_1 + 1)), (t773), (t776), (t777), (.slice Ao26 t773.length co26), (.slice Ao31 t777.length co31), (by first | rfl | (simp; done) | (simp [*]; done)), H', ⟨by have := HK1.out; omega⟩, ⟨by (with_reducible repeat (first | apply Kd.R_alloc | apply Kd.R_drewN | apply Kd.R_drew)); exact Kd.R_mono (Kd.R_far (p := ⟨gb772, 2, none⟩) (Kd.R_far (p := ⟨gb772, 1, none⟩) (Kd.R_far (p := ⟨gb772, 0, none⟩) (Kd.R_far (p := ⟨gb781, 2, none⟩) (Kd.R_far (p := ⟨gb781, 1, none⟩) (Kd.R_far (p := ⟨gb781, 0, none⟩) (Kd.R_types (Kd.R_types HO775.out BK781.out (by decide)) BK772.out (by decide)) (fun _ hk => hk.1.2) (.slice Ao26 t773.length co26)) (fun _ hk => hk.1.2) (.int .i64 t776)) (fun _ hk => hk.1.2) (.slice Ao31 t777.length co31)) (fun _ hk => hk.2) (.slice Ao26 t773.length co26)) (fun _ hk => hk.2) (.int .i64 t776)) (fun _ hk => hk.2) (.slice Ao31 t777.length co31)) (fun _ hk => trivial)⟩, ⟨by (with_reducible repeat (first | apply Kd.R_alloc | apply Kd.R_drewN | apply Kd.R_drew)); exact Kd.R_mono (Kd.R_far (p := ⟨gb772, 2, none⟩) (Kd.R_far (p := ⟨gb772, 1, none⟩) (Kd.R_far (p := ⟨gb772, 0, none⟩) (Kd.R_far (p := ⟨gb781, 2, none⟩) (Kd.R_far (p := ⟨gb781, 1, none⟩) (Kd.R_far (p := ⟨gb781, 0, none⟩) (Kd.R_types (Kd.R_types HO779.out BK781.out (by decide)) BK772.out (by decide)) (fun _ hk => hk.1.2) (.slice Ao26 t773.length co26)) (fun _ hk => hk.1.2) (.int .i64 t776)) (fun _ hk => hk.1.2) (.slice Ao31 t777.length co31)) (fun _ hk => hk.2) (.slice Ao26 t773.length co26)) (fun _ hk => hk.2) (.int .i64 t776)) (fun _ hk => hk.2) (.slice Ao31 t777.length co31)) (fun _ hk => trivial)⟩, ⟨by (with_reducible repeat (first | refine blk_drewN ?_ _ | refine blk_drew ?_ | refine blk_alloc ?_ _)); refine blk_far ?_ NB763_772.out _; (with_reducible repeat (first | refine blk_drewN ?_ _ | refine blk_drew ?_ | refine blk_alloc ?_ _)); refine blk_far ?_ NB763_772.out _; (with_reducible repeat (first | refine blk_drewN ?_ _ | refine blk_drew ?_ | refine blk_alloc ?_ _)); refine blk_far ?_ NB763_772.out _; (with_reducible repeat (first | refine blk_drewN ?_ _ | refine blk_drew ?_ | refine blk_alloc ?_ _)); refine blk_far ?_ NB763_781.out _; (with_reducible repeat (first | refine blk_drewN ?_ _ | refine blk_drew ?_ | refine blk_alloc ?_ _)); refine blk_far ?_ NB763_781.out _; (with_reducible repeat (first | refine blk_drewN ?_ _ | refine blk_drew ?_ | refine blk_alloc ?_ _)); refine blk_far ?_ NB763_781.out _; (with_reducible repeat (first | refine blk_drewN ?_ _ | refine blk_drew ?_ | refine blk_alloc ?_ _)); exact BK763.out⟩, ⟨by (with_reducible repeat (first | refine blk_drewN ?_ _ | refine blk_drew ?_ | refine blk_alloc ?_ _)); refine blk_far ?_ NB764_772.out _; (with_reducible repeat (first | refine blk_drewN ?_ _ | refine blk_drew ?_ | refine blk_alloc ?_ _)); refine blk_far ?_ NB764_772.out _; (with_reducible repeat (first | refine blk_drewN ?_ _ | refine blk_drew ?_ | refine blk_alloc ?_ _)); refine blk_far ?_ NB764_772.out _; (with_reducible repeat (first | refine blk_drewN ?_ _ | refine blk_drew ?_ | refine blk_alloc ?_ _)); refine blk_far ?_ NB764_781.out _; (with_reducible repeat (first | refine blk_drewN ?_ _ | refine blk_drew ?_ | refine blk_alloc ?_ _)); refine blk_far ?_ NB764_781.out _; (with_reducible repeat (first | refine blk_drewN ?_ _ | refine blk_drew ?_ | refine blk_alloc ?_ _)); refine blk_far ?_ NB764_781.out _; (with_reducible repeat (first | refine blk_drewN ?_ _ | refine blk_drew ?_ | refine blk_alloc ?_ _)); exact BK764.out⟩, ⟨by (with_reducible repeat (first | refine blk_drewN ?_ _ | refine blk_drew ?_ | refine blk_alloc ?_ _)); refine blk_put (cs := #[.slice Ao26 t773.length co26, .int .i64 t776, .slice Ao23 x773002_1.length co23]) ?_ 2 _ rfl; (with_reducible repeat (first | refine blk_drewN ?_ _ | refine blk_drew ?_ | refine blk_alloc ?_ _)); refine blk_put (cs := #[.slice Ao26 t773.length co26, .int .i64 x773001_1, .slice Ao23 x773002_1.length co23]) ?_ 1 _ rfl; (with_reducible repeat (first | refine blk_drewN ?_ _ | refine blk_drew ?_ | refine blk_alloc ?_ _)); refine blk_put (cs := #[.slice Ao22 x773000_1.length co22, .int .i64 x773001_1, .slice Ao23 x773002_1.length co23]) ?_ 0 _ rfl; (with_reducible repeat (first | refine blk_drewN ?_ _ | refine blk_drew ?_ | refine blk_alloc ?_ _)); refine blk_far ?_ NB772_781.out _; (with_reducible repeat (first | refine blk_drewN ?_ _ | refine blk_drew ?_ | refine blk_alloc ?_ _)); refine blk_far ?_ NB772_781.out _; (with_reducible repeat (first | refine blk_drewN ?_ _ | refine blk_drew ?_ | refine blk_alloc ?_ _)); refine blk_far ?_ NB772_781.out _; (with_reducible repeat (first | refine blk_drewN ?_ _ | refine blk_drew ?_ | refine blk_alloc ?_ _)); exact BK772.out⟩, ⟨oB HB⟩⟩
        · replace c18 := Bool.eq_false_iff.mpr c18
          subst c18
          rw [if_neg (show ¬ (false = true) by decide)] at H
          simp only [Option.some.injEq, Prod.mk.injEq] at H
          obtain ⟨rfl, rfl, rfl⟩ := H
          have hnb33 := NB772_763.out
          have hnc33 := NB763_772.out
          have hnb34 := NB772_764.out
          have hnc34 := NB764_772.out
          have hcz35_0 : wr.cell? ⟨gb772, 0, none⟩ = some (u773000) := (blk_cell BK772.out 0).trans rfl
          have hcz35_1 : wr.cell? ⟨gb772, 1, none⟩ = some (.int .i64 x773001_1) := (blk_cell BK772.out 1).trans rfl
          have hcz35_2 : wr.cell? ⟨gb772, 2, none⟩ = some (u773002) := (blk_cell BK772.out 2).trans rfl
          have hfz35_0 := blk_frozen BK772.out 0
          have hfz35_1 := blk_frozen BK772.out 1
          have hfz35_2 := blk_frozen BK772.out 2
          obtain ⟨Ao36, co36, eo36⟩ := Kd.R_slice HO_773000.out
          subst eo36
          obtain ⟨Ao37, co37, eo37⟩ := Kd.R_slice HO_773002.out
          subst eo37
          go_wp2_with (first | ((with_reducible refine gate_callee (f := 40) rfl ?_); refine goesL_ (some 19) rfl rfl Try.func40 (by kernel_rfl) rfl #[.agg #[.slice Ao36 x773000_1.length co36, .int .i64 x773001_1, .slice Ao37 x773002_1.length co37]] rfl (by (try simp only [List.map_toArray, List.map_cons, List.map_nil]); first | done | rfl | (simp only [List.length_drop, List.length_take]; rfl)) ?_; (with_reducible refine (impl_WorkStep.calls k1 _ _ x773000_1 x773001_1 _ _ x773002_1 t773 t776 t777 false _ ?side1 ?side2 ?side3 ?side4 A17.out).mono ?_); (case side1 => repeat (first | exact (Kd.R_reads' HO_773000.out).2.2 | (with_reducible refine Kd.C_alloc ?_ _) | (with_reducible refine Kd.C_drewN ?_ _) | (with_reducible refine Kd.C_drew ?_))); (case side2 => exact (Kd.R_reads' HO_773000.out).2.1); (case side3 => repeat (first | exact (Kd.R_reads' HO_773002.out).2.2 | (with_reducible refine Kd.C_alloc ?_ _) | (with_reducible refine Kd.C_drewN ?_ _) | (with_reducible refine Kd.C_drew ?_))); (case side4 => exact (Kd.R_reads' HO_773002.out).2.1); rintro e w38 ⟨v774, v778, rfl, ho0, ho1, hb⟩; refine ⟨_, rfl, ?_⟩; have n0_ := Aside0.mk (Kd.R_elder' (oR HO_773000) (Kd.R_base ho0) hb); have n1_ := Aside0.mk (Kd.R_elder' (oR HO_773002) (Kd.R_base ho1) hb); have n2_ := Aside0.mk (Kd.R_lower (Kd.R_new' ho0 (Kd.R_lt (oR HO_773000))) (below_size (oB HB))); have n3_ := Aside0.mk (Kd.R_lower (Kd.R_new' ho1 (Kd.R_lt (oR HO_773002))) (below_size (oB HB))); have n4_ := Aside0.mk (blk_below (g := gb763) (o := .cells #[.slice A0_0 l0_0.length c0_0, .int .i64 a0_1, .slice A0_2 l0_2.length c0_2] 30 (0, 0)) (oK BK763) hb); have n5_ := Aside0.mk (blk_below (g := gb764) (o := .cells #[.slice none 0 0, .int .i64 0, .slice none 0 0] 30 (0, 0)) (oK BK764) hb); have n6_ := Aside0.mk (blk_below (g := gb772) (o := .cells #[.slice Ao36 x773000_1.length co36, .int .i64 x773001_1, .slice Ao37 x773002_1.length co37] 30 (0, 0)) (oK BK772) hb); have n7_ := Aside0.mk (below_step (oB HB) hb); clear HO_773000; clear HO_773002; clear BK763; clear BK764; clear BK772; clear HB; have HO_773000 := n0_; have HO_773002 := n1_; have HO775 := n2_; have HO779 := n3_; have BK763 := n4_; have BK764 := n5_; have BK772 := n6_; have HB := n7_; clear n0_ n1_ n2_ n3_ n4_ n5_ n6_ n7_; (try clear hb); (try clear hb2); (try clear hk); (try clear hi); (try clear ho0); (try clear ho1)) | ((with_reducible refine gate_dst (N := 7) rfl ?_); refine box_event ?hg (N := 7) ?hd (cs := #[.slice none 0 0, .int .i64 0, .slice none 0 0]) (t := 30) ?hr ?_; (case hd => rfl); (case hg => rfl); (case hr => first | (go_simp; done) | (go_simp; rfl)); intro gb781 hg w39 hbox hb; have n0_ := Aside0.mk (Kd.R_below (oR HO_773000) hb); have n1_ := Aside0.mk (Kd.R_below (oR HO_773002) hb); have n2_ := Aside0.mk (Kd.R_below (oR HO775) hb); have n3_ := Aside0.mk (Kd.R_below (oR HO779) hb); have n4_ := Aside0.mk (blk_below (g := gb763) (o := .cells #[.slice A0_0 l0_0.length c0_0, .int .i64 a0_1, .slice A0_2 l0_2.length c0_2] 30 (0, 0)) (oK BK763) hb); have n5_ := Aside0.mk (blk_below (g := gb764) (o := .cells #[.slice none 0 0, .int .i64 0, .slice none 0 0] 30 (0, 0)) (oK BK764) hb); have n6_ := Aside0.mk (blk_below (g := gb772) (o := .cells #[.slice Ao36 x773000_1.length co36, .int .i64 x773001_1, .slice Ao37 x773002_1.length co37] 30 (0, 0)) (oK BK772) hb); have n7_ := Aside0.mk (below_step (oB HB) hb); have n8_ := Aside0.mk (hbox); have n9_ := Aside0.mk ((by rw [hg]; exact (below_size (oB HB)) : w.heap.size ≤ gb781)); have n10_ := Aside0.mk ((by rw [hg]; exact (below_size (oB HB)) : w.heap.size ≤ gb781)); have n11_ := Aside0.mk ((by rw [hg]; exact Nat.ne_of_lt (blk_lt (g := gb763) (o := .cells #[.slice A0_0 l0_0.length c0_0, .int .i64 a0_1, .slice A0_2 l0_2.length c0_2] 30 (0, 0)) (oK BK763)) : gb763 ≠ gb781)); have n12_ := Aside0.mk ((by rw [hg]; exact Nat.ne_of_gt (blk_lt (g := gb763) (o := .cells #[.slice A0_0 l0_0.length c0_0, .int .i64 a0_1, .slice A0_2 l0_2.length c0_2] 30 (0, 0)) (oK BK763)) : gb781 ≠ gb763)); have n13_ := Aside0.mk ((by rw [hg]; exact Nat.ne_of_lt (blk_lt (g := gb764) (o := .cells #[.slice none 0 0, .int .i64 0, .slice none 0 0] 30 (0, 0)) (oK BK764)) : gb764 ≠ gb781)); have n14_ := Aside0.mk ((by rw [hg]; exact Nat.ne_of_gt (blk_lt (g := gb764) (o := .cells #[.slice none 0 0, .int .i64 0, .slice none 0 0] 30 (0, 0)) (oK BK764)) : gb781 ≠ gb764)); have n15_ := Aside0.mk ((by rw [hg]; exact Nat.ne_of_lt (blk_lt (g := gb772) (o := .cells #[.slice Ao36 x773000_1.length co36, .int .i64 x773001_1, .slice Ao37 x773002_1.length co37] 30 (0, 0)) (oK BK772)) : gb772 ≠ gb781)); have n16_ := Aside0.mk ((by rw [hg]; exact Nat.ne_of_gt (blk_lt (g := gb772) (o := .cells #[.slice Ao36 x773000_1.length co36, .int .i64 x773001_1, .slice Ao37 x773002_1.length co37] 30 (0, 0)) (oK BK772)) : gb781 ≠ gb772)); clear HO_773000; clear HO_773002; clear HO775; clear HO779; clear BK763; clear BK764; clear BK772; clear HB; have HO_773000 := n0_; have HO_773002 := n1_; have HO775 := n2_; have HO779 := n3_; have BK763 := n4_; have BK764 := n5_; have BK772 := n6_; have HB := n7_; have BK781 := n8_; have GW781 := n9_; have GE781 := n10_; have NB763_781 := n11_; have NB781_763 := n12_; have NB764_781 := n13_; have NB781_764 := n14_; have NB772_781 := n15_; have NB781_772 := n16_; clear n0_ n1_ n2_ n3_ n4_ n5_ n6_ n7_ n8_ n9_ n10_ n11_ n12_ n13_ n14_ n15_ n16_; clear hb hbox hg; obtain ⟨Ao40, co40, eo40⟩ := Kd.R_slice HO775.out; subst eo40; have hnb41 := NB781_763.out; have hnc41 := NB763_781.out; have hnb42 := NB781_764.out; have hnc42 := NB764_781.out; have hnb43 := NB781_772.out; have hnc43 := NB772_781.out; have hcz44_0 : w39.cell? ⟨gb781, 0, none⟩ = some (.slice none 0 0) := (blk_cell BK781.out 0).trans rfl; have hcz44_1 : w39.cell? ⟨gb781, 1, none⟩ = some (.int .i64 0) := (blk_cell BK781.out 1).trans rfl; have hcz44_2 : w39.cell? ⟨gb781, 2, none⟩ = some (.slice none 0 0) := (blk_cell BK781.out 2).trans rfl; have hfz44_0 := blk_frozen BK781.out 0; have hfz44_1 := blk_frozen BK781.out 1; have hfz44_2 := blk_frozen BK781.out 2; obtain ⟨Ao45, co45, eo45⟩ := Kd.R_slice HO779.out; subst eo45; have hcz46_0 : w39.cell? ⟨gb772, 0, none⟩ = some (.slice Ao36 x773000_1.length co36) := (blk_cell BK772.out 0).trans rfl; have hcz46_1 : w39.cell? ⟨gb772, 1, none⟩ = some (.int .i64 x773001_1) := (blk_cell BK772.out 1).trans rfl; have hcz46_2 : w39.cell? ⟨gb772, 2, none⟩ = some (.slice Ao37 x773002_1.length co37) := (blk_cell BK772.out 2).trans rfl; have hfz46_0 := blk_frozen BK772.out 0; have hfz46_1 := blk_frozen BK772.out 1; have hfz46_2 := blk_frozen BK772.out 2; have hnb47 := NB764_763.out; have hnc47 := NB763_764.out; have hcz48_0 : w39.cell? ⟨gb764, 0, none⟩ = some (.slice none 0 0) := (blk_cell BK764.out 0).trans rfl; have hcz48_1 : w39.cell? ⟨gb764, 1, none⟩ = some (.int .i64 0) := (blk_cell BK764.out 1).trans rfl; have hcz48_2 : w39.cell? ⟨gb764, 2, none⟩ = some (.slice none 0 0) := (blk_cell BK764.out 2).trans rfl; have hfz48_0 := blk_frozen BK764.out 0; have hfz48_1 := blk_frozen BK764.out 1; have hfz48_2 := blk_frozen BK764.out 2))
          refine bodyPost_ret (results_cell_row rfl _ _ gb764 30 #[.slice Ao36 x773000_1.length co36, .int .i64 x773001_1, .slice Ao37 x773002_1.length co37] (0, 0) _ rfl (by (with_reducible repeat (first | refine blk_drewN ?_ _ | refine blk_drew ?_ | refine blk_alloc ?_ _)); refine blk_put (cs := #[.slice Ao36 x773000_1.length co36, .int .i64 x773001_1, .slice none 0 0]) ?_ 2 _ rfl; (with_reducible repeat (first | refine blk_drewN ?_ _ | refine blk_drew ?_ | refine blk_alloc ?_ _)); refine blk_put (cs := #[.slice Ao36 x773000_1.length co36, .int .i64 0, .slice none 0 0]) ?_ 1 _ rfl; (with_reducible repeat (first | refine blk_drewN ?_ _ | refine blk_drew ?_ | refine blk_alloc ?_ _)); refine blk_put (cs := #[.slice none 0 0, .int .i64 0, .slice none 0 0]) ?_ 0 _ rfl; (with_reducible repeat (first | refine blk_drewN ?_ _ | refine blk_drew ?_ | refine blk_alloc ?_ _)); refine blk_far ?_ NB764_781.out _; (with_reducible repeat (first | refine blk_drewN ?_ _ | refine blk_drew ?_ | refine blk_alloc ?_ _)); refine blk_far ?_ NB764_781.out _; (with_reducible repeat (first | refine blk_drewN ?_ _ | refine blk_drew ?_ | refine blk_alloc ?_ _)); refine blk_far ?_ NB764_781.out _; (with_reducible repeat (first | refine blk_drewN ?_ _ | refine blk_drew ?_ | refine blk_alloc ?_ _)); exact BK764.out) Try.underlying30 rfl (by kernel_rfl)) rfl ?_
          exact ⟨_, _, by first | rfl | (simp [errW_none, errW_some] <;> rfl) | (simp only [← hji15]; first | rfl | (simp [errW_none, errW_some] <;> rfl)) | (simp [*, errW_none, errW_some] <;> rfl), by (with_reducible repeat (first | apply Kd.R_alloc | apply Kd.R_drewN | apply Kd.R_drew)); exact Kd.R_mono (Kd.R_far (p := ⟨gb764, 2, none⟩) (Kd.R_far (p := ⟨gb764, 1, none⟩) (Kd.R_far (p := ⟨gb764, 0, none⟩) (Kd.R_far (p := ⟨gb781, 2, none⟩) (Kd.R_far (p := ⟨gb781, 1, none⟩) (Kd.R_far (p := ⟨gb781, 0, none⟩) (Kd.R_types (Kd.R_types HO_773000.out BK781.out (by decide)) BK764.out (by decide)) (fun _ hk => hk.1.2) (.slice Ao40 t773.length co40)) (fun _ hk => hk.1.2) (.int .i64 t776)) (fun _ hk => hk.1.2) (.slice Ao45 t777.length co45)) (fun _ hk => hk.2) (.slice Ao36 x773000_1.length co36)) (fun _ hk => hk.2) (.int .i64 x773001_1)) (fun _ hk => hk.2) (.slice Ao37 x773002_1.length co37)) (fun _ hk => trivial), by (with_reducible repeat (first | apply Kd.R_alloc | apply Kd.R_drewN | apply Kd.R_drew)); exact Kd.R_mono (Kd.R_far (p := ⟨gb764, 2, none⟩) (Kd.R_far (p := ⟨gb764, 1, none⟩) (Kd.R_far (p := ⟨gb764, 0, none⟩) (Kd.R_far (p := ⟨gb781, 2, none⟩) (Kd.R_far (p := ⟨gb781, 1, none⟩) (Kd.R_far (p := ⟨gb781, 0, none⟩) (Kd.R_types (Kd.R_types HO_773002.out BK781.out (by decide)) BK764.out (by decide)) (fun _ hk => hk.1.2) (.slice Ao40 t773.length co40)) (fun _ hk => hk.1.2) (.int .i64 t776)) (fun _ hk => hk.1.2) (.slice Ao45 t777.length co45)) (fun _ hk => hk.2) (.slice Ao36 x773000_1.length co36)) (fun _ hk => hk.2) (.int .i64 x773001_1)) (fun _ hk => hk.2) (.slice Ao37 x773002_1.length co37)) (fun _ hk => trivial), oB HB⟩
      · rw [if_neg c16] at H
        have c16b0 : decide (x6_1 < (ji15)) = false := decide_eq_false c16
        clear c16
        simp only [Option.some.injEq, Prod.mk.injEq] at H
        obtain ⟨rfl, rfl, rfl⟩ := H
        have hnb49 := NB772_763.out
        have hnc49 := NB763_772.out
        have hnb50 := NB772_764.out
        have hnc50 := NB764_772.out
        have hcz51_0 : wr.cell? ⟨gb772, 0, none⟩ = some (u773000) := (blk_cell BK772.out 0).trans rfl
        have hcz51_1 : wr.cell? ⟨gb772, 1, none⟩ = some (.int .i64 x773001_1) := (blk_cell BK772.out 1).trans rfl
        have hcz51_2 : wr.cell? ⟨gb772, 2, none⟩ = some (u773002) := (blk_cell BK772.out 2).trans rfl
        have hfz51_0 := blk_frozen BK772.out 0
        have hfz51_1 := blk_frozen BK772.out 1
        have hfz51_2 := blk_frozen BK772.out 2
        obtain ⟨Ao52, co52, eo52⟩ := Kd.R_slice HO_773000.out
        subst eo52
        have hnb53 := NB764_763.out
        have hnc53 := NB763_764.out
        have hcz54_0 : wr.cell? ⟨gb764, 0, none⟩ = some (.slice none 0 0) := (blk_cell BK764.out 0).trans rfl
        have hcz54_1 : wr.cell? ⟨gb764, 1, none⟩ = some (.int .i64 0) := (blk_cell BK764.out 1).trans rfl
        have hcz54_2 : wr.cell? ⟨gb764, 2, none⟩ = some (.slice none 0 0) := (blk_cell BK764.out 2).trans rfl
        have hfz54_0 := blk_frozen BK764.out 0
        have hfz54_1 := blk_frozen BK764.out 1
        have hfz54_2 := blk_frozen BK764.out 2
        obtain ⟨Ao55, co55, eo55⟩ := Kd.R_slice HO_773002.out
        subst eo55
        go_wp2
        refine bodyPost_ret (results_cell_row rfl _ _ gb764 30 #[.slice Ao52 x773000_1.length co52, .int .i64 x773001_1, .slice Ao55 x773002_1.length co55] (0, 0) _ rfl (by (with_reducible repeat (first | refine blk_drewN ?_ _ | refine blk_drew ?_ | refine blk_alloc ?_ _)); refine blk_put (cs := #[.slice Ao52 x773000_1.length co52, .int .i64 x773001_1, .slice none 0 0]) ?_ 2 _ rfl; (with_reducible repeat (first | refine blk_drewN ?_ _ | refine blk_drew ?_ | refine blk_alloc ?_ _)); refine blk_put (cs := #[.slice Ao52 x773000_1.length co52, .int .i64 0, .slice none 0 0]) ?_ 1 _ rfl; (with_reducible repeat (first | refine blk_drewN ?_ _ | refine blk_drew ?_ | refine blk_alloc ?_ _)); refine blk_put (cs := #[.slice none 0 0, .int .i64 0, .slice none 0 0]) ?_ 0 _ rfl; (with_reducible repeat (first | refine blk_drewN ?_ _ | refine blk_drew ?_ | refine blk_alloc ?_ _)); exact BK764.out) Try.underlying30 rfl (by kernel_rfl)) rfl ?_
        exact ⟨_, _, by first | rfl | (simp [errW_none, errW_some] <;> rfl) | (simp only [← hji15]; first | rfl | (simp [errW_none, errW_some] <;> rfl)) | (simp [*, errW_none, errW_some] <;> rfl), by (with_reducible repeat (first | apply Kd.R_alloc | apply Kd.R_drewN | apply Kd.R_drew)); exact Kd.R_mono (Kd.R_far (p := ⟨gb764, 2, none⟩) (Kd.R_far (p := ⟨gb764, 1, none⟩) (Kd.R_far (p := ⟨gb764, 0, none⟩) (Kd.R_types HO_773000.out BK764.out (by decide)) (fun _ hk => hk.2) (.slice Ao52 x773000_1.length co52)) (fun _ hk => hk.2) (.int .i64 x773001_1)) (fun _ hk => hk.2) (.slice Ao55 x773002_1.length co55)) (fun _ hk => trivial), by (with_reducible repeat (first | apply Kd.R_alloc | apply Kd.R_drewN | apply Kd.R_drew)); exact Kd.R_mono (Kd.R_far (p := ⟨gb764, 2, none⟩) (Kd.R_far (p := ⟨gb764, 1, none⟩) (Kd.R_far (p := ⟨gb764, 0, none⟩) (Kd.R_types HO_773002.out BK764.out (by decide)) (fun _ hk => hk.2) (.slice Ao52 x773000_1.length co52)) (fun _ hk => hk.2) (.int .i64 x773001_1)) (fun _ hk => hk.2) (.slice Ao55 x773002_1.length co55)) (fun _ hk => trivial), oB HB⟩
end Go.Proofs.Ytlhlmjklajdejaa.P


namespace Go.Proofs.Ytlhlmjklajdejaa.P
open Go.RowKit Go.Proofs.YtlhlmjklajdejaaW.PrintWords Go.Proofs.YtlhlmjklajdejaaW.PrintLast Go.Proofs.YtlhlmjklajdejaaW.PrintMore
attribute [local go_sem] max2_int min2_int max_two min_two max_three min_three max_four min_four
set_option linter.unusedVariables false
set_option linter.unusedSimpArgs false
def laws_FnExactWorkSteps.j0 : Nat → Int → Bool → List (S70) → Int → List Int → List (S67) → Int → List Int → List (S67) → Int → List Int → Option (Bool)
  | 0, _, _, _, _, _, _, _, _, _, _, _ => none
  | k + 1, x1, x46, x783000, x783001, x783002, x799000, x799001, x799002, x815000, x815001, x815002 => if x46 = true then (some false) else ((laws_markWork.f k x815000 x815001 x815002 1).bind fun bt828 => ((laws_heldWork.f k bt828.2.1 x815001 bt828.2.2 1).bind fun t831 => (if t831 < 0 then (some false) else (if t831 = bt828.1 then ((laws_toWork.f k x783000 x783001 x783002).bind fun bt832 => ((impl_WorkSteps.f k bt832.1 bt832.2.1 bt832.2.2 x1).bind fun bt839 => ((laws_eqWork.f k bt839.1 bt839.2.1 bt839.2.2 x799000 x799001 x799002).bind fun t847 => (if t847 = true then ((laws_heldWork.f k bt828.2.1 x815001 bt828.2.2 1).bind fun t848 => (if t848 < 0 then (some false) else (if t848 = bt828.1 then (some true) else (some false)))) else (some false))))) else (some false)))))
def laws_FnExactWorkSteps.f (k : Nat) (l0_0 : List (S70)) (a0_1 : Int) (l0_2 : List Int) (a1 : Int) : Option (Bool) := (laws_szWork.f l0_0 a0_1 l0_2 1048576).bind fun t783 => (if t783 < 0 then (some true) else ((laws_toWork.f k l0_0 a0_1 l0_2).bind fun bt784 => ((spec_WorkSteps.f k bt784.1 bt784.2.1 bt784.2.2 a1).bind fun bt791 => ((laws_toWork.f k l0_0 a0_1 l0_2).bind fun bt799 => ((impl_WorkSteps.f k bt799.1 bt799.2.1 bt799.2.2 a1).bind fun bt807 => ((laws_eqWork.f k bt807.1 bt807.2.1 bt807.2.2 bt791.1 bt791.2.1 bt791.2.2).bind fun t815 => (if t815 = true then ((laws_toWork.f k l0_0 a0_1 l0_2).bind fun bt816 => ((laws_eqWork.f k bt799.1 bt799.2.1 bt799.2.2 bt816.1 bt816.2.1 bt816.2.2).bind fun t823 => (if t823 = true then ((laws_markWork.f k bt799.1 bt799.2.1 bt799.2.2 1).bind fun bt824 => (if bt824.1 < 0 then (laws_FnExactWorkSteps.j0 k a1 true l0_0 a0_1 l0_2 bt791.1 bt791.2.1 bt791.2.2 bt807.1 bt807.2.1 bt807.2.2) else ((laws_eqWork.f k bt807.1 bt807.2.1 bt807.2.2 bt791.1 bt791.2.1 bt791.2.2).bind fun t827 => (laws_FnExactWorkSteps.j0 k a1 (!t827) l0_0 a0_1 l0_2 bt791.1 bt791.2.1 bt791.2.2 bt807.1 bt807.2.1 bt807.2.2)))) else (some false)))) else (some false))))))))
set_option maxHeartbeats 8000000 in
set_option maxRecDepth 100000 in
theorem laws_FnExactWorkSteps.calls (k : Nat) (A0_0 : Option Addr) (c0_0 : Nat) (l0_0 : List (S70)) (a0_1 : Int) (A0_2 : Option Addr) (c0_2 : Nat) (l0_2 : List Int) (a1 : Int) (r : Bool) (w : World) (hr0_0 : Kd.C k70 w A0_0 l0_0.length l0_0) (hc0_0 : l0_0.length ≤ c0_0) (hr0_2 : Kd.C (Kd.int .i64) w A0_2 l0_2.length l0_2) (hc0_2 : l0_2.length ≤ c0_2) (h : laws_FnExactWorkSteps.f k l0_0 a0_1 l0_2 a1 = some r) (hrt_ : Aside0 (r = true)) :
    Calls Try.prog 10 #[.agg #[.slice A0_0 l0_0.length c0_0, .int .i64 a0_1, .slice A0_2 l0_2.length c0_2], .int .i64 a1] w fun e w' => e = .returned (.bool r) ∧ Below w.heap.size w w' := by
  have hu25 := Try.underlying25
  have hu30 := Try.underlying30
  have HR0_0 := Aside0.mk hr0_0
  have HC0_0 := Aside0.mk hc0_0
  clear hr0_0 hc0_0
  have HR0_2 := Aside0.mk hr0_2
  have HC0_2 := Aside0.mk hc0_2
  clear hr0_2 hc0_2
  have HB := Aside0.mk (Below.refl w.heap.size w)
  have H : ((laws_szWork.f l0_0 a0_1 l0_2 1048576).bind fun t783 => (if t783 < 0 then (some true) else ((laws_toWork.f k l0_0 a0_1 l0_2).bind fun bt784 => ((spec_WorkSteps.f k bt784.1 bt784.2.1 bt784.2.2 a1).bind fun bt791 => ((laws_toWork.f k l0_0 a0_1 l0_2).bind fun bt799 => ((impl_WorkSteps.f k bt799.1 bt799.2.1 bt799.2.2 a1).bind fun bt807 => ((laws_eqWork.f k bt807.1 bt807.2.1 bt807.2.2 bt791.1 bt791.2.1 bt791.2.2).bind fun t815 => (if t815 = true then ((laws_toWork.f k l0_0 a0_1 l0_2).bind fun bt816 => ((laws_eqWork.f k bt799.1 bt799.2.1 bt799.2.2 bt816.1 bt816.2.1 bt816.2.2).bind fun t823 => (if t823 = true then ((laws_markWork.f k bt799.1 bt799.2.1 bt799.2.2 1).bind fun bt824 => (if bt824.1 < 0 then (laws_FnExactWorkSteps.j0 k a1 true l0_0 a0_1 l0_2 bt791.1 bt791.2.1 bt791.2.2 bt807.1 bt807.2.1 bt807.2.2) else ((laws_eqWork.f k bt807.1 bt807.2.1 bt807.2.2 bt791.1 bt791.2.1 bt791.2.2).bind fun t827 => (laws_FnExactWorkSteps.j0 k a1 (!t827) l0_0 a0_1 l0_2 bt791.1 bt791.2.1 bt791.2.2 bt807.1 bt807.2.1 bt807.2.2)))) else (some false)))) else (some false))))))))) = some r := h
  clear h
  replace H := Option.bind_eq_some_iff.mp H
  obtain ⟨t783, A30, H⟩ := H
  (try dsimp only at H)
  have A3 := Aside0.mk A30
  clear A30
  by_cases c4 : t783 < 0
  · rw [if_pos c4] at H
    have c4b0 : decide (t783 < 0) = true := decide_eq_true c4
    clear c4
    obtain rfl := Option.some.inj H
    go_enter Try.func10, Try.ntmps10
    go_wp2_with (first | ((with_reducible refine gate_dst (N := 2) rfl ?_); refine box_event ?hg (N := 2) ?hd (cs := #[.slice A0_0 l0_0.length c0_0, .int .i64 a0_1, .slice A0_2 l0_2.length c0_2]) (t := 25) ?hr ?_; (case hd => rfl); (case hg => rfl); (case hr => first | (go_simp; done) | (go_simp; rfl)); intro gb782 hg w5 hbox hb; have n0_ := Aside0.mk (below_step (oB HB) hb); have n1_ := Aside0.mk (hbox); have n2_ := Aside0.mk ((by rw [hg]; exact (below_size (oB HB)) : w.heap.size ≤ gb782)); have n3_ := Aside0.mk ((by rw [hg]; exact (below_size (oB HB)) : w.heap.size ≤ gb782)); clear HB; have HB := n0_; have BK782 := n1_; have GW782 := n2_; have GE782 := n3_; clear n0_ n1_ n2_ n3_; clear hb hbox hg; have hcz6_0 : w5.cell? ⟨gb782, 0, none⟩ = some (.slice A0_0 l0_0.length c0_0) := (blk_cell BK782.out 0).trans rfl; have hcz6_1 : w5.cell? ⟨gb782, 1, none⟩ = some (.int .i64 a0_1) := (blk_cell BK782.out 1).trans rfl; have hcz6_2 : w5.cell? ⟨gb782, 2, none⟩ = some (.slice A0_2 l0_2.length c0_2) := (blk_cell BK782.out 2).trans rfl; have hfz6_0 := blk_frozen BK782.out 0; have hfz6_1 := blk_frozen BK782.out 1; have hfz6_2 := blk_frozen BK782.out 2) | ((with_reducible refine gate_callee (f := 15) rfl ?_); refine goesL_ (some 15) rfl rfl Try.func15 (by kernel_rfl) rfl #[.agg #[.slice A0_0 l0_0.length c0_0, .int .i64 a0_1, .slice A0_2 l0_2.length c0_2], .int .i64 1048576] rfl (by (try simp only [List.map_toArray, List.map_cons, List.map_nil]); first | done | rfl | (simp only [List.length_drop, List.length_take]; rfl)) ?_; (with_reducible refine (laws_szWork.calls _ _ l0_0 a0_1 _ _ l0_2 1048576 t783 _ ?side1 ?side2 ?side3 ?side4 A3.out).mono ?_); (case side1 => exact oc_ HR0_0.out); (case side2 => exact HC0_0.out); (case side3 => exact oc_ HR0_2.out); (case side4 => exact HC0_2.out); rintro e w7 ⟨rfl, hb⟩; refine ⟨_, rfl, ?_⟩; have n0_ := Aside0.mk (blk_below (g := gb782) (o := .cells #[.slice A0_0 l0_0.length c0_0, .int .i64 a0_1, .slice A0_2 l0_2.length c0_2] 25 (0, 0)) (oK BK782) hb); have n1_ := Aside0.mk (below_step (oB HB) hb); clear BK782; clear HB; have BK782 := n0_; have HB := n1_; clear n0_ n1_; (try clear hb); (try clear hb2); (try clear hk); (try clear hi)))
    go_ret
    exact ⟨by first | rfl | (simp [errW_none, errW_some] <;> rfl) | (simp [*, errW_none, errW_some] <;> rfl), oB HB⟩
  · rw [if_neg c4] at H
    have c4b0 : decide (t783 < 0) = false := decide_eq_false c4
    clear c4
    replace H := Option.bind_eq_some_iff.mp H
    obtain ⟨⟨t784, t787, t788⟩, A80, H⟩ := H
    (try dsimp only at H)
    have A8 := Aside0.mk A80
    clear A80
    replace H := Option.bind_eq_some_iff.mp H
    obtain ⟨⟨t791, t794, t795⟩, A90, H⟩ := H
    (try dsimp only at H)
    have A9 := Aside0.mk A90
    clear A90
    replace H := Option.bind_eq_some_iff.mp H
    obtain ⟨⟨t799, t802, t803⟩, A100, H⟩ := H
    (try dsimp only at H)
    have A10 := Aside0.mk A100
    clear A100
    replace H := Option.bind_eq_some_iff.mp H
    obtain ⟨⟨t807, t810, t811⟩, A110, H⟩ := H
    (try dsimp only at H)
    have A11 := Aside0.mk A110
    clear A110
    replace H := Option.bind_eq_some_iff.mp H
    obtain ⟨t815, A120, H⟩ := H
    (try dsimp only at H)
    have A12 := Aside0.mk A120
    clear A120
    by_cases c13 : t815 = true
    · subst c13
      rw [if_pos rfl] at H
      replace H := Option.bind_eq_some_iff.mp H
      obtain ⟨⟨t816, t819, t820⟩, A140, H⟩ := H
      (try dsimp only at H)
      have A14 := Aside0.mk A140
      clear A140
      replace H := Option.bind_eq_some_iff.mp H
      obtain ⟨t823, A150, H⟩ := H
      (try dsimp only at H)
      have A15 := Aside0.mk A150
      clear A150
      by_cases c16 : t823 = true
      · subst c16
        rw [if_pos rfl] at H
        replace H := Option.bind_eq_some_iff.mp H
        obtain ⟨⟨t824, t825, t826⟩, A170, H⟩ := H
        (try dsimp only at H)
        have A17 := Aside0.mk A170
        clear A170
        have HC18 := Aside0.mk H
        clear H
        go_enter Try.func10, Try.ntmps10
        try go_wp2_with (first | ((with_reducible refine gate_dst (N := 2) rfl ?_); refine box_event ?hg (N := 2) ?hd (cs := #[.slice A0_0 l0_0.length c0_0, .int .i64 a0_1, .slice A0_2 l0_2.length c0_2]) (t := 25) ?hr ?_; (case hd => rfl); (case hg => rfl); (case hr => first | (go_simp; done) | (go_simp; rfl)); intro gb782 hg w19 hbox hb; have n0_ := Aside0.mk (below_step (oB HB) hb); have n1_ := Aside0.mk (hbox); have n2_ := Aside0.mk ((by rw [hg]; exact (below_size (oB HB)) : w.heap.size ≤ gb782)); have n3_ := Aside0.mk ((by rw [hg]; exact (below_size (oB HB)) : w.heap.size ≤ gb782)); clear HB; have HB := n0_; have BK782 := n1_; have GW782 := n2_; have GE782 := n3_; clear n0_ n1_ n2_ n3_; clear hb hbox hg; have hcz20_0 : w19.cell? ⟨gb782, 0, none⟩ = some (.slice A0_0 l0_0.length c0_0) := (blk_cell BK782.out 0).trans rfl; have hcz20_1 : w19.cell? ⟨gb782, 1, none⟩ = some (.int .i64 a0_1) := (blk_cell BK782.out 1).trans rfl; have hcz20_2 : w19.cell? ⟨gb782, 2, none⟩ = some (.slice A0_2 l0_2.length c0_2) := (blk_cell BK782.out 2).trans rfl; have hfz20_0 := blk_frozen BK782.out 0; have hfz20_1 := blk_frozen BK782.out 1; have hfz20_2 := blk_frozen BK782.out 2) | ((with_reducible refine gate_callee (f := 15) rfl ?_); refine goesL_ (some 15) rfl rfl Try.func15 (by kernel_rfl) rfl #[.agg #[.slice A0_0 l0_0.length c0_0, .int .i64 a0_1, .slice A0_2 l0_2.length c0_2], .int .i64 1048576] rfl (by (try simp only [List.map_toArray, List.map_cons, List.map_nil]); first | done | rfl | (simp only [List.length_drop, List.length_take]; rfl)) ?_; (with_reducible refine (laws_szWork.calls _ _ l0_0 a0_1 _ _ l0_2 1048576 t783 _ ?side1 ?side2 ?side3 ?side4 A3.out).mono ?_); (case side1 => exact oc_ HR0_0.out); (case side2 => exact HC0_0.out); (case side3 => exact oc_ HR0_2.out); (case side4 => exact HC0_2.out); rintro e w21 ⟨rfl, hb⟩; refine ⟨_, rfl, ?_⟩; have n0_ := Aside0.mk (blk_below (g := gb782) (o := .cells #[.slice A0_0 l0_0.length c0_0, .int .i64 a0_1, .slice A0_2 l0_2.length c0_2] 25 (0, 0)) (oK BK782) hb); have n1_ := Aside0.mk (below_step (oB HB) hb); clear BK782; clear HB; have BK782 := n0_; have HB := n1_; clear n0_ n1_; (try clear hb); (try clear hb2); (try clear hk); (try clear hi); have hcz22_0 : w21.cell? ⟨gb782, 0, none⟩ = some (.slice A0_0 l0_0.length c0_0) := (blk_cell BK782.out 0).trans rfl; have hcz22_1 : w21.cell? ⟨gb782, 1, none⟩ = some (.int .i64 a0_1) := (blk_cell BK782.out 1).trans rfl; have hcz22_2 : w21.cell? ⟨gb782, 2, none⟩ = some (.slice A0_2 l0_2.length c0_2) := (blk_cell BK782.out 2).trans rfl; have hfz22_0 := blk_frozen BK782.out 0; have hfz22_1 := blk_frozen BK782.out 1; have hfz22_2 := blk_frozen BK782.out 2) | ((with_reducible refine gate_callee (f := 17) rfl ?_); refine goesL_ (some 19) rfl rfl Try.func17 (by kernel_rfl) rfl #[.agg #[.slice A0_0 l0_0.length c0_0, .int .i64 a0_1, .slice A0_2 l0_2.length c0_2]] rfl (by (try simp only [List.map_toArray, List.map_cons, List.map_nil]); first | done | rfl | (simp only [List.length_drop, List.length_take]; rfl)) ?_; (with_reducible refine (laws_toWork.calls k _ _ l0_0 a0_1 _ _ l0_2 t784 t787 t788 _ ?side1 ?side2 ?side3 ?side4 A8.out).mono ?_); (case side1 => exact oc_ HR0_0.out); (case side2 => exact HC0_0.out); (case side3 => exact oc_ HR0_2.out); (case side4 => exact HC0_2.out); rintro e w23 ⟨v785, v789, rfl, ho0, ho1, hb⟩; refine ⟨_, rfl, ?_⟩; have n0_ := Aside0.mk (Kd.R_lower ho0 (below_size (oB HB))); have n1_ := Aside0.mk (Kd.R_lower ho1 (below_size (oB HB))); have n2_ := Aside0.mk (blk_below (g := gb782) (o := .cells #[.slice A0_0 l0_0.length c0_0, .int .i64 a0_1, .slice A0_2 l0_2.length c0_2] 25 (0, 0)) (oK BK782) hb); have n3_ := Aside0.mk (below_step (oB HB) hb); clear BK782; clear HB; have HO786 := n0_; have HO790 := n1_; have BK782 := n2_; have HB := n3_; clear n0_ n1_ n2_ n3_; (try clear hb); (try clear hb2); (try clear hk); (try clear hi); (try clear ho0); (try clear ho1); obtain ⟨Ao24, co24, eo24⟩ := Kd.R_slice HO786.out; subst eo24; obtain ⟨Ao25, co25, eo25⟩ := Kd.R_slice HO790.out; subst eo25) | ((with_reducible refine gate_callee (f := 41) rfl ?_); refine goesL_ (some 21) rfl rfl Try.func41 (by kernel_rfl) rfl #[.agg #[.slice Ao24 t784.length co24, .int .i64 t787, .slice Ao25 t788.length co25], .int .i64 a1] rfl (by (try simp only [List.map_toArray, List.map_cons, List.map_nil]); first | done | rfl | (simp only [List.length_drop, List.length_take]; rfl)) ?_; (with_reducible refine (spec_WorkSteps.calls k _ _ t784 t787 _ _ t788 a1 t791 t794 t795 _ ?side1 ?side2 ?side3 ?side4 A9.out).mono ?_); (case side1 => repeat (first | exact (Kd.R_reads' HO786.out).2.2 | (with_reducible refine Kd.C_alloc ?_ _) | (with_reducible refine Kd.C_drewN ?_ _) | (with_reducible refine Kd.C_drew ?_))); (case side2 => exact (Kd.R_reads' HO786.out).2.1); (case side3 => repeat (first | exact (Kd.R_reads' HO790.out).2.2 | (with_reducible refine Kd.C_alloc ?_ _) | (with_reducible refine Kd.C_drewN ?_ _) | (with_reducible refine Kd.C_drew ?_))); (case side4 => exact (Kd.R_reads' HO790.out).2.1); rintro e w26 ⟨v792, v796, rfl, ho0, ho1, hb⟩; refine ⟨_, rfl, ?_⟩; have n0_ := Aside0.mk (Kd.R_elder' (oR HO786) (Kd.R_base ho0) hb); have n1_ := Aside0.mk (Kd.R_elder' (oR HO790) (Kd.R_base ho1) hb); have n2_ := Aside0.mk (Kd.R_lower (Kd.R_new' ho0 (Kd.R_lt (oR HO786))) (below_size (oB HB))); have n3_ := Aside0.mk (Kd.R_lower (Kd.R_new' ho1 (Kd.R_lt (oR HO790))) (below_size (oB HB))); have n4_ := Aside0.mk (blk_below (g := gb782) (o := .cells #[.slice A0_0 l0_0.length c0_0, .int .i64 a0_1, .slice A0_2 l0_2.length c0_2] 25 (0, 0)) (oK BK782) hb); have n5_ := Aside0.mk (below_step (oB HB) hb); clear HO786; clear HO790; clear BK782; clear HB; have HO786 := n0_; have HO790 := n1_; have HO793 := n2_; have HO797 := n3_; have BK782 := n4_; have HB := n5_; clear n0_ n1_ n2_ n3_ n4_ n5_; (try clear hb); (try clear hb2); (try clear hk); (try clear hi); (try clear ho0); (try clear ho1)) | ((with_reducible refine gate_dst (N := 6) rfl ?_); refine box_event ?hg (N := 6) ?hd (cs := #[.slice none 0 0, .int .i64 0, .slice none 0 0]) (t := 30) ?hr ?_; (case hd => rfl); (case hg => rfl); (case hr => first | (go_simp; done) | (go_simp; rfl)); intro gb798 hg w27 hbox hb; have n0_ := Aside0.mk (Kd.R_below (oR HO786) hb); have n1_ := Aside0.mk (Kd.R_below (oR HO790) hb); have n2_ := Aside0.mk (Kd.R_below (oR HO793) hb); have n3_ := Aside0.mk (Kd.R_below (oR HO797) hb); have n4_ := Aside0.mk (blk_below (g := gb782) (o := .cells #[.slice A0_0 l0_0.length c0_0, .int .i64 a0_1, .slice A0_2 l0_2.length c0_2] 25 (0, 0)) (oK BK782) hb); have n5_ := Aside0.mk (below_step (oB HB) hb); have n6_ := Aside0.mk (hbox); have n7_ := Aside0.mk ((by rw [hg]; exact (below_size (oB HB)) : w.heap.size ≤ gb798)); have n8_ := Aside0.mk ((by rw [hg]; exact (below_size (oB HB)) : w.heap.size ≤ gb798)); have n9_ := Aside0.mk ((by rw [hg]; exact Nat.ne_of_lt (blk_lt (g := gb782) (o := .cells #[.slice A0_0 l0_0.length c0_0, .int .i64 a0_1, .slice A0_2 l0_2.length c0_2] 25 (0, 0)) (oK BK782)) : gb782 ≠ gb798)); have n10_ := Aside0.mk ((by rw [hg]; exact Nat.ne_of_gt (blk_lt (g := gb782) (o := .cells #[.slice A0_0 l0_0.length c0_0, .int .i64 a0_1, .slice A0_2 l0_2.length c0_2] 25 (0, 0)) (oK BK782)) : gb798 ≠ gb782)); clear HO786; clear HO790; clear HO793; clear HO797; clear BK782; clear HB; have HO786 := n0_; have HO790 := n1_; have HO793 := n2_; have HO797 := n3_; have BK782 := n4_; have HB := n5_; have BK798 := n6_; have GW798 := n7_; have GE798 := n8_; have NB782_798 := n9_; have NB798_782 := n10_; clear n0_ n1_ n2_ n3_ n4_ n5_ n6_ n7_ n8_ n9_ n10_; clear hb hbox hg; obtain ⟨Ao28, co28, eo28⟩ := Kd.R_slice HO793.out; subst eo28; have hnb29 := NB798_782.out; have hnc29 := NB782_798.out; have hcz30_0 : w27.cell? ⟨gb798, 0, none⟩ = some (.slice none 0 0) := (blk_cell BK798.out 0).trans rfl; have hcz30_1 : w27.cell? ⟨gb798, 1, none⟩ = some (.int .i64 0) := (blk_cell BK798.out 1).trans rfl; have hcz30_2 : w27.cell? ⟨gb798, 2, none⟩ = some (.slice none 0 0) := (blk_cell BK798.out 2).trans rfl; have hfz30_0 := blk_frozen BK798.out 0; have hfz30_1 := blk_frozen BK798.out 1; have hfz30_2 := blk_frozen BK798.out 2; obtain ⟨Ao31, co31, eo31⟩ := Kd.R_slice HO797.out; subst eo31; have hcz32_0 : w27.cell? ⟨gb782, 0, none⟩ = some (.slice A0_0 l0_0.length c0_0) := (blk_cell BK782.out 0).trans rfl; have hcz32_1 : w27.cell? ⟨gb782, 1, none⟩ = some (.int .i64 a0_1) := (blk_cell BK782.out 1).trans rfl; have hcz32_2 : w27.cell? ⟨gb782, 2, none⟩ = some (.slice A0_2 l0_2.length c0_2) := (blk_cell BK782.out 2).trans rfl; have hfz32_0 := blk_frozen BK782.out 0; have hfz32_1 := blk_frozen BK782.out 1; have hfz32_2 := blk_frozen BK782.out 2) | ((with_reducible refine gate_callee (f := 17) rfl ?_); refine goesL_ (some 23) rfl rfl Try.func17 (by kernel_rfl) rfl #[.agg #[.slice A0_0 l0_0.length c0_0, .int .i64 a0_1, .slice A0_2 l0_2.length c0_2]] rfl (by (try simp only [List.map_toArray, List.map_cons, List.map_nil]); first | done | rfl | (simp only [List.length_drop, List.length_take]; rfl)) ?_; (with_reducible refine (laws_toWork.calls k _ _ l0_0 a0_1 _ _ l0_2 t799 t802 t803 _ ?side1 ?side2 ?side3 ?side4 A10.out).mono ?_); (case side1 => exact Kd.C_below HR0_0.out (oB HB)); (case side2 => exact HC0_0.out); (case side3 => exact Kd.C_below HR0_2.out (oB HB)); (case side4 => exact HC0_2.out); rintro e w33 ⟨v800, v804, rfl, ho0, ho1, hb⟩; refine ⟨_, rfl, ?_⟩; have n0_ := Aside0.mk (Kd.R_elder' (by (with_reducible repeat (first | apply Kd.R_alloc | apply Kd.R_drewN | apply Kd.R_drew)); exact (Kd.R_mono (Kd.R_far (p := ⟨gb798, 2, none⟩) (Kd.R_far (p := ⟨gb798, 1, none⟩) (Kd.R_far (p := ⟨gb798, 0, none⟩) (Kd.R_types HO786.out BK798.out (by decide)) (fun _ hk => hk.2) (.slice Ao28 t791.length co28)) (fun _ hk => hk.2) (.int .i64 t794)) (fun _ hk => hk.2) (.slice Ao31 t795.length co31)) (fun _ h_ => h_.1))) (Kd.R_base ho0) hb); have n1_ := Aside0.mk (Kd.R_elder' (by (with_reducible repeat (first | apply Kd.R_alloc | apply Kd.R_drewN | apply Kd.R_drew)); exact (Kd.R_mono (Kd.R_far (p := ⟨gb798, 2, none⟩) (Kd.R_far (p := ⟨gb798, 1, none⟩) (Kd.R_far (p := ⟨gb798, 0, none⟩) (Kd.R_types HO790.out BK798.out (by decide)) (fun _ hk => hk.2) (.slice Ao28 t791.length co28)) (fun _ hk => hk.2) (.int .i64 t794)) (fun _ hk => hk.2) (.slice Ao31 t795.length co31)) (fun _ h_ => h_.1))) (Kd.R_base ho1) hb); have n2_ := Aside0.mk (Kd.R_elder' (by (with_reducible repeat (first | apply Kd.R_alloc | apply Kd.R_drewN | apply Kd.R_drew)); exact (Kd.R_mono (Kd.R_far (p := ⟨gb798, 2, none⟩) (Kd.R_far (p := ⟨gb798, 1, none⟩) (Kd.R_far (p := ⟨gb798, 0, none⟩) (Kd.R_types HO793.out BK798.out (by decide)) (fun _ hk => hk.2) (.slice Ao28 t791.length co28)) (fun _ hk => hk.2) (.int .i64 t794)) (fun _ hk => hk.2) (.slice Ao31 t795.length co31)) (fun _ h_ => h_.1))) (Kd.R_base ho0) hb); have n3_ := Aside0.mk (Kd.R_elder' (by (with_reducible repeat (first | apply Kd.R_alloc | apply Kd.R_drewN | apply Kd.R_drew)); exact (Kd.R_mono (Kd.R_far (p := ⟨gb798, 2, none⟩) (Kd.R_far (p := ⟨gb798, 1, none⟩) (Kd.R_far (p := ⟨gb798, 0, none⟩) (Kd.R_types HO797.out BK798.out (by decide)) (fun _ hk => hk.2) (.slice Ao28 t791.length co28)) (fun _ hk => hk.2) (.int .i64 t794)) (fun _ hk => hk.2) (.slice Ao31 t795.length co31)) (fun _ h_ => h_.1))) (Kd.R_base ho1) hb); have n4_ := Aside0.mk (Kd.R_lower (Kd.R_new' (Kd.R_new' ho0 (Kd.R_lt (by (with_reducible repeat (first | apply Kd.R_alloc | apply Kd.R_drewN | apply Kd.R_drew)); exact (Kd.R_mono (Kd.R_far (p := ⟨gb798, 2, none⟩) (Kd.R_far (p := ⟨gb798, 1, none⟩) (Kd.R_far (p := ⟨gb798, 0, none⟩) (Kd.R_types HO786.out BK798.out (by decide)) (fun _ hk => hk.2) (.slice Ao28 t791.length co28)) (fun _ hk => hk.2) (.int .i64 t794)) (fun _ hk => hk.2) (.slice Ao31 t795.length co31)) (fun _ h_ => h_.1))))) (Kd.R_lt (by (with_reducible repeat (first | apply Kd.R_alloc | apply Kd.R_drewN | apply Kd.R_drew)); exact (Kd.R_mono (Kd.R_far (p := ⟨gb798, 2, none⟩) (Kd.R_far (p := ⟨gb798, 1, none⟩) (Kd.R_far (p := ⟨gb798, 0, none⟩) (Kd.R_types HO793.out BK798.out (by decide)) (fun _ hk => hk.2) (.slice Ao28 t791.length co28)) (fun _ hk => hk.2) (.int .i64 t794)) (fun _ hk => hk.2) (.slice Ao31 t795.length co31)) (fun _ h_ => h_.1))))) (below_size (oB HB))); have n5_ := Aside0.mk (Kd.R_lower (Kd.R_new' (Kd.R_new' ho1 (Kd.R_lt (by (with_reducible repeat (first | apply Kd.R_alloc | apply Kd.R_drewN | apply Kd.R_drew)); exact (Kd.R_mono (Kd.R_far (p := ⟨gb798, 2, none⟩) (Kd.R_far (p := ⟨gb798, 1, none⟩) (Kd.R_far (p := ⟨gb798, 0, none⟩) (Kd.R_types HO790.out BK798.out (by decide)) (fun _ hk => hk.2) (.slice Ao28 t791.length co28)) (fun _ hk => hk.2) (.int .i64 t794)) (fun _ hk => hk.2) (.slice Ao31 t795.length co31)) (fun _ h_ => h_.1))))) (Kd.R_lt (by (with_reducible repeat (first | apply Kd.R_alloc | apply Kd.R_drewN | apply Kd.R_drew)); exact (Kd.R_mono (Kd.R_far (p := ⟨gb798, 2, none⟩) (Kd.R_far (p := ⟨gb798, 1, none⟩) (Kd.R_far (p := ⟨gb798, 0, none⟩) (Kd.R_types HO797.out BK798.out (by decide)) (fun _ hk => hk.2) (.slice Ao28 t791.length co28)) (fun _ hk => hk.2) (.int .i64 t794)) (fun _ hk => hk.2) (.slice Ao31 t795.length co31)) (fun _ h_ => h_.1))))) (below_size (oB HB))); have n6_ := Aside0.mk (blk_below (g := gb782) (o := .cells #[.slice A0_0 l0_0.length c0_0, .int .i64 a0_1, .slice A0_2 l0_2.length c0_2] 25 (0, 0)) (by (with_reducible repeat (first | refine blk_drewN ?_ _ | refine blk_drew ?_ | refine blk_alloc ?_ _)); refine blk_far ?_ NB782_798.out _; (with_reducible repeat (first | refine blk_drewN ?_ _ | refine blk_drew ?_ | refine blk_alloc ?_ _)); refine blk_far ?_ NB782_798.out _; (with_reducible repeat (first | refine blk_drewN ?_ _ | refine blk_drew ?_ | refine blk_alloc ?_ _)); refine blk_far ?_ NB782_798.out _; (with_reducible repeat (first | refine blk_drewN ?_ _ | refine blk_drew ?_ | refine blk_alloc ?_ _)); exact BK782.out) hb); have n7_ := Aside0.mk (blk_below (g := gb798) (o := .cells #[.slice Ao28 t791.length co28, .int .i64 t794, .slice Ao31 t795.length co31] 30 (0, 0)) (by (with_reducible repeat (first | refine blk_drewN ?_ _ | refine blk_drew ?_ | refine blk_alloc ?_ _)); refine blk_put (cs := #[.slice Ao28 t791.length co28, .int .i64 t794, .slice none 0 0]) ?_ 2 _ rfl; (with_reducible repeat (first | refine blk_drewN ?_ _ | refine blk_drew ?_ | refine blk_alloc ?_ _)); refine blk_put (cs := #[.slice Ao28 t791.length co28, .int .i64 0, .slice none 0 0]) ?_ 1 _ rfl; (with_reducible repeat (first | refine blk_drewN ?_ _ | refine blk_drew ?_ | refine blk_alloc ?_ _)); refine blk_put (cs := #[.slice none 0 0, .int .i64 0, .slice none 0 0]) ?_ 0 _ rfl; (with_reducible repeat (first | refine blk_drewN ?_ _ | refine blk_drew ?_ | refine blk_alloc ?_ _)); exact BK798.out) hb); have n8_ := Aside0.mk (below_step (oB HB) hb); clear HO786; clear HO790; clear HO793; clear HO797; clear BK782; clear BK798; clear HB; have HO786 := n0_; have HO790 := n1_; have HO793 := n2_; have HO797 := n3_; have HO801 := n4_; have HO805 := n5_; have BK782 := n6_; have BK798 := n7_; have HB := n8_; clear n0_ n1_ n2_ n3_ n4_ n5_ n6_ n7_ n8_; (try clear hb); (try clear hb2); (try clear hk); (try clear hi); (try clear ho0); (try clear ho1)) | ((with_reducible refine gate_dst (N := 7) rfl ?_); refine box_event ?hg (N := 7) ?hd (cs := #[.slice none 0 0, .int .i64 0, .slice none 0 0]) (t := 30) ?hr ?_; (case hd => rfl); (case hg => rfl); (case hr => first | (go_simp; done) | (go_simp; rfl)); intro gb806 hg w34 hbox hb; have n0_ := Aside0.mk (Kd.R_below (oR HO786) hb); have n1_ := Aside0.mk (Kd.R_below (oR HO790) hb); have n2_ := Aside0.mk (Kd.R_below (oR HO793) hb); have n3_ := Aside0.mk (Kd.R_below (oR HO797) hb); have n4_ := Aside0.mk (Kd.R_below (oR HO801) hb); have n5_ := Aside0.mk (Kd.R_below (oR HO805) hb); have n6_ := Aside0.mk (blk_below (g := gb782) (o := .cells #[.slice A0_0 l0_0.length c0_0, .int .i64 a0_1, .slice A0_2 l0_2.length c0_2] 25 (0, 0)) (oK BK782) hb); have n7_ := Aside0.mk (blk_below (g := gb798) (o := .cells #[.slice Ao28 t791.length co28, .int .i64 t794, .slice Ao31 t795.length co31] 30 (0, 0)) (oK BK798) hb); have n8_ := Aside0.mk (below_step (oB HB) hb); have n9_ := Aside0.mk (hbox); have n10_ := Aside0.mk ((by rw [hg]; exact (below_size (oB HB)) : w.heap.size ≤ gb806)); have n11_ := Aside0.mk ((by rw [hg]; exact (below_size (oB HB)) : w.heap.size ≤ gb806)); have n12_ := Aside0.mk ((by rw [hg]; exact Nat.ne_of_lt (blk_lt (g := gb782) (o := .cells #[.slice A0_0 l0_0.length c0_0, .int .i64 a0_1, .slice A0_2 l0_2.length c0_2] 25 (0, 0)) (oK BK782)) : gb782 ≠ gb806)); have n13_ := Aside0.mk ((by rw [hg]; exact Nat.ne_of_gt (blk_lt (g := gb782) (o := .cells #[.slice A0_0 l0_0.length c0_0, .int .i64 a0_1, .slice A0_2 l0_2.length c0_2] 25 (0, 0)) (oK BK782)) : gb806 ≠ gb782)); have n14_ := Aside0.mk ((by rw [hg]; exact Nat.ne_of_lt (blk_lt (g := gb798) (o := .cells #[.slice Ao28 t791.length co28, .int .i64 t794, .slice Ao31 t795.length co31] 30 (0, 0)) (oK BK798)) : gb798 ≠ gb806)); have n15_ := Aside0.mk ((by rw [hg]; exact Nat.ne_of_gt (blk_lt (g := gb798) (o := .cells #[.slice Ao28 t791.length co28, .int .i64 t794, .slice Ao31 t795.length co31] 30 (0, 0)) (oK BK798)) : gb806 ≠ gb798)); clear HO786; clear HO790; clear HO793; clear HO797; clear HO801; clear HO805; clear BK782; clear BK798; clear HB; have HO786 := n0_; have HO790 := n1_; have HO793 := n2_; have HO797 := n3_; have HO801 := n4_; have HO805 := n5_; have BK782 := n6_; have BK798 := n7_; have HB := n8_; have BK806 := n9_; have GW806 := n10_; have GE806 := n11_; have NB782_806 := n12_; have NB806_782 := n13_; have NB798_806 := n14_; have NB806_798 := n15_; clear n0_ n1_ n2_ n3_ n4_ n5_ n6_ n7_ n8_ n9_ n10_ n11_ n12_ n13_ n14_ n15_; clear hb hbox hg; obtain ⟨Ao35, co35, eo35⟩ := Kd.R_slice HO801.out; subst eo35; have hnb36 := NB806_782.out; have hnc36 := NB782_806.out; have hnb37 := NB806_798.out; have hnc37 := NB798_806.out; have hcz38_0 : w34.cell? ⟨gb806, 0, none⟩ = some (.slice none 0 0) := (blk_cell BK806.out 0).trans rfl; have hcz38_1 : w34.cell? ⟨gb806, 1, none⟩ = some (.int .i64 0) := (blk_cell BK806.out 1).trans rfl; have hcz38_2 : w34.cell? ⟨gb806, 2, none⟩ = some (.slice none 0 0) := (blk_cell BK806.out 2).trans rfl; have hfz38_0 := blk_frozen BK806.out 0; have hfz38_1 := blk_frozen BK806.out 1; have hfz38_2 := blk_frozen BK806.out 2; obtain ⟨Ao39, co39, eo39⟩ := Kd.R_slice HO805.out; subst eo39) | ((with_reducible refine gate_callee (f := 42) rfl ?_); refine goesL_ (some 26) rfl rfl Try.func42 (by kernel_rfl) rfl #[.agg #[.slice Ao35 t799.length co35, .int .i64 t802, .slice Ao39 t803.length co39], .int .i64 a1] rfl (by (try simp only [List.map_toArray, List.map_cons, List.map_nil]); first | done | rfl | (simp only [List.length_drop, List.length_take]; rfl)) ?_; (with_reducible refine (impl_WorkSteps.calls k _ _ t799 t802 _ _ t803 a1 t807 t810 t811 _ ?side1 ?side2 ?side3 ?side4 A11.out).mono ?_); (case side1 => refine (Kd.R_reads' (e := 67) (base := w.heap.size) (ok := fun k_ => ((True ∧ some k_ ≠ (.slice Ao24 t784.length co24 : Value).ownBlock) ∧ some k_ ≠ (.slice Ao28 t791.length co28 : Value).ownBlock)) (n := t799.length) (c := co35) ?_).2.2; exact (by (with_reducible repeat (first | apply Kd.R_alloc | apply Kd.R_drewN | apply Kd.R_drew)); exact (Kd.R_mono (Kd.R_far (p := ⟨gb806, 2, none⟩) (Kd.R_far (p := ⟨gb806, 1, none⟩) (Kd.R_far (p := ⟨gb806, 0, none⟩) (Kd.R_types HO801.out BK806.out (by decide)) (fun _ hk => hk.2) (.slice Ao35 t799.length co35)) (fun _ hk => hk.2) (.int .i64 t802)) (fun _ hk => hk.2) (.slice Ao39 t803.length co39)) (fun _ h_ => h_.1)))); (case side2 => exact (Kd.R_reads' HO801.out).2.1); (case side3 => refine (Kd.R_reads' (e := 3) (base := w.heap.size) (ok := fun k_ => ((True ∧ some k_ ≠ (.slice Ao25 t788.length co25 : Value).ownBlock) ∧ some k_ ≠ (.slice Ao31 t795.length co31 : Value).ownBlock)) (n := t803.length) (c := co39) ?_).2.2; exact (by (with_reducible repeat (first | apply Kd.R_alloc | apply Kd.R_drewN | apply Kd.R_drew)); exact (Kd.R_mono (Kd.R_far (p := ⟨gb806, 2, none⟩) (Kd.R_far (p := ⟨gb806, 1, none⟩) (Kd.R_far (p := ⟨gb806, 0, none⟩) (Kd.R_types HO805.out BK806.out (by decide)) (fun _ hk => hk.2) (.slice Ao35 t799.length co35)) (fun _ hk => hk.2) (.int .i64 t802)) (fun _ hk => hk.2) (.slice Ao39 t803.length co39)) (fun _ h_ => h_.1)))); (case side4 => exact (Kd.R_reads' HO805.out).2.1); rintro e w40 ⟨v808, v812, rfl, ho0, ho1, hb⟩; refine ⟨_, rfl, ?_⟩; have n0_ := Aside0.mk (Kd.R_elder' (by (with_reducible repeat (first | apply Kd.R_alloc | apply Kd.R_drewN | apply Kd.R_drew)); exact (Kd.R_mono (Kd.R_far (p := ⟨gb806, 2, none⟩) (Kd.R_far (p := ⟨gb806, 1, none⟩) (Kd.R_far (p := ⟨gb806, 0, none⟩) (Kd.R_types HO786.out BK806.out (by decide)) (fun _ hk => hk.2) (.slice Ao35 t799.length co35)) (fun _ hk => hk.2) (.int .i64 t802)) (fun _ hk => hk.2) (.slice Ao39 t803.length co39)) (fun _ h_ => h_.1))) (Kd.R_base ho0) hb); have n1_ := Aside0.mk (Kd.R_elder' (by (with_reducible repeat (first | apply Kd.R_alloc | apply Kd.R_drewN | apply Kd.R_drew)); exact (Kd.R_mono (Kd.R_far (p := ⟨gb806, 2, none⟩) (Kd.R_far (p := ⟨gb806, 1, none⟩) (Kd.R_far (p := ⟨gb806, 0, none⟩) (Kd.R_types HO790.out BK806.out (by decide)) (fun _ hk => hk.2) (.slice Ao35 t799.length co35)) (fun _ hk => hk.2) (.int .i64 t802)) (fun _ hk => hk.2) (.slice Ao39 t803.length co39)) (fun _ h_ => h_.1))) (Kd.R_base ho1) hb); have n2_ := Aside0.mk (Kd.R_elder' (by (with_reducible repeat (first | apply Kd.R_alloc | apply Kd.R_drewN | apply Kd.R_drew)); exact (Kd.R_mono (Kd.R_far (p := ⟨gb806, 2, none⟩) (Kd.R_far (p := ⟨gb806, 1, none⟩) (Kd.R_far (p := ⟨gb806, 0, none⟩) (Kd.R_types HO793.out BK806.out (by decide)) (fun _ hk => hk.2) (.slice Ao35 t799.length co35)) (fun _ hk => hk.2) (.int .i64 t802)) (fun _ hk => hk.2) (.slice Ao39 t803.length co39)) (fun _ h_ => h_.1))) (Kd.R_base ho0) hb); have n3_ := Aside0.mk (Kd.R_elder' (by (with_reducible repeat (first | apply Kd.R_alloc | apply Kd.R_drewN | apply Kd.R_drew)); exact (Kd.R_mono (Kd.R_far (p := ⟨gb806, 2, none⟩) (Kd.R_far (p := ⟨gb806, 1, none⟩) (Kd.R_far (p := ⟨gb806, 0, none⟩) (Kd.R_types HO797.out BK806.out (by decide)) (fun _ hk => hk.2) (.slice Ao35 t799.length co35)) (fun _ hk => hk.2) (.int .i64 t802)) (fun _ hk => hk.2) (.slice Ao39 t803.length co39)) (fun _ h_ => h_.1))) (Kd.R_base ho1) hb); have n4_ := Aside0.mk (Kd.R_elder' (by (with_reducible repeat (first | apply Kd.R_alloc | apply Kd.R_drewN | apply Kd.R_drew)); exact (Kd.R_mono (Kd.R_far (p := ⟨gb806, 2, none⟩) (Kd.R_far (p := ⟨gb806, 1, none⟩) (Kd.R_far (p := ⟨gb806, 0, none⟩) (Kd.R_types HO801.out BK806.out (by decide)) (fun _ hk => hk.2) (.slice Ao35 t799.length co35)) (fun _ hk => hk.2) (.int .i64 t802)) (fun _ hk => hk.2) (.slice Ao39 t803.length co39)) (fun _ h_ => h_.1))) (Kd.R_base ho0) hb); have n5_ := Aside0.mk (Kd.R_elder' (by (with_reducible repeat (first | apply Kd.R_alloc | apply Kd.R_drewN | apply Kd.R_drew)); exact (Kd.R_mono (Kd.R_far (p := ⟨gb806, 2, none⟩) (Kd.R_far (p := ⟨gb806, 1, none⟩) (Kd.R_far (p := ⟨gb806, 0, none⟩) (Kd.R_types HO805.out BK806.out (by decide)) (fun _ hk => hk.2) (.slice Ao35 t799.length co35)) (fun _ hk => hk.2) (.int .i64 t802)) (fun _ hk => hk.2) (.slice Ao39 t803.length co39)) (fun _ h_ => h_.1))) (Kd.R_base ho1) hb); have n6_ := Aside0.mk (Kd.R_lower (Kd.R_new' (Kd.R_new' (Kd.R_new' ho0 (Kd.R_lt (by (with_reducible repeat (first | apply Kd.R_alloc | apply Kd.R_drewN | apply Kd.R_drew)); exact (Kd.R_mono (Kd.R_far (p := ⟨gb806, 2, none⟩) (Kd.R_far (p := ⟨gb806, 1, none⟩) (Kd.R_far (p := ⟨gb806, 0, none⟩) (Kd.R_types HO786.out BK806.out (by decide)) (fun _ hk => hk.2) (.slice Ao35 t799.length co35)) (fun _ hk => hk.2) (.int .i64 t802)) (fun _ hk => hk.2) (.slice Ao39 t803.length co39)) (fun _ h_ => h_.1))))) (Kd.R_lt (by (with_reducible repeat (first | apply Kd.R_alloc | apply Kd.R_drewN | apply Kd.R_drew)); exact (Kd.R_mono (Kd.R_far (p := ⟨gb806, 2, none⟩) (Kd.R_far (p := ⟨gb806, 1, none⟩) (Kd.R_far (p := ⟨gb806, 0, none⟩) (Kd.R_types HO793.out BK806.out (by decide)) (fun _ hk => hk.2) (.slice Ao35 t799.length co35)) (fun _ hk => hk.2) (.int .i64 t802)) (fun _ hk => hk.2) (.slice Ao39 t803.length co39)) (fun _ h_ => h_.1))))) (Kd.R_lt (by (with_reducible repeat (first | apply Kd.R_alloc | apply Kd.R_drewN | apply Kd.R_drew)); exact (Kd.R_mono (Kd.R_far (p := ⟨gb806, 2, none⟩) (Kd.R_far (p := ⟨gb806, 1, none⟩) (Kd.R_far (p := ⟨gb806, 0, none⟩) (Kd.R_types HO801.out BK806.out (by decide)) (fun _ hk => hk.2) (.slice Ao35 t799.length co35)) (fun _ hk => hk.2) (.int .i64 t802)) (fun _ hk => hk.2) (.slice Ao39 t803.length co39)) (fun _ h_ => h_.1))))) (below_size (oB HB))); have n7_ := Aside0.mk (Kd.R_lower (Kd.R_new' (Kd.R_new' (Kd.R_new' ho1 (Kd.R_lt (by (with_reducible repeat (first | apply Kd.R_alloc | apply Kd.R_drewN | apply Kd.R_drew)); exact (Kd.R_mono (Kd.R_far (p := ⟨gb806, 2, none⟩) (Kd.R_far (p := ⟨gb806, 1, none⟩) (Kd.R_far (p := ⟨gb806, 0, none⟩) (Kd.R_types HO790.out BK806.out (by decide)) (fun _ hk => hk.2) (.slice Ao35 t799.length co35)) (fun _ hk => hk.2) (.int .i64 t802)) (fun _ hk => hk.2) (.slice Ao39 t803.length co39)) (fun _ h_ => h_.1))))) (Kd.R_lt (by (with_reducible repeat (first | apply Kd.R_alloc | apply Kd.R_drewN | apply Kd.R_drew)); exact (Kd.R_mono (Kd.R_far (p := ⟨gb806, 2, none⟩) (Kd.R_far (p := ⟨gb806, 1, none⟩) (Kd.R_far (p := ⟨gb806, 0, none⟩) (Kd.R_types HO797.out BK806.out (by decide)) (fun _ hk => hk.2) (.slice Ao35 t799.length co35)) (fun _ hk => hk.2) (.int .i64 t802)) (fun _ hk => hk.2) (.slice Ao39 t803.length co39)) (fun _ h_ => h_.1))))) (Kd.R_lt (by (with_reducible repeat (first | apply Kd.R_alloc | apply Kd.R_drewN | apply Kd.R_drew)); exact (Kd.R_mono (Kd.R_far (p := ⟨gb806, 2, none⟩) (Kd.R_far (p := ⟨gb806, 1, none⟩) (Kd.R_far (p := ⟨gb806, 0, none⟩) (Kd.R_types HO805.out BK806.out (by decide)) (fun _ hk => hk.2) (.slice Ao35 t799.length co35)) (fun _ hk => hk.2) (.int .i64 t802)) (fun _ hk => hk.2) (.slice Ao39 t803.length co39)) (fun _ h_ => h_.1))))) (below_size (oB HB))); have n8_ := Aside0.mk (blk_below (g := gb782) (o := .cells #[.slice A0_0 l0_0.length c0_0, .int .i64 a0_1, .slice A0_2 l0_2.length c0_2] 25 (0, 0)) (by (with_reducible repeat (first | refine blk_drewN ?_ _ | refine blk_drew ?_ | refine blk_alloc ?_ _)); refine blk_far ?_ NB782_806.out _; (with_reducible repeat (first | refine blk_drewN ?_ _ | refine blk_drew ?_ | refine blk_alloc ?_ _)); refine blk_far ?_ NB782_806.out _; (with_reducible repeat (first | refine blk_drewN ?_ _ | refine blk_drew ?_ | refine blk_alloc ?_ _)); refine blk_far ?_ NB782_806.out _; (with_reducible repeat (first | refine blk_drewN ?_ _ | refine blk_drew ?_ | refine blk_alloc ?_ _)); exact BK782.out) hb); have n9_ := Aside0.mk (blk_below (g := gb798) (o := .cells #[.slice Ao28 t791.length co28, .int .i64 t794, .slice Ao31 t795.length co31] 30 (0, 0)) (by (with_reducible repeat (first | refine blk_drewN ?_ _ | refine blk_drew ?_ | refine blk_alloc ?_ _)); refine blk_far ?_ NB798_806.out _; (with_reducible repeat (first | refine blk_drewN ?_ _ | refine blk_drew ?_ | refine blk_alloc ?_ _)); refine blk_far ?_ NB798_806.out _; (with_reducible repeat (first | refine blk_drewN ?_ _ | refine blk_drew ?_ | refine blk_alloc ?_ _)); refine blk_far ?_ NB798_806.out _; (with_reducible repeat (first | refine blk_drewN ?_ _ | refine blk_drew ?_ | refine blk_alloc ?_ _)); exact BK798.out) hb); have n10_ := Aside0.mk (blk_below (g := gb806) (o := .cells #[.slice Ao35 t799.length co35, .int .i64 t802, .slice Ao39 t803.length co39] 30 (0, 0)) (by (with_reducible repeat (first | refine blk_drewN ?_ _ | refine blk_drew ?_ | refine blk_alloc ?_ _)); refine blk_put (cs := #[.slice Ao35 t799.length co35, .int .i64 t802, .slice none 0 0]) ?_ 2 _ rfl; (with_reducible repeat (first | refine blk_drewN ?_ _ | refine blk_drew ?_ | refine blk_alloc ?_ _)); refine blk_put (cs := #[.slice Ao35 t799.length co35, .int .i64 0, .slice none 0 0]) ?_ 1 _ rfl; (with_reducible repeat (first | refine blk_drewN ?_ _ | refine blk_drew ?_ | refine blk_alloc ?_ _)); refine blk_put (cs := #[.slice none 0 0, .int .i64 0, .slice none 0 0]) ?_ 0 _ rfl; (with_reducible repeat (first | refine blk_drewN ?_ _ | refine blk_drew ?_ | refine blk_alloc ?_ _)); exact BK806.out) hb); have n11_ := Aside0.mk (below_step (oB HB) hb); clear HO786; clear HO790; clear HO793; clear HO797; clear HO801; clear HO805; clear BK782; clear BK798; clear BK806; clear HB; have HO786 := n0_; have HO790 := n1_; have HO793 := n2_; have HO797 := n3_; have HO801 := n4_; have HO805 := n5_; have HO809 := n6_; have HO813 := n7_; have BK782 := n8_; have BK798 := n9_; have BK806 := n10_; have HB := n11_; clear n0_ n1_ n2_ n3_ n4_ n5_ n6_ n7_ n8_ n9_ n10_ n11_; (try clear hb); (try clear hb2); (try clear hk); (try clear hi); (try clear ho0); (try clear ho1)) | ((with_reducible refine gate_dst (N := 8) rfl ?_); refine box_event ?hg (N := 8) ?hd (cs := #[.slice none 0 0, .int .i64 0, .slice none 0 0]) (t := 30) ?hr ?_; (case hd => rfl); (case hg => rfl); (case hr => first | (go_simp; done) | (go_simp; rfl)); intro gb814 hg w41 hbox hb; have n0_ := Aside0.mk (Kd.R_below (oR HO786) hb); have n1_ := Aside0.mk (Kd.R_below (oR HO790) hb); have n2_ := Aside0.mk (Kd.R_below (oR HO793) hb); have n3_ := Aside0.mk (Kd.R_below (oR HO797) hb); have n4_ := Aside0.mk (Kd.R_below (oR HO801) hb); have n5_ := Aside0.mk (Kd.R_below (oR HO805) hb); have n6_ := Aside0.mk (Kd.R_below (oR HO809) hb); have n7_ := Aside0.mk (Kd.R_below (oR HO813) hb); have n8_ := Aside0.mk (blk_below (g := gb782) (o := .cells #[.slice A0_0 l0_0.length c0_0, .int .i64 a0_1, .slice A0_2 l0_2.length c0_2] 25 (0, 0)) (oK BK782) hb); have n9_ := Aside0.mk (blk_below (g := gb798) (o := .cells #[.slice Ao28 t791.length co28, .int .i64 t794, .slice Ao31 t795.length co31] 30 (0, 0)) (oK BK798) hb); have n10_ := Aside0.mk (blk_below (g := gb806) (o := .cells #[.slice Ao35 t799.length co35, .int .i64 t802, .slice Ao39 t803.length co39] 30 (0, 0)) (oK BK806) hb); have n11_ := Aside0.mk (below_step (oB HB) hb); have n12_ := Aside0.mk (hbox); have n13_ := Aside0.mk ((by rw [hg]; exact (below_size (oB HB)) : w.heap.size ≤ gb814)); have n14_ := Aside0.mk ((by rw [hg]; exact (below_size (oB HB)) : w.heap.size ≤ gb814)); have n15_ := Aside0.mk ((by rw [hg]; exact Nat.ne_of_lt (blk_lt (g := gb782) (o := .cells #[.slice A0_0 l0_0.length c0_0, .int .i64 a0_1, .slice A0_2 l0_2.length c0_2] 25 (0, 0)) (oK BK782)) : gb782 ≠ gb814)); have n16_ := Aside0.mk ((by rw [hg]; exact Nat.ne_of_gt (blk_lt (g := gb782) (o := .cells #[.slice A0_0 l0_0.length c0_0, .int .i64 a0_1, .slice A0_2 l0_2.length c0_2] 25 (0, 0)) (oK BK782)) : gb814 ≠ gb782)); have n17_ := Aside0.mk ((by rw [hg]; exact Nat.ne_of_lt (blk_lt (g := gb798) (o := .cells #[.slice Ao28 t791.length co28, .int .i64 t794, .slice Ao31 t795.length co31] 30 (0, 0)) (oK BK798)) : gb798 ≠ gb814)); have n18_ := Aside0.mk ((by rw [hg]; exact Nat.ne_of_gt (blk_lt (g := gb798) (o := .cells #[.slice Ao28 t791.length co28, .int .i64 t794, .slice Ao31 t795.length co31] 30 (0, 0)) (oK BK798)) : gb814 ≠ gb798)); have n19_ := Aside0.mk ((by rw [hg]; exact Nat.ne_of_lt (blk_lt (g := gb806) (o := .cells #[.slice Ao35 t799.length co35, .int .i64 t802, .slice Ao39 t803.length co39] 30 (0, 0)) (oK BK806)) : gb806 ≠ gb814)); have n20_ := Aside0.mk ((by rw [hg]; exact Nat.ne_of_gt (blk_lt (g := gb806) (o := .cells #[.slice Ao35 t799.length co35, .int .i64 t802, .slice Ao39 t803.length co39] 30 (0, 0)) (oK BK806)) : gb814 ≠ gb806)); clear HO786; clear HO790; clear HO793; clear HO797; clear HO801; clear HO805; clear HO809; clear HO813; clear BK782; clear BK798; clear BK806; clear HB; have HO786 := n0_; have HO790 := n1_; have HO793 := n2_; have HO797 := n3_; have HO801 := n4_; have HO805 := n5_; have HO809 := n6_; have HO813 := n7_; have BK782 := n8_; have BK798 := n9_; have BK806 := n10_; have HB := n11_; have BK814 := n12_; have GW814 := n13_; have GE814 := n14_; have NB782_814 := n15_; have NB814_782 := n16_; have NB798_814 := n17_; have NB814_798 := n18_; have NB806_814 := n19_; have NB814_806 := n20_; clear n0_ n1_ n2_ n3_ n4_ n5_ n6_ n7_ n8_ n9_ n10_ n11_ n12_ n13_ n14_ n15_ n16_ n17_ n18_ n19_ n20_; clear hb hbox hg; obtain ⟨Ao42, co42, eo42⟩ := Kd.R_slice HO809.out; subst eo42; have hnb43 := NB814_782.out; have hnc43 := NB782_814.out; have hnb44 := NB814_798.out; have hnc44 := NB798_814.out; have hnb45 := NB814_806.out; have hnc45 := NB806_814.out; have hcz46_0 : w41.cell? ⟨gb814, 0, none⟩ = some (.slice none 0 0) := (blk_cell BK814.out 0).trans rfl; have hcz46_1 : w41.cell? ⟨gb814, 1, none⟩ = some (.int .i64 0) := (blk_cell BK814.out 1).trans rfl; have hcz46_2 : w41.cell? ⟨gb814, 2, none⟩ = some (.slice none 0 0) := (blk_cell BK814.out 2).trans rfl; have hfz46_0 := blk_frozen BK814.out 0; have hfz46_1 := blk_frozen BK814.out 1; have hfz46_2 := blk_frozen BK814.out 2; obtain ⟨Ao47, co47, eo47⟩ := Kd.R_slice HO813.out; subst eo47; have hcz48_0 : w41.cell? ⟨gb798, 0, none⟩ = some (.slice Ao28 t791.length co28) := (blk_cell BK798.out 0).trans rfl; have hcz48_1 : w41.cell? ⟨gb798, 1, none⟩ = some (.int .i64 t794) := (blk_cell BK798.out 1).trans rfl; have hcz48_2 : w41.cell? ⟨gb798, 2, none⟩ = some (.slice Ao31 t795.length co31) := (blk_cell BK798.out 2).trans rfl; have hfz48_0 := blk_frozen BK798.out 0; have hfz48_1 := blk_frozen BK798.out 1; have hfz48_2 := blk_frozen BK798.out 2) | ((with_reducible refine gate_callee (f := 19) rfl ?_); refine goesL_ (some 29) rfl rfl Try.func19 (by kernel_rfl) rfl #[.agg #[.slice Ao42 t807.length co42, .int .i64 t810, .slice Ao47 t811.length co47], .agg #[.slice Ao28 t791.length co28, .int .i64 t794, .slice Ao31 t795.length co31]] rfl (by (try simp only [List.map_toArray, List.map_cons, List.map_nil]); first | done | rfl | (simp only [List.length_drop, List.length_take]; rfl)) ?_; (with_reducible refine (laws_eqWork.calls k _ _ t807 t810 _ _ t811 _ _ t791 t794 _ _ t795 true _ ?side1 ?side2 ?side3 ?side4 ?side5 ?side6 ?side7 ?side8 A12.out).mono ?_); (case side1 => refine (Kd.R_reads' (e := 67) (base := w.heap.size) (ok := fun k_ => (((True ∧ some k_ ≠ (.slice Ao24 t784.length co24 : Value).ownBlock) ∧ some k_ ≠ (.slice Ao28 t791.length co28 : Value).ownBlock) ∧ some k_ ≠ (.slice Ao35 t799.length co35 : Value).ownBlock)) (n := t807.length) (c := co42) ?_).2.2; exact (by (with_reducible repeat (first | apply Kd.R_alloc | apply Kd.R_drewN | apply Kd.R_drew)); exact (Kd.R_mono (Kd.R_far (p := ⟨gb814, 2, none⟩) (Kd.R_far (p := ⟨gb814, 1, none⟩) (Kd.R_far (p := ⟨gb814, 0, none⟩) (Kd.R_types HO809.out BK814.out (by decide)) (fun _ hk => hk.2) (.slice Ao42 t807.length co42)) (fun _ hk => hk.2) (.int .i64 t810)) (fun _ hk => hk.2) (.slice Ao47 t811.length co47)) (fun _ h_ => h_.1)))); (case side2 => exact (Kd.R_reads' HO809.out).2.1); (case side3 => refine (Kd.R_reads' (e := 3) (base := w.heap.size) (ok := fun k_ => (((True ∧ some k_ ≠ (.slice Ao25 t788.length co25 : Value).ownBlock) ∧ some k_ ≠ (.slice Ao31 t795.length co31 : Value).ownBlock) ∧ some k_ ≠ (.slice Ao39 t803.length co39 : Value).ownBlock)) (n := t811.length) (c := co47) ?_).2.2; exact (by (with_reducible repeat (first | apply Kd.R_alloc | apply Kd.R_drewN | apply Kd.R_drew)); exact (Kd.R_mono (Kd.R_far (p := ⟨gb814, 2, none⟩) (Kd.R_far (p := ⟨gb814, 1, none⟩) (Kd.R_far (p := ⟨gb814, 0, none⟩) (Kd.R_types HO813.out BK814.out (by decide)) (fun _ hk => hk.2) (.slice Ao42 t807.length co42)) (fun _ hk => hk.2) (.int .i64 t810)) (fun _ hk => hk.2) (.slice Ao47 t811.length co47)) (fun _ h_ => h_.1)))); (case side4 => exact (Kd.R_reads' HO813.out).2.1); (case side5 => refine (Kd.R_reads' (e := 67) (base := w.heap.size) (ok := fun k_ => (((True ∧ some k_ ≠ (.slice Ao24 t784.length co24 : Value).ownBlock) ∧ some k_ ≠ (.slice Ao35 t799.length co35 : Value).ownBlock) ∧ some k_ ≠ (.slice Ao42 t807.length co42 : Value).ownBlock)) (n := t791.length) (c := co28) ?_).2.2; exact (by (with_reducible repeat (first | apply Kd.R_alloc | apply Kd.R_drewN | apply Kd.R_drew)); exact (Kd.R_mono (Kd.R_far (p := ⟨gb814, 2, none⟩) (Kd.R_far (p := ⟨gb814, 1, none⟩) (Kd.R_far (p := ⟨gb814, 0, none⟩) (Kd.R_types HO793.out BK814.out (by decide)) (fun _ hk => hk.2) (.slice Ao42 t807.length co42)) (fun _ hk => hk.2) (.int .i64 t810)) (fun _ hk => hk.2) (.slice Ao47 t811.length co47)) (fun _ h_ => h_.1)))); (case side6 => exact (Kd.R_reads' HO793.out).2.1); (case side7 => refine (Kd.R_reads' (e := 3) (base := w.heap.size) (ok := fun k_ => (((True ∧ some k_ ≠ (.slice Ao25 t788.length co25 : Value).ownBlock) ∧ some k_ ≠ (.slice Ao39 t803.length co39 : Value).ownBlock) ∧ some k_ ≠ (.slice Ao47 t811.length co47 : Value).ownBlock)) (n := t795.length) (c := co31) ?_).2.2; exact (by (with_reducible repeat (first | apply Kd.R_alloc | apply Kd.R_drewN | apply Kd.R_drew)); exact (Kd.R_mono (Kd.R_far (p := ⟨gb814, 2, none⟩) (Kd.R_far (p := ⟨gb814, 1, none⟩) (Kd.R_far (p := ⟨gb814, 0, none⟩) (Kd.R_types HO797.out BK814.out (by decide)) (fun _ hk => hk.2) (.slice Ao42 t807.length co42)) (fun _ hk => hk.2) (.int .i64 t810)) (fun _ hk => hk.2) (.slice Ao47 t811.length co47)) (fun _ h_ => h_.1)))); (case side8 => exact (Kd.R_reads' HO797.out).2.1); rintro e w49 ⟨rfl, hb⟩; refine ⟨_, rfl, ?_⟩; have n0_ := Aside0.mk (Kd.R_below (by (with_reducible repeat (first | apply Kd.R_alloc | apply Kd.R_drewN | apply Kd.R_drew)); exact (Kd.R_mono (Kd.R_far (p := ⟨gb814, 2, none⟩) (Kd.R_far (p := ⟨gb814, 1, none⟩) (Kd.R_far (p := ⟨gb814, 0, none⟩) (Kd.R_types HO786.out BK814.out (by decide)) (fun _ hk => hk.2) (.slice Ao42 t807.length co42)) (fun _ hk => hk.2) (.int .i64 t810)) (fun _ hk => hk.2) (.slice Ao47 t811.length co47)) (fun _ h_ => h_.1))) hb); have n1_ := Aside0.mk (Kd.R_below (by (with_reducible repeat (first | apply Kd.R_alloc | apply Kd.R_drewN | apply Kd.R_drew)); exact (Kd.R_mono (Kd.R_far (p := ⟨gb814, 2, none⟩) (Kd.R_far (p := ⟨gb814, 1, none⟩) (Kd.R_far (p := ⟨gb814, 0, none⟩) (Kd.R_types HO790.out BK814.out (by decide)) (fun _ hk => hk.2) (.slice Ao42 t807.length co42)) (fun _ hk => hk.2) (.int .i64 t810)) (fun _ hk => hk.2) (.slice Ao47 t811.length co47)) (fun _ h_ => h_.1))) hb); have n2_ := Aside0.mk (Kd.R_below (by (with_reducible repeat (first | apply Kd.R_alloc | apply Kd.R_drewN | apply Kd.R_drew)); exact (Kd.R_mono (Kd.R_far (p := ⟨gb814, 2, none⟩) (Kd.R_far (p := ⟨gb814, 1, none⟩) (Kd.R_far (p := ⟨gb814, 0, none⟩) (Kd.R_types HO793.out BK814.out (by decide)) (fun _ hk => hk.2) (.slice Ao42 t807.length co42)) (fun _ hk => hk.2) (.int .i64 t810)) (fun _ hk => hk.2) (.slice Ao47 t811.length co47)) (fun _ h_ => h_.1))) hb); have n3_ := Aside0.mk (Kd.R_below (by (with_reducible repeat (first | apply Kd.R_alloc | apply Kd.R_drewN | apply Kd.R_drew)); exact (Kd.R_mono (Kd.R_far (p := ⟨gb814, 2, none⟩) (Kd.R_far (p := ⟨gb814, 1, none⟩) (Kd.R_far (p := ⟨gb814, 0, none⟩) (Kd.R_types HO797.out BK814.out (by decide)) (fun _ hk => hk.2) (.slice Ao42 t807.length co42)) (fun _ hk => hk.2) (.int .i64 t810)) (fun _ hk => hk.2) (.slice Ao47 t811.length co47)) (fun _ h_ => h_.1))) hb); have n4_ := Aside0.mk (Kd.R_below (by (with_reducible repeat (first | apply Kd.R_alloc | apply Kd.R_drewN | apply Kd.R_drew)); exact (Kd.R_mono (Kd.R_far (p := ⟨gb814, 2, none⟩) (Kd.R_far (p := ⟨gb814, 1, none⟩) (Kd.R_far (p := ⟨gb814, 0, none⟩) (Kd.R_types HO801.out BK814.out (by decide)) (fun _ hk => hk.2) (.slice Ao42 t807.length co42)) (fun _ hk => hk.2) (.int .i64 t810)) (fun _ hk => hk.2) (.slice Ao47 t811.length co47)) (fun _ h_ => h_.1))) hb); have n5_ := Aside0.mk (Kd.R_below (by (with_reducible repeat (first | apply Kd.R_alloc | apply Kd.R_drewN | apply Kd.R_drew)); exact (Kd.R_mono (Kd.R_far (p := ⟨gb814, 2, none⟩) (Kd.R_far (p := ⟨gb814, 1, none⟩) (Kd.R_far (p := ⟨gb814, 0, none⟩) (Kd.R_types HO805.out BK814.out (by decide)) (fun _ hk => hk.2) (.slice Ao42 t807.length co42)) (fun _ hk => hk.2) (.int .i64 t810)) (fun _ hk => hk.2) (.slice Ao47 t811.length co47)) (fun _ h_ => h_.1))) hb); have n6_ := Aside0.mk (Kd.R_below (by (with_reducible repeat (first | apply Kd.R_alloc | apply Kd.R_drewN | apply Kd.R_drew)); exact (Kd.R_mono (Kd.R_far (p := ⟨gb814, 2, none⟩) (Kd.R_far (p := ⟨gb814, 1, none⟩) (Kd.R_far (p := ⟨gb814, 0, none⟩) (Kd.R_types HO809.out BK814.out (by decide)) (fun _ hk => hk.2) (.slice Ao42 t807.length co42)) (fun _ hk => hk.2) (.int .i64 t810)) (fun _ hk => hk.2) (.slice Ao47 t811.length co47)) (fun _ h_ => h_.1))) hb); have n7_ := Aside0.mk (Kd.R_below (by (with_reducible repeat (first | apply Kd.R_alloc | apply Kd.R_drewN | apply Kd.R_drew)); exact (Kd.R_mono (Kd.R_far (p := ⟨gb814, 2, none⟩) (Kd.R_far (p := ⟨gb814, 1, none⟩) (Kd.R_far (p := ⟨gb814, 0, none⟩) (Kd.R_types HO813.out BK814.out (by decide)) (fun _ hk => hk.2) (.slice Ao42 t807.length co42)) (fun _ hk => hk.2) (.int .i64 t810)) (fun _ hk => hk.2) (.slice Ao47 t811.length co47)) (fun _ h_ => h_.1))) hb); have n8_ := Aside0.mk (blk_below (g := gb782) (o := .cells #[.slice A0_0 l0_0.length c0_0, .int .i64 a0_1, .slice A0_2 l0_2.length c0_2] 25 (0, 0)) (by (with_reducible repeat (first | refine blk_drewN ?_ _ | refine blk_drew ?_ | refine blk_alloc ?_ _)); refine blk_far ?_ NB782_814.out _; (with_reducible repeat (first | refine blk_drewN ?_ _ | refine blk_drew ?_ | refine blk_alloc ?_ _)); refine blk_far ?_ NB782_814.out _; (with_reducible repeat (first | refine blk_drewN ?_ _ | refine blk_drew ?_ | refine blk_alloc ?_ _)); refine blk_far ?_ NB782_814.out _; (with_reducible repeat (first | refine blk_drewN ?_ _ | refine blk_drew ?_ | refine blk_alloc ?_ _)); exact BK782.out) hb); have n9_ := Aside0.mk (blk_below (g := gb798) (o := .cells #[.slice Ao28 t791.length co28, .int .i64 t794, .slice Ao31 t795.length co31] 30 (0, 0)) (by (with_reducible repeat (first | refine blk_drewN ?_ _ | refine blk_drew ?_ | refine blk_alloc ?_ _)); refine blk_far ?_ NB798_814.out _; (with_reducible repeat (first | refine blk_drewN ?_ _ | refine blk_drew ?_ | refine blk_alloc ?_ _)); refine blk_far ?_ NB798_814.out _; (with_reducible repeat (first | refine blk_drewN ?_ _ | refine blk_drew ?_ | refine blk_alloc ?_ _)); refine blk_far ?_ NB798_814.out _; (with_reducible repeat (first | refine blk_drewN ?_ _ | refine blk_drew ?_ | refine blk_alloc ?_ _)); exact BK798.out) hb); have n10_ := Aside0.mk (blk_below (g := gb806) (o := .cells #[.slice Ao35 t799.length co35, .int .i64 t802, .slice Ao39 t803.length co39] 30 (0, 0)) (by (with_reducible repeat (first | refine blk_drewN ?_ _ | refine blk_drew ?_ | refine blk_alloc ?_ _)); refine blk_far ?_ NB806_814.out _; (with_reducible repeat (first | refine blk_drewN ?_ _ | refine blk_drew ?_ | refine blk_alloc ?_ _)); refine blk_far ?_ NB806_814.out _; (with_reducible repeat (first | refine blk_drewN ?_ _ | refine blk_drew ?_ | refine blk_alloc ?_ _)); refine blk_far ?_ NB806_814.out _; (with_reducible repeat (first | refine blk_drewN ?_ _ | refine blk_drew ?_ | refine blk_alloc ?_ _)); exact BK806.out) hb); have n11_ := Aside0.mk (blk_below (g := gb814) (o := .cells #[.slice Ao42 t807.length co42, .int .i64 t810, .slice Ao47 t811.length co47] 30 (0, 0)) (by (with_reducible repeat (first | refine blk_drewN ?_ _ | refine blk_drew ?_ | refine blk_alloc ?_ _)); refine blk_put (cs := #[.slice Ao42 t807.length co42, .int .i64 t810, .slice none 0 0]) ?_ 2 _ rfl; (with_reducible repeat (first | refine blk_drewN ?_ _ | refine blk_drew ?_ | refine blk_alloc ?_ _)); refine blk_put (cs := #[.slice Ao42 t807.length co42, .int .i64 0, .slice none 0 0]) ?_ 1 _ rfl; (with_reducible repeat (first | refine blk_drewN ?_ _ | refine blk_drew ?_ | refine blk_alloc ?_ _)); refine blk_put (cs := #[.slice none 0 0, .int .i64 0, .slice none 0 0]) ?_ 0 _ rfl; (with_reducible repeat (first | refine blk_drewN ?_ _ | refine blk_drew ?_ | refine blk_alloc ?_ _)); exact BK814.out) hb); have n12_ := Aside0.mk (below_step (oB HB) hb); clear HO786; clear HO790; clear HO793; clear HO797; clear HO801; clear HO805; clear HO809; clear HO813; clear BK782; clear BK798; clear BK806; clear BK814; clear HB; have HO786 := n0_; have HO790 := n1_; have HO793 := n2_; have HO797 := n3_; have HO801 := n4_; have HO805 := n5_; have HO809 := n6_; have HO813 := n7_; have BK782 := n8_; have BK798 := n9_; have BK806 := n10_; have BK814 := n11_; have HB := n12_; clear n0_ n1_ n2_ n3_ n4_ n5_ n6_ n7_ n8_ n9_ n10_ n11_ n12_; (try clear hb); (try clear hb2); (try clear hk); (try clear hi)))
        have n0_ := Aside0.mk (Kd.R_drew HO786.out)
        have n1_ := Aside0.mk (Kd.R_drew HO790.out)
        have n2_ := Aside0.mk (Kd.R_drew HO793.out)
        have n3_ := Aside0.mk (Kd.R_drew HO797.out)
        have n4_ := Aside0.mk (Kd.R_drew HO801.out)
        have n5_ := Aside0.mk (Kd.R_drew HO805.out)
        have n6_ := Aside0.mk (Kd.R_drew HO809.out)
        have n7_ := Aside0.mk (Kd.R_drew HO813.out)
        have n8_ := Aside0.mk (blk_drew BK782.out)
        have n9_ := Aside0.mk (blk_drew BK798.out)
        have n10_ := Aside0.mk (blk_drew BK806.out)
        have n11_ := Aside0.mk (blk_drew BK814.out)
        have n12_ := Aside0.mk (below_drew1 HB.out)
        clear HO786
        clear HO790
        clear HO793
        clear HO797
        clear HO801
        clear HO805
        clear HO809
        clear HO813
        clear BK782
        clear BK798
        clear BK806
        clear BK814
        clear HB
        have HO786 := n0_
        have HO790 := n1_
        have HO793 := n2_
        have HO797 := n3_
        have HO801 := n4_
        have HO805 := n5_
        have HO809 := n6_
        have HO813 := n7_
        have BK782 := n8_
        have BK798 := n9_
        have BK806 := n10_
        have BK814 := n11_
        have HB := n12_
        clear n0_ n1_ n2_ n3_ n4_ n5_ n6_ n7_ n8_ n9_ n10_ n11_ n12_
        refine start_ (n := 5) (S := fun w' => w'.cell? ⟨gb806, 0, none⟩ = some (.slice Ao35 t799.length co35) ∧ w'.cell? ⟨gb806, 1, none⟩ = some (.int .i64 t802) ∧ w'.cell? ⟨gb806, 2, none⟩ = some (.slice Ao39 t803.length co39) ∧ w'.cell? ⟨gb782, 0, none⟩ = some (.slice A0_0 l0_0.length c0_0) ∧ w'.cell? ⟨gb782, 1, none⟩ = some (.int .i64 a0_1) ∧ w'.cell? ⟨gb782, 2, none⟩ = some (.slice A0_2 l0_2.length c0_2)) (ds := []) #[false, false, false, false, false] (by kernel_rfl) rfl rfl ⟨(blk_cell BK806.out 0).trans rfl, (blk_cell BK806.out 1).trans rfl, (blk_cell BK806.out 2).trans rfl, (blk_cell BK782.out 0).trans rfl, (blk_cell BK782.out 1).trans rfl, (blk_cell BK782.out 2).trans rfl⟩ (fun hHeld => ?_)
        generalize w49.drew = w50 at HO786 HO790 HO793 HO797 HO801 HO805 HO809 HO813 BK782 BK798 BK806 BK814 HB hHeld ⊢
        refine take_ (i := 0) (N := some 31) (v := ?_) (a' := ?_) #[true, false, false, false, false] rfl rfl (by kernel_rfl) (fun _ _ _ h => h) (Or.inl ⟨by rfl, ?_⟩) hHeld ?_ ?_
        rotate_left
        · rintro w' ⟨s0, s1, s2, s3, s4, s5⟩
          go_simp
          with_reducible rfl
        rotate_left
        · simp only [Act.put, List.setIfInBounds_toArray, List.set_cons_zero, List.set_cons_succ, i64_w, i32_w]
          rfl
        refine take_ (i := 1) (N := some 32) (v := ?_) (a' := ?_) #[true, true, false, false, false] rfl rfl (by kernel_rfl) (fun _ _ _ h => h) (Or.inl ⟨by rfl, ?_⟩) hHeld ?_ ?_
        rotate_left
        · rintro w' ⟨s0, s1, s2, s3, s4, s5⟩
          go_simp
          with_reducible rfl
        rotate_left
        · simp only [Act.put, List.setIfInBounds_toArray, List.set_cons_zero, List.set_cons_succ, i64_w, i32_w]
          rfl
        refine one_ (i := 2) (N := some 33) #[true, true, true, false, false] rfl rfl (by kernel_rfl) (by decide) (fun K hK => ?_)
        refine goes_ Try.func17 (by kernel_rfl) rfl #[.agg #[.slice A0_0 l0_0.length c0_0, .int .i64 a0_1, .slice A0_2 l0_2.length c0_2]] (by rfl) rfl rfl (by (try simp only [List.map_toArray, List.map_cons, List.map_nil]); first | done | rfl | (simp only [List.length_drop, List.length_take]; rfl)) ?_
        with_reducible refine (laws_toWork.calls k _ _ l0_0 a0_1 _ _ l0_2 t816 t819 t820 _ ?side1 ?side2 ?side3 ?side4 A14.out).mono ?_
        (case side1 => exact oc_ HR0_0.out)
        (case side2 => exact HC0_0.out)
        (case side3 => exact oc_ HR0_2.out)
        (case side4 => exact HC0_2.out)
        rintro e w51 ⟨v817, v821, rfl, ho0, ho1, hb⟩
        refine ⟨_, rfl, ?_⟩
        have n0_ := Aside0.mk (Kd.R_elder' (oR HO786) (Kd.R_base ho0) hb)
        have n1_ := Aside0.mk (Kd.R_elder' (oR HO790) (Kd.R_base ho1) hb)
        have n2_ := Aside0.mk (Kd.R_elder' (oR HO793) (Kd.R_base ho0) hb)
        have n3_ := Aside0.mk (Kd.R_elder' (oR HO797) (Kd.R_base ho1) hb)
        have n4_ := Aside0.mk (Kd.R_elder' (oR HO801) (Kd.R_base ho0) hb)
        have n5_ := Aside0.mk (Kd.R_elder' (oR HO805) (Kd.R_base ho1) hb)
        have n6_ := Aside0.mk (Kd.R_elder' (oR HO809) (Kd.R_base ho0) hb)
        have n7_ := Aside0.mk (Kd.R_elder' (oR HO813) (Kd.R_base ho1) hb)
        have n8_ := Aside0.mk (Kd.R_lower (Kd.R_new' (Kd.R_new' (Kd.R_new' (Kd.R_new' ho0 (Kd.R_lt (oR HO786))) (Kd.R_lt (oR HO793))) (Kd.R_lt (oR HO801))) (Kd.R_lt (oR HO809))) (below_size (oB HB)))
        have n9_ := Aside0.mk (Kd.R_lower (Kd.R_new' (Kd.R_new' (Kd.R_new' (Kd.R_new' ho1 (Kd.R_lt (oR HO790))) (Kd.R_lt (oR HO797))) (Kd.R_lt (oR HO805))) (Kd.R_lt (oR HO813))) (below_size (oB HB)))
        have n10_ := Aside0.mk (blk_below (g := gb782) (o := .cells #[.slice A0_0 l0_0.length c0_0, .int .i64 a0_1, .slice A0_2 l0_2.length c0_2] 25 (0, 0)) (oK BK782) hb)
        have n11_ := Aside0.mk (blk_below (g := gb798) (o := .cells #[.slice Ao28 t791.length co28, .int .i64 t794, .slice Ao31 t795.length co31] 30 (0, 0)) (oK BK798) hb)
        have n12_ := Aside0.mk (blk_below (g := gb806) (o := .cells #[.slice Ao35 t799.length co35, .int .i64 t802, .slice Ao39 t803.length co39] 30 (0, 0)) (oK BK806) hb)
        have n13_ := Aside0.mk (blk_below (g := gb814) (o := .cells #[.slice Ao42 t807.length co42, .int .i64 t810, .slice Ao47 t811.length co47] 30 (0, 0)) (oK BK814) hb)
        have n14_ := Aside0.mk (below_step (oB HB) hb)
        clear HO786
        clear HO790
        clear HO793
        clear HO797
        clear HO801
        clear HO805
        clear HO809
        clear HO813
        clear BK782
        clear BK798
        clear BK806
        clear BK814
        clear HB
        have HO786 := n0_
        have HO790 := n1_
        have HO793 := n2_
        have HO797 := n3_
        have HO801 := n4_
        have HO805 := n5_
        have HO809 := n6_
        have HO813 := n7_
        have HO818 := n8_
        have HO822 := n9_
        have BK782 := n10_
        have BK798 := n11_
        have BK806 := n12_
        have BK814 := n13_
        have HB := n14_
        clear n0_ n1_ n2_ n3_ n4_ n5_ n6_ n7_ n8_ n9_ n10_ n11_ n12_ n13_ n14_
        (try clear hb)
        (try clear hb2)
        (try clear hk)
        (try clear hi)
        (try clear ho0)
        (try clear ho1)
        obtain ⟨Ao52, co52, eo52⟩ := Kd.R_slice HO818.out
        (first | subst eo52 | (injection eo52 with f1_ f2_ f3_; have f4_ := f1_.symm; have f5_ := f3_.symm; clear f1_ f2_ f3_; subst f4_; subst f5_))
        obtain ⟨Ao53, co53, eo53⟩ := Kd.R_slice HO822.out
        (first | subst eo53 | (injection eo53 with f1_ f2_ f3_; have f4_ := f1_.symm; have f5_ := f3_.symm; clear f1_ f2_ f3_; subst f4_; subst f5_))
        refine hK.out _ _ ⟨(blk_cell BK806.out 0).trans rfl, (blk_cell BK806.out 1).trans rfl, (blk_cell BK806.out 2).trans rfl, (blk_cell BK782.out 0).trans rfl, (blk_cell BK782.out 1).trans rfl, (blk_cell BK782.out 2).trans rfl⟩ (fun hHeld => ?_)
        clear hK K
        refine norm_ (a' := ?_) ?_ ?_
        rotate_left
        · show Act.put _ (some 33) _ = _
          simp only [Act.put, List.setIfInBounds_toArray, List.set_cons_zero, List.set_cons_succ, i64_w, i32_w]
          rfl
        refine one_ (i := 3) (N := some 34) #[true, true, true, true, false] rfl rfl (by kernel_rfl) (by decide) (fun K hK => ?_)
        refine goes_ Try.func19 (by kernel_rfl) rfl #[.agg #[.slice Ao35 t799.length co35, .int .i64 t802, .slice Ao39 t803.length co39], .agg #[.slice Ao52 t816.length co52, .int .i64 t819, .slice Ao53 t820.length co53]] (by rfl) rfl rfl (by (try simp only [List.map_toArray, List.map_cons, List.map_nil]); first | done | rfl | (simp only [List.length_drop, List.length_take]; rfl)) ?_
        with_reducible refine (laws_eqWork.calls k _ _ t799 t802 _ _ t803 _ _ t816 t819 _ _ t820 true _ ?side1 ?side2 ?side3 ?side4 ?side5 ?side6 ?side7 ?side8 A15.out).mono ?_
        (case side1 => repeat (first | exact (Kd.R_reads' HO801.out).2.2 | (with_reducible refine Kd.C_alloc ?_ _) | (with_reducible refine Kd.C_drewN ?_ _) | (with_reducible refine Kd.C_drew ?_)))
        (case side2 => exact (Kd.R_reads' HO801.out).2.1)
        (case side3 => repeat (first | exact (Kd.R_reads' HO805.out).2.2 | (with_reducible refine Kd.C_alloc ?_ _) | (with_reducible refine Kd.C_drewN ?_ _) | (with_reducible refine Kd.C_drew ?_)))
        (case side4 => exact (Kd.R_reads' HO805.out).2.1)
        (case side5 => repeat (first | exact (Kd.R_reads' HO818.out).2.2 | (with_reducible refine Kd.C_alloc ?_ _) | (with_reducible refine Kd.C_drewN ?_ _) | (with_reducible refine Kd.C_drew ?_)))
        (case side6 => exact (Kd.R_reads' HO818.out).2.1)
        (case side7 => repeat (first | exact (Kd.R_reads' HO822.out).2.2 | (with_reducible refine Kd.C_alloc ?_ _) | (with_reducible refine Kd.C_drewN ?_ _) | (with_reducible refine Kd.C_drew ?_)))
        (case side8 => exact (Kd.R_reads' HO822.out).2.1)
        rintro e w54 ⟨rfl, hb⟩
        refine ⟨_, rfl, ?_⟩
        have n0_ := Aside0.mk (Kd.R_below (oR HO786) hb)
        have n1_ := Aside0.mk (Kd.R_below (oR HO790) hb)
        have n2_ := Aside0.mk (Kd.R_below (oR HO793) hb)
        have n3_ := Aside0.mk (Kd.R_below (oR HO797) hb)
        have n4_ := Aside0.mk (Kd.R_below (oR HO801) hb)
        have n5_ := Aside0.mk (Kd.R_below (oR HO805) hb)
        have n6_ := Aside0.mk (Kd.R_below (oR HO809) hb)
        have n7_ := Aside0.mk (Kd.R_below (oR HO813) hb)
        have n8_ := Aside0.mk (Kd.R_below (oR HO818) hb)
        have n9_ := Aside0.mk (Kd.R_below (oR HO822) hb)
        have n10_ := Aside0.mk (blk_below (g := gb782) (o := .cells #[.slice A0_0 l0_0.length c0_0, .int .i64 a0_1, .slice A0_2 l0_2.length c0_2] 25 (0, 0)) (oK BK782) hb)
        have n11_ := Aside0.mk (blk_below (g := gb798) (o := .cells #[.slice Ao28 t791.length co28, .int .i64 t794, .slice Ao31 t795.length co31] 30 (0, 0)) (oK BK798) hb)
        have n12_ := Aside0.mk (blk_below (g := gb806) (o := .cells #[.slice Ao35 t799.length co35, .int .i64 t802, .slice Ao39 t803.length co39] 30 (0, 0)) (oK BK806) hb)
        have n13_ := Aside0.mk (blk_below (g := gb814) (o := .cells #[.slice Ao42 t807.length co42, .int .i64 t810, .slice Ao47 t811.length co47] 30 (0, 0)) (oK BK814) hb)
        have n14_ := Aside0.mk (below_step (oB HB) hb)
        clear HO786
        clear HO790
        clear HO793
        clear HO797
        clear HO801
        clear HO805
        clear HO809
        clear HO813
        clear HO818
        clear HO822
        clear BK782
        clear BK798
        clear BK806
        clear BK814
        clear HB
        have HO786 := n0_
        have HO790 := n1_
        have HO793 := n2_
        have HO797 := n3_
        have HO801 := n4_
        have HO805 := n5_
        have HO809 := n6_
        have HO813 := n7_
        have HO818 := n8_
        have HO822 := n9_
        have BK782 := n10_
        have BK798 := n11_
        have BK806 := n12_
        have BK814 := n13_
        have HB := n14_
        clear n0_ n1_ n2_ n3_ n4_ n5_ n6_ n7_ n8_ n9_ n10_ n11_ n12_ n13_ n14_
        (try clear hb)
        (try clear hb2)
        (try clear hk)
        (try clear hi)
        refine hK.out _ _ ⟨(blk_cell BK806.out 0).trans rfl, (blk_cell BK806.out 1).trans rfl, (blk_cell BK806.out 2).trans rfl, (blk_cell BK782.out 0).trans rfl, (blk_cell BK782.out 1).trans rfl, (blk_cell BK782.out 2).trans rfl⟩ (fun hHeld => ?_)
        clear hK K
        refine norm_ (a' := ?_) ?_ ?_
        rotate_left
        · show Act.put _ (some 34) _ = _
          simp only [Act.put, List.setIfInBounds_toArray, List.set_cons_zero, List.set_cons_succ, i64_w, i32_w]
          rfl
        refine pure_ (i := 4) (N := some 35) (v := ?_) (a' := ?_) #[true, true, true, true, true] rfl rfl (by kernel_rfl) (fun _ _ _ h => h) (Or.inl ⟨by rfl, ?_⟩) ?_ ?_
        rotate_left
        · intro w'
          go_simp
          with_reducible rfl
        rotate_left
        · simp only [Act.put, List.setIfInBounds_toArray, List.set_cons_zero, List.set_cons_succ, i64_w, i32_w]
          rfl
        refine done_ (by kernel_rfl) ?_
        have hcz55_0 : w54.cell? ⟨gb806, 0, none⟩ = some (.slice Ao35 t799.length co35) := (blk_cell BK806.out 0).trans rfl
        have hcz55_1 : w54.cell? ⟨gb806, 1, none⟩ = some (.int .i64 t802) := (blk_cell BK806.out 1).trans rfl
        have hcz55_2 : w54.cell? ⟨gb806, 2, none⟩ = some (.slice Ao39 t803.length co39) := (blk_cell BK806.out 2).trans rfl
        have hfz55_0 := blk_frozen BK806.out 0
        have hfz55_1 := blk_frozen BK806.out 1
        have hfz55_2 := blk_frozen BK806.out 2
        go_upto_region 14 with (first | ((with_reducible refine gate_callee (f := 28) rfl ?_); refine goesL_ (some 38) rfl rfl Try.func28 (by kernel_rfl) rfl #[.agg #[.slice Ao35 t799.length co35, .int .i64 t802, .slice Ao39 t803.length co39], .int .i64 1] rfl (by (try simp only [List.map_toArray, List.map_cons, List.map_nil]); first | done | rfl | (simp only [List.length_drop, List.length_take]; rfl)) ?_; (with_reducible refine (laws_markWork.calls k (fun k_ => some k_ = (.slice Ao35 t799.length co35 : Value).ownBlock) (.slice Ao35 t799.length co35) t799 t802 (fun k_ => some k_ = (.slice Ao39 t803.length co39 : Value).ownBlock) (.slice Ao39 t803.length co39) t803 1 t824 t825 t826 w _ ?side1 ?side2 ?side3 A17.out).mono ?_); (case side1 => repeat (first | (with_reducible first | exact HB.out | apply below_alloc | apply pw_below_drewN | apply below_drew1 | refine below_set ?_ GE782.out | refine below_set ?_ GE798.out | refine below_set ?_ GE806.out | refine below_set ?_ GE814.out) | exact HB.out)); (case side2 => exact Kd.R_tight rfl HO801.out); (case side3 => exact Kd.R_tight rfl HO805.out); rintro e w56 ⟨rfl, hy0, hy1, hb, hkp⟩; refine ⟨_, rfl, ?_⟩; have n0_ := Aside0.mk (blk_kept (oK BK782) hkp (fun hs_ => Or.elim hs_ (fun e_ => (fun e_ => (Kd.R_ne HO801.out BK782.out (by decide)) e_) e_) (fun e_ => (fun e_ => (Kd.R_ne HO805.out BK782.out (by decide)) e_) e_))); have n1_ := Aside0.mk (Kd.R_mono (ok' := fun k_ => some k_ ≠ (.slice Ao28 t791.length co28 : Value).ownBlock ∧ some k_ ≠ (.slice Ao35 t799.length co35 : Value).ownBlock ∧ some k_ ≠ (.slice Ao42 t807.length co42 : Value).ownBlock ∧ some k_ ≠ (.slice Ao52 t816.length co52 : Value).ownBlock) (Kd.R_keptB ((Kd.R_apart' HO786.out (Kd.R_typed HO805.out) (by decide))) hkp (fun k_ hk_ hs_ => Or.elim hs_ (fun e_ => (hk_.1.1.1.2) e_) (fun e_ => (hk_.2) e_))) (fun k_ hk_ => ⟨hk_.1.1.1.1.1.2, hk_.1.1.1.1.2, hk_.1.1.1.2, hk_.1.1.2⟩)); have n2_ := Aside0.mk (Kd.R_mono (ok' := fun k_ => some k_ ≠ (.slice Ao31 t795.length co31 : Value).ownBlock ∧ some k_ ≠ (.slice Ao39 t803.length co39 : Value).ownBlock ∧ some k_ ≠ (.slice Ao47 t811.length co47 : Value).ownBlock ∧ some k_ ≠ (.slice Ao53 t820.length co53 : Value).ownBlock) (Kd.R_keptB ((Kd.R_apart' HO790.out (Kd.R_typed HO801.out) (by decide))) hkp (fun k_ hk_ hs_ => Or.elim hs_ (fun e_ => (hk_.2) e_) (fun e_ => (hk_.1.1.1.2) e_))) (fun k_ hk_ => ⟨hk_.1.1.1.1.1.2, hk_.1.1.1.1.2, hk_.1.1.1.2, hk_.1.1.2⟩)); have n3_ := Aside0.mk (Kd.R_mono (ok' := fun k_ => some k_ ≠ (.slice Ao24 t784.length co24 : Value).ownBlock ∧ some k_ ≠ (.slice Ao35 t799.length co35 : Value).ownBlock ∧ some k_ ≠ (.slice Ao42 t807.length co42 : Value).ownBlock ∧ some k_ ≠ (.slice Ao52 t816.length co52 : Value).ownBlock) (Kd.R_keptB ((Kd.R_apart' HO793.out (Kd.R_typed HO805.out) (by decide))) hkp (fun k_ hk_ hs_ => Or.elim hs_ (fun e_ => (hk_.1.1.1.2) e_) (fun e_ => (hk_.2) e_))) (fun k_ hk_ => ⟨hk_.1.1.1.1.1.2, hk_.1.1.1.1.2, hk_.1.1.1.2, hk_.1.1.2⟩)); have n4_ := Aside0.mk (Kd.R_mono (ok' := fun k_ => some k_ ≠ (.slice Ao25 t788.length co25 : Value).ownBlock ∧ some k_ ≠ (.slice Ao39 t803.length co39 : Value).ownBlock ∧ some k_ ≠ (.slice Ao47 t811.length co47 : Value).ownBlock ∧ some k_ ≠ (.slice Ao53 t820.length co53 : Value).ownBlock) (Kd.R_keptB ((Kd.R_apart' HO797.out (Kd.R_typed HO801.out) (by decide))) hkp (fun k_ hk_ hs_ => Or.elim hs_ (fun e_ => (hk_.2) e_) (fun e_ => (hk_.1.1.1.2) e_))) (fun k_ hk_ => ⟨hk_.1.1.1.1.1.2, hk_.1.1.1.1.2, hk_.1.1.1.2, hk_.1.1.2⟩)); have n5_ := Aside0.mk (blk_kept (oK BK798) hkp (fun hs_ => Or.elim hs_ (fun e_ => (fun e_ => (Kd.R_ne HO801.out BK798.out (by decide)) e_) e_) (fun e_ => (fun e_ => (Kd.R_ne HO805.out BK798.out (by decide)) e_) e_))); have n6_ := Aside0.mk (Kd.R_reok rfl hy0 (fun k_ e_ => HO801.out.1 k_ e_)); have n7_ := Aside0.mk (Kd.R_reok rfl hy1 (fun k_ e_ => HO805.out.1 k_ e_)); have n8_ := Aside0.mk (blk_kept (oK BK806) hkp (fun hs_ => Or.elim hs_ (fun e_ => (fun e_ => (Kd.R_ne HO801.out BK806.out (by decide)) e_) e_) (fun e_ => (fun e_ => (Kd.R_ne HO805.out BK806.out (by decide)) e_) e_))); have n9_ := Aside0.mk (Kd.R_mono (ok' := fun k_ => some k_ ≠ (.slice Ao24 t784.length co24 : Value).ownBlock ∧ some k_ ≠ (.slice Ao28 t791.length co28 : Value).ownBlock ∧ some k_ ≠ (.slice Ao35 t799.length co35 : Value).ownBlock ∧ some k_ ≠ (.slice Ao52 t816.length co52 : Value).ownBlock) (Kd.R_keptB ((Kd.R_apart' HO809.out (Kd.R_typed HO805.out) (by decide))) hkp (fun k_ hk_ hs_ => Or.elim hs_ (fun e_ => (hk_.1.1.2) e_) (fun e_ => (hk_.2) e_))) (fun k_ hk_ => ⟨hk_.1.1.1.1.1.2, hk_.1.1.1.1.2, hk_.1.1.1.2, hk_.1.1.2⟩)); have n10_ := Aside0.mk (Kd.R_mono (ok' := fun k_ => some k_ ≠ (.slice Ao25 t788.length co25 : Value).ownBlock ∧ some k_ ≠ (.slice Ao31 t795.length co31 : Value).ownBlock ∧ some k_ ≠ (.slice Ao39 t803.length co39 : Value).ownBlock ∧ some k_ ≠ (.slice Ao53 t820.length co53 : Value).ownBlock) (Kd.R_keptB ((Kd.R_apart' HO813.out (Kd.R_typed HO801.out) (by decide))) hkp (fun k_ hk_ hs_ => Or.elim hs_ (fun e_ => (hk_.2) e_) (fun e_ => (hk_.1.1.2) e_))) (fun k_ hk_ => ⟨hk_.1.1.1.1.1.2, hk_.1.1.1.1.2, hk_.1.1.1.2, hk_.1.1.2⟩)); have n11_ := Aside0.mk (blk_kept (oK BK814) hkp (fun hs_ => Or.elim hs_ (fun e_ => (fun e_ => (Kd.R_ne HO801.out BK814.out (by decide)) e_) e_) (fun e_ => (fun e_ => (Kd.R_ne HO805.out BK814.out (by decide)) e_) e_))); have n12_ := Aside0.mk (Kd.R_mono (ok' := fun k_ => some k_ ≠ (.slice Ao24 t784.length co24 : Value).ownBlock ∧ some k_ ≠ (.slice Ao28 t791.length co28 : Value).ownBlock ∧ some k_ ≠ (.slice Ao35 t799.length co35 : Value).ownBlock ∧ some k_ ≠ (.slice Ao42 t807.length co42 : Value).ownBlock) (Kd.R_keptB ((Kd.R_apart' HO818.out (Kd.R_typed HO805.out) (by decide))) hkp (fun k_ hk_ hs_ => Or.elim hs_ (fun e_ => (hk_.1.1.2) e_) (fun e_ => (hk_.2) e_))) (fun k_ hk_ => ⟨hk_.1.1.1.1.1.2, hk_.1.1.1.1.2, hk_.1.1.1.2, hk_.1.1.2⟩)); have n13_ := Aside0.mk (Kd.R_mono (ok' := fun k_ => some k_ ≠ (.slice Ao25 t788.length co25 : Value).ownBlock ∧ some k_ ≠ (.slice Ao31 t795.length co31 : Value).ownBlock ∧ some k_ ≠ (.slice Ao39 t803.length co39 : Value).ownBlock ∧ some k_ ≠ (.slice Ao47 t811.length co47 : Value).ownBlock) (Kd.R_keptB ((Kd.R_apart' HO822.out (Kd.R_typed HO801.out) (by decide))) hkp (fun k_ hk_ hs_ => Or.elim hs_ (fun e_ => (hk_.2) e_) (fun e_ => (hk_.1.1.2) e_))) (fun k_ hk_ => ⟨hk_.1.1.1.1.1.2, hk_.1.1.1.1.2, hk_.1.1.1.2, hk_.1.1.2⟩)); have n14_ := Aside0.mk (hb); clear BK782; clear HO786; clear HO790; clear HO793; clear HO797; clear BK798; clear HO801; clear HO805; clear BK806; clear HO809; clear HO813; clear BK814; clear HO818; clear HO822; clear HB; have BK782 := n0_; have HO786 := n1_; have HO790 := n2_; have HO793 := n3_; have HO797 := n4_; have BK798 := n5_; have HO801 := n6_; have HO805 := n7_; have BK806 := n8_; have HO809 := n9_; have HO813 := n10_; have BK814 := n11_; have HO818 := n12_; have HO822 := n13_; have HB := n14_; clear n0_ n1_ n2_ n3_ n4_ n5_ n6_ n7_ n8_ n9_ n10_ n11_ n12_ n13_ n14_; (try clear hb); (try clear hkp); (try clear hy0); (try clear hy1)))
        (try simp only [Act.put, List.setIfInBounds_toArray, List.set_cons_zero, List.set_cons_succ])
        go_cut [46] (fun v46 wc => ∃ (kq : Nat) (x46_17 : Bool), v46 = .bool x46_17 ∧ Aside0 (laws_FnExactWorkSteps.j0 kq a1 x46_17 l0_0 a0_1 l0_2 t791 t794 t795 t807 t810 t811 = some r) ∧ Aside0 (kq ≤ k) ∧ Aside0 (Kd.R k67 67 wc w.heap.size (fun k_ => some k_ ≠ ((.slice Ao35 t799.length co35) : Value).ownBlock ∧ some k_ ≠ ((.slice Ao42 t807.length co42) : Value).ownBlock) (.slice Ao28 t791.length co28) t791) ∧ Aside0 (Kd.R (Kd.int .i64) 3 wc w.heap.size (fun k_ => some k_ ≠ ((.slice Ao39 t803.length co39) : Value).ownBlock ∧ some k_ ≠ ((.slice Ao47 t811.length co47) : Value).ownBlock) (.slice Ao31 t795.length co31) t795) ∧ Aside0 (Kd.R k67 67 wc w.heap.size (fun k_ => some k_ ≠ ((.slice Ao28 t791.length co28) : Value).ownBlock ∧ some k_ ≠ ((.slice Ao42 t807.length co42) : Value).ownBlock) (.slice Ao35 t799.length co35) t825) ∧ Aside0 (Kd.R (Kd.int .i64) 3 wc w.heap.size (fun k_ => some k_ ≠ ((.slice Ao31 t795.length co31) : Value).ownBlock ∧ some k_ ≠ ((.slice Ao47 t811.length co47) : Value).ownBlock) (.slice Ao39 t803.length co39) t826) ∧ Aside0 (Kd.R k67 67 wc w.heap.size (fun k_ => some k_ ≠ ((.slice Ao28 t791.length co28) : Value).ownBlock ∧ some k_ ≠ ((.slice Ao35 t799.length co35) : Value).ownBlock) (.slice Ao42 t807.length co42) t807) ∧ Aside0 (Kd.R (Kd.int .i64) 3 wc w.heap.size (fun k_ => some k_ ≠ ((.slice Ao31 t795.length co31) : Value).ownBlock ∧ some k_ ≠ ((.slice Ao39 t803.length co39) : Value).ownBlock) (.slice Ao47 t811.length co47) t811) ∧ Aside0 (wc.heap[gb782]? = some (.cells #[(.slice A0_0 l0_0.length c0_0), .int .i64 a0_1, (.slice A0_2 l0_2.length c0_2)] 25 (0, 0))) ∧ Aside0 (wc.heap[gb798]? = some (.cells #[(.slice Ao28 t791.length co28), .int .i64 t794, (.slice Ao31 t795.length co31)] 30 (0, 0))) ∧ Aside0 (wc.heap[gb806]? = some (.cells #[(.slice Ao35 t799.length co35), .int .i64 t802, (.slice Ao39 t803.length co39)] 30 (0, 0))) ∧ Aside0 (wc.heap[gb814]? = some (.cells #[(.slice Ao42 t807.length co42), .int .i64 t810, (.slice Ao47 t811.length co47)] 30 (0, 0))) ∧ Aside0 (Below w.heap.size w wc))
        case first =>
          have H := HC18.out
          clear HC18
          by_cases c57 : t824 < 0
          · rw [if_pos c57] at H
            have c57b0 : decide (t824 < 0) = true := decide_eq_true c57
            clear c57
            (first | rw [c57b0] | (simp only [i64_w, i32_w]; rw [c57b0]) | skip)
            have H' := Aside0.mk H
            clear H
            go_wp2
            go_meet
            case rel => exact ⟨_, (true), (by first | rfl | (simp; done) | (simp [*]; done)), H', ⟨by first | omega | exact Nat.le_refl _⟩, ⟨by (with_reducible repeat (first | apply Kd.R_alloc | apply Kd.R_drewN | apply Kd.R_drew)); exact Kd.R_mono HO793.out (fun _ hk => ⟨hk.2.1, hk.2.2.1⟩)⟩, ⟨by (with_reducible repeat (first | apply Kd.R_alloc | apply Kd.R_drewN | apply Kd.R_drew)); exact Kd.R_mono HO797.out (fun _ hk => ⟨hk.2.1, hk.2.2.1⟩)⟩, ⟨by (with_reducible repeat (first | apply Kd.R_alloc | apply Kd.R_drewN | apply Kd.R_drew)); exact Kd.R_mono HO801.out (fun _ hk => ⟨hk.1.1.2, hk.1.2⟩)⟩, ⟨by (with_reducible repeat (first | apply Kd.R_alloc | apply Kd.R_drewN | apply Kd.R_drew)); exact Kd.R_mono HO805.out (fun _ hk => ⟨hk.1.1.2, hk.1.2⟩)⟩, ⟨by (with_reducible repeat (first | apply Kd.R_alloc | apply Kd.R_drewN | apply Kd.R_drew)); exact Kd.R_mono HO809.out (fun _ hk => ⟨hk.2.1, hk.2.2.1⟩)⟩, ⟨by (with_reducible repeat (first | apply Kd.R_alloc | apply Kd.R_drewN | apply Kd.R_drew)); exact Kd.R_mono HO813.out (fun _ hk => ⟨hk.2.1, hk.2.2.1⟩)⟩, ⟨oK BK782⟩, ⟨oK BK798⟩, ⟨oK BK806⟩, ⟨oK BK814⟩, ⟨oB HB⟩⟩
          · rw [if_neg c57] at H
            have c57b0 : decide (t824 < 0) = false := decide_eq_false c57
            clear c57
            (first | rw [c57b0] | (simp only [i64_w, i32_w]; rw [c57b0]) | skip)
            replace H := Option.bind_eq_some_iff.mp H
            obtain ⟨t827, A580, H⟩ := H
            (try dsimp only at H)
            have A58 := Aside0.mk A580
            clear A580
            have H' := Aside0.mk H
            clear H
            have hnb59 := NB814_782.out
            have hnc59 := NB782_814.out
            have hnb60 := NB814_798.out
            have hnc60 := NB798_814.out
            have hnb61 := NB814_806.out
            have hnc61 := NB806_814.out
            have hcz62_0 : w56.cell? ⟨gb814, 0, none⟩ = some (.slice Ao42 t807.length co42) := (blk_cell BK814.out 0).trans rfl
            have hcz62_1 : w56.cell? ⟨gb814, 1, none⟩ = some (.int .i64 t810) := (blk_cell BK814.out 1).trans rfl
            have hcz62_2 : w56.cell? ⟨gb814, 2, none⟩ = some (.slice Ao47 t811.length co47) := (blk_cell BK814.out 2).trans rfl
            have hfz62_0 := blk_frozen BK814.out 0
            have hfz62_1 := blk_frozen BK814.out 1
            have hfz62_2 := blk_frozen BK814.out 2
            have hnb63 := NB798_782.out
            have hnc63 := NB782_798.out
            have hnb64 := NB798_806.out
            have hnc64 := NB806_798.out
            have hcz65_0 : w56.cell? ⟨gb798, 0, none⟩ = some (.slice Ao28 t791.length co28) := (blk_cell BK798.out 0).trans rfl
            have hcz65_1 : w56.cell? ⟨gb798, 1, none⟩ = some (.int .i64 t794) := (blk_cell BK798.out 1).trans rfl
            have hcz65_2 : w56.cell? ⟨gb798, 2, none⟩ = some (.slice Ao31 t795.length co31) := (blk_cell BK798.out 2).trans rfl
            have hfz65_0 := blk_frozen BK798.out 0
            have hfz65_1 := blk_frozen BK798.out 1
            have hfz65_2 := blk_frozen BK798.out 2
            go_wp2_with (first | (go_at_call 19; (with_reducible refine (laws_eqWork.calls k _ _ t807 t810 _ _ t811 _ _ t791 t794 _ _ t795 t827 _ ?side1 ?side2 ?side3 ?side4 ?side5 ?side6 ?side7 ?side8 A58.out).mono ?_); (case side1 => repeat (first | exact (Kd.R_reads' HO809.out).2.2 | (with_reducible refine Kd.C_alloc ?_ _) | (with_reducible refine Kd.C_drewN ?_ _) | (with_reducible refine Kd.C_drew ?_))); (case side2 => exact (Kd.R_reads' HO809.out).2.1); (case side3 => repeat (first | exact (Kd.R_reads' HO813.out).2.2 | (with_reducible refine Kd.C_alloc ?_ _) | (with_reducible refine Kd.C_drewN ?_ _) | (with_reducible refine Kd.C_drew ?_))); (case side4 => exact (Kd.R_reads' HO813.out).2.1); (case side5 => repeat (first | exact (Kd.R_reads' HO793.out).2.2 | (with_reducible refine Kd.C_alloc ?_ _) | (with_reducible refine Kd.C_drewN ?_ _) | (with_reducible refine Kd.C_drew ?_))); (case side6 => exact (Kd.R_reads' HO793.out).2.1); (case side7 => repeat (first | exact (Kd.R_reads' HO797.out).2.2 | (with_reducible refine Kd.C_alloc ?_ _) | (with_reducible refine Kd.C_drewN ?_ _) | (with_reducible refine Kd.C_drew ?_))); (case side8 => exact (Kd.R_reads' HO797.out).2.1); rintro e w66 ⟨rfl, hb⟩; have n0_ := Aside0.mk (Kd.R_below (oR HO786) hb); have n1_ := Aside0.mk (Kd.R_below (oR HO790) hb); have n2_ := Aside0.mk (Kd.R_below (oR HO793) hb); have n3_ := Aside0.mk (Kd.R_below (oR HO797) hb); have n4_ := Aside0.mk (Kd.R_below (oR HO801) hb); have n5_ := Aside0.mk (Kd.R_below (oR HO805) hb); have n6_ := Aside0.mk (Kd.R_below (oR HO809) hb); have n7_ := Aside0.mk (Kd.R_below (oR HO813) hb); have n8_ := Aside0.mk (Kd.R_below (oR HO818) hb); have n9_ := Aside0.mk (Kd.R_below (oR HO822) hb); have n10_ := Aside0.mk (blk_below (g := gb782) (o := .cells #[.slice A0_0 l0_0.length c0_0, .int .i64 a0_1, .slice A0_2 l0_2.length c0_2] 25 (0, 0)) (oK BK782) hb); have n11_ := Aside0.mk (blk_below (g := gb798) (o := .cells #[.slice Ao28 t791.length co28, .int .i64 t794, .slice Ao31 t795.length co31] 30 (0, 0)) (oK BK798) hb); have n12_ := Aside0.mk (blk_below (g := gb806) (o := .cells #[.slice Ao35 t799.length co35, .int .i64 t802, .slice Ao39 t803.length co39] 30 (0, 0)) (oK BK806) hb); have n13_ := Aside0.mk (blk_below (g := gb814) (o := .cells #[.slice Ao42 t807.length co42, .int .i64 t810, .slice Ao47 t811.length co47] 30 (0, 0)) (oK BK814) hb); have n14_ := Aside0.mk (below_step (oB HB) hb); clear HO786; clear HO790; clear HO793; clear HO797; clear HO801; clear HO805; clear HO809; clear HO813; clear HO818; clear HO822; clear BK782; clear BK798; clear BK806; clear BK814; clear HB; have HO786 := n0_; have HO790 := n1_; have HO793 := n2_; have HO797 := n3_; have HO801 := n4_; have HO805 := n5_; have HO809 := n6_; have HO813 := n7_; have HO818 := n8_; have HO822 := n9_; have BK782 := n10_; have BK798 := n11_; have BK806 := n12_; have BK814 := n13_; have HB := n14_; clear n0_ n1_ n2_ n3_ n4_ n5_ n6_ n7_ n8_ n9_ n10_ n11_ n12_ n13_ n14_; (try clear hb); (try clear hb2); (try clear hk); (try clear hi)))
            go_meet
            case rel => exact ⟨_, (!t827), (by first | rfl | (simp; done) | (simp [*]; done)), H', ⟨by first | omega | exact Nat.le_refl _⟩, ⟨by (with_reducible repeat (first | apply Kd.R_alloc | apply Kd.R_drewN | apply Kd.R_drew)); exact Kd.R_mono HO793.out (fun _ hk => ⟨hk.2.1, hk.2.2.1⟩)⟩, ⟨by (with_reducible repeat (first | apply Kd.R_alloc | apply Kd.R_drewN | apply Kd.R_drew)); exact Kd.R_mono HO797.out (fun _ hk => ⟨hk.2.1, hk.2.2.1⟩)⟩, ⟨by (with_reducible repeat (first | apply Kd.R_alloc | apply Kd.R_drewN | apply Kd.R_drew)); exact Kd.R_mono HO801.out (fun _ hk => ⟨hk.1.1.2, hk.1.2⟩)⟩, ⟨by (with_reducible repeat (first | apply Kd.R_alloc | apply Kd.R_drewN | apply Kd.R_drew)); exact Kd.R_mono HO805.out (fun _ hk => ⟨hk.1.1.2, hk.1.2⟩)⟩, ⟨by (with_reducible repeat (first | apply Kd.R_alloc | apply Kd.R_drewN | apply Kd.R_drew)); exact Kd.R_mono HO809.out (fun _ hk => ⟨hk.2.1, hk.2.2.1⟩)⟩, ⟨by (with_reducible repeat (first | apply Kd.R_alloc | apply Kd.R_drewN | apply Kd.R_drew)); exact Kd.R_mono HO813.out (fun _ hk => ⟨hk.2.1, hk.2.2.1⟩)⟩, ⟨oK BK782⟩, ⟨oK BK798⟩, ⟨oK BK806⟩, ⟨oK BK814⟩, ⟨oB HB⟩⟩
        case rest =>
          clear HC18
          try clear c1
          try clear c2
          try clear p2
          try clear c3
          try clear c4
          try clear c4b0
          try clear c5
          try clear c6
          try clear c10
          try clear c13
          try clear c15
          try clear c16
          try clear c17
          try clear c19
          try clear c28
          try clear c29
          try clear c36
          try clear c37
          try clear c41
          try clear c42
          try clear c43
          try clear c44
          try clear c45
          try clear c57
          try clear c57b0
          try clear c59
          try clear c60
          try clear c61
          try clear c63
          try clear c64
          try clear hcz20_0
          try clear hcz20_1
          try clear hcz20_2
          try clear hcz22_0
          try clear hcz22_1
          try clear hcz22_2
          try clear hcz30_0
          try clear hcz30_1
          try clear hcz30_2
          try clear hcz32_0
          try clear hcz32_1
          try clear hcz32_2
          try clear hcz38_0
          try clear hcz38_1
          try clear hcz38_2
          try clear hcz46_0
          try clear hcz46_1
          try clear hcz46_2
          try clear hcz48_0
          try clear hcz48_1
          try clear hcz48_2
          try clear hcz55_0
          try clear hcz55_1
          try clear hcz55_2
          try clear hcz62_0
          try clear hcz62_1
          try clear hcz62_2
          try clear hcz65_0
          try clear hcz65_1
          try clear hcz65_2
          try clear hcz6_0
          try clear hcz6_1
          try clear hcz6_2
          try clear hfz20_0
          try clear hfz20_1
          try clear hfz20_2
          try clear hfz22_0
          try clear hfz22_1
          try clear hfz22_2
          try clear hfz30_0
          try clear hfz30_1
          try clear hfz30_2
          try clear hfz32_0
          try clear hfz32_1
          try clear hfz32_2
          try clear hfz38_0
          try clear hfz38_1
          try clear hfz38_2
          try clear hfz46_0
          try clear hfz46_1
          try clear hfz46_2
          try clear hfz48_0
          try clear hfz48_1
          try clear hfz48_2
          try clear hfz55_0
          try clear hfz55_1
          try clear hfz55_2
          try clear hfz62_0
          try clear hfz62_1
          try clear hfz62_2
          try clear hfz65_0
          try clear hfz65_1
          try clear hfz65_2
          try clear hfz6_0
          try clear hfz6_1
          try clear hfz6_2
          obtain ⟨kq, x46_17, rfl, HA, HJ17, HO_799000, HO_799002, HO_807000, HO_807002, HO_815000, HO_815002, BK782, BK798, BK806, BK814, HB⟩ := hcut
          have hl807000_17 := (Kd.R_reads' HO_807000.out).1
          rw [hl807000_17] at HO_807000
          (try simp only [hl807000_17])
          (try simp only [hl807000_17] at BK782)
          (try simp only [hl807000_17] at BK798)
          (try simp only [hl807000_17] at BK806)
          (try simp only [hl807000_17] at BK814)
          (try simp only [hl807000_17] at HO_799000)
          (try simp only [hl807000_17] at HO_799002)
          (try simp only [hl807000_17] at HO_807002)
          (try simp only [hl807000_17] at HO_815000)
          (try simp only [hl807000_17] at HO_815002)
          have hl807002_17 := (Kd.R_reads' HO_807002.out).1
          rw [hl807002_17] at HO_807002
          (try simp only [hl807002_17])
          (try simp only [hl807002_17] at BK782)
          (try simp only [hl807002_17] at BK798)
          (try simp only [hl807002_17] at BK806)
          (try simp only [hl807002_17] at BK814)
          (try simp only [hl807002_17] at HO_799000)
          (try simp only [hl807002_17] at HO_799002)
          (try simp only [hl807002_17] at HO_807000)
          (try simp only [hl807002_17] at HO_815000)
          (try simp only [hl807002_17] at HO_815002)
          cases kq with
          | zero => exact absurd HA.out (by simp [laws_FnExactWorkSteps.j0])
          | succ kj17 =>
            have H := HA.out
            clear HA
            simp only [laws_FnExactWorkSteps.j0] at H
            by_cases c67 : x46_17 = true
            · subst c67
              rw [if_pos rfl] at H
              exact absurd ((Option.some.inj H).trans hrt_.out) (by decide)
            · replace c67 := Bool.eq_false_iff.mpr c67
              subst c67
              rw [if_neg (show ¬ (false = true) by decide)] at H
              replace H := Option.bind_eq_some_iff.mp H
              obtain ⟨⟨t828, t829, t830⟩, A680, H⟩ := H
              (try dsimp only at H)
              have A68 := Aside0.mk A680
              clear A680
              replace H := Option.bind_eq_some_iff.mp H
              obtain ⟨t831, A690, H⟩ := H
              (try dsimp only at H)
              have A69 := Aside0.mk A690
              clear A690
              by_cases c70 : t831 < 0
              · rw [if_pos c70] at H
                have c70b0 : decide (t831 < 0) = true := decide_eq_true c70
                clear c70
                exact absurd ((Option.some.inj H).trans hrt_.out) (by decide)
              · rw [if_neg c70] at H
                have c70b0 : decide (t831 < 0) = false := decide_eq_false c70
                clear c70
                by_cases c71 : t831 = t828
                · rw [if_pos c71] at H
                  have c71b0 : (t831 == t828) = true := beq_iff_eq.mpr c71
                  have c71b1 : (t831 != t828) = false := bne_eq_false_iff_eq.mpr c71
                  clear c71
                  replace H := Option.bind_eq_some_iff.mp H
                  obtain ⟨⟨t832, t835, t836⟩, A720, H⟩ := H
                  (try dsimp only at H)
                  have A72 := Aside0.mk A720
                  clear A720
                  replace H := Option.bind_eq_some_iff.mp H
                  obtain ⟨⟨t839, t842, t843⟩, A730, H⟩ := H
                  (try dsimp only at H)
                  have A73 := Aside0.mk A730
                  clear A730
                  replace H := Option.bind_eq_some_iff.mp H
                  obtain ⟨t847, A740, H⟩ := H
                  (try dsimp only at H)
                  have A74 := Aside0.mk A740
                  clear A740
                  by_cases c75 : t847 = true
                  · subst c75
                    rw [if_pos rfl] at H
                    replace H := Option.bind_eq_some_iff.mp H
                    obtain ⟨t848, A760, H⟩ := H
                    (try dsimp only at H)
                    have A76 := Aside0.mk A760
                    clear A760
                    by_cases c77 : t848 < 0
                    · rw [if_pos c77] at H
                      have c77b0 : decide (t848 < 0) = true := decide_eq_true c77
                      clear c77
                      exact absurd ((Option.some.inj H).trans hrt_.out) (by decide)
                    · rw [if_neg c77] at H
                      have c77b0 : decide (t848 < 0) = false := decide_eq_false c77
                      clear c77
                      by_cases c78 : t848 = t828
                      · rw [if_pos c78] at H
                        have c78b0 : (t848 == t828) = true := beq_iff_eq.mpr c78
                        have c78b1 : (t848 != t828) = false := bne_eq_false_iff_eq.mpr c78
                        clear c78
                        obtain rfl := Option.some.inj H
                        have hnb79 := NB814_782.out
                        have hnc79 := NB782_814.out
                        have hnb80 := NB814_798.out
                        have hnc80 := NB798_814.out
                        have hnb81 := NB814_806.out
                        have hnc81 := NB806_814.out
                        have hcz82_0 : wc.cell? ⟨gb814, 0, none⟩ = some (.slice Ao42 t807.length co42) := (blk_cell BK814.out 0).trans rfl
                        have hcz82_1 : wc.cell? ⟨gb814, 1, none⟩ = some (.int .i64 t810) := (blk_cell BK814.out 1).trans rfl
                        have hcz82_2 : wc.cell? ⟨gb814, 2, none⟩ = some (.slice Ao47 t811.length co47) := (blk_cell BK814.out 2).trans rfl
                        have hfz82_0 := blk_frozen BK814.out 0
                        have hfz82_1 := blk_frozen BK814.out 1
                        have hfz82_2 := blk_frozen BK814.out 2
                        go_wp2_with (first | ((with_reducible refine gate_callee (f := 28) rfl ?_); refine goesL_ (some 49) rfl rfl Try.func28 (by kernel_rfl) rfl #[.agg #[.slice Ao42 t807.length co42, .int .i64 t810, .slice Ao47 t811.length co47], .int .i64 1] rfl (by (try simp only [List.map_toArray, List.map_cons, List.map_nil]); first | done | rfl | (simp only [List.length_drop, List.length_take]; rfl)) ?_; (with_reducible refine (laws_markWork.calls kj17 (fun k_ => some k_ = (.slice Ao42 t807.length co42 : Value).ownBlock) (.slice Ao42 t807.length co42) t807 t810 (fun k_ => some k_ = (.slice Ao47 t811.length co47 : Value).ownBlock) (.slice Ao47 t811.length co47) t811 1 t828 t829 t830 w _ ?side1 ?side2 ?side3 A68.out).mono ?_); (case side1 => repeat (first | (with_reducible first | exact HB.out | apply below_alloc | apply pw_below_drewN | apply below_drew1 | refine below_set ?_ GE782.out | refine below_set ?_ GE798.out | refine below_set ?_ GE806.out | refine below_set ?_ GE814.out) | exact HB.out)); (case side2 => exact Kd.R_tight rfl HO_815000.out); (case side3 => exact Kd.R_tight rfl HO_815002.out); rintro e w83 ⟨rfl, hy0, hy1, hb, hkp⟩; refine ⟨_, rfl, ?_⟩; have n0_ := Aside0.mk (Kd.R_mono (ok' := fun k_ => some k_ ≠ (.slice Ao35 t825.length co35 : Value).ownBlock ∧ some k_ ≠ (.slice Ao42 t807.length co42 : Value).ownBlock) (Kd.R_keptB ((Kd.R_apart' HO_799000.out (Kd.R_typed HO_815002.out) (by decide))) hkp (fun k_ hk_ hs_ => Or.elim hs_ (fun e_ => (hk_.1.2) e_) (fun e_ => (hk_.2) e_))) (fun k_ hk_ => ⟨hk_.1.1.1, hk_.1.1.2⟩)); have n1_ := Aside0.mk (Kd.R_mono (ok' := fun k_ => some k_ ≠ (.slice Ao39 t826.length co39 : Value).ownBlock ∧ some k_ ≠ (.slice Ao47 t811.length co47 : Value).ownBlock) (Kd.R_keptB ((Kd.R_apart' HO_799002.out (Kd.R_typed HO_815000.out) (by decide))) hkp (fun k_ hk_ hs_ => Or.elim hs_ (fun e_ => (hk_.2) e_) (fun e_ => (hk_.1.2) e_))) (fun k_ hk_ => ⟨hk_.1.1.1, hk_.1.1.2⟩)); have n2_ := Aside0.mk (Kd.R_mono (ok' := fun k_ => some k_ ≠ (.slice Ao28 t791.length co28 : Value).ownBlock ∧ some k_ ≠ (.slice Ao42 t807.length co42 : Value).ownBlock) (Kd.R_keptB ((Kd.R_apart' HO_807000.out (Kd.R_typed HO_815002.out) (by decide))) hkp (fun k_ hk_ hs_ => Or.elim hs_ (fun e_ => (hk_.1.2) e_) (fun e_ => (hk_.2) e_))) (fun k_ hk_ => ⟨hk_.1.1.1, hk_.1.1.2⟩)); have n3_ := Aside0.mk (Kd.R_mono (ok' := fun k_ => some k_ ≠ (.slice Ao31 t795.length co31 : Value).ownBlock ∧ some k_ ≠ (.slice Ao47 t811.length co47 : Value).ownBlock) (Kd.R_keptB ((Kd.R_apart' HO_807002.out (Kd.R_typed HO_815000.out) (by decide))) hkp (fun k_ hk_ hs_ => Or.elim hs_ (fun e_ => (hk_.2) e_) (fun e_ => (hk_.1.2) e_))) (fun k_ hk_ => ⟨hk_.1.1.1, hk_.1.1.2⟩)); have n4_ := Aside0.mk (Kd.R_reok rfl hy0 (fun k_ e_ => HO_815000.out.1 k_ e_)); have n5_ := Aside0.mk (Kd.R_reok rfl hy1 (fun k_ e_ => HO_815002.out.1 k_ e_)); have n6_ := Aside0.mk (blk_kept (oK BK782) hkp (fun hs_ => Or.elim hs_ (fun e_ => (fun e_ => (Kd.R_ne HO_815000.out BK782.out (by decide)) e_) e_) (fun e_ => (fun e_ => (Kd.R_ne HO_815002.out BK782.out (by decide)) e_) e_))); have n7_ := Aside0.mk (blk_kept (oK BK798) hkp (fun hs_ => Or.elim hs_ (fun e_ => (fun e_ => (Kd.R_ne HO_815000.out BK798.out (by decide)) e_) e_) (fun e_ => (fun e_ => (Kd.R_ne HO_815002.out BK798.out (by decide)) e_) e_))); have n8_ := Aside0.mk (blk_kept (oK BK806) hkp (fun hs_ => Or.elim hs_ (fun e_ => (fun e_ => (Kd.R_ne HO_815000.out BK806.out (by decide)) e_) e_) (fun e_ => (fun e_ => (Kd.R_ne HO_815002.out BK806.out (by decide)) e_) e_))); have n9_ := Aside0.mk (blk_kept (oK BK814) hkp (fun hs_ => Or.elim hs_ (fun e_ => (fun e_ => (Kd.R_ne HO_815000.out BK814.out (by decide)) e_) e_) (fun e_ => (fun e_ => (Kd.R_ne HO_815002.out BK814.out (by decide)) e_) e_))); have n10_ := Aside0.mk (hb); clear HO_799000; clear HO_799002; clear HO_807000; clear HO_807002; clear HO_815000; clear HO_815002; clear BK782; clear BK798; clear BK806; clear BK814; clear HB; have HO_799000 := n0_; have HO_799002 := n1_; have HO_807000 := n2_; have HO_807002 := n3_; have HO_815000 := n4_; have HO_815002 := n5_; have BK782 := n6_; have BK798 := n7_; have BK806 := n8_; have BK814 := n9_; have HB := n10_; clear n0_ n1_ n2_ n3_ n4_ n5_ n6_ n7_ n8_ n9_ n10_; (try clear hb); (try clear hkp); (try clear hy0); (try clear hy1); have hcz84_0 : w83.cell? ⟨gb814, 0, none⟩ = some (.slice Ao42 t807.length co42) := (blk_cell BK814.out 0).trans rfl; have hcz84_1 : w83.cell? ⟨gb814, 1, none⟩ = some (.int .i64 t810) := (blk_cell BK814.out 1).trans rfl; have hcz84_2 : w83.cell? ⟨gb814, 2, none⟩ = some (.slice Ao47 t811.length co47) := (blk_cell BK814.out 2).trans rfl; have hfz84_0 := blk_frozen BK814.out 0; have hfz84_1 := blk_frozen BK814.out 1; have hfz84_2 := blk_frozen BK814.out 2) | ((with_reducible refine gate_callee (f := 29) rfl ?_); refine goesL_ (some 52) rfl rfl Try.func29 (by kernel_rfl) rfl #[.agg #[.slice Ao42 t829.length co42, .int .i64 t810, .slice Ao47 t830.length co47], .int .i64 1] rfl (by (try simp only [List.map_toArray, List.map_cons, List.map_nil]); first | done | (rw [show t829.length = t807.length from (Kd.R_reads' HO_815000.out).1.symm, show t830.length = t811.length from (Kd.R_reads' HO_815002.out).1.symm] <;> rfl) | rfl | (simp only [List.length_drop, List.length_take]; rfl)) ?_; (with_reducible refine (laws_heldWork.calls kj17 _ _ t829 t810 _ _ t830 1 t831 _ ?side1 ?side2 ?side3 ?side4 A69.out).mono ?_); (case side1 => repeat (first | exact (Kd.R_reads' HO_815000.out).2.2 | (with_reducible refine Kd.C_alloc ?_ _) | (with_reducible refine Kd.C_drewN ?_ _) | (with_reducible refine Kd.C_drew ?_))); (case side2 => rw [show t829.length = t807.length from (Kd.R_reads' HO_815000.out).1.symm]; exact (Kd.R_reads' HO_815000.out).2.1); (case side3 => repeat (first | exact (Kd.R_reads' HO_815002.out).2.2 | (with_reducible refine Kd.C_alloc ?_ _) | (with_reducible refine Kd.C_drewN ?_ _) | (with_reducible refine Kd.C_drew ?_))); (case side4 => rw [show t830.length = t811.length from (Kd.R_reads' HO_815002.out).1.symm]; exact (Kd.R_reads' HO_815002.out).2.1); rintro e w85 ⟨rfl, hb⟩; refine ⟨_, rfl, ?_⟩; have n0_ := Aside0.mk (Kd.R_below (oR HO_799000) hb); have n1_ := Aside0.mk (Kd.R_below (oR HO_799002) hb); have n2_ := Aside0.mk (Kd.R_below (oR HO_807000) hb); have n3_ := Aside0.mk (Kd.R_below (oR HO_807002) hb); have n4_ := Aside0.mk (Kd.R_below (oR HO_815000) hb); have n5_ := Aside0.mk (Kd.R_below (oR HO_815002) hb); have n6_ := Aside0.mk (blk_below (g := gb782) (o := .cells #[.slice A0_0 l0_0.length c0_0, .int .i64 a0_1, .slice A0_2 l0_2.length c0_2] 25 (0, 0)) (oK BK782) hb); have n7_ := Aside0.mk (blk_below (g := gb798) (o := .cells #[.slice Ao28 t791.length co28, .int .i64 t794, .slice Ao31 t795.length co31] 30 (0, 0)) (oK BK798) hb); have n8_ := Aside0.mk (blk_below (g := gb806) (o := .cells #[.slice Ao35 t825.length co35, .int .i64 t802, .slice Ao39 t826.length co39] 30 (0, 0)) (oK BK806) hb); have n9_ := Aside0.mk (blk_below (g := gb814) (o := .cells #[.slice Ao42 t807.length co42, .int .i64 t810, .slice Ao47 t811.length co47] 30 (0, 0)) (oK BK814) hb); have n10_ := Aside0.mk (below_step (oB HB) hb); clear HO_799000; clear HO_799002; clear HO_807000; clear HO_807002; clear HO_815000; clear HO_815002; clear BK782; clear BK798; clear BK806; clear BK814; clear HB; have HO_799000 := n0_; have HO_799002 := n1_; have HO_807000 := n2_; have HO_807002 := n3_; have HO_815000 := n4_; have HO_815002 := n5_; have BK782 := n6_; have BK798 := n7_; have BK806 := n8_; have BK814 := n9_; have HB := n10_; clear n0_ n1_ n2_ n3_ n4_ n5_ n6_ n7_ n8_ n9_ n10_; (try clear hb); (try clear hb2); (try clear hk); (try clear hi); have hnb86 := NB782_798.out; have hnc86 := NB798_782.out; have hnb87 := NB782_806.out; have hnc87 := NB806_782.out; have hcz88_0 : w85.cell? ⟨gb782, 0, none⟩ = some (.slice A0_0 l0_0.length c0_0) := (blk_cell BK782.out 0).trans rfl; have hcz88_1 : w85.cell? ⟨gb782, 1, none⟩ = some (.int .i64 a0_1) := (blk_cell BK782.out 1).trans rfl; have hcz88_2 : w85.cell? ⟨gb782, 2, none⟩ = some (.slice A0_2 l0_2.length c0_2) := (blk_cell BK782.out 2).trans rfl; have hfz88_0 := blk_frozen BK782.out 0; have hfz88_1 := blk_frozen BK782.out 1; have hfz88_2 := blk_frozen BK782.out 2) | ((with_reducible refine gate_callee (f := 17) rfl ?_); refine goesL_ (some 59) rfl rfl Try.func17 (by kernel_rfl) rfl #[.agg #[.slice A0_0 l0_0.length c0_0, .int .i64 a0_1, .slice A0_2 l0_2.length c0_2]] rfl (by (try simp only [List.map_toArray, List.map_cons, List.map_nil]); first | done | rfl | (simp only [List.length_drop, List.length_take]; rfl)) ?_; (with_reducible refine (laws_toWork.calls kj17 _ _ l0_0 a0_1 _ _ l0_2 t832 t835 t836 _ ?side1 ?side2 ?side3 ?side4 A72.out).mono ?_); (case side1 => exact oc_ HR0_0.out); (case side2 => exact HC0_0.out); (case side3 => exact oc_ HR0_2.out); (case side4 => exact HC0_2.out); rintro e w89 ⟨v833, v837, rfl, ho0, ho1, hb⟩; refine ⟨_, rfl, ?_⟩; have n0_ := Aside0.mk (Kd.R_elder' (oR HO_799000) (Kd.R_base ho0) hb); have n1_ := Aside0.mk (Kd.R_elder' (oR HO_799002) (Kd.R_base ho1) hb); have n2_ := Aside0.mk (Kd.R_elder' (oR HO_807000) (Kd.R_base ho0) hb); have n3_ := Aside0.mk (Kd.R_elder' (oR HO_807002) (Kd.R_base ho1) hb); have n4_ := Aside0.mk (Kd.R_elder' (oR HO_815000) (Kd.R_base ho0) hb); have n5_ := Aside0.mk (Kd.R_elder' (oR HO_815002) (Kd.R_base ho1) hb); have n6_ := Aside0.mk (Kd.R_lower (Kd.R_new' (Kd.R_new' (Kd.R_new' ho0 (Kd.R_lt (oR HO_799000))) (Kd.R_lt (oR HO_807000))) (Kd.R_lt (oR HO_815000))) (below_size (oB HB))); have n7_ := Aside0.mk (Kd.R_lower (Kd.R_new' (Kd.R_new' (Kd.R_new' ho1 (Kd.R_lt (oR HO_799002))) (Kd.R_lt (oR HO_807002))) (Kd.R_lt (oR HO_815002))) (below_size (oB HB))); have n8_ := Aside0.mk (blk_below (g := gb782) (o := .cells #[.slice A0_0 l0_0.length c0_0, .int .i64 a0_1, .slice A0_2 l0_2.length c0_2] 25 (0, 0)) (oK BK782) hb); have n9_ := Aside0.mk (blk_below (g := gb798) (o := .cells #[.slice Ao28 t791.length co28, .int .i64 t794, .slice Ao31 t795.length co31] 30 (0, 0)) (oK BK798) hb); have n10_ := Aside0.mk (blk_below (g := gb806) (o := .cells #[.slice Ao35 t825.length co35, .int .i64 t802, .slice Ao39 t826.length co39] 30 (0, 0)) (oK BK806) hb); have n11_ := Aside0.mk (blk_below (g := gb814) (o := .cells #[.slice Ao42 t807.length co42, .int .i64 t810, .slice Ao47 t811.length co47] 30 (0, 0)) (oK BK814) hb); have n12_ := Aside0.mk (below_step (oB HB) hb); clear HO_799000; clear HO_799002; clear HO_807000; clear HO_807002; clear HO_815000; clear HO_815002; clear BK782; clear BK798; clear BK806; clear BK814; clear HB; have HO_799000 := n0_; have HO_799002 := n1_; have HO_807000 := n2_; have HO_807002 := n3_; have HO_815000 := n4_; have HO_815002 := n5_; have HO834 := n6_; have HO838 := n7_; have BK782 := n8_; have BK798 := n9_; have BK806 := n10_; have BK814 := n11_; have HB := n12_; clear n0_ n1_ n2_ n3_ n4_ n5_ n6_ n7_ n8_ n9_ n10_ n11_ n12_; (try clear hb); (try clear hb2); (try clear hk); (try clear hi); (try clear ho0); (try clear ho1); obtain ⟨Ao90, co90, eo90⟩ := Kd.R_slice HO834.out; subst eo90; obtain ⟨Ao91, co91, eo91⟩ := Kd.R_slice HO838.out; subst eo91) | ((with_reducible refine gate_callee (f := 42) rfl ?_); refine goesL_ (some 61) rfl rfl Try.func42 (by kernel_rfl) rfl #[.agg #[.slice Ao90 t832.length co90, .int .i64 t835, .slice Ao91 t836.length co91], .int .i64 a1] rfl (by (try simp only [List.map_toArray, List.map_cons, List.map_nil]); first | done | rfl | (simp only [List.length_drop, List.length_take]; rfl)) ?_; (with_reducible refine (impl_WorkSteps.calls kj17 _ _ t832 t835 _ _ t836 a1 t839 t842 t843 _ ?side1 ?side2 ?side3 ?side4 A73.out).mono ?_); (case side1 => repeat (first | exact (Kd.R_reads' HO834.out).2.2 | (with_reducible refine Kd.C_alloc ?_ _) | (with_reducible refine Kd.C_drewN ?_ _) | (with_reducible refine Kd.C_drew ?_))); (case side2 => exact (Kd.R_reads' HO834.out).2.1); (case side3 => repeat (first | exact (Kd.R_reads' HO838.out).2.2 | (with_reducible refine Kd.C_alloc ?_ _) | (with_reducible refine Kd.C_drewN ?_ _) | (with_reducible refine Kd.C_drew ?_))); (case side4 => exact (Kd.R_reads' HO838.out).2.1); rintro e w92 ⟨v840, v844, rfl, ho0, ho1, hb⟩; refine ⟨_, rfl, ?_⟩; have n0_ := Aside0.mk (Kd.R_elder' (oR HO_799000) (Kd.R_base ho0) hb); have n1_ := Aside0.mk (Kd.R_elder' (oR HO_799002) (Kd.R_base ho1) hb); have n2_ := Aside0.mk (Kd.R_elder' (oR HO_807000) (Kd.R_base ho0) hb); have n3_ := Aside0.mk (Kd.R_elder' (oR HO_807002) (Kd.R_base ho1) hb); have n4_ := Aside0.mk (Kd.R_elder' (oR HO_815000) (Kd.R_base ho0) hb); have n5_ := Aside0.mk (Kd.R_elder' (oR HO_815002) (Kd.R_base ho1) hb); have n6_ := Aside0.mk (Kd.R_elder' (oR HO834) (Kd.R_base ho0) hb); have n7_ := Aside0.mk (Kd.R_elder' (oR HO838) (Kd.R_base ho1) hb); have n8_ := Aside0.mk (Kd.R_lower (Kd.R_new' (Kd.R_new' (Kd.R_new' (Kd.R_new' ho0 (Kd.R_lt (oR HO_799000))) (Kd.R_lt (oR HO_807000))) (Kd.R_lt (oR HO_815000))) (Kd.R_lt (oR HO834))) (below_size (oB HB))); have n9_ := Aside0.mk (Kd.R_lower (Kd.R_new' (Kd.R_new' (Kd.R_new' (Kd.R_new' ho1 (Kd.R_lt (oR HO_799002))) (Kd.R_lt (oR HO_807002))) (Kd.R_lt (oR HO_815002))) (Kd.R_lt (oR HO838))) (below_size (oB HB))); have n10_ := Aside0.mk (blk_below (g := gb782) (o := .cells #[.slice A0_0 l0_0.length c0_0, .int .i64 a0_1, .slice A0_2 l0_2.length c0_2] 25 (0, 0)) (oK BK782) hb); have n11_ := Aside0.mk (blk_below (g := gb798) (o := .cells #[.slice Ao28 t791.length co28, .int .i64 t794, .slice Ao31 t795.length co31] 30 (0, 0)) (oK BK798) hb); have n12_ := Aside0.mk (blk_below (g := gb806) (o := .cells #[.slice Ao35 t825.length co35, .int .i64 t802, .slice Ao39 t826.length co39] 30 (0, 0)) (oK BK806) hb); have n13_ := Aside0.mk (blk_below (g := gb814) (o := .cells #[.slice Ao42 t807.length co42, .int .i64 t810, .slice Ao47 t811.length co47] 30 (0, 0)) (oK BK814) hb); have n14_ := Aside0.mk (below_step (oB HB) hb); clear HO_799000; clear HO_799002; clear HO_807000; clear HO_807002; clear HO_815000; clear HO_815002; clear HO834; clear HO838; clear BK782; clear BK798; clear BK806; clear BK814; clear HB; have HO_799000 := n0_; have HO_799002 := n1_; have HO_807000 := n2_; have HO_807002 := n3_; have HO_815000 := n4_; have HO_815002 := n5_; have HO834 := n6_; have HO838 := n7_; have HO841 := n8_; have HO845 := n9_; have BK782 := n10_; have BK798 := n11_; have BK806 := n12_; have BK814 := n13_; have HB := n14_; clear n0_ n1_ n2_ n3_ n4_ n5_ n6_ n7_ n8_ n9_ n10_ n11_ n12_ n13_ n14_; (try clear hb); (try clear hb2); (try clear hk); (try clear hi); (try clear ho0); (try clear ho1)) | ((with_reducible refine gate_dst (N := 12) rfl ?_); refine box_event ?hg (N := 12) ?hd (cs := #[.slice none 0 0, .int .i64 0, .slice none 0 0]) (t := 30) ?hr ?_; (case hd => rfl); (case hg => rfl); (case hr => first | (go_simp; done) | (go_simp; rfl)); intro gb846 hg w93 hbox hb; have n0_ := Aside0.mk (Kd.R_below (oR HO_799000) hb); have n1_ := Aside0.mk (Kd.R_below (oR HO_799002) hb); have n2_ := Aside0.mk (Kd.R_below (oR HO_807000) hb); have n3_ := Aside0.mk (Kd.R_below (oR HO_807002) hb); have n4_ := Aside0.mk (Kd.R_below (oR HO_815000) hb); have n5_ := Aside0.mk (Kd.R_below (oR HO_815002) hb); have n6_ := Aside0.mk (Kd.R_below (oR HO834) hb); have n7_ := Aside0.mk (Kd.R_below (oR HO838) hb); have n8_ := Aside0.mk (Kd.R_below (oR HO841) hb); have n9_ := Aside0.mk (Kd.R_below (oR HO845) hb); have n10_ := Aside0.mk (blk_below (g := gb782) (o := .cells #[.slice A0_0 l0_0.length c0_0, .int .i64 a0_1, .slice A0_2 l0_2.length c0_2] 25 (0, 0)) (oK BK782) hb); have n11_ := Aside0.mk (blk_below (g := gb798) (o := .cells #[.slice Ao28 t791.length co28, .int .i64 t794, .slice Ao31 t795.length co31] 30 (0, 0)) (oK BK798) hb); have n12_ := Aside0.mk (blk_below (g := gb806) (o := .cells #[.slice Ao35 t825.length co35, .int .i64 t802, .slice Ao39 t826.length co39] 30 (0, 0)) (oK BK806) hb); have n13_ := Aside0.mk (blk_below (g := gb814) (o := .cells #[.slice Ao42 t807.length co42, .int .i64 t810, .slice Ao47 t811.length co47] 30 (0, 0)) (oK BK814) hb); have n14_ := Aside0.mk (below_step (oB HB) hb); have n15_ := Aside0.mk (hbox); have n16_ := Aside0.mk ((by rw [hg]; exact (below_size (oB HB)) : w.heap.size ≤ gb846)); have n17_ := Aside0.mk ((by rw [hg]; exact (below_size (oB HB)) : w.heap.size ≤ gb846)); have n18_ := Aside0.mk ((by rw [hg]; exact Nat.ne_of_lt (blk_lt (g := gb782) (o := .cells #[.slice A0_0 l0_0.length c0_0, .int .i64 a0_1, .slice A0_2 l0_2.length c0_2] 25 (0, 0)) (oK BK782)) : gb782 ≠ gb846)); have n19_ := Aside0.mk ((by rw [hg]; exact Nat.ne_of_gt (blk_lt (g := gb782) (o := .cells #[.slice A0_0 l0_0.length c0_0, .int .i64 a0_1, .slice A0_2 l0_2.length c0_2] 25 (0, 0)) (oK BK782)) : gb846 ≠ gb782)); have n20_ := Aside0.mk ((by rw [hg]; exact Nat.ne_of_lt (blk_lt (g := gb798) (o := .cells #[.slice Ao28 t791.length co28, .int .i64 t794, .slice Ao31 t795.length co31] 30 (0, 0)) (oK BK798)) : gb798 ≠ gb846)); have n21_ := Aside0.mk ((by rw [hg]; exact Nat.ne_of_gt (blk_lt (g := gb798) (o := .cells #[.slice Ao28 t791.length co28, .int .i64 t794, .slice Ao31 t795.length co31] 30 (0, 0)) (oK BK798)) : gb846 ≠ gb798)); have n22_ := Aside0.mk ((by rw [hg]; exact Nat.ne_of_lt (blk_lt (g := gb806) (o := .cells #[.slice Ao35 t825.length co35, .int .i64 t802, .slice Ao39 t826.length co39] 30 (0, 0)) (oK BK806)) : gb806 ≠ gb846)); have n23_ := Aside0.mk ((by rw [hg]; exact Nat.ne_of_gt (blk_lt (g := gb806) (o := .cells #[.slice Ao35 t825.length co35, .int .i64 t802, .slice Ao39 t826.length co39] 30 (0, 0)) (oK BK806)) : gb846 ≠ gb806)); have n24_ := Aside0.mk ((by rw [hg]; exact Nat.ne_of_lt (blk_lt (g := gb814) (o := .cells #[.slice Ao42 t807.length co42, .int .i64 t810, .slice Ao47 t811.length co47] 30 (0, 0)) (oK BK814)) : gb814 ≠ gb846)); have n25_ := Aside0.mk ((by rw [hg]; exact Nat.ne_of_gt (blk_lt (g := gb814) (o := .cells #[.slice Ao42 t807.length co42, .int .i64 t810, .slice Ao47 t811.length co47] 30 (0, 0)) (oK BK814)) : gb846 ≠ gb814)); clear HO_799000; clear HO_799002; clear HO_807000; clear HO_807002; clear HO_815000; clear HO_815002; clear HO834; clear HO838; clear HO841; clear HO845; clear BK782; clear BK798; clear BK806; clear BK814; clear HB; have HO_799000 := n0_; have HO_799002 := n1_; have HO_807000 := n2_; have HO_807002 := n3_; have HO_815000 := n4_; have HO_815002 := n5_; have HO834 := n6_; have HO838 := n7_; have HO841 := n8_; have HO845 := n9_; have BK782 := n10_; have BK798 := n11_; have BK806 := n12_; have BK814 := n13_; have HB := n14_; have BK846 := n15_; have GW846 := n16_; have GE846 := n17_; have NB782_846 := n18_; have NB846_782 := n19_; have NB798_846 := n20_; have NB846_798 := n21_; have NB806_846 := n22_; have NB846_806 := n23_; have NB814_846 := n24_; have NB846_814 := n25_; clear n0_ n1_ n2_ n3_ n4_ n5_ n6_ n7_ n8_ n9_ n10_ n11_ n12_ n13_ n14_ n15_ n16_ n17_ n18_ n19_ n20_ n21_ n22_ n23_ n24_ n25_; clear hb hbox hg; obtain ⟨Ao94, co94, eo94⟩ := Kd.R_slice HO841.out; subst eo94; have hnb95 := NB846_782.out; have hnc95 := NB782_846.out; have hnb96 := NB846_798.out; have hnc96 := NB798_846.out; have hnb97 := NB846_806.out; have hnc97 := NB806_846.out; have hnb98 := NB846_814.out; have hnc98 := NB814_846.out; have hcz99_0 : w93.cell? ⟨gb846, 0, none⟩ = some (.slice none 0 0) := (blk_cell BK846.out 0).trans rfl; have hcz99_1 : w93.cell? ⟨gb846, 1, none⟩ = some (.int .i64 0) := (blk_cell BK846.out 1).trans rfl; have hcz99_2 : w93.cell? ⟨gb846, 2, none⟩ = some (.slice none 0 0) := (blk_cell BK846.out 2).trans rfl; have hfz99_0 := blk_frozen BK846.out 0; have hfz99_1 := blk_frozen BK846.out 1; have hfz99_2 := blk_frozen BK846.out 2; obtain ⟨Ao100, co100, eo100⟩ := Kd.R_slice HO845.out; subst eo100; have hnb101 := NB798_806.out; have hnc101 := NB806_798.out; have hcz102_0 : w93.cell? ⟨gb798, 0, none⟩ = some (.slice Ao28 t791.length co28) := (blk_cell BK798.out 0).trans rfl; have hcz102_1 : w93.cell? ⟨gb798, 1, none⟩ = some (.int .i64 t794) := (blk_cell BK798.out 1).trans rfl; have hcz102_2 : w93.cell? ⟨gb798, 2, none⟩ = some (.slice Ao31 t795.length co31) := (blk_cell BK798.out 2).trans rfl; have hfz102_0 := blk_frozen BK798.out 0; have hfz102_1 := blk_frozen BK798.out 1; have hfz102_2 := blk_frozen BK798.out 2) | ((with_reducible refine gate_callee (f := 19) rfl ?_); refine goesL_ (some 64) rfl rfl Try.func19 (by kernel_rfl) rfl #[.agg #[.slice Ao94 t839.length co94, .int .i64 t842, .slice Ao100 t843.length co100], .agg #[.slice Ao28 t791.length co28, .int .i64 t794, .slice Ao31 t795.length co31]] rfl (by (try simp only [List.map_toArray, List.map_cons, List.map_nil]); first | done | rfl | (simp only [List.length_drop, List.length_take]; rfl)) ?_; (with_reducible refine (laws_eqWork.calls kj17 _ _ t839 t842 _ _ t843 _ _ t791 t794 _ _ t795 true _ ?side1 ?side2 ?side3 ?side4 ?side5 ?side6 ?side7 ?side8 A74.out).mono ?_); (case side1 => refine (Kd.R_reads' (e := 67) (base := w.heap.size) (ok := fun k_ => ((((True ∧ some k_ ≠ (.slice Ao28 t791.length co28 : Value).ownBlock) ∧ some k_ ≠ (.slice Ao35 t825.length co35 : Value).ownBlock) ∧ some k_ ≠ (.slice Ao42 t807.length co42 : Value).ownBlock) ∧ some k_ ≠ (.slice Ao90 t832.length co90 : Value).ownBlock)) (n := t839.length) (c := co94) ?_).2.2; exact (by (with_reducible repeat (first | apply Kd.R_alloc | apply Kd.R_drewN | apply Kd.R_drew)); exact (Kd.R_mono (Kd.R_far (p := ⟨gb846, 2, none⟩) (Kd.R_far (p := ⟨gb846, 1, none⟩) (Kd.R_far (p := ⟨gb846, 0, none⟩) (Kd.R_types HO841.out BK846.out (by decide)) (fun _ hk => hk.2) (.slice Ao94 t839.length co94)) (fun _ hk => hk.2) (.int .i64 t842)) (fun _ hk => hk.2) (.slice Ao100 t843.length co100)) (fun _ h_ => h_.1)))); (case side2 => exact (Kd.R_reads' HO841.out).2.1); (case side3 => refine (Kd.R_reads' (e := 3) (base := w.heap.size) (ok := fun k_ => ((((True ∧ some k_ ≠ (.slice Ao31 t795.length co31 : Value).ownBlock) ∧ some k_ ≠ (.slice Ao39 t826.length co39 : Value).ownBlock) ∧ some k_ ≠ (.slice Ao47 t811.length co47 : Value).ownBlock) ∧ some k_ ≠ (.slice Ao91 t836.length co91 : Value).ownBlock)) (n := t843.length) (c := co100) ?_).2.2; exact (by (with_reducible repeat (first | apply Kd.R_alloc | apply Kd.R_drewN | apply Kd.R_drew)); exact (Kd.R_mono (Kd.R_far (p := ⟨gb846, 2, none⟩) (Kd.R_far (p := ⟨gb846, 1, none⟩) (Kd.R_far (p := ⟨gb846, 0, none⟩) (Kd.R_types HO845.out BK846.out (by decide)) (fun _ hk => hk.2) (.slice Ao94 t839.length co94)) (fun _ hk => hk.2) (.int .i64 t842)) (fun _ hk => hk.2) (.slice Ao100 t843.length co100)) (fun _ h_ => h_.1)))); (case side4 => exact (Kd.R_reads' HO845.out).2.1); (case side5 => refine (Kd.R_reads' (e := 67) (base := w.heap.size) (ok := fun k_ => (((some k_ ≠ (.slice Ao35 t825.length co35 : Value).ownBlock ∧ some k_ ≠ (.slice Ao42 t807.length co42 : Value).ownBlock) ∧ some k_ ≠ (.slice Ao90 t832.length co90 : Value).ownBlock) ∧ some k_ ≠ (.slice Ao94 t839.length co94 : Value).ownBlock)) (n := t791.length) (c := co28) ?_).2.2; exact (by (with_reducible repeat (first | apply Kd.R_alloc | apply Kd.R_drewN | apply Kd.R_drew)); exact (Kd.R_mono (Kd.R_far (p := ⟨gb846, 2, none⟩) (Kd.R_far (p := ⟨gb846, 1, none⟩) (Kd.R_far (p := ⟨gb846, 0, none⟩) (Kd.R_types HO_799000.out BK846.out (by decide)) (fun _ hk => hk.2) (.slice Ao94 t839.length co94)) (fun _ hk => hk.2) (.int .i64 t842)) (fun _ hk => hk.2) (.slice Ao100 t843.length co100)) (fun _ h_ => h_.1)))); (case side6 => exact (Kd.R_reads' HO_799000.out).2.1); (case side7 => refine (Kd.R_reads' (e := 3) (base := w.heap.size) (ok := fun k_ => (((some k_ ≠ (.slice Ao39 t826.length co39 : Value).ownBlock ∧ some k_ ≠ (.slice Ao47 t811.length co47 : Value).ownBlock) ∧ some k_ ≠ (.slice Ao91 t836.length co91 : Value).ownBlock) ∧ some k_ ≠ (.slice Ao100 t843.length co100 : Value).ownBlock)) (n := t795.length) (c := co31) ?_).2.2; exact (by (with_reducible repeat (first | apply Kd.R_alloc | apply Kd.R_drewN | apply Kd.R_drew)); exact (Kd.R_mono (Kd.R_far (p := ⟨gb846, 2, none⟩) (Kd.R_far (p := ⟨gb846, 1, none⟩) (Kd.R_far (p := ⟨gb846, 0, none⟩) (Kd.R_types HO_799002.out BK846.out (by decide)) (fun _ hk => hk.2) (.slice Ao94 t839.length co94)) (fun _ hk => hk.2) (.int .i64 t842)) (fun _ hk => hk.2) (.slice Ao100 t843.length co100)) (fun _ h_ => h_.1)))); (case side8 => exact (Kd.R_reads' HO_799002.out).2.1); rintro e w103 ⟨rfl, hb⟩; refine ⟨_, rfl, ?_⟩; have n0_ := Aside0.mk (Kd.R_below (by (with_reducible repeat (first | apply Kd.R_alloc | apply Kd.R_drewN | apply Kd.R_drew)); exact (Kd.R_mono (Kd.R_far (p := ⟨gb846, 2, none⟩) (Kd.R_far (p := ⟨gb846, 1, none⟩) (Kd.R_far (p := ⟨gb846, 0, none⟩) (Kd.R_types HO_799000.out BK846.out (by decide)) (fun _ hk => hk.2) (.slice Ao94 t839.length co94)) (fun _ hk => hk.2) (.int .i64 t842)) (fun _ hk => hk.2) (.slice Ao100 t843.length co100)) (fun _ h_ => h_.1))) hb); have n1_ := Aside0.mk (Kd.R_below (by (with_reducible repeat (first | apply Kd.R_alloc | apply Kd.R_drewN | apply Kd.R_drew)); exact (Kd.R_mono (Kd.R_far (p := ⟨gb846, 2, none⟩) (Kd.R_far (p := ⟨gb846, 1, none⟩) (Kd.R_far (p := ⟨gb846, 0, none⟩) (Kd.R_types HO_799002.out BK846.out (by decide)) (fun _ hk => hk.2) (.slice Ao94 t839.length co94)) (fun _ hk => hk.2) (.int .i64 t842)) (fun _ hk => hk.2) (.slice Ao100 t843.length co100)) (fun _ h_ => h_.1))) hb); have n2_ := Aside0.mk (Kd.R_below (by (with_reducible repeat (first | apply Kd.R_alloc | apply Kd.R_drewN | apply Kd.R_drew)); exact (Kd.R_mono (Kd.R_far (p := ⟨gb846, 2, none⟩) (Kd.R_far (p := ⟨gb846, 1, none⟩) (Kd.R_far (p := ⟨gb846, 0, none⟩) (Kd.R_types HO_807000.out BK846.out (by decide)) (fun _ hk => hk.2) (.slice Ao94 t839.length co94)) (fun _ hk => hk.2) (.int .i64 t842)) (fun _ hk => hk.2) (.slice Ao100 t843.length co100)) (fun _ h_ => h_.1))) hb); have n3_ := Aside0.mk (Kd.R_below (by (with_reducible repeat (first | apply Kd.R_alloc | apply Kd.R_drewN | apply Kd.R_drew)); exact (Kd.R_mono (Kd.R_far (p := ⟨gb846, 2, none⟩) (Kd.R_far (p := ⟨gb846, 1, none⟩) (Kd.R_far (p := ⟨gb846, 0, none⟩) (Kd.R_types HO_807002.out BK846.out (by decide)) (fun _ hk => hk.2) (.slice Ao94 t839.length co94)) (fun _ hk => hk.2) (.int .i64 t842)) (fun _ hk => hk.2) (.slice Ao100 t843.length co100)) (fun _ h_ => h_.1))) hb); have n4_ := Aside0.mk (Kd.R_below (by (with_reducible repeat (first | apply Kd.R_alloc | apply Kd.R_drewN | apply Kd.R_drew)); exact (Kd.R_mono (Kd.R_far (p := ⟨gb846, 2, none⟩) (Kd.R_far (p := ⟨gb846, 1, none⟩) (Kd.R_far (p := ⟨gb846, 0, none⟩) (Kd.R_types HO_815000.out BK846.out (by decide)) (fun _ hk => hk.2) (.slice Ao94 t839.length co94)) (fun _ hk => hk.2) (.int .i64 t842)) (fun _ hk => hk.2) (.slice Ao100 t843.length co100)) (fun _ h_ => h_.1))) hb); have n5_ := Aside0.mk (Kd.R_below (by (with_reducible repeat (first | apply Kd.R_alloc | apply Kd.R_drewN | apply Kd.R_drew)); exact (Kd.R_mono (Kd.R_far (p := ⟨gb846, 2, none⟩) (Kd.R_far (p := ⟨gb846, 1, none⟩) (Kd.R_far (p := ⟨gb846, 0, none⟩) (Kd.R_types HO_815002.out BK846.out (by decide)) (fun _ hk => hk.2) (.slice Ao94 t839.length co94)) (fun _ hk => hk.2) (.int .i64 t842)) (fun _ hk => hk.2) (.slice Ao100 t843.length co100)) (fun _ h_ => h_.1))) hb); have n6_ := Aside0.mk (Kd.R_below (by (with_reducible repeat (first | apply Kd.R_alloc | apply Kd.R_drewN | apply Kd.R_drew)); exact (Kd.R_mono (Kd.R_far (p := ⟨gb846, 2, none⟩) (Kd.R_far (p := ⟨gb846, 1, none⟩) (Kd.R_far (p := ⟨gb846, 0, none⟩) (Kd.R_types HO834.out BK846.out (by decide)) (fun _ hk => hk.2) (.slice Ao94 t839.length co94)) (fun _ hk => hk.2) (.int .i64 t842)) (fun _ hk => hk.2) (.slice Ao100 t843.length co100)) (fun _ h_ => h_.1))) hb); have n7_ := Aside0.mk (Kd.R_below (by (with_reducible repeat (first | apply Kd.R_alloc | apply Kd.R_drewN | apply Kd.R_drew)); exact (Kd.R_mono (Kd.R_far (p := ⟨gb846, 2, none⟩) (Kd.R_far (p := ⟨gb846, 1, none⟩) (Kd.R_far (p := ⟨gb846, 0, none⟩) (Kd.R_types HO838.out BK846.out (by decide)) (fun _ hk => hk.2) (.slice Ao94 t839.length co94)) (fun _ hk => hk.2) (.int .i64 t842)) (fun _ hk => hk.2) (.slice Ao100 t843.length co100)) (fun _ h_ => h_.1))) hb); have n8_ := Aside0.mk (Kd.R_below (by (with_reducible repeat (first | apply Kd.R_alloc | apply Kd.R_drewN | apply Kd.R_drew)); exact (Kd.R_mono (Kd.R_far (p := ⟨gb846, 2, none⟩) (Kd.R_far (p := ⟨gb846, 1, none⟩) (Kd.R_far (p := ⟨gb846, 0, none⟩) (Kd.R_types HO841.out BK846.out (by decide)) (fun _ hk => hk.2) (.slice Ao94 t839.length co94)) (fun _ hk => hk.2) (.int .i64 t842)) (fun _ hk => hk.2) (.slice Ao100 t843.length co100)) (fun _ h_ => h_.1))) hb); have n9_ := Aside0.mk (Kd.R_below (by (with_reducible repeat (first | apply Kd.R_alloc | apply Kd.R_drewN | apply Kd.R_drew)); exact (Kd.R_mono (Kd.R_far (p := ⟨gb846, 2, none⟩) (Kd.R_far (p := ⟨gb846, 1, none⟩) (Kd.R_far (p := ⟨gb846, 0, none⟩) (Kd.R_types HO845.out BK846.out (by decide)) (fun _ hk => hk.2) (.slice Ao94 t839.length co94)) (fun _ hk => hk.2) (.int .i64 t842)) (fun _ hk => hk.2) (.slice Ao100 t843.length co100)) (fun _ h_ => h_.1))) hb); have n10_ := Aside0.mk (blk_below (g := gb782) (o := .cells #[.slice A0_0 l0_0.length c0_0, .int .i64 a0_1, .slice A0_2 l0_2.length c0_2] 25 (0, 0)) (by (with_reducible repeat (first | refine blk_drewN ?_ _ | refine blk_drew ?_ | refine blk_alloc ?_ _)); refine blk_far ?_ NB782_846.out _; (with_reducible repeat (first | refine blk_drewN ?_ _ | refine blk_drew ?_ | refine blk_alloc ?_ _)); refine blk_far ?_ NB782_846.out _; (with_reducible repeat (first | refine blk_drewN ?_ _ | refine blk_drew ?_ | refine blk_alloc ?_ _)); refine blk_far ?_ NB782_846.out _; (with_reducible repeat (first | refine blk_drewN ?_ _ | refine blk_drew ?_ | refine blk_alloc ?_ _)); exact BK782.out) hb); have n11_ := Aside0.mk (blk_below (g := gb798) (o := .cells #[.slice Ao28 t791.length co28, .int .i64 t794, .slice Ao31 t795.length co31] 30 (0, 0)) (by (with_reducible repeat (first | refine blk_drewN ?_ _ | refine blk_drew ?_ | refine blk_alloc ?_ _)); refine blk_far ?_ NB798_846.out _; (with_reducible repeat (first | refine blk_drewN ?_ _ | refine blk_drew ?_ | refine blk_alloc ?_ _)); refine blk_far ?_ NB798_846.out _; (with_reducible repeat (first | refine blk_drewN ?_ _ | refine blk_drew ?_ | refine blk_alloc ?_ _)); refine blk_far ?_ NB798_846.out _; (with_reducible repeat (first | refine blk_drewN ?_ _ | refine blk_drew ?_ | refine blk_alloc ?_ _)); exact BK798.out) hb); have n12_ := Aside0.mk (blk_below (g := gb806) (o := .cells #[.slice Ao35 t825.length co35, .int .i64 t802, .slice Ao39 t826.length co39] 30 (0, 0)) (by (with_reducible repeat (first | refine blk_drewN ?_ _ | refine blk_drew ?_ | refine blk_alloc ?_ _)); refine blk_far ?_ NB806_846.out _; (with_reducible repeat (first | refine blk_drewN ?_ _ | refine blk_drew ?_ | refine blk_alloc ?_ _)); refine blk_far ?_ NB806_846.out _; (with_reducible repeat (first | refine blk_drewN ?_ _ | refine blk_drew ?_ | refine blk_alloc ?_ _)); refine blk_far ?_ NB806_846.out _; (with_reducible repeat (first | refine blk_drewN ?_ _ | refine blk_drew ?_ | refine blk_alloc ?_ _)); exact BK806.out) hb); have n13_ := Aside0.mk (blk_below (g := gb814) (o := .cells #[.slice Ao42 t807.length co42, .int .i64 t810, .slice Ao47 t811.length co47] 30 (0, 0)) (by (with_reducible repeat (first | refine blk_drewN ?_ _ | refine blk_drew ?_ | refine blk_alloc ?_ _)); refine blk_far ?_ NB814_846.out _; (with_reducible repeat (first | refine blk_drewN ?_ _ | refine blk_drew ?_ | refine blk_alloc ?_ _)); refine blk_far ?_ NB814_846.out _; (with_reducible repeat (first | refine blk_drewN ?_ _ | refine blk_drew ?_ | refine blk_alloc ?_ _)); refine blk_far ?_ NB814_846.out _; (with_reducible repeat (first | refine blk_drewN ?_ _ | refine blk_drew ?_ | refine blk_alloc ?_ _)); exact BK814.out) hb); have n14_ := Aside0.mk (blk_below (g := gb846) (o := .cells #[.slice Ao94 t839.length co94, .int .i64 t842, .slice Ao100 t843.length co100] 30 (0, 0)) (by (with_reducible repeat (first | refine blk_drewN ?_ _ | refine blk_drew ?_ | refine blk_alloc ?_ _)); refine blk_put (cs := #[.slice Ao94 t839.length co94, .int .i64 t842, .slice none 0 0]) ?_ 2 _ rfl; (with_reducible repeat (first | refine blk_drewN ?_ _ | refine blk_drew ?_ | refine blk_alloc ?_ _)); refine blk_put (cs := #[.slice Ao94 t839.length co94, .int .i64 0, .slice none 0 0]) ?_ 1 _ rfl; (with_reducible repeat (first | refine blk_drewN ?_ _ | refine blk_drew ?_ | refine blk_alloc ?_ _)); refine blk_put (cs := #[.slice none 0 0, .int .i64 0, .slice none 0 0]) ?_ 0 _ rfl; (with_reducible repeat (first | refine blk_drewN ?_ _ | refine blk_drew ?_ | refine blk_alloc ?_ _)); exact BK846.out) hb); have n15_ := Aside0.mk (below_step (oB HB) hb); clear HO_799000; clear HO_799002; clear HO_807000; clear HO_807002; clear HO_815000; clear HO_815002; clear HO834; clear HO838; clear HO841; clear HO845; clear BK782; clear BK798; clear BK806; clear BK814; clear BK846; clear HB; have HO_799000 := n0_; have HO_799002 := n1_; have HO_807000 := n2_; have HO_807002 := n3_; have HO_815000 := n4_; have HO_815002 := n5_; have HO834 := n6_; have HO838 := n7_; have HO841 := n8_; have HO845 := n9_; have BK782 := n10_; have BK798 := n11_; have BK806 := n12_; have BK814 := n13_; have BK846 := n14_; have HB := n15_; clear n0_ n1_ n2_ n3_ n4_ n5_ n6_ n7_ n8_ n9_ n10_ n11_ n12_ n13_ n14_ n15_; (try clear hb); (try clear hb2); (try clear hk); (try clear hi); have hcz104_0 : w103.cell? ⟨gb814, 0, none⟩ = some (.slice Ao42 t807.length co42) := (blk_cell BK814.out 0).trans rfl; have hcz104_1 : w103.cell? ⟨gb814, 1, none⟩ = some (.int .i64 t810) := (blk_cell BK814.out 1).trans rfl; have hcz104_2 : w103.cell? ⟨gb814, 2, none⟩ = some (.slice Ao47 t811.length co47) := (blk_cell BK814.out 2).trans rfl; have hfz104_0 := blk_frozen BK814.out 0; have hfz104_1 := blk_frozen BK814.out 1; have hfz104_2 := blk_frozen BK814.out 2) | ((with_reducible refine gate_callee (f := 29) rfl ?_); refine goesL_ (some 68) rfl rfl Try.func29 (by kernel_rfl) rfl #[.agg #[.slice Ao42 t829.length co42, .int .i64 t810, .slice Ao47 t830.length co47], .int .i64 1] rfl (by (try simp only [List.map_toArray, List.map_cons, List.map_nil]); first | done | (rw [show t829.length = t807.length from (Kd.R_reads' HO_815000.out).1.symm, show t830.length = t811.length from (Kd.R_reads' HO_815002.out).1.symm] <;> rfl) | rfl | (simp only [List.length_drop, List.length_take]; rfl)) ?_; (with_reducible refine (laws_heldWork.calls kj17 _ _ t829 t810 _ _ t830 1 t848 _ ?side1 ?side2 ?side3 ?side4 A76.out).mono ?_); (case side1 => repeat (first | exact (Kd.R_reads' HO_815000.out).2.2 | (with_reducible refine Kd.C_alloc ?_ _) | (with_reducible refine Kd.C_drewN ?_ _) | (with_reducible refine Kd.C_drew ?_))); (case side2 => rw [show t829.length = t807.length from (Kd.R_reads' HO_815000.out).1.symm]; exact (Kd.R_reads' HO_815000.out).2.1); (case side3 => repeat (first | exact (Kd.R_reads' HO_815002.out).2.2 | (with_reducible refine Kd.C_alloc ?_ _) | (with_reducible refine Kd.C_drewN ?_ _) | (with_reducible refine Kd.C_drew ?_))); (case side4 => rw [show t830.length = t811.length from (Kd.R_reads' HO_815002.out).1.symm]; exact (Kd.R_reads' HO_815002.out).2.1); rintro e w105 ⟨rfl, hb⟩; refine ⟨_, rfl, ?_⟩; have n0_ := Aside0.mk (Kd.R_below (oR HO_799000) hb); have n1_ := Aside0.mk (Kd.R_below (oR HO_799002) hb); have n2_ := Aside0.mk (Kd.R_below (oR HO_807000) hb); have n3_ := Aside0.mk (Kd.R_below (oR HO_807002) hb); have n4_ := Aside0.mk (Kd.R_below (oR HO_815000) hb); have n5_ := Aside0.mk (Kd.R_below (oR HO_815002) hb); have n6_ := Aside0.mk (Kd.R_below (oR HO834) hb); have n7_ := Aside0.mk (Kd.R_below (oR HO838) hb); have n8_ := Aside0.mk (Kd.R_below (oR HO841) hb); have n9_ := Aside0.mk (Kd.R_below (oR HO845) hb); have n10_ := Aside0.mk (blk_below (g := gb782) (o := .cells #[.slice A0_0 l0_0.length c0_0, .int .i64 a0_1, .slice A0_2 l0_2.length c0_2] 25 (0, 0)) (oK BK782) hb); have n11_ := Aside0.mk (blk_below (g := gb798) (o := .cells #[.slice Ao28 t791.length co28, .int .i64 t794, .slice Ao31 t795.length co31] 30 (0, 0)) (oK BK798) hb); have n12_ := Aside0.mk (blk_below (g := gb806) (o := .cells #[.slice Ao35 t825.length co35, .int .i64 t802, .slice Ao39 t826.length co39] 30 (0, 0)) (oK BK806) hb); have n13_ := Aside0.mk (blk_below (g := gb814) (o := .cells #[.slice Ao42 t807.length co42, .int .i64 t810, .slice Ao47 t811.length co47] 30 (0, 0)) (oK BK814) hb); have n14_ := Aside0.mk (blk_below (g := gb846) (o := .cells #[.slice Ao94 t839.length co94, .int .i64 t842, .slice Ao100 t843.length co100] 30 (0, 0)) (oK BK846) hb); have n15_ := Aside0.mk (below_step (oB HB) hb); clear HO_799000; clear HO_799002; clear HO_807000; clear HO_807002; clear HO_815000; clear HO_815002; clear HO834; clear HO838; clear HO841; clear HO845; clear BK782; clear BK798; clear BK806; clear BK814; clear BK846; clear HB; have HO_799000 := n0_; have HO_799002 := n1_; have HO_807000 := n2_; have HO_807002 := n3_; have HO_815000 := n4_; have HO_815002 := n5_; have HO834 := n6_; have HO838 := n7_; have HO841 := n8_; have HO845 := n9_; have BK782 := n10_; have BK798 := n11_; have BK806 := n12_; have BK814 := n13_; have BK846 := n14_; have HB := n15_; clear n0_ n1_ n2_ n3_ n4_ n5_ n6_ n7_ n8_ n9_ n10_ n11_ n12_ n13_ n14_ n15_; (try clear hb); (try clear hb2); (try clear hk); (try clear hi)))
                        go_ret
                        exact ⟨by first | rfl | (simp [errW_none, errW_some] <;> rfl) | (simp [*, errW_none, errW_some] <;> rfl), oB HB⟩
                      · rw [if_neg c78] at H
                        have c78b0 : (t848 == t828) = false := beq_eq_false_iff_ne.mpr c78
                        have c78b1 : (t848 != t828) = true := bne_iff_ne.mpr c78
                        exact absurd ((Option.some.inj H).trans hrt_.out) (by decide)
                  · replace c75 := Bool.eq_false_iff.mpr c75
                    subst c75
                    rw [if_neg (show ¬ (false = true) by decide)] at H
                    exact absurd ((Option.some.inj H).trans hrt_.out) (by decide)
                · rw [if_neg c71] at H
                  have c71b0 : (t831 == t828) = false := beq_eq_false_iff_ne.mpr c71
                  have c71b1 : (t831 != t828) = true := bne_iff_ne.mpr c71
                  exact absurd ((Option.some.inj H).trans hrt_.out) (by decide)
      · replace c16 := Bool.eq_false_iff.mpr c16
        subst c16
        rw [if_neg (show ¬ (false = true) by decide)] at H
        exact absurd ((Option.some.inj H).trans hrt_.out) (by decide)
    · replace c13 := Bool.eq_false_iff.mpr c13
      subst c13
      rw [if_neg (show ¬ (false = true) by decide)] at H
      exact absurd ((Option.some.inj H).trans hrt_.out) (by decide)
end Go.Proofs.Ytlhlmjklajdejaa.P


namespace Go.Proofs.Ytlhlmjklajdejaa.Q
set_option linter.unusedVariables false
set_option linter.unusedSimpArgs false
open Go.RowKit Go.Proofs.YtlhlmjklajdejaaW.PrintWords
theorem evp {α : Type} {c : Prop} [Decidable c] (h : c) {f g : Nat → Option α} {r : α} (k : Ev f r) : Ev (fun n => if c then f n else g n) r := by
  simp only [if_pos h]; exact k
theorem evn {α : Type} {c : Prop} [Decidable c] (h : ¬ c) {f g : Nat → Option α} {r : α} (k : Ev g r) : Ev (fun n => if c then f n else g n) r := by
  simp only [if_neg h]; exact k
theorem evb {α β : Type} {x : Option α} {f : Nat → α → Option β} {a : α} {r : β} (h : x = some a) (k : Ev (fun n => f n a) r) : Ev (fun n => x.bind (f n)) r := by
  simp only [h, Option.bind_some]; exact k
theorem evs {α : Type} {a b : α} (h : a = b) : Ev (fun _ => some a) b := h ▸ Ev.now a
theorem rpos {α : Type} {c : Prop} [Decidable c] (h : c) {f : Nat → Option α} {r s : α} (k : Ev f r) : Ev f (if c then r else s) := by rw [if_pos h]; exact k
theorem rneg {α : Type} {c : Prop} [Decidable c] (h : ¬ c) {f : Nat → Option α} {r s : α} (k : Ev f s) : Ev f (if c then r else s) := by rw [if_neg h]; exact k
theorem down {P : Nat → Prop} {n : Nat} (he : P n) (hs : ∀ i, i < n → P (i + 1) → P i) (i : Nat) (h : i ≤ n) : P i := by
  obtain ⟨d, rfl⟩ : ∃ d, n = i + d := ⟨n - i, by omega⟩
  clear h
  induction d generalizing i with
  | zero => exact he
  | succ d ih =>
    refine hs i (by omega) (ih (i + 1) ?_ ?_)
    · rw [show i + 1 + d = i + (d + 1) by omega]; exact he
    · intro j hj; exact hs j (by omega)
theorem w64 {n : Int} (h1 : -9223372036854775808 ≤ n) (h2 : n ≤ 9223372036854775807) : wrap64 n = n := by unfold wrap64; omega
theorem rd_nat (l : List Int) (i : Nat) (h : i < l.length) : rd l (i : Int) = l[i] := by
  unfold rd; simp [List.getD_eq_getElem?_getD, h]
theorem drop_cons {α : Type} (l : List α) (i : Nat) (h : i < l.length) : l.drop i = l[i] :: l.drop (i + 1) := List.drop_eq_getElem_cons h
theorem drop_end {α : Type} (l : List α) : l.drop l.length = [] := List.drop_eq_nil_of_le (Nat.le_refl _)
theorem set_take {α : Type} (l : List α) (i : Nat) (v : α) (h : i < l.length) : (l.set i v).take (i + 1) = l.take i ++ [v] := by
  rw [List.take_set, List.take_succ_eq_append_getElem h, List.set_append_right _ _ (by simp; omega)]
  simp [Nat.min_eq_left (Nat.le_of_lt h)]
end Go.Proofs.Ytlhlmjklajdejaa.Q


namespace Go.Proofs.Ytlhlmjklajdejaa.Q
set_option linter.unusedVariables false
set_option linter.unusedSimpArgs false
open Go.RowKit Go.Proofs.Ytlhlmjklajdejaa.P Go.Proofs.YtlhlmjklajdejaaW.PrintWords
theorem within_eq (a b c : Int) : impl_within.f a b c = some (decide (b ≤ a ∧ a ≤ c)) := by
  unfold impl_within.f; by_cases h : b ≤ a <;> simp [h]
theorem l01In_eq (a b c : Int) : spec_l01In.f a b c = some (decide (b ≤ a ∧ a ≤ c)) := by
  unfold spec_l01In.f; by_cases h : a ≥ b
  · rw [if_pos h]; simp [show b ≤ a from h]
  · rw [if_neg h]; simp [show ¬ b ≤ a from h]
end Go.Proofs.Ytlhlmjklajdejaa.Q


namespace Go.Proofs.Ytlhlmjklajdejaa.Q
set_option linter.unusedVariables false
set_option linter.unusedSimpArgs false
open Go.RowKit Go.Proofs.Ytlhlmjklajdejaa.P Go.Proofs.YtlhlmjklajdejaaW.PrintWords Go.Proofs.YtlhlmjklajdejaaW.PrintMore
def fine (n : Int) : Bool := decide (1 ≤ n ∧ n ≤ 10000000)
theorem pitch_eq (n : Int) : spec_l18Pitch.f n = some (fine n) := by unfold spec_l18Pitch.f; rw [l01In_eq]; rfl
theorem isFine_eq (n : Int) : impl_isFine.f n = some (fine n) := by unfold impl_isFine.f; rw [within_eq]; rfl
def orZero (n : Int) : Int := if fine n = true then n else 0
def tunedPitch (a k b : Int) : Int :=
  if fine a = true then
    if 0 ≤ b ∧ b ≤ 100000 then
      if k = 1 then orZero (wrap64 (Int.tdiv (mx (wrap64 ((wrap64 (3 * a)) - b)) 0) 2))
      else if k = 2 then orZero (wrap64 (Int.tdiv (mx (wrap64 ((wrap64 (3 * a)) - b)) 0) 4))
      else if k = 3 then if b = 0 then orZero (wrap64 (2 * a)) else 0
      else if k = 4 then if b = 0 then orZero (wrap64 (Int.tdiv a 2)) else 0
      else 0
    else 0
  else 0
theorem mx_comm (a b : Int) : mx a b = mx b a := by unfold mx; split <;> split <;> omega
theorem evz {n : Int} {x : Option Bool} (h : x = some (fine n)) : Ev (fun _ => x.bind fun t => if t = true then some n else some 0) (orZero n) := by
  subst h; simp only [Option.bind_some]; unfold orZero; by_cases h : fine n = true
  · rw [if_pos h, if_pos h]; exact Ev.now _
  · rw [if_neg h, if_neg h]; exact Ev.now _
theorem tuned_impl (a k b : Int) : Ev (fun n => impl_TunedPitch.f n a k b) (tunedPitch a k b) := by
  have jt : Ev (fun n => impl_TunedPitch.j0 n a k b true) 0 := Ev.step (fun n => by rw [impl_TunedPitch.j0]) (evp rfl (Ev.now _))
  unfold impl_TunedPitch.f
  refine evb (isFine_eq a) ?_
  unfold tunedPitch
  by_cases ha : fine a = true
  rotate_left
  · exact rneg ha <| evn ha jt
  refine rpos ha <| evp ha (evb (within_eq _ _ _) ?_)
  by_cases hb : 0 ≤ b ∧ b ≤ 100000
  rotate_left
  · exact rneg hb <| evn (by simpa using hb) jt
  refine rpos hb <| evp (by simpa using hb) ?_
  have jf : (k = 3 ∨ k = 4 → b = 0) → Ev (fun n => impl_TunedPitch.j0 n a k b false) (if k = 1 then orZero (wrap64 (Int.tdiv (mx (wrap64 ((wrap64 (3 * a)) - b)) 0) 2))
      else if k = 2 then orZero (wrap64 (Int.tdiv (mx (wrap64 ((wrap64 (3 * a)) - b)) 0) 4))
      else if k = 3 then if b = 0 then orZero (wrap64 (2 * a)) else 0
      else if k = 4 then if b = 0 then orZero (wrap64 (Int.tdiv a 2)) else 0
      else 0) := by
    intro h0
    refine Ev.step (fun n => by rw [impl_TunedPitch.j0]) (evn (by decide) ?_)
    by_cases h1 : k = 1
    · exact rpos h1 <| evp h1 (evz (isFine_eq _))
    refine rneg h1 <| evn h1 ?_
    by_cases h2 : k = 2
    · exact rpos h2 <| evp h2 (evz (isFine_eq _))
    refine rneg h2 <| evn h2 ?_
    by_cases h3 : k = 3
    · exact rpos h3 <| rpos (h0 (.inl h3)) <| evp h3 (evz (isFine_eq _))
    refine rneg h3 <| evn h3 ?_
    by_cases h4 : k = 4
    · exact rpos h4 <| rpos (h0 (.inr h4)) <| evp h4 (evz (isFine_eq _))
    refine rneg h4 <| evn h4 ?_
    refine evb (isFine_eq _) (evn (by decide) (Ev.now _))
  by_cases b0 : b = 0
  · exact evp b0 (jf fun _ => b0)
  refine evn b0 ?_
  by_cases h3 : k = 3
  · refine evp h3 ?_
    exact rneg (by omega) <| rneg (by omega) <| rpos h3 <| rneg b0 jt
  refine evn h3 ?_
  by_cases h4 : k = 4
  · rw [show (k == 4) = true by simp [h4]]; exact rneg (by omega) <| rneg (by omega) <| rneg (by omega) <| rpos h4 <| rneg b0 jt
  · rw [show (k == 4) = false by simp [h4]]; exact jf (by omega)
theorem tuned_spec (a k b : Int) : Ev (fun n => spec_TunedPitch.f n a k b) (tunedPitch a k b) := by
  have jt : Ev (fun n => spec_TunedPitch.j0 n a k b true) 0 := Ev.step (fun n => by rw [spec_TunedPitch.j0]) (evp rfl (Ev.now _))
  unfold spec_TunedPitch.f
  refine evb (pitch_eq a) ?_
  unfold tunedPitch
  by_cases ha : fine a = true
  rotate_left
  · exact rneg ha <| evn ha jt
  refine rpos ha <| evp ha (evb (l01In_eq _ _ _) ?_)
  by_cases hb : 0 ≤ b ∧ b ≤ 100000
  rotate_left
  · rw [show (!decide (0 ≤ b ∧ b ≤ 100000)) = true by rw [decide_eq_false hb]; rfl]; exact rneg hb jt
  rw [show (!decide (0 ≤ b ∧ b ≤ 100000)) = false by rw [decide_eq_true hb]; rfl]
  refine rpos hb ?_
  have j2t : Ev (fun n => spec_TunedPitch.j2 n a 0 true) (orZero (wrap64 (Int.tdiv a 2))) := Ev.step (fun n => by rw [spec_TunedPitch.j2]) (evp rfl (evz (pitch_eq _)))
  have j2f : Ev (fun n => spec_TunedPitch.j2 n a 0 false) 0 := Ev.step (fun n => by rw [spec_TunedPitch.j2]) (evn (by decide) (evz (pitch_eq 0)))
  refine Ev.step (fun n => by rw [spec_TunedPitch.j0]) (evn (by decide) ?_)
  by_cases h1 : k = 1
  · rw [mx_comm 0]; exact rpos h1 <| evp h1 (evz (pitch_eq _))
  refine rneg h1 <| evn h1 ?_
  by_cases h2 : k = 2
  · rw [mx_comm 0]; exact rpos h2 <| evp h2 (evz (pitch_eq _))
  refine rneg h2 <| evn h2 ?_
  have j1f : Ev (fun n => spec_TunedPitch.j1 n a k b 0 false) (if k = 4 then if b = 0 then orZero (wrap64 (Int.tdiv a 2)) else 0 else 0) := by
    refine Ev.step (fun n => by rw [spec_TunedPitch.j1]) (evn (by decide) ?_)
    by_cases h4 : k = 4
    · refine rpos h4 <| evp h4 ?_
      by_cases b0 : b = 0
      · rw [show (b == 0) = true by simp [b0]]; exact rpos b0 j2t
      · rw [show (b == 0) = false by simp [b0]]; exact rneg b0 j2f
    · exact rneg h4 <| evn h4 j2f
  by_cases h3 : k = 3
  · refine rpos h3 <| evp h3 ?_
    by_cases b0 : b = 0
    · rw [show (b == 0) = true by simp [b0]]
      exact rpos b0 <| Ev.step (fun n => by rw [spec_TunedPitch.j1]) (evp rfl (evz (pitch_eq _)))
    · rw [show (b == 0) = false by simp [b0]]
      rw [if_neg (by omega)] at j1f
      exact rneg b0 j1f
  exact rneg h3 <| evn h3 j1f
end Go.Proofs.Ytlhlmjklajdejaa.Q

