/- What functions of the program come to (f), that their calls come to just this (calls), and the plain laws over lists and numbers, and the law FnExactMendStep: for every argument it answers true. No condition but those of the given row. -/
import Derived.Test.YtlhlmjklajdejaaRows
import Derived.Test.YtlhlmjklajdejaaC5
import Derived.Deep.Slices
import Derived.ChangeArms
import Derived.ChangeSame
import Derived.KernelRfl
import Derived.WalkKit
import Derived.ProofKit
import Derived.OpenShut
import Derived.ShutString
import Derived.ChangeOld
import Derived.Below
import Derived.SizedLaws
namespace Go.Proofs.Ytlhlmjklajdejaa.P
open Go.RowKit Go.Proofs.YtlhlmjklajdejaaW.PrintWords Go.Proofs.YtlhlmjklajdejaaW.PrintLast Go.Proofs.YtlhlmjklajdejaaW.PrintMore
attribute [local go_sem] max2_int min2_int max_two min_two max_three min_three max_four min_four
set_option linter.unusedVariables false
set_option linter.unusedSimpArgs false
mutual
def spec_RunPlan.j0 : Nat → Int → List (S67) → Bool → Option (List Int × Bool)
  | 0, _, _, _ => none
  | k + 1, x0, x1, x16 => if x16 = true then (some ((([] : List Int)), false)) else (if 12 ≤ 35184372088832 then ((some (List.replicate 12 0 : List Int)).bind fun y224 => (if 0 < (y224.length : Int) then (spec_RunPlan.l0 k x1 (y224.set (0 : Int).toNat x0) 0) else (none))) else (none))
def spec_RunPlan.l0 : Nat → List (S67) → List Int → Int → Option (List Int × Bool)
  | 0, _, _, _ => none
  | k + 1, x1, x6, x7 => if x7 < (x1.length : Int) then (if 0 ≤ x7 then (if 0 ≤ ((rd_T67 x1 x7).f0) then (if ((rd_T67 x1 x7).f0) < (x6.length : Int) then ((spec_TunedPitch.f k (rd x6 ((rd_T67 x1 x7).f0)) ((rd_T67 x1 x7).f2) ((rd_T67 x1 x7).f3)).bind fun t232 => (if t232 = 0 then (some ((([] : List Int)), false)) else (if 0 ≤ ((rd_T67 x1 x7).f1) then (if ((rd_T67 x1 x7).f1) < (x6.length : Int) then (spec_RunPlan.l0 k x1 (x6.set (((rd_T67 x1 x7).f1) : Int).toNat t232) (wrap64 (x7 + 1))) else (none)) else (none)))) else (none)) else (none)) else (none)) else (some (x6, true))
end
def spec_RunPlan.f (k : Nat) (a0 : Int) (l1 : List (S67)) : Option (List Int × Bool) := (spec_PlanOk.f l1).bind fun t219 => (if t219 = true then ((spec_l18Pitch.f a0).bind fun t220 => (spec_RunPlan.j0 k a0 l1 (!t220))) else (spec_RunPlan.j0 k a0 l1 true))
theorem spec_RunPlan.mono_l : ∀ k, (∀ y0 y1 y2, LeO (spec_RunPlan.j0 k y0 y1 y2) (spec_RunPlan.j0 (k + 1) y0 y1 y2)) ∧ (∀ y0 y1 y2, LeO (spec_RunPlan.l0 k y0 y1 y2) (spec_RunPlan.l0 (k + 1) y0 y1 y2))
  | 0 => ⟨fun _ _ _ r h => by simp [spec_RunPlan.j0] at h, fun _ _ _ r h => by simp [spec_RunPlan.l0] at h⟩
  | k + 1 => by
    obtain ⟨ih0, ih1⟩ := spec_RunPlan.mono_l k
    refine ⟨?_, ?_⟩
    · intro y0 y1 y2
      unfold spec_RunPlan.j0
      repeat' first
      | (with_reducible exact ih0 _ _ _)
      | (with_reducible exact ih1 _ _ _)
      | (with_reducible exact spec_TunedPitch.mono _ _ _ _)
      | (with_reducible exact LeO.refl _)
      | (with_reducible exact LeO.none _)
      | (with_reducible refine LeO.ite ?_ ?_)
      | (with_reducible refine LeO.bind ?_ (fun _ => ?_))
      | exact ih0 _ _ _
      | exact ih1 _ _ _
      | exact spec_TunedPitch.mono _ _ _ _
      | exact LeO.none _
      | refine LeO.ite ?_ ?_
      | refine LeO.bind ?_ (fun _ => ?_)
    · intro y0 y1 y2
      unfold spec_RunPlan.l0
      repeat' first
      | (with_reducible exact ih0 _ _ _)
      | (with_reducible exact ih1 _ _ _)
      | (with_reducible exact spec_TunedPitch.mono _ _ _ _)
      | (with_reducible exact LeO.refl _)
      | (with_reducible exact LeO.none _)
      | (with_reducible refine LeO.ite ?_ ?_)
      | (with_reducible refine LeO.bind ?_ (fun _ => ?_))
      | exact ih0 _ _ _
      | exact ih1 _ _ _
      | exact spec_TunedPitch.mono _ _ _ _
      | exact LeO.none _
      | refine LeO.ite ?_ ?_
      | refine LeO.bind ?_ (fun _ => ?_)
theorem spec_RunPlan.mono : ∀ a0 a1 k, LeO (spec_RunPlan.f k a0 a1) (spec_RunPlan.f (k + 1) a0 a1) := by
  intro a0 a1 k
  obtain ⟨ih0, ih1⟩ := spec_RunPlan.mono_l k
  unfold spec_RunPlan.f
  repeat' first
      | (with_reducible exact ih0 _ _ _)
      | (with_reducible exact ih1 _ _ _)
      | (with_reducible exact spec_TunedPitch.mono _ _ _ _)
      | (with_reducible exact LeO.refl _)
      | (with_reducible exact LeO.none _)
      | (with_reducible refine LeO.ite ?_ ?_)
      | (with_reducible refine LeO.bind ?_ (fun _ => ?_))
      | exact ih0 _ _ _
      | exact ih1 _ _ _
      | exact spec_TunedPitch.mono _ _ _ _
      | exact LeO.none _
      | refine LeO.ite ?_ ?_
      | refine LeO.bind ?_ (fun _ => ?_)
def spec_RunPlan.T8 : Bool × List (List Nat × List Nat) := (true, [([], []), ([], []), ([], []), ([1, 2], [1, 2]), ([3], [3]), ([4], [4]), ([0, 5], [0, 5]), ([6], [6]), ([], []), ([], []), ([8, 9], [8, 9]), ([10], [10]), ([11], [11]), ([], []), ([], []), ([13, 14], [13, 14]), ([15], [15]), ([16], [16]), ([7, 12, 17], [7, 12, 17]), ([18, 18, 0, 1, 2, 3, 4, 5, 6, 7, 8, 9, 10, 11, 12, 13, 14, 15, 16, 17, 18], [18])])
def spec_RunPlan.B8 : List Nat := [0, 0, 0, 6, 14, 30, 63, 127, 0, 0, 768, 1792, 3840, 0, 0, 24576, 57344, 122880, 262143, 524287]
theorem spec_RunPlan.tab8 : rtab .any (opsOf Try.f62 8) = spec_RunPlan.T8 := by kernel_rfl
theorem spec_RunPlan.bits8 : waitsOk spec_RunPlan.T8.2 spec_RunPlan.B8 = true := by kernel_rfl
set_option maxHeartbeats 8000000 in
set_option maxRecDepth 100000 in
theorem spec_RunPlan.calls (k : Nat) (a0 : Int) (A1 : Option Addr) (c1 : Nat) (l1 : List (S67)) (r1 : List Int) (r2 : Bool) (w : World) (hr1 : Kd.C k67 w A1 l1.length l1) (hc1 : l1.length ≤ c1) (h : spec_RunPlan.f k a0 l1 = some (r1, r2)) :
    Calls Try.prog 62 #[.int .i64 a0, .slice A1 l1.length c1] w fun e w' => ∃ v0_ : Value, e = .returned (.tuple #[v0_, .bool r2]) ∧ Kd.R (Kd.int .i64) 3 w' w.heap.size (fun _ => True) v0_ r1 ∧ Below w.heap.size w w' := by
  have HR1 := Aside0.mk hr1
  have HC1 := Aside0.mk hc1
  clear hr1 hc1
  have HB := Aside0.mk (Below.refl w.heap.size w)
  have H : ((spec_PlanOk.f l1).bind fun t219 => (if t219 = true then ((spec_l18Pitch.f a0).bind fun t220 => (spec_RunPlan.j0 k a0 l1 (!t220))) else (spec_RunPlan.j0 k a0 l1 true))) = some (r1, r2) := h
  clear h
  have HC3 := Aside0.mk H
  clear H
  go_enter Try.func62, Try.ntmps62
  go_upto_region 1 with (fail)
  go_cut [16] (fun v16 wc => ∃ (kq : Nat) (x16_2 : Bool), v16 = .bool x16_2 ∧ Aside0 (spec_RunPlan.j0 kq a0 l1 x16_2 = some (r1, r2)) ∧ Aside0 (kq ≤ k) ∧ Aside0 (Below w.heap.size w wc))
  case first =>
    have H := HC3.out
    clear HC3
    replace H := Option.bind_eq_some_iff.mp H
    obtain ⟨t219, A40, H⟩ := H
    (try dsimp only at H)
    have A4 := Aside0.mk A40
    clear A40
    by_cases c5 : t219 = true
    · subst c5
      rw [if_pos rfl] at H
      replace H := Option.bind_eq_some_iff.mp H
      obtain ⟨t220, A60, H⟩ := H
      (try dsimp only at H)
      have A6 := Aside0.mk A60
      clear A60
      have H' := Aside0.mk H
      clear H
      go_wp2_with (first | ((with_reducible refine gate_callee (f := 54) rfl ?_); refine goesL_ (some 10) rfl rfl Try.func54 (by kernel_rfl) rfl #[.slice A1 l1.length c1] rfl (by (try simp only [List.map_toArray, List.map_cons, List.map_nil]); first | done | rfl | (simp only [List.length_drop, List.length_take]; rfl)) ?_; (with_reducible refine (spec_PlanOk.calls _ _ l1 true _ ?side1 ?side2 A4.out).mono ?_); (case side1 => exact oc_ HR1.out); (case side2 => exact HC1.out); rintro e w7 ⟨rfl, hb⟩; refine ⟨_, rfl, ?_⟩; have n0_ := Aside0.mk (below_step (oB HB) hb); clear HB; have HB := n0_; clear n0_; (try clear hb); (try clear hb2); (try clear hk); (try clear hi)) | (go_at_call 57; (with_reducible refine (spec_l18Pitch.calls a0 t220 _ A6.out).mono ?_); rintro e w' ⟨rfl, ⟨nd, rfl⟩⟩))
      go_meet
      case rel => exact ⟨_, (!t220), (by first | rfl | (simp; done) | (simp [*]; done)), H', ⟨by first | omega | exact Nat.le_refl _⟩, ⟨oB HB⟩⟩
    · replace c5 := Bool.eq_false_iff.mpr c5
      subst c5
      rw [if_neg (show ¬ (false = true) by decide)] at H
      have H' := Aside0.mk H
      clear H
      go_wp2_with (first | ((with_reducible refine gate_callee (f := 54) rfl ?_); refine goesL_ (some 10) rfl rfl Try.func54 (by kernel_rfl) rfl #[.slice A1 l1.length c1] rfl (by (try simp only [List.map_toArray, List.map_cons, List.map_nil]); first | done | rfl | (simp only [List.length_drop, List.length_take]; rfl)) ?_; (with_reducible refine (spec_PlanOk.calls _ _ l1 false _ ?side1 ?side2 A4.out).mono ?_); (case side1 => exact oc_ HR1.out); (case side2 => exact HC1.out); rintro e w8 ⟨rfl, hb⟩; refine ⟨_, rfl, ?_⟩; have n0_ := Aside0.mk (below_step (oB HB) hb); clear HB; have HB := n0_; clear n0_; (try clear hb); (try clear hb2); (try clear hk); (try clear hi)))
      go_meet
      case rel => exact ⟨_, (true), (by first | rfl | (simp; done) | (simp [*]; done)), H', ⟨by first | omega | exact Nat.le_refl _⟩, ⟨oB HB⟩⟩
  case rest =>
    clear HC3
    try clear c1
    try clear p2
    try clear c5
    try clear c6
    obtain ⟨kq, x16_2, rfl, HA, HJ2, HB⟩ := hcut
    cases kq with
    | zero => exact absurd HA.out (by simp [spec_RunPlan.j0])
    | succ kj2 =>
      have H := HA.out
      clear HA
      simp only [spec_RunPlan.j0] at H
      by_cases c9 : x16_2 = true
      · subst c9
        rw [if_pos rfl] at H
        obtain ⟨y221, hy221⟩ : ∃ y_ : List Int, y_ = (([] : List Int)) := ⟨_, rfl⟩
        replace H : (some (y221, false)) = some (r1, r2) := by first | (rw [hy221]; with_reducible exact H) | (have H2_ := (Option.bind_some _ _).symm.trans H; rw [hy221]; with_reducible exact H2_) | (have H2_ := (Option.bind_some _ _).symm.trans H; with_reducible exact H2_) | with_reducible exact H | (rw [hy221]; exact H) | exact H
        have Ny221 := Aside0.mk hy221
        clear hy221
        simp only [Option.some.injEq, Prod.mk.injEq] at H
        obtain ⟨rfl, rfl⟩ := H
        go_wp2_with (first | ((with_reducible refine gate_dst (N := 17) rfl ?_); refine Kd.R_lit (Kd.int .i64) _ 3 ?hg (N := 17) ?hd (xs := ([] : List Int)) (inner := []) (ok := fun _ => True) (okp := fun _ => True) ?hr ?hp (fun _ hk => hk) trivial (Below.refl _ _) (Nat.le_refl _) (by simp) ?_; (case hd => rfl); (case hg => rfl); (case hr => first | (go_simp; done) | (go_simp; rfl)); (case hp => exact (Reps.none _ _)); intro v222 w10 ho11 hb hg_ hnew_; clear hg_ hnew_; (first | rw [← Ny221.out] at ho11 | (simp only [Int.reduceToNat] at ho11; rw [← Ny221.out] at ho11)); have n0_ := Aside0.mk (Kd.R_lower ho11 (below_size (oB HB))); have n1_ := Aside0.mk (below_step (oB HB) hb); clear HB; have HO223 := n0_; have HB := n1_; clear n0_ n1_; clear hb ho11))
        go_ret2
        exact ⟨_, by first | rfl | (simp [errW_none, errW_some] <;> rfl) | (simp [*, errW_none, errW_some] <;> rfl), oR HO223, oB HB⟩
      · replace c9 := Bool.eq_false_iff.mpr c9
        subst c9
        rw [if_neg (show ¬ (false = true) by decide)] at H
        by_cases c12 : 12 ≤ 35184372088832
        · rw [if_pos c12] at H
          have c12b0 := eq_true c12
          have c12b1 : decide (12 ≤ 35184372088832) = true := decide_eq_true c12
          clear c12
          obtain ⟨y224, hy224⟩ : ∃ y_ : List Int, y_ = (List.replicate 12 0) := ⟨_, rfl⟩
          replace H : (if 0 < (y224.length : Int) then (spec_RunPlan.l0 kj2 l1 (y224.set (0 : Int).toNat a0) 0) else (none)) = some (r1, r2) := by first | (rw [hy224]; with_reducible exact H) | (have H2_ := (Option.bind_some _ _).symm.trans H; rw [hy224]; with_reducible exact H2_) | (have H2_ := (Option.bind_some _ _).symm.trans H; with_reducible exact H2_) | with_reducible exact H | (rw [hy224]; exact H) | exact H
          have Ny224 := Aside0.mk hy224
          clear hy224
          by_cases c13 : 0 < (y224.length : Int)
          · rw [if_pos c13] at H
            have c13b0 : decide (0 < (y224.length : Int)) = true := decide_eq_true c13
            have c13b1 : decide (0 < y224.length) = true := decide_eq_true (by omega)
            clear c13
            obtain ⟨y227, hy227⟩ : ∃ y_ : List Int, y_ = (y224.set (0 : Int).toNat a0) := ⟨_, rfl⟩
            replace H : (spec_RunPlan.l0 kj2 l1 y227 0) = some (r1, r2) := by first | (rw [hy227]; with_reducible exact H) | (have H2_ := (Option.bind_some _ _).symm.trans H; rw [hy227]; with_reducible exact H2_) | (have H2_ := (Option.bind_some _ _).symm.trans H; with_reducible exact H2_) | with_reducible exact H | (rw [hy227]; exact H) | exact H
            have Ny227 := Aside0.mk hy227
            clear hy227
            have H' := Aside0.mk H
            clear H
            go_wp2_with (first | ((with_reducible refine gate_dst (N := 18) rfl ?_); refine Kd.R_make (Kd.int .i64) _ 3 rfl (N := 18) rfl 23 _ _ rfl 12 rfl rfl Try.underlying23 (.int .i64 0) 8 info3 rfl (by decide) (by omega) 0 (ok := fun _ => True) (okp := fun _ => True) rfl (fun _ hk => hk) trivial (by omega) (by omega) (Below.refl _ _) (Nat.le_refl _) ?_; intro v225 w15 ho16 hb hg_ hnew_; clear hg_ hnew_; (first | rw [← Ny224.out] at ho16 | (simp only [Int.reduceToNat] at ho16; rw [← Ny224.out] at ho16)); have n0_ := Aside0.mk (Kd.R_lower ho16 (below_size (oB HB))); have n1_ := Aside0.mk (below_step (oB HB) hb); clear HB; have HO226 := n0_; have HB := n1_; clear n0_ n1_; clear hb ho16; have p14 : 0 ≤ (0 : Int) := (by omega); have q14 : (0 : Int) < ((y224.length : Int) : Int) := of_decide_eq_true (by first | (with_reducible assumption) | assumption); have qi14 : (0 < y224.length) = True := eq_true (by omega); obtain ⟨go14, co14, eo14, gb14, gl14, cl14, HG14⟩ := Kd.R_form HO226.out (by omega); (first | cases eo14 | (injection eo14 with ea_ en_ ec_; (first | subst ea_ | (injection ea_ with ea_; subst ea_)); subst ec_; clear en_)); have GB14 := Aside0.mk gb14; have GG14 := Aside0.mk HG14; clear gb14 gl14 HG14; obtain ⟨hx14_0, hf14_0⟩ := Kd.R_celln 0 HO226.out (0 : Int) p14 q14; (try rw [show ((0 : Int)).toNat = 0 from rfl] at hx14_0); (try simp only [Nat.reduceMul, Nat.zero_mul, Nat.zero_add, Nat.reduceAdd] at hx14_0); (try rw [show ((0 : Int)).toNat = 0 from rfl] at hf14_0); (try simp only [Nat.reduceMul, Nat.zero_mul, Nat.zero_add, Nat.reduceAdd] at hf14_0); replace p14 := eq_true p14; replace q14 := eq_true q14; obtain ⟨hy17_, hz17_⟩ := Kd.R_celln 0 HO226.out (0 : Int) (by omega) (of_decide_eq_true (by first | (with_reducible assumption) | assumption)); (try simp only [Int.reduceToNat, Int.toNat_zero, Int.toNat_ofNat, Nat.reduceMul, Nat.zero_mul, Nat.zero_add] at hy17_ hz17_); (try rw [show ((0 : Int)).toNat = 0 from rfl] at hy17_); (try rw [show ((0 : Int)).toNat = 0 from rfl] at hz17_); have HP17 := Kd.R_putg HO226.out (0 : Int) a0) | ((with_reducible refine gate_store (t := 3) (p := 21) rfl ?_); refine store_event (t := 3) (p := 21) (v := ?vo_w18) (w1 := (w15.setCell ⟨go14, (0 : Int).toNat, none⟩ (.int .i64 a0))) ?hg ?ho ?hn ?hr ?_; (case ho => rfl); (case hg => rfl); (case hn => rfl); (case hr => first | (go_simp; done) | (go_simp; rfl)); intro w18 hw; have hg : w15.grownBy w18 (some go14) := (by rw [hw]; exact HP17.2); have hp_ : Kd.R (Kd.int .i64) 3 w18 w.heap.size (fun _ => True) (.slice (some ⟨go14, 0, none⟩) y224.length co14) y227 := (by rw [hw, Ny227.out]; exact HP17.1); clear HP17; have n0_ := Aside0.mk (hp_); have n1_ := Aside0.mk ((by rw [hw]; exact below_set (HB.out) GB14.out : Below w.heap.size w w18)); clear HO226; clear HB; have HO226 := n0_; have HB := n1_; clear n0_ n1_; clear hg hw hp_))
            go_loopg [7] kj2 (fun kq v7 w' => ∃ (x6_2 : List Int) (x7_2 : Int), v7 = .int .i64 x7_2 ∧ Aside0 (spec_RunPlan.l0 kq l1 x6_2 x7_2 = some (r1, r2)) ∧ Aside0 (kq ≤ kj2) ∧ Aside0 (Kd.R (Kd.int .i64) 3 w' w.heap.size (fun _ => True) (.slice (some ⟨go14, 0, none⟩) y224.length co14) x6_2) ∧ Aside0 (Below w.heap.size w w'))
            case atStart => exact ⟨(y227), (0), (by first | rfl | (simp; done) | (simp [*]; done)), H', ⟨Nat.le_refl _⟩, ⟨oR HO226⟩, ⟨oB HB⟩⟩
            case round =>
              clear H'
              try clear c1
              try clear p1
              try clear q1
              try clear hx1
              try clear qi1
              try clear p2
              try clear c5
              try clear c6
              try clear c9
              try clear c12
              try clear c12b0
              try clear c12b1
              try clear c13
              try clear c13b0
              try clear c13b1
              try clear p14
              try clear q14
              try clear hx14
              try clear qi14
              try clear hf14
              try clear hx14_0
              try clear p14
              try clear p2
              try clear q14
              obtain ⟨x6_2, x7_2, rfl, HA, HK2, HO_6, HB⟩ := hrel
              have hl6_2 := (Kd.R_reads' HO_6.out).1
              rw [hl6_2] at HO_6
              (try simp only [hl6_2])
              cases gk with
              | zero => exact absurd HA.out (by simp [spec_RunPlan.l0])
              | succ k2 =>
                have H := HA.out
                clear HA
                simp only [spec_RunPlan.l0] at H
                by_cases c19 : x7_2 < (l1.length : Int)
                · rw [if_pos c19] at H
                  have c19b0 : decide (x7_2 < (l1.length : Int)) = true := decide_eq_true c19
                  clear c19
                  by_cases c20 : 0 ≤ x7_2
                  · rw [if_pos c20] at H
                    have c20b0 : decide (0 ≤ x7_2) = true := decide_eq_true c20
                    clear c20
                    by_cases c21 : 0 ≤ ((rd_T67 l1 x7_2).f0)
                    · rw [if_pos c21] at H
                      have c21b0 : decide (0 ≤ ((rd_T67 l1 x7_2).f0)) = true := decide_eq_true c21
                      clear c21
                      by_cases c22 : ((rd_T67 l1 x7_2).f0) < (x6_2.length : Int)
                      · rw [if_pos c22] at H
                        have c22b0 : decide (((rd_T67 l1 x7_2).f0) < (x6_2.length : Int)) = true := decide_eq_true c22
                        clear c22
                        replace H := Option.bind_eq_some_iff.mp H
                        obtain ⟨t232, A230, H⟩ := H
                        (try dsimp only at H)
                        have A23 := Aside0.mk A230
                        clear A230
                        by_cases c24 : t232 = 0
                        · rw [if_pos c24] at H
                          have c24b0 : (t232 == 0) = true := beq_iff_eq.mpr c24
                          have c24b1 : (t232 != 0) = false := bne_eq_false_iff_eq.mpr c24
                          clear c24
                          obtain ⟨y233, hy233⟩ : ∃ y_ : List Int, y_ = (([] : List Int)) := ⟨_, rfl⟩
                          replace H : (some (y233, false)) = some (r1, r2) := by first | (rw [hy233]; with_reducible exact H) | (have H2_ := (Option.bind_some _ _).symm.trans H; rw [hy233]; with_reducible exact H2_) | (have H2_ := (Option.bind_some _ _).symm.trans H; with_reducible exact H2_) | with_reducible exact H | (rw [hy233]; exact H) | exact H
                          have Ny233 := Aside0.mk hy233
                          clear hy233
                          simp only [Option.some.injEq, Prod.mk.injEq] at H
                          obtain ⟨rfl, rfl⟩ := H
                          try go_wp2
                          have n0_ := Aside0.mk (Kd.R_drew HO_6.out)
                          have n1_ := Aside0.mk (below_drew1 HB.out)
                          clear HO_6
                          clear HB
                          have HO_6 := n0_
                          have HB := n1_
                          clear n0_ n1_
                          have p228 : 0 ≤ (x7_2 : Int) := of_decide_eq_true (by first | (with_reducible assumption) | assumption)
                          have q228 : x7_2 < (l1.length : Int) := of_decide_eq_true (by first | (with_reducible assumption) | assumption)
                          obtain ⟨ad228, e228, hx228_0, hx228_1, hx228_2, hx228_3⟩ := at_T67 HR1.out x7_2 p228 q228
                          have hw228_3 := hx228_3
                          have hw228_2 := hx228_2
                          have hw228_1 := hx228_1
                          have hw228_0 := hx228_0
                          cases e228
                          replace hx228_0 := (HB.out.cell (World.block_lt_of_cell? w _ hx228_0)).trans hx228_0
                          replace hx228_1 := (HB.out.cell (World.block_lt_of_cell? w _ hx228_1)).trans hx228_1
                          replace hx228_2 := (HB.out.cell (World.block_lt_of_cell? w _ hx228_2)).trans hx228_2
                          replace hx228_3 := (HB.out.cell (World.block_lt_of_cell? w _ hx228_3)).trans hx228_3
                          replace p228 := eq_true p228
                          replace q228 := eq_true q228
                          have p229 : 0 ≤ (((rd_T67 l1 x7_2).f0) : Int) := of_decide_eq_true (by first | (with_reducible assumption) | assumption)
                          have q229 : ((rd_T67 l1 x7_2).f0) < (x6_2.length : Int) := of_decide_eq_true (by first | (with_reducible assumption) | assumption)
                          obtain ⟨ad229, e229, hx229_0⟩ := Kd.at_int (Kd.R_reads' HO_6.out).2.2 ((rd_T67 l1 x7_2).f0) p229 q229
                          obtain rfl : (⟨go14, 0, none⟩ : Addr) = ad229 := (by injection e229)
                          (first | simp only [add_plain] at hx229_0 | simp only [add_at] at hx229_0 | simp only [Addr.add, Nat.zero_add] at hx229_0 | skip)
                          replace p229 := eq_true p229
                          replace q229 := eq_true q229
                          have p230 : 0 ≤ (x7_2 : Int) := of_decide_eq_true (by first | (with_reducible assumption) | assumption)
                          have q230 : x7_2 < (l1.length : Int) := of_decide_eq_true (by first | (with_reducible assumption) | assumption)
                          obtain ⟨ad230, e230, hx230_0, hx230_1, hx230_2, hx230_3⟩ := at_T67 HR1.out x7_2 p230 q230
                          have hw230_3 := hx230_3
                          have hw230_2 := hx230_2
                          have hw230_1 := hx230_1
                          have hw230_0 := hx230_0
                          obtain rfl : ad228 = ad230 := (by injection e230)
                          replace hx230_0 := (HB.out.cell (World.block_lt_of_cell? w _ hx230_0)).trans hx230_0
                          replace hx230_1 := (HB.out.cell (World.block_lt_of_cell? w _ hx230_1)).trans hx230_1
                          replace hx230_2 := (HB.out.cell (World.block_lt_of_cell? w _ hx230_2)).trans hx230_2
                          replace hx230_3 := (HB.out.cell (World.block_lt_of_cell? w _ hx230_3)).trans hx230_3
                          replace p230 := eq_true p230
                          replace q230 := eq_true q230
                          have p231 : 0 ≤ (x7_2 : Int) := of_decide_eq_true (by first | (with_reducible assumption) | assumption)
                          have q231 : x7_2 < (l1.length : Int) := of_decide_eq_true (by first | (with_reducible assumption) | assumption)
                          obtain ⟨ad231, e231, hx231_0, hx231_1, hx231_2, hx231_3⟩ := at_T67 HR1.out x7_2 p231 q231
                          have hw231_3 := hx231_3
                          have hw231_2 := hx231_2
                          have hw231_1 := hx231_1
                          have hw231_0 := hx231_0
                          obtain rfl : ad228 = ad231 := (by injection e231)
                          replace hx231_0 := (HB.out.cell (World.block_lt_of_cell? w _ hx231_0)).trans hx231_0
                          replace hx231_1 := (HB.out.cell (World.block_lt_of_cell? w _ hx231_1)).trans hx231_1
                          replace hx231_2 := (HB.out.cell (World.block_lt_of_cell? w _ hx231_2)).trans hx231_2
                          replace hx231_3 := (HB.out.cell (World.block_lt_of_cell? w _ hx231_3)).trans hx231_3
                          replace p231 := eq_true p231
                          replace q231 := eq_true q231
                          refine start_ (n := 20) (S := fun w' => w'.cell? (ad228.add ((x7_2).toNat * 4)) = some (.int .i64 ((rd_T67 l1 x7_2).f0)) ∧ w'.cell? ⟨(ad228.add ((x7_2).toNat * 4)).block, (ad228.add ((x7_2).toNat * 4)).off + 1, none⟩ = some (.int .i64 ((rd_T67 l1 x7_2).f1)) ∧ w'.cell? ⟨(ad228.add ((x7_2).toNat * 4)).block, (ad228.add ((x7_2).toNat * 4)).off + 2, none⟩ = some (.int .i64 ((rd_T67 l1 x7_2).f2)) ∧ w'.cell? ⟨(ad228.add ((x7_2).toNat * 4)).block, (ad228.add ((x7_2).toNat * 4)).off + 3, none⟩ = some (.int .i64 ((rd_T67 l1 x7_2).f3)) ∧ w'.cell? ⟨go14, (((rd_T67 l1 x7_2).f0)).toNat, none⟩ = some (.int .i64 (rd x6_2 ((rd_T67 l1 x7_2).f0))) ∧ w'.cell? (ad228.add ((x7_2).toNat * 4)) = some (.int .i64 ((rd_T67 l1 x7_2).f0)) ∧ w'.cell? ⟨(ad228.add ((x7_2).toNat * 4)).block, (ad228.add ((x7_2).toNat * 4)).off + 1, none⟩ = some (.int .i64 ((rd_T67 l1 x7_2).f1)) ∧ w'.cell? ⟨(ad228.add ((x7_2).toNat * 4)).block, (ad228.add ((x7_2).toNat * 4)).off + 2, none⟩ = some (.int .i64 ((rd_T67 l1 x7_2).f2)) ∧ w'.cell? ⟨(ad228.add ((x7_2).toNat * 4)).block, (ad228.add ((x7_2).toNat * 4)).off + 3, none⟩ = some (.int .i64 ((rd_T67 l1 x7_2).f3)) ∧ w'.cell? (ad228.add ((x7_2).toNat * 4)) = some (.int .i64 ((rd_T67 l1 x7_2).f0)) ∧ w'.cell? ⟨(ad228.add ((x7_2).toNat * 4)).block, (ad228.add ((x7_2).toNat * 4)).off + 1, none⟩ = some (.int .i64 ((rd_T67 l1 x7_2).f1)) ∧ w'.cell? ⟨(ad228.add ((x7_2).toNat * 4)).block, (ad228.add ((x7_2).toNat * 4)).off + 2, none⟩ = some (.int .i64 ((rd_T67 l1 x7_2).f2)) ∧ w'.cell? ⟨(ad228.add ((x7_2).toNat * 4)).block, (ad228.add ((x7_2).toNat * 4)).off + 3, none⟩ = some (.int .i64 ((rd_T67 l1 x7_2).f3))) (ds := []) #[false, false, false, false, false, false, false, false, false, false, false, false, false, false, false, false, false, false, false, false] (by kernel_rfl) rfl rfl ⟨((HB.out.cell (World.block_lt_of_cell? w _ hw228_0)).trans hw228_0), ((HB.out.cell (World.block_lt_of_cell? w _ hw228_1)).trans hw228_1), ((HB.out.cell (World.block_lt_of_cell? w _ hw228_2)).trans hw228_2), ((HB.out.cell (World.block_lt_of_cell? w _ hw228_3)).trans hw228_3), hx229_0, ((HB.out.cell (World.block_lt_of_cell? w _ hw230_0)).trans hw230_0), ((HB.out.cell (World.block_lt_of_cell? w _ hw230_1)).trans hw230_1), ((HB.out.cell (World.block_lt_of_cell? w _ hw230_2)).trans hw230_2), ((HB.out.cell (World.block_lt_of_cell? w _ hw230_3)).trans hw230_3), ((HB.out.cell (World.block_lt_of_cell? w _ hw231_0)).trans hw231_0), ((HB.out.cell (World.block_lt_of_cell? w _ hw231_1)).trans hw231_1), ((HB.out.cell (World.block_lt_of_cell? w _ hw231_2)).trans hw231_2), ((HB.out.cell (World.block_lt_of_cell? w _ hw231_3)).trans hw231_3)⟩ (fun hHeld => ?_); refine with_tabW spec_RunPlan.tab8 spec_RunPlan.bits8 (fun HT_ HW_ => ?_)
                          generalize wr.drew = w25 at HO_6 HB hx228_0 hx228_1 hx228_2 hx228_3 hx229_0 hx230_0 hx230_1 hx230_2 hx230_3 hx231_0 hx231_1 hx231_2 hx231_3 hHeld ⊢
                          refine pure_ (i := 0) (N := some 28) (v := ?_) (a' := ?_) #[true, false, false, false, false, false, false, false, false, false, false, false, false, false, false, false, false, false, false, false] rfl rfl (any_of HT_.out (by kernel_rfl)) (fun _ _ _ h => h) (Or.inl ⟨by rfl, ?_⟩) ?_ ?_
                          rotate_left
                          · intro w'
                            go_simp
                            with_reducible rfl
                          rotate_left
                          · simp only [Act.put, List.setIfInBounds_toArray, List.set_cons_zero, List.set_cons_succ, i64_w, i32_w]
                            rfl
                          refine pure_ (i := 1) (N := some 29) (v := ?_) (a' := ?_) #[true, true, false, false, false, false, false, false, false, false, false, false, false, false, false, false, false, false, false, false] rfl rfl (any_of HT_.out (by kernel_rfl)) (fun _ _ _ h => h) (Or.inl ⟨by rfl, ?_⟩) ?_ ?_
                          rotate_left
                          · intro w'
                            go_simp
                            with_reducible rfl
                          rotate_left
                          · simp only [Act.put, List.setIfInBounds_toArray, List.set_cons_zero, List.set_cons_succ, i64_w, i32_w]
                            rfl
                          refine pure_ (i := 2) (N := some 30) (v := ?_) (a' := ?_) #[true, true, true, false, false, false, false, false, false, false, false, false, false, false, false, false, false, false, false, false] rfl rfl (any_of HT_.out (by kernel_rfl)) (fun _ _ _ h => h) (Or.inl ⟨by rfl, ?_⟩) ?_ ?_
                          rotate_left
                          · intro w'
                            go_simp
                            with_reducible rfl
                          rotate_left
                          · simp only [Act.put, List.setIfInBounds_toArray, List.set_cons_zero, List.set_cons_succ, i64_w, i32_w]
                            rfl
                          refine pure_ (i := 3) (N := some 31) (v := ?_) (a' := ?_) #[true, true, true, true, false, false, false, false, false, false, false, false, false, false, false, false, false, false, false, false] rfl rfl (any_of HT_.out (by kernel_rfl)) (fun _ _ _ h => h) (Or.inl ⟨by rfl, ?_⟩) ?_ ?_
                          rotate_left
                          · intro w'
                            go_simp
                            with_reducible rfl
                          rotate_left
                          · simp only [Act.put, List.setIfInBounds_toArray, List.set_cons_zero, List.set_cons_succ, i64_w, i32_w]
                            rfl
                          refine pure_ (i := 4) (N := some 32) (v := ?_) (a' := ?_) #[true, true, true, true, true, false, false, false, false, false, false, false, false, false, false, false, false, false, false, false] rfl rfl (any_of HT_.out (by kernel_rfl)) (fun _ _ _ h => h) (Or.inl ⟨by rfl, ?_⟩) ?_ ?_
                          rotate_left
                          · intro w'
                            go_simp
                            with_reducible rfl
                          rotate_left
                          · simp only [Act.put, List.setIfInBounds_toArray, List.set_cons_zero, List.set_cons_succ, i64_w, i32_w]
                            rfl
                          refine pure_ (i := 8) (N := some 36) (v := ?_) (a' := ?_) #[true, true, true, true, true, false, false, false, true, false, false, false, false, false, false, false, false, false, false, false] rfl rfl (any_of HT_.out (by kernel_rfl)) (fun _ _ _ h => h) (Or.inl ⟨by rfl, ?_⟩) ?_ ?_
                          rotate_left
                          · intro w'
                            go_simp
                            with_reducible rfl
                          rotate_left
                          · simp only [Act.put, List.setIfInBounds_toArray, List.set_cons_zero, List.set_cons_succ, i64_w, i32_w]
                            rfl
                          refine pure_ (i := 9) (N := some 37) (v := ?_) (a' := ?_) #[true, true, true, true, true, false, false, false, true, true, false, false, false, false, false, false, false, false, false, false] rfl rfl (any_of HT_.out (by kernel_rfl)) (fun _ _ _ h => h) (Or.inl ⟨by rfl, ?_⟩) ?_ ?_
                          rotate_left
                          · intro w'
                            go_simp
                            with_reducible rfl
                          rotate_left
                          · simp only [Act.put, List.setIfInBounds_toArray, List.set_cons_zero, List.set_cons_succ, i64_w, i32_w]
                            rfl
                          refine pure_ (i := 10) (N := some 38) (v := ?_) (a' := ?_) #[true, true, true, true, true, false, false, false, true, true, true, false, false, false, false, false, false, false, false, false] rfl rfl (any_of HT_.out (by kernel_rfl)) (fun _ _ _ h => h) (Or.inl ⟨by rfl, ?_⟩) ?_ ?_
                          rotate_left
                          · intro w'
                            go_simp
                            with_reducible rfl
                          rotate_left
                          · simp only [Act.put, List.setIfInBounds_toArray, List.set_cons_zero, List.set_cons_succ, i64_w, i32_w]
                            rfl
                          refine pure_ (i := 11) (N := some 39) (v := ?_) (a' := ?_) #[true, true, true, true, true, false, false, false, true, true, true, true, false, false, false, false, false, false, false, false] rfl rfl (any_of HT_.out (by kernel_rfl)) (fun _ _ _ h => h) (Or.inl ⟨by rfl, ?_⟩) ?_ ?_
                          rotate_left
                          · intro w'
                            go_simp
                            with_reducible rfl
                          rotate_left
                          · simp only [Act.put, List.setIfInBounds_toArray, List.set_cons_zero, List.set_cons_succ, i64_w, i32_w]
                            rfl
                          refine pure_ (i := 13) (N := some 41) (v := ?_) (a' := ?_) #[true, true, true, true, true, false, false, false, true, true, true, true, false, true, false, false, false, false, false, false] rfl rfl (any_of HT_.out (by kernel_rfl)) (fun _ _ _ h => h) (Or.inl ⟨by rfl, ?_⟩) ?_ ?_
                          rotate_left
                          · intro w'
                            go_simp
                            with_reducible rfl
                          rotate_left
                          · simp only [Act.put, List.setIfInBounds_toArray, List.set_cons_zero, List.set_cons_succ, i64_w, i32_w]
                            rfl
                          refine pure_ (i := 14) (N := some 42) (v := ?_) (a' := ?_) #[true, true, true, true, true, false, false, false, true, true, true, true, false, true, true, false, false, false, false, false] rfl rfl (any_of HT_.out (by kernel_rfl)) (fun _ _ _ h => h) (Or.inl ⟨by rfl, ?_⟩) ?_ ?_
                          rotate_left
                          · intro w'
                            go_simp
                            with_reducible rfl
                          rotate_left
                          · simp only [Act.put, List.setIfInBounds_toArray, List.set_cons_zero, List.set_cons_succ, i64_w, i32_w]
                            rfl
                          refine pure_ (i := 15) (N := some 43) (v := ?_) (a' := ?_) #[true, true, true, true, true, false, false, false, true, true, true, true, false, true, true, true, false, false, false, false] rfl rfl (any_of HT_.out (by kernel_rfl)) (fun _ _ _ h => h) (Or.inl ⟨by rfl, ?_⟩) ?_ ?_
                          rotate_left
                          · intro w'
                            go_simp
                            with_reducible rfl
                          rotate_left
                          · simp only [Act.put, List.setIfInBounds_toArray, List.set_cons_zero, List.set_cons_succ, i64_w, i32_w]
                            rfl
                          refine pure_ (i := 16) (N := some 44) (v := ?_) (a' := ?_) #[true, true, true, true, true, false, false, false, true, true, true, true, false, true, true, true, true, false, false, false] rfl rfl (any_of HT_.out (by kernel_rfl)) (fun _ _ _ h => h) (Or.inl ⟨by rfl, ?_⟩) ?_ ?_
                          rotate_left
                          · intro w'
                            go_simp
                            with_reducible rfl
                          rotate_left
                          · simp only [Act.put, List.setIfInBounds_toArray, List.set_cons_zero, List.set_cons_succ, i64_w, i32_w]
                            rfl
                          refine take_ (i := 5) (N := some 33) (v := ?_) (a' := ?_) #[true, true, true, true, true, true, false, false, true, true, true, true, false, true, true, true, true, false, false, false] rfl rfl (take_ofW HT_.out HW_.out (by kernel_rfl)) (fun _ _ _ h => h) (Or.inl ⟨by rfl, ?_⟩) hHeld ?_ ?_
                          rotate_left
                          · rintro w' ⟨s0, s1, s2, s3, s4, s5, s6, s7, s8, s9, s10, s11, s12⟩
                            go_simp
                            with_reducible rfl
                          rotate_left
                          · simp only [Act.put, List.setIfInBounds_toArray, List.set_cons_zero, List.set_cons_succ, i64_w, i32_w]
                            rfl
                          refine pure_ (i := 6) (N := some 34) (v := ?_) (a' := ?_) #[true, true, true, true, true, true, true, false, true, true, true, true, false, true, true, true, true, false, false, false] rfl rfl (any_of HT_.out (by kernel_rfl)) (fun _ _ _ h => h) (Or.inl ⟨by rfl, ?_⟩) ?_ ?_
                          rotate_left
                          · intro w'
                            go_simp
                            with_reducible rfl
                          rotate_left
                          · simp only [Act.put, List.setIfInBounds_toArray, List.set_cons_zero, List.set_cons_succ, i64_w, i32_w]
                            rfl
                          refine take_ (i := 7) (N := some 35) (v := ?_) (a' := ?_) #[true, true, true, true, true, true, true, true, true, true, true, true, false, true, true, true, true, false, false, false] rfl rfl (take_ofW HT_.out HW_.out (by kernel_rfl)) (fun _ _ _ h => h) (Or.inl ⟨by rfl, ?_⟩) hHeld ?_ ?_
                          rotate_left
                          · rintro w' ⟨s0, s1, s2, s3, s4, s5, s6, s7, s8, s9, s10, s11, s12⟩
                            go_simp
                            with_reducible rfl
                          rotate_left
                          · simp only [Act.put, List.setIfInBounds_toArray, List.set_cons_zero, List.set_cons_succ, i64_w, i32_w]
                            rfl
                          refine take_ (i := 12) (N := some 40) (v := ?_) (a' := ?_) #[true, true, true, true, true, true, true, true, true, true, true, true, true, true, true, true, true, false, false, false] rfl rfl (take_ofW HT_.out HW_.out (by kernel_rfl)) (fun _ _ _ h => h) (Or.inl ⟨by rfl, ?_⟩) hHeld ?_ ?_
                          rotate_left
                          · rintro w' ⟨s0, s1, s2, s3, s4, s5, s6, s7, s8, s9, s10, s11, s12⟩
                            go_simp
                            with_reducible rfl
                          rotate_left
                          · simp only [Act.put, List.setIfInBounds_toArray, List.set_cons_zero, List.set_cons_succ, i64_w, i32_w]
                            rfl
                          refine take_ (i := 17) (N := some 45) (v := ?_) (a' := ?_) #[true, true, true, true, true, true, true, true, true, true, true, true, true, true, true, true, true, true, false, false] rfl rfl (take_ofW HT_.out HW_.out (by kernel_rfl)) (fun _ _ _ h => h) (Or.inl ⟨by rfl, ?_⟩) hHeld ?_ ?_
                          rotate_left
                          · rintro w' ⟨s0, s1, s2, s3, s4, s5, s6, s7, s8, s9, s10, s11, s12⟩
                            go_simp
                            with_reducible rfl
                          rotate_left
                          · simp only [Act.put, List.setIfInBounds_toArray, List.set_cons_zero, List.set_cons_succ, i64_w, i32_w]
                            rfl
                          refine one_ (i := 18) (N := some 46) #[true, true, true, true, true, true, true, true, true, true, true, true, true, true, true, true, true, true, true, false] rfl rfl (one_of HT_.out (by kernel_rfl)) (by decide) (fun K hK => ?_)
                          refine goes_ Try.func72 (by kernel_rfl) rfl #[.int .i64 (rd x6_2 ((rd_T67 l1 x7_2).f0)), .int .i64 ((rd_T67 l1 x7_2).f2), .int .i64 ((rd_T67 l1 x7_2).f3)] (by rfl) rfl rfl (by (try simp only [List.map_toArray, List.map_cons, List.map_nil]); first | done | rfl | (simp only [List.length_drop, List.length_take]; rfl)) ?_
                          with_reducible refine (spec_TunedPitch.calls k2 (rd x6_2 ((rd_T67 l1 x7_2).f0)) ((rd_T67 l1 x7_2).f2) ((rd_T67 l1 x7_2).f3) t232 _ A23.out).mono ?_
                          rintro e w26 ⟨rfl, hb⟩
                          have HS4_ := (hb.cell (World.block_lt_of_cell? _ _ (hHeld.2.2.2.2.1))).trans (hHeld.2.2.2.2.1)
                          refine ⟨_, rfl, ?_⟩
                          have n0_ := Aside0.mk (Kd.R_below (oR HO_6) hb)
                          have n1_ := Aside0.mk (below_step (oB HB) hb)
                          clear HO_6
                          clear HB
                          have HO_6 := n0_
                          have HB := n1_
                          clear n0_ n1_
                          (try clear hb)
                          (try clear hb2)
                          (try clear hk)
                          (try clear hi)
                          refine hK.out _ _ ⟨((HB.out.cell (World.block_lt_of_cell? w _ hw228_0)).trans hw228_0), ((HB.out.cell (World.block_lt_of_cell? w _ hw228_1)).trans hw228_1), ((HB.out.cell (World.block_lt_of_cell? w _ hw228_2)).trans hw228_2), ((HB.out.cell (World.block_lt_of_cell? w _ hw228_3)).trans hw228_3), HS4_, ((HB.out.cell (World.block_lt_of_cell? w _ hw230_0)).trans hw230_0), ((HB.out.cell (World.block_lt_of_cell? w _ hw230_1)).trans hw230_1), ((HB.out.cell (World.block_lt_of_cell? w _ hw230_2)).trans hw230_2), ((HB.out.cell (World.block_lt_of_cell? w _ hw230_3)).trans hw230_3), ((HB.out.cell (World.block_lt_of_cell? w _ hw231_0)).trans hw231_0), ((HB.out.cell (World.block_lt_of_cell? w _ hw231_1)).trans hw231_1), ((HB.out.cell (World.block_lt_of_cell? w _ hw231_2)).trans hw231_2), ((HB.out.cell (World.block_lt_of_cell? w _ hw231_3)).trans hw231_3)⟩ (fun hHeld => ?_)
                          clear hK K
                          refine norm_ (a' := ?_) ?_ ?_
                          rotate_left
                          · show Act.put _ (some 46) _ = _
                            simp only [Act.put, List.setIfInBounds_toArray, List.set_cons_zero, List.set_cons_succ, i64_w, i32_w]
                            rfl
                          refine pure_ (i := 19) (N := some 8) (v := ?_) (a' := ?_) #[true, true, true, true, true, true, true, true, true, true, true, true, true, true, true, true, true, true, true, true] rfl rfl (any_of HT_.out (by kernel_rfl)) (fun _ _ _ h => h) (Or.inl ⟨by rfl, ?_⟩) ?_ ?_
                          rotate_left
                          · intro w'
                            go_simp
                            with_reducible rfl
                          rotate_left
                          · simp only [Act.put, List.setIfInBounds_toArray, List.set_cons_zero, List.set_cons_succ, i64_w, i32_w]
                            rfl
                          refine done_ (done_of HT_.out (by kernel_rfl)) ?_
                          try go_wp2_with (first | ((with_reducible refine gate_dst (N := 49) rfl ?_); refine Kd.R_lit (Kd.int .i64) _ 3 ?hg (N := 49) ?hd (xs := ([] : List Int)) (inner := []) (ok := fun _ => True) (okp := fun _ => True) ?hr ?hp (fun _ hk => hk) trivial (Below.refl _ _) (Nat.le_refl _) (by simp) ?_; (case hd => rfl); (case hg => rfl); (case hr => first | (go_simp; done) | (go_simp; rfl)); (case hp => exact (Reps.none _ _)); intro v234 w27 ho28 hb hg_ hnew_; clear hg_ hnew_; (first | rw [← Ny233.out] at ho28 | (simp only [Int.reduceToNat] at ho28; rw [← Ny233.out] at ho28)); have n0_ := Aside0.mk (Kd.R_elder' (oR HO_6) (Kd.R_base ho28) hb); have n1_ := Aside0.mk (Kd.R_lower (Kd.R_new' ho28 (Kd.R_lt (oR HO_6))) (below_size (oB HB))); have n2_ := Aside0.mk (below_step (oB HB) hb); clear HO_6; clear HB; have HO_6 := n0_; have HO235 := n1_; have HB := n2_; clear n0_ n1_ n2_; clear hb ho28))
                          go_ret2
                          exact ⟨_, by first | rfl | (simp [errW_none, errW_some] <;> rfl) | (simp [*, errW_none, errW_some] <;> rfl), by (with_reducible repeat (first | apply Kd.R_alloc | apply Kd.R_drewN | apply Kd.R_drew)); exact Kd.R_mono HO235.out (fun _ hk => trivial), oB HB⟩
                        · rw [if_neg c24] at H
                          have c24b0 : (t232 == 0) = false := beq_eq_false_iff_ne.mpr c24
                          have c24b1 : (t232 != 0) = true := bne_iff_ne.mpr c24
                          by_cases c29 : 0 ≤ ((rd_T67 l1 x7_2).f1)
                          · rw [if_pos c29] at H
                            have c29b0 : decide (0 ≤ ((rd_T67 l1 x7_2).f1)) = true := decide_eq_true c29
                            clear c29
                            by_cases c30 : ((rd_T67 l1 x7_2).f1) < (x6_2.length : Int)
                            · rw [if_pos c30] at H
                              have c30b0 : decide (((rd_T67 l1 x7_2).f1) < (x6_2.length : Int)) = true := decide_eq_true c30
                              clear c30
                              obtain ⟨y237, hy237⟩ : ∃ y_ : List Int, y_ = (x6_2.set (((rd_T67 l1 x7_2).f1) : Int).toNat t232) := ⟨_, rfl⟩
                              replace H : (spec_RunPlan.l0 k2 l1 y237 (wrap64 (x7_2 + 1))) = some (r1, r2) := by first | (rw [hy237]; with_reducible exact H) | (have H2_ := (Option.bind_some _ _).symm.trans H; rw [hy237]; with_reducible exact H2_) | (have H2_ := (Option.bind_some _ _).symm.trans H; with_reducible exact H2_) | with_reducible exact H | (rw [hy237]; exact H) | exact H
                              have Ny237 := Aside0.mk hy237
                              clear hy237
                              have H' := Aside0.mk H
                              clear H
                              try go_wp2
                              have n0_ := Aside0.mk (Kd.R_drew HO_6.out)
                              have n1_ := Aside0.mk (below_drew1 HB.out)
                              clear HO_6
                              clear HB
                              have HO_6 := n0_
                              have HB := n1_
                              clear n0_ n1_
                              have p228 : 0 ≤ (x7_2 : Int) := of_decide_eq_true (by first | (with_reducible assumption) | assumption)
                              have q228 : x7_2 < (l1.length : Int) := of_decide_eq_true (by first | (with_reducible assumption) | assumption)
                              obtain ⟨ad228, e228, hx228_0, hx228_1, hx228_2, hx228_3⟩ := at_T67 HR1.out x7_2 p228 q228
                              have hw228_3 := hx228_3
                              have hw228_2 := hx228_2
                              have hw228_1 := hx228_1
                              have hw228_0 := hx228_0
                              cases e228
                              replace hx228_0 := (HB.out.cell (World.block_lt_of_cell? w _ hx228_0)).trans hx228_0
                              replace hx228_1 := (HB.out.cell (World.block_lt_of_cell? w _ hx228_1)).trans hx228_1
                              replace hx228_2 := (HB.out.cell (World.block_lt_of_cell? w _ hx228_2)).trans hx228_2
                              replace hx228_3 := (HB.out.cell (World.block_lt_of_cell? w _ hx228_3)).trans hx228_3
                              replace p228 := eq_true p228
                              replace q228 := eq_true q228
                              have p229 : 0 ≤ (((rd_T67 l1 x7_2).f0) : Int) := of_decide_eq_true (by first | (with_reducible assumption) | assumption)
                              have q229 : ((rd_T67 l1 x7_2).f0) < (x6_2.length : Int) := of_decide_eq_true (by first | (with_reducible assumption) | assumption)
                              obtain ⟨ad229, e229, hx229_0⟩ := Kd.at_int (Kd.R_reads' HO_6.out).2.2 ((rd_T67 l1 x7_2).f0) p229 q229
                              obtain rfl : (⟨go14, 0, none⟩ : Addr) = ad229 := (by injection e229)
                              (first | simp only [add_plain] at hx229_0 | simp only [add_at] at hx229_0 | simp only [Addr.add, Nat.zero_add] at hx229_0 | skip)
                              replace p229 := eq_true p229
                              replace q229 := eq_true q229
                              have p230 : 0 ≤ (x7_2 : Int) := of_decide_eq_true (by first | (with_reducible assumption) | assumption)
                              have q230 : x7_2 < (l1.length : Int) := of_decide_eq_true (by first | (with_reducible assumption) | assumption)
                              obtain ⟨ad230, e230, hx230_0, hx230_1, hx230_2, hx230_3⟩ := at_T67 HR1.out x7_2 p230 q230
                              have hw230_3 := hx230_3
                              have hw230_2 := hx230_2
                              have hw230_1 := hx230_1
                              have hw230_0 := hx230_0
                              obtain rfl : ad228 = ad230 := (by injection e230)
                              replace hx230_0 := (HB.out.cell (World.block_lt_of_cell? w _ hx230_0)).trans hx230_0
                              replace hx230_1 := (HB.out.cell (World.block_lt_of_cell? w _ hx230_1)).trans hx230_1
                              replace hx230_2 := (HB.out.cell (World.block_lt_of_cell? w _ hx230_2)).trans hx230_2
                              replace hx230_3 := (HB.out.cell (World.block_lt_of_cell? w _ hx230_3)).trans hx230_3
                              replace p230 := eq_true p230
                              replace q230 := eq_true q230
                              have p231 : 0 ≤ (x7_2 : Int) := of_decide_eq_true (by first | (with_reducible assumption) | assumption)
                              have q231 : x7_2 < (l1.length : Int) := of_decide_eq_true (by first | (with_reducible assumption) | assumption)
                              obtain ⟨ad231, e231, hx231_0, hx231_1, hx231_2, hx231_3⟩ := at_T67 HR1.out x7_2 p231 q231
                              have hw231_3 := hx231_3
                              have hw231_2 := hx231_2
                              have hw231_1 := hx231_1
                              have hw231_0 := hx231_0
                              obtain rfl : ad228 = ad231 := (by injection e231)
                              replace hx231_0 := (HB.out.cell (World.block_lt_of_cell? w _ hx231_0)).trans hx231_0
                              replace hx231_1 := (HB.out.cell (World.block_lt_of_cell? w _ hx231_1)).trans hx231_1
                              replace hx231_2 := (HB.out.cell (World.block_lt_of_cell? w _ hx231_2)).trans hx231_2
                              replace hx231_3 := (HB.out.cell (World.block_lt_of_cell? w _ hx231_3)).trans hx231_3
                              replace p231 := eq_true p231
                              replace q231 := eq_true q231
                              refine start_ (n := 20) (S := fun w' => w'.cell? (ad228.add ((x7_2).toNat * 4)) = some (.int .i64 ((rd_T67 l1 x7_2).f0)) ∧ w'.cell? ⟨(ad228.add ((x7_2).toNat * 4)).block, (ad228.add ((x7_2).toNat * 4)).off + 1, none⟩ = some (.int .i64 ((rd_T67 l1 x7_2).f1)) ∧ w'.cell? ⟨(ad228.add ((x7_2).toNat * 4)).block, (ad228.add ((x7_2).toNat * 4)).off + 2, none⟩ = some (.int .i64 ((rd_T67 l1 x7_2).f2)) ∧ w'.cell? ⟨(ad228.add ((x7_2).toNat * 4)).block, (ad228.add ((x7_2).toNat * 4)).off + 3, none⟩ = some (.int .i64 ((rd_T67 l1 x7_2).f3)) ∧ w'.cell? ⟨go14, (((rd_T67 l1 x7_2).f0)).toNat, none⟩ = some (.int .i64 (rd x6_2 ((rd_T67 l1 x7_2).f0))) ∧ w'.cell? (ad228.add ((x7_2).toNat * 4)) = some (.int .i64 ((rd_T67 l1 x7_2).f0)) ∧ w'.cell? ⟨(ad228.add ((x7_2).toNat * 4)).block, (ad228.add ((x7_2).toNat * 4)).off + 1, none⟩ = some (.int .i64 ((rd_T67 l1 x7_2).f1)) ∧ w'.cell? ⟨(ad228.add ((x7_2).toNat * 4)).block, (ad228.add ((x7_2).toNat * 4)).off + 2, none⟩ = some (.int .i64 ((rd_T67 l1 x7_2).f2)) ∧ w'.cell? ⟨(ad228.add ((x7_2).toNat * 4)).block, (ad228.add ((x7_2).toNat * 4)).off + 3, none⟩ = some (.int .i64 ((rd_T67 l1 x7_2).f3)) ∧ w'.cell? (ad228.add ((x7_2).toNat * 4)) = some (.int .i64 ((rd_T67 l1 x7_2).f0)) ∧ w'.cell? ⟨(ad228.add ((x7_2).toNat * 4)).block, (ad228.add ((x7_2).toNat * 4)).off + 1, none⟩ = some (.int .i64 ((rd_T67 l1 x7_2).f1)) ∧ w'.cell? ⟨(ad228.add ((x7_2).toNat * 4)).block, (ad228.add ((x7_2).toNat * 4)).off + 2, none⟩ = some (.int .i64 ((rd_T67 l1 x7_2).f2)) ∧ w'.cell? ⟨(ad228.add ((x7_2).toNat * 4)).block, (ad228.add ((x7_2).toNat * 4)).off + 3, none⟩ = some (.int .i64 ((rd_T67 l1 x7_2).f3))) (ds := []) #[false, false, false, false, false, false, false, false, false, false, false, false, false, false, false, false, false, false, false, false] (by kernel_rfl) rfl rfl ⟨((HB.out.cell (World.block_lt_of_cell? w _ hw228_0)).trans hw228_0), ((HB.out.cell (World.block_lt_of_cell? w _ hw228_1)).trans hw228_1), ((HB.out.cell (World.block_lt_of_cell? w _ hw228_2)).trans hw228_2), ((HB.out.cell (World.block_lt_of_cell? w _ hw228_3)).trans hw228_3), hx229_0, ((HB.out.cell (World.block_lt_of_cell? w _ hw230_0)).trans hw230_0), ((HB.out.cell (World.block_lt_of_cell? w _ hw230_1)).trans hw230_1), ((HB.out.cell (World.block_lt_of_cell? w _ hw230_2)).trans hw230_2), ((HB.out.cell (World.block_lt_of_cell? w _ hw230_3)).trans hw230_3), ((HB.out.cell (World.block_lt_of_cell? w _ hw231_0)).trans hw231_0), ((HB.out.cell (World.block_lt_of_cell? w _ hw231_1)).trans hw231_1), ((HB.out.cell (World.block_lt_of_cell? w _ hw231_2)).trans hw231_2), ((HB.out.cell (World.block_lt_of_cell? w _ hw231_3)).trans hw231_3)⟩ (fun hHeld => ?_); refine with_tabW spec_RunPlan.tab8 spec_RunPlan.bits8 (fun HT_ HW_ => ?_)
                              generalize wr.drew = w32 at HO_6 HB hx228_0 hx228_1 hx228_2 hx228_3 hx229_0 hx230_0 hx230_1 hx230_2 hx230_3 hx231_0 hx231_1 hx231_2 hx231_3 hHeld ⊢
                              refine pure_ (i := 0) (N := some 28) (v := ?_) (a' := ?_) #[true, false, false, false, false, false, false, false, false, false, false, false, false, false, false, false, false, false, false, false] rfl rfl (any_of HT_.out (by kernel_rfl)) (fun _ _ _ h => h) (Or.inl ⟨by rfl, ?_⟩) ?_ ?_
                              rotate_left
                              · intro w'
                                go_simp
                                with_reducible rfl
                              rotate_left
                              · simp only [Act.put, List.setIfInBounds_toArray, List.set_cons_zero, List.set_cons_succ, i64_w, i32_w]
                                rfl
                              refine pure_ (i := 1) (N := some 29) (v := ?_) (a' := ?_) #[true, true, false, false, false, false, false, false, false, false, false, false, false, false, false, false, false, false, false, false] rfl rfl (any_of HT_.out (by kernel_rfl)) (fun _ _ _ h => h) (Or.inl ⟨by rfl, ?_⟩) ?_ ?_
                              rotate_left
                              · intro w'
                                go_simp
                                with_reducible rfl
                              rotate_left
                              · simp only [Act.put, List.setIfInBounds_toArray, List.set_cons_zero, List.set_cons_succ, i64_w, i32_w]
                                rfl
                              refine pure_ (i := 2) (N := some 30) (v := ?_) (a' := ?_) #[true, true, true, false, false, false, false, false, false, false, false, false, false, false, false, false, false, false, false, false] rfl rfl (any_of HT_.out (by kernel_rfl)) (fun _ _ _ h => h) (Or.inl ⟨by rfl, ?_⟩) ?_ ?_
                              rotate_left
                              · intro w'
                                go_simp
                                with_reducible rfl
                              rotate_left
                              · simp only [Act.put, List.setIfInBounds_toArray, List.set_cons_zero, List.set_cons_succ, i64_w, i32_w]
                                rfl
                              refine pure_ (i := 3) (N := some 31) (v := ?_) (a' := ?_) #[true, true, true, true, false, false, false, false, false, false, false, false, false, false, false, false, false, false, false, false] rfl rfl (any_of HT_.out (by kernel_rfl)) (fun _ _ _ h => h) (Or.inl ⟨by rfl, ?_⟩) ?_ ?_
                              rotate_left
                              · intro w'
                                go_simp
                                with_reducible rfl
                              rotate_left
                              · simp only [Act.put, List.setIfInBounds_toArray, List.set_cons_zero, List.set_cons_succ, i64_w, i32_w]
                                rfl
                              refine pure_ (i := 4) (N := some 32) (v := ?_) (a' := ?_) #[true, true, true, true, true, false, false, false, false, false, false, false, false, false, false, false, false, false, false, false] rfl rfl (any_of HT_.out (by kernel_rfl)) (fun _ _ _ h => h) (Or.inl ⟨by rfl, ?_⟩) ?_ ?_
                              rotate_left
                              · intro w'
                                go_simp
                                with_reducible rfl
                              rotate_left
                              · simp only [Act.put, List.setIfInBounds_toArray, List.set_cons_zero, List.set_cons_succ, i64_w, i32_w]
                                rfl
                              refine pure_ (i := 8) (N := some 36) (v := ?_) (a' := ?_) #[true, true, true, true, true, false, false, false, true, false, false, false, false, false, false, false, false, false, false, false] rfl rfl (any_of HT_.out (by kernel_rfl)) (fun _ _ _ h => h) (Or.inl ⟨by rfl, ?_⟩) ?_ ?_
                              rotate_left
                              · intro w'
                                go_simp
                                with_reducible rfl
                              rotate_left
                              · simp only [Act.put, List.setIfInBounds_toArray, List.set_cons_zero, List.set_cons_succ, i64_w, i32_w]
                                rfl
                              refine pure_ (i := 9) (N := some 37) (v := ?_) (a' := ?_) #[true, true, true, true, true, false, false, false, true, true, false, false, false, false, false, false, false, false, false, false] rfl rfl (any_of HT_.out (by kernel_rfl)) (fun _ _ _ h => h) (Or.inl ⟨by rfl, ?_⟩) ?_ ?_
                              rotate_left
                              · intro w'
                                go_simp
                                with_reducible rfl
                              rotate_left
                              · simp only [Act.put, List.setIfInBounds_toArray, List.set_cons_zero, List.set_cons_succ, i64_w, i32_w]
                                rfl
                              refine pure_ (i := 10) (N := some 38) (v := ?_) (a' := ?_) #[true, true, true, true, true, false, false, false, true, true, true, false, false, false, false, false, false, false, false, false] rfl rfl (any_of HT_.out (by kernel_rfl)) (fun _ _ _ h => h) (Or.inl ⟨by rfl, ?_⟩) ?_ ?_
                              rotate_left
                              · intro w'
                                go_simp
                                with_reducible rfl
                              rotate_left
                              · simp only [Act.put, List.setIfInBounds_toArray, List.set_cons_zero, List.set_cons_succ, i64_w, i32_w]
                                rfl
                              refine pure_ (i := 11) (N := some 39) (v := ?_) (a' := ?_) #[true, true, true, true, true, false, false, false, true, true, true, true, false, false, false, false, false, false, false, false] rfl rfl (any_of HT_.out (by kernel_rfl)) (fun _ _ _ h => h) (Or.inl ⟨by rfl, ?_⟩) ?_ ?_
                              rotate_left
                              · intro w'
                                go_simp
                                with_reducible rfl
                              rotate_left
                              · simp only [Act.put, List.setIfInBounds_toArray, List.set_cons_zero, List.set_cons_succ, i64_w, i32_w]
                                rfl
                              refine pure_ (i := 13) (N := some 41) (v := ?_) (a' := ?_) #[true, true, true, true, true, false, false, false, true, true, true, true, false, true, false, false, false, false, false, false] rfl rfl (any_of HT_.out (by kernel_rfl)) (fun _ _ _ h => h) (Or.inl ⟨by rfl, ?_⟩) ?_ ?_
                              rotate_left
                              · intro w'
                                go_simp
                                with_reducible rfl
                              rotate_left
                              · simp only [Act.put, List.setIfInBounds_toArray, List.set_cons_zero, List.set_cons_succ, i64_w, i32_w]
                                rfl
                              refine pure_ (i := 14) (N := some 42) (v := ?_) (a' := ?_) #[true, true, true, true, true, false, false, false, true, true, true, true, false, true, true, false, false, false, false, false] rfl rfl (any_of HT_.out (by kernel_rfl)) (fun _ _ _ h => h) (Or.inl ⟨by rfl, ?_⟩) ?_ ?_
                              rotate_left
                              · intro w'
                                go_simp
                                with_reducible rfl
                              rotate_left
                              · simp only [Act.put, List.setIfInBounds_toArray, List.set_cons_zero, List.set_cons_succ, i64_w, i32_w]
                                rfl
                              refine pure_ (i := 15) (N := some 43) (v := ?_) (a' := ?_) #[true, true, true, true, true, false, false, false, true, true, true, true, false, true, true, true, false, false, false, false] rfl rfl (any_of HT_.out (by kernel_rfl)) (fun _ _ _ h => h) (Or.inl ⟨by rfl, ?_⟩) ?_ ?_
                              rotate_left
                              · intro w'
                                go_simp
                                with_reducible rfl
                              rotate_left
                              · simp only [Act.put, List.setIfInBounds_toArray, List.set_cons_zero, List.set_cons_succ, i64_w, i32_w]
                                rfl
                              refine pure_ (i := 16) (N := some 44) (v := ?_) (a' := ?_) #[true, true, true, true, true, false, false, false, true, true, true, true, false, true, true, true, true, false, false, false] rfl rfl (any_of HT_.out (by kernel_rfl)) (fun _ _ _ h => h) (Or.inl ⟨by rfl, ?_⟩) ?_ ?_
                              rotate_left
                              · intro w'
                                go_simp
                                with_reducible rfl
                              rotate_left
                              · simp only [Act.put, List.setIfInBounds_toArray, List.set_cons_zero, List.set_cons_succ, i64_w, i32_w]
                                rfl
                              refine take_ (i := 5) (N := some 33) (v := ?_) (a' := ?_) #[true, true, true, true, true, true, false, false, true, true, true, true, false, true, true, true, true, false, false, false] rfl rfl (take_ofW HT_.out HW_.out (by kernel_rfl)) (fun _ _ _ h => h) (Or.inl ⟨by rfl, ?_⟩) hHeld ?_ ?_
                              rotate_left
                              · rintro w' ⟨s0, s1, s2, s3, s4, s5, s6, s7, s8, s9, s10, s11, s12⟩
                                go_simp
                                with_reducible rfl
                              rotate_left
                              · simp only [Act.put, List.setIfInBounds_toArray, List.set_cons_zero, List.set_cons_succ, i64_w, i32_w]
                                rfl
                              refine pure_ (i := 6) (N := some 34) (v := ?_) (a' := ?_) #[true, true, true, true, true, true, true, false, true, true, true, true, false, true, true, true, true, false, false, false] rfl rfl (any_of HT_.out (by kernel_rfl)) (fun _ _ _ h => h) (Or.inl ⟨by rfl, ?_⟩) ?_ ?_
                              rotate_left
                              · intro w'
                                go_simp
                                with_reducible rfl
                              rotate_left
                              · simp only [Act.put, List.setIfInBounds_toArray, List.set_cons_zero, List.set_cons_succ, i64_w, i32_w]
                                rfl
                              refine take_ (i := 7) (N := some 35) (v := ?_) (a' := ?_) #[true, true, true, true, true, true, true, true, true, true, true, true, false, true, true, true, true, false, false, false] rfl rfl (take_ofW HT_.out HW_.out (by kernel_rfl)) (fun _ _ _ h => h) (Or.inl ⟨by rfl, ?_⟩) hHeld ?_ ?_
                              rotate_left
                              · rintro w' ⟨s0, s1, s2, s3, s4, s5, s6, s7, s8, s9, s10, s11, s12⟩
                                go_simp
                                with_reducible rfl
                              rotate_left
                              · simp only [Act.put, List.setIfInBounds_toArray, List.set_cons_zero, List.set_cons_succ, i64_w, i32_w]
                                rfl
                              refine take_ (i := 12) (N := some 40) (v := ?_) (a' := ?_) #[true, true, true, true, true, true, true, true, true, true, true, true, true, true, true, true, true, false, false, false] rfl rfl (take_ofW HT_.out HW_.out (by kernel_rfl)) (fun _ _ _ h => h) (Or.inl ⟨by rfl, ?_⟩) hHeld ?_ ?_
                              rotate_left
                              · rintro w' ⟨s0, s1, s2, s3, s4, s5, s6, s7, s8, s9, s10, s11, s12⟩
                                go_simp
                                with_reducible rfl
                              rotate_left
                              · simp only [Act.put, List.setIfInBounds_toArray, List.set_cons_zero, List.set_cons_succ, i64_w, i32_w]
                                rfl
                              refine take_ (i := 17) (N := some 45) (v := ?_) (a' := ?_) #[true, true, true, true, true, true, true, true, true, true, true, true, true, true, true, true, true, true, false, false] rfl rfl (take_ofW HT_.out HW_.out (by kernel_rfl)) (fun _ _ _ h => h) (Or.inl ⟨by rfl, ?_⟩) hHeld ?_ ?_
                              rotate_left
                              · rintro w' ⟨s0, s1, s2, s3, s4, s5, s6, s7, s8, s9, s10, s11, s12⟩
                                go_simp
                                with_reducible rfl
                              rotate_left
                              · simp only [Act.put, List.setIfInBounds_toArray, List.set_cons_zero, List.set_cons_succ, i64_w, i32_w]
                                rfl
                              refine one_ (i := 18) (N := some 46) #[true, true, true, true, true, true, true, true, true, true, true, true, true, true, true, true, true, true, true, false] rfl rfl (one_of HT_.out (by kernel_rfl)) (by decide) (fun K hK => ?_)
                              refine goes_ Try.func72 (by kernel_rfl) rfl #[.int .i64 (rd x6_2 ((rd_T67 l1 x7_2).f0)), .int .i64 ((rd_T67 l1 x7_2).f2), .int .i64 ((rd_T67 l1 x7_2).f3)] (by rfl) rfl rfl (by (try simp only [List.map_toArray, List.map_cons, List.map_nil]); first | done | rfl | (simp only [List.length_drop, List.length_take]; rfl)) ?_
                              with_reducible refine (spec_TunedPitch.calls k2 (rd x6_2 ((rd_T67 l1 x7_2).f0)) ((rd_T67 l1 x7_2).f2) ((rd_T67 l1 x7_2).f3) t232 _ A23.out).mono ?_
                              rintro e w33 ⟨rfl, hb⟩
                              have HS4_ := (hb.cell (World.block_lt_of_cell? _ _ (hHeld.2.2.2.2.1))).trans (hHeld.2.2.2.2.1)
                              refine ⟨_, rfl, ?_⟩
                              have n0_ := Aside0.mk (Kd.R_below (oR HO_6) hb)
                              have n1_ := Aside0.mk (below_step (oB HB) hb)
                              clear HO_6
                              clear HB
                              have HO_6 := n0_
                              have HB := n1_
                              clear n0_ n1_
                              (try clear hb)
                              (try clear hb2)
                              (try clear hk)
                              (try clear hi)
                              refine hK.out _ _ ⟨((HB.out.cell (World.block_lt_of_cell? w _ hw228_0)).trans hw228_0), ((HB.out.cell (World.block_lt_of_cell? w _ hw228_1)).trans hw228_1), ((HB.out.cell (World.block_lt_of_cell? w _ hw228_2)).trans hw228_2), ((HB.out.cell (World.block_lt_of_cell? w _ hw228_3)).trans hw228_3), HS4_, ((HB.out.cell (World.block_lt_of_cell? w _ hw230_0)).trans hw230_0), ((HB.out.cell (World.block_lt_of_cell? w _ hw230_1)).trans hw230_1), ((HB.out.cell (World.block_lt_of_cell? w _ hw230_2)).trans hw230_2), ((HB.out.cell (World.block_lt_of_cell? w _ hw230_3)).trans hw230_3), ((HB.out.cell (World.block_lt_of_cell? w _ hw231_0)).trans hw231_0), ((HB.out.cell (World.block_lt_of_cell? w _ hw231_1)).trans hw231_1), ((HB.out.cell (World.block_lt_of_cell? w _ hw231_2)).trans hw231_2), ((HB.out.cell (World.block_lt_of_cell? w _ hw231_3)).trans hw231_3)⟩ (fun hHeld => ?_)
                              clear hK K
                              refine norm_ (a' := ?_) ?_ ?_
                              rotate_left
                              · show Act.put _ (some 46) _ = _
                                simp only [Act.put, List.setIfInBounds_toArray, List.set_cons_zero, List.set_cons_succ, i64_w, i32_w]
                                rfl
                              refine pure_ (i := 19) (N := some 8) (v := ?_) (a' := ?_) #[true, true, true, true, true, true, true, true, true, true, true, true, true, true, true, true, true, true, true, true] rfl rfl (any_of HT_.out (by kernel_rfl)) (fun _ _ _ h => h) (Or.inl ⟨by rfl, ?_⟩) ?_ ?_
                              rotate_left
                              · intro w'
                                go_simp
                                with_reducible rfl
                              rotate_left
                              · simp only [Act.put, List.setIfInBounds_toArray, List.set_cons_zero, List.set_cons_succ, i64_w, i32_w]
                                rfl
                              refine done_ (done_of HT_.out (by kernel_rfl)) ?_
                              have p236 : 0 ≤ (x7_2 : Int) := of_decide_eq_true (by first | (with_reducible assumption) | assumption)
                              have q236 : x7_2 < (l1.length : Int) := of_decide_eq_true (by first | (with_reducible assumption) | assumption)
                              obtain ⟨ad236, e236, hx236_0, hx236_1, hx236_2, hx236_3⟩ := at_T67 HR1.out x7_2 p236 q236
                              obtain rfl : ad228 = ad236 := (by injection e236)
                              replace hx236_0 := (HB.out.cell (World.block_lt_of_cell? w _ hx236_0)).trans hx236_0
                              replace hx236_1 := (HB.out.cell (World.block_lt_of_cell? w _ hx236_1)).trans hx236_1
                              replace hx236_2 := (HB.out.cell (World.block_lt_of_cell? w _ hx236_2)).trans hx236_2
                              replace hx236_3 := (HB.out.cell (World.block_lt_of_cell? w _ hx236_3)).trans hx236_3
                              replace p236 := eq_true p236
                              replace q236 := eq_true q236
                              have p31 : 0 ≤ (((rd_T67 l1 x7_2).f1) : Int) := of_decide_eq_true (by first | (with_reducible assumption) | assumption)
                              have q31 : (((rd_T67 l1 x7_2).f1) : Int) < ((x6_2.length : Int) : Int) := of_decide_eq_true (by first | (with_reducible assumption) | assumption)
                              obtain ⟨hx31_0, hf31_0⟩ := Kd.R_celln 0 HO_6.out (((rd_T67 l1 x7_2).f1) : Int) p31 q31
                              replace p31 := eq_true p31
                              replace q31 := eq_true q31
                              obtain ⟨hy34_, hz34_⟩ := Kd.R_celln 0 HO_6.out (((rd_T67 l1 x7_2).f1) : Int) (of_decide_eq_true (by first | (with_reducible assumption) | assumption)) (of_decide_eq_true (by first | (with_reducible assumption) | assumption))
                              have HP34 := Kd.R_putg HO_6.out (((rd_T67 l1 x7_2).f1) : Int) t232
                              try go_wp2_with (first | ((with_reducible refine gate_store (t := 3) (p := 57) rfl ?_); refine store_event (t := 3) (p := 57) (v := ?vo_w35) (w1 := (w33.setCell ⟨go14, (((rd_T67 l1 x7_2).f1) : Int).toNat, none⟩ (.int .i64 t232))) ?hg ?ho ?hn ?hr ?_; (case ho => rfl); (case hg => rfl); (case hn => rfl); (case hr => first | (go_simp; done) | (go_simp; rfl)); intro w35 hw; have hg : w33.grownBy w35 (some go14) := (by rw [hw]; exact HP34.2); have hp_ : Kd.R (Kd.int .i64) 3 w35 w.heap.size (fun _ => True) (.slice (some ⟨go14, 0, none⟩) x6_2.length co14) y237 := (by rw [hw, Ny237.out]; exact HP34.1); clear HP34; have n0_ := Aside0.mk (hp_); have n1_ := Aside0.mk ((by rw [hw]; exact below_set (HB.out) GB14.out : Below w.heap.size w w35)); clear HO_6; clear HB; have HO_6 := n0_; have HB := n1_; clear n0_ n1_; clear hg hw hp_))
                              (try simp only [← hl6_2])
                              go_roundg k2
                              case measure => have := HJ2.out; have := HK2.out; omega
                              case rel => exact ⟨(y237), (wrap64 (x7_2 + 1)), (by first | rfl | (simp; done) | (simp [*]; done)), H', ⟨by have := HJ2.out; have := HK2.out; omega⟩, ⟨by (try simp only [hl6_2]); (with_reducible repeat (first | apply Kd.R_alloc | apply Kd.R_drewN | apply Kd.R_drew)); exact HO_6.out⟩, ⟨oB HB⟩⟩
                            · rw [if_neg c30] at H
                              exact absurd H (by simp)
                          · rw [if_neg c29] at H
                            exact absurd H (by simp)
                      · rw [if_neg c22] at H
                        exact absurd H (by simp)
                    · rw [if_neg c21] at H
                      exact absurd H (by simp)
                  · rw [if_neg c20] at H
                    exact absurd H (by simp)
                · rw [if_neg c19] at H
                  have c19b0 : decide (x7_2 < (l1.length : Int)) = false := decide_eq_false c19
                  clear c19
                  simp only [Option.some.injEq, Prod.mk.injEq] at H
                  obtain ⟨rfl, rfl⟩ := H
                  go_wp2
                  go_ret2
                  exact ⟨_, by first | rfl | (simp [errW_none, errW_some] <;> rfl) | (simp [*, errW_none, errW_some] <;> rfl), oR HO_6, oB HB⟩
          · rw [if_neg c13] at H
            exact absurd H (by simp)
        · rw [if_neg c12] at H
          exact absurd H (by simp)
end Go.Proofs.Ytlhlmjklajdejaa.P

namespace Go.Proofs.Ytlhlmjklajdejaa.P
open Go.RowKit Go.Proofs.YtlhlmjklajdejaaW.PrintWords Go.Proofs.YtlhlmjklajdejaaW.PrintLast Go.Proofs.YtlhlmjklajdejaaW.PrintMore
attribute [local go_sem] max2_int min2_int max_two min_two max_three min_three max_four min_four
set_option linter.unusedVariables false
set_option linter.unusedSimpArgs false
mutual
def impl_RunPlan.j0 : Nat → Int → List (S67) → Bool → Option (List Int × Bool)
  | 0, _, _, _ => none
  | k + 1, x0, x1, x16 => if x16 = true then (some (([] : List Int), false)) else (if 12 ≤ 35184372088832 then ((some (List.replicate 12 0 : List Int)).bind fun y266 => (if 0 < (y266.length : Int) then (impl_RunPlan.l0 k (y266.set (0 : Int).toNat x0) x1 (x1.length : Int) 0) else (none))) else (none))
def impl_RunPlan.l0 : Nat → List Int → List (S67) → Int → Int → Option (List Int × Bool)
  | 0, _, _, _, _ => none
  | k + 1, x6, x21, x22, x23 => if x23 < x22 then (if 0 ≤ x23 then (if x23 < (x21.length : Int) then (if 0 ≤ ((rd_T67 x21 x23).f0) then (if ((rd_T67 x21 x23).f0) < (x6.length : Int) then ((impl_TunedPitch.f k (rd x6 ((rd_T67 x21 x23).f0)) ((rd_T67 x21 x23).f2) ((rd_T67 x21 x23).f3)).bind fun t273 => (if 0 ≤ ((rd_T67 x21 x23).f1) then (if ((rd_T67 x21 x23).f1) < (x6.length : Int) then (if t273 = 0 then (some (([] : List Int), false)) else (impl_RunPlan.l0 k (x6.set (((rd_T67 x21 x23).f1) : Int).toNat t273) x21 x22 (wrap64 (x23 + 1)))) else (none)) else (none))) else (none)) else (none)) else (none)) else (none)) else (some (x6, true))
end
def impl_RunPlan.f (k : Nat) (a0 : Int) (l1 : List (S67)) : Option (List Int × Bool) := (impl_PlanOk.f l1).bind fun t264 => (if t264 = true then ((impl_isFine.f a0).bind fun t265 => (impl_RunPlan.j0 k a0 l1 (!t265))) else (impl_RunPlan.j0 k a0 l1 true))
theorem impl_RunPlan.mono_l : ∀ k, (∀ y0 y1 y2, LeO (impl_RunPlan.j0 k y0 y1 y2) (impl_RunPlan.j0 (k + 1) y0 y1 y2)) ∧ (∀ y0 y1 y2 y3, LeO (impl_RunPlan.l0 k y0 y1 y2 y3) (impl_RunPlan.l0 (k + 1) y0 y1 y2 y3))
  | 0 => ⟨fun _ _ _ r h => by simp [impl_RunPlan.j0] at h, fun _ _ _ _ r h => by simp [impl_RunPlan.l0] at h⟩
  | k + 1 => by
    obtain ⟨ih0, ih1⟩ := impl_RunPlan.mono_l k
    refine ⟨?_, ?_⟩
    · intro y0 y1 y2
      unfold impl_RunPlan.j0
      repeat' first
      | (with_reducible exact ih0 _ _ _)
      | (with_reducible exact ih1 _ _ _ _)
      | (with_reducible exact impl_TunedPitch.mono _ _ _ _)
      | (with_reducible exact LeO.refl _)
      | (with_reducible exact LeO.none _)
      | (with_reducible refine LeO.ite ?_ ?_)
      | (with_reducible refine LeO.bind ?_ (fun _ => ?_))
      | exact ih0 _ _ _
      | exact ih1 _ _ _ _
      | exact impl_TunedPitch.mono _ _ _ _
      | exact LeO.none _
      | refine LeO.ite ?_ ?_
      | refine LeO.bind ?_ (fun _ => ?_)
    · intro y0 y1 y2 y3
      unfold impl_RunPlan.l0
      repeat' first
      | (with_reducible exact ih0 _ _ _)
      | (with_reducible exact ih1 _ _ _ _)
      | (with_reducible exact impl_TunedPitch.mono _ _ _ _)
      | (with_reducible exact LeO.refl _)
      | (with_reducible exact LeO.none _)
      | (with_reducible refine LeO.ite ?_ ?_)
      | (with_reducible refine LeO.bind ?_ (fun _ => ?_))
      | exact ih0 _ _ _
      | exact ih1 _ _ _ _
      | exact impl_TunedPitch.mono _ _ _ _
      | exact LeO.none _
      | refine LeO.ite ?_ ?_
      | refine LeO.bind ?_ (fun _ => ?_)
theorem impl_RunPlan.mono : ∀ a0 a1 k, LeO (impl_RunPlan.f k a0 a1) (impl_RunPlan.f (k + 1) a0 a1) := by
  intro a0 a1 k
  obtain ⟨ih0, ih1⟩ := impl_RunPlan.mono_l k
  unfold impl_RunPlan.f
  repeat' first
      | (with_reducible exact ih0 _ _ _)
      | (with_reducible exact ih1 _ _ _ _)
      | (with_reducible exact impl_TunedPitch.mono _ _ _ _)
      | (with_reducible exact LeO.refl _)
      | (with_reducible exact LeO.none _)
      | (with_reducible refine LeO.ite ?_ ?_)
      | (with_reducible refine LeO.bind ?_ (fun _ => ?_))
      | exact ih0 _ _ _
      | exact ih1 _ _ _ _
      | exact impl_TunedPitch.mono _ _ _ _
      | exact LeO.none _
      | refine LeO.ite ?_ ?_
      | refine LeO.bind ?_ (fun _ => ?_)
def impl_RunPlan.T8 : Bool × List (List Nat × List Nat) := (true, [([], []), ([], []), ([1], [1]), ([], []), ([], []), ([4], [4]), ([3, 5], [3, 5]), ([6], [6]), ([], []), ([8], [8]), ([], []), ([10], [10]), ([7, 9, 11], [7, 9, 11]), ([0, 2, 0, 1, 2, 3, 4, 5, 6, 7, 8, 9, 10, 11, 12], [0, 2]), ([13, 12, 12, 0, 1, 2, 3, 4, 5, 6, 7, 8, 9, 10, 11, 12], [12, 13])])
def impl_RunPlan.B8 : List Nat := [0, 0, 2, 0, 0, 16, 56, 120, 0, 256, 0, 1024, 4088, 8191, 16383]
theorem impl_RunPlan.tab8 : rtab .any (opsOf Try.f49 8) = impl_RunPlan.T8 := by kernel_rfl
theorem impl_RunPlan.bits8 : waitsOk impl_RunPlan.T8.2 impl_RunPlan.B8 = true := by kernel_rfl
set_option maxHeartbeats 8000000 in
set_option maxRecDepth 100000 in
theorem impl_RunPlan.calls (k : Nat) (a0 : Int) (A1 : Option Addr) (c1 : Nat) (l1 : List (S67)) (r1 : List Int) (r2 : Bool) (w : World) (hr1 : Kd.C k67 w A1 l1.length l1) (hc1 : l1.length ≤ c1) (h : impl_RunPlan.f k a0 l1 = some (r1, r2)) :
    Calls Try.prog 49 #[.int .i64 a0, .slice A1 l1.length c1] w fun e w' => ∃ v0_ : Value, e = .returned (.tuple #[v0_, .bool r2]) ∧ Kd.R (Kd.int .i64) 3 w' w.heap.size (fun _ => True) v0_ r1 ∧ Below w.heap.size w w' := by
  have hu67 := Try.underlying67
  have HR1 := Aside0.mk hr1
  have HC1 := Aside0.mk hc1
  clear hr1 hc1
  have HB := Aside0.mk (Below.refl w.heap.size w)
  have H : ((impl_PlanOk.f l1).bind fun t264 => (if t264 = true then ((impl_isFine.f a0).bind fun t265 => (impl_RunPlan.j0 k a0 l1 (!t265))) else (impl_RunPlan.j0 k a0 l1 true))) = some (r1, r2) := h
  clear h
  have HC3 := Aside0.mk H
  clear H
  go_enter Try.func49, Try.ntmps49
  go_upto_region 1 with (fail)
  go_cut [16] (fun v16 wc => ∃ (kq : Nat) (x16_2 : Bool), v16 = .bool x16_2 ∧ Aside0 (impl_RunPlan.j0 kq a0 l1 x16_2 = some (r1, r2)) ∧ Aside0 (kq ≤ k) ∧ Aside0 (Below w.heap.size w wc))
  case first =>
    have H := HC3.out
    clear HC3
    replace H := Option.bind_eq_some_iff.mp H
    obtain ⟨t264, A40, H⟩ := H
    (try dsimp only at H)
    have A4 := Aside0.mk A40
    clear A40
    by_cases c5 : t264 = true
    · subst c5
      rw [if_pos rfl] at H
      replace H := Option.bind_eq_some_iff.mp H
      obtain ⟨t265, A60, H⟩ := H
      (try dsimp only at H)
      have A6 := Aside0.mk A60
      clear A60
      have H' := Aside0.mk H
      clear H
      go_wp2_with (first | ((with_reducible refine gate_callee (f := 59) rfl ?_); refine goesL_ (some 10) rfl rfl Try.func59 (by kernel_rfl) rfl #[.slice A1 l1.length c1] rfl (by (try simp only [List.map_toArray, List.map_cons, List.map_nil]); first | done | rfl | (simp only [List.length_drop, List.length_take]; rfl)) ?_; (with_reducible refine (impl_PlanOk.calls _ _ l1 true _ ?side1 ?side2 A4.out).mono ?_); (case side1 => exact oc_ HR1.out); (case side2 => exact HC1.out); rintro e w7 ⟨rfl, hb⟩; refine ⟨_, rfl, ?_⟩; have n0_ := Aside0.mk (below_step (oB HB) hb); clear HB; have HB := n0_; clear n0_; (try clear hb); (try clear hb2); (try clear hk); (try clear hi)) | (go_at_call 61; (with_reducible refine (impl_isFine.calls a0 t265 _ A6.out).mono ?_); rintro e w' ⟨rfl, ⟨nd, rfl⟩⟩))
      go_meet
      case rel => exact ⟨_, (!t265), (by first | rfl | (simp; done) | (simp [*]; done)), H', ⟨by first | omega | exact Nat.le_refl _⟩, ⟨oB HB⟩⟩
    · replace c5 := Bool.eq_false_iff.mpr c5
      subst c5
      rw [if_neg (show ¬ (false = true) by decide)] at H
      have H' := Aside0.mk H
      clear H
      go_wp2_with (first | ((with_reducible refine gate_callee (f := 59) rfl ?_); refine goesL_ (some 10) rfl rfl Try.func59 (by kernel_rfl) rfl #[.slice A1 l1.length c1] rfl (by (try simp only [List.map_toArray, List.map_cons, List.map_nil]); first | done | rfl | (simp only [List.length_drop, List.length_take]; rfl)) ?_; (with_reducible refine (impl_PlanOk.calls _ _ l1 false _ ?side1 ?side2 A4.out).mono ?_); (case side1 => exact oc_ HR1.out); (case side2 => exact HC1.out); rintro e w8 ⟨rfl, hb⟩; refine ⟨_, rfl, ?_⟩; have n0_ := Aside0.mk (below_step (oB HB) hb); clear HB; have HB := n0_; clear n0_; (try clear hb); (try clear hb2); (try clear hk); (try clear hi)))
      go_meet
      case rel => exact ⟨_, (true), (by first | rfl | (simp; done) | (simp [*]; done)), H', ⟨by first | omega | exact Nat.le_refl _⟩, ⟨oB HB⟩⟩
  case rest =>
    clear HC3
    try clear c1
    try clear p2
    try clear c4
    try clear c5
    obtain ⟨kq, x16_2, rfl, HA, HJ2, HB⟩ := hcut
    cases kq with
    | zero => exact absurd HA.out (by simp [impl_RunPlan.j0])
    | succ kj2 =>
      have H := HA.out
      clear HA
      simp only [impl_RunPlan.j0] at H
      by_cases c9 : x16_2 = true
      · subst c9
        rw [if_pos rfl] at H
        simp only [Option.some.injEq, Prod.mk.injEq] at H
        obtain ⟨rfl, rfl⟩ := H
        go_wp2
        go_ret2
        exact ⟨_, by first | rfl | (simp [errW_none, errW_some] <;> rfl) | (simp [*, errW_none, errW_some] <;> rfl), by first | exact Kd.R_nil _ _ _ _ _ | exact Kd.N_nil _ _ _ _ _ | exact Kd.V_nil _ _ _ _ _ | exact Kd.Q_nil _ _ _ _ _ | exact Kd.S_nil _ _ _ _ _, oB HB⟩
      · replace c9 := Bool.eq_false_iff.mpr c9
        subst c9
        rw [if_neg (show ¬ (false = true) by decide)] at H
        by_cases c10 : 12 ≤ 35184372088832
        · rw [if_pos c10] at H
          have c10b0 := eq_true c10
          have c10b1 : decide (12 ≤ 35184372088832) = true := decide_eq_true c10
          clear c10
          obtain ⟨y266, hy266⟩ : ∃ y_ : List Int, y_ = (List.replicate 12 0) := ⟨_, rfl⟩
          replace H : (if 0 < (y266.length : Int) then (impl_RunPlan.l0 kj2 (y266.set (0 : Int).toNat a0) l1 (l1.length : Int) 0) else (none)) = some (r1, r2) := by first | (rw [hy266]; with_reducible exact H) | (have H2_ := (Option.bind_some _ _).symm.trans H; rw [hy266]; with_reducible exact H2_) | (have H2_ := (Option.bind_some _ _).symm.trans H; with_reducible exact H2_) | with_reducible exact H | (rw [hy266]; exact H) | exact H
          have Ny266 := Aside0.mk hy266
          clear hy266
          by_cases c11 : 0 < (y266.length : Int)
          · rw [if_pos c11] at H
            have c11b0 : decide (0 < (y266.length : Int)) = true := decide_eq_true c11
            have c11b1 : decide (0 < y266.length) = true := decide_eq_true (by omega)
            clear c11
            obtain ⟨y269, hy269⟩ : ∃ y_ : List Int, y_ = (y266.set (0 : Int).toNat a0) := ⟨_, rfl⟩
            replace H : (impl_RunPlan.l0 kj2 y269 l1 (l1.length : Int) 0) = some (r1, r2) := by first | (rw [hy269]; with_reducible exact H) | (have H2_ := (Option.bind_some _ _).symm.trans H; rw [hy269]; with_reducible exact H2_) | (have H2_ := (Option.bind_some _ _).symm.trans H; with_reducible exact H2_) | with_reducible exact H | (rw [hy269]; exact H) | exact H
            have Ny269 := Aside0.mk hy269
            clear hy269
            have H' := Aside0.mk H
            clear H
            go_wp2_with (first | ((with_reducible refine gate_dst (N := 17) rfl ?_); refine Kd.R_make (Kd.int .i64) _ 3 rfl (N := 17) rfl 23 _ _ rfl 12 rfl rfl Try.underlying23 (.int .i64 0) 8 info3 rfl (by decide) (by omega) 0 (ok := fun _ => True) (okp := fun _ => True) rfl (fun _ hk => hk) trivial (by omega) (by omega) (Below.refl _ _) (Nat.le_refl _) ?_; intro v267 w13 ho14 hb hg_ hnew_; clear hg_ hnew_; (first | rw [← Ny266.out] at ho14 | (simp only [Int.reduceToNat] at ho14; rw [← Ny266.out] at ho14)); have n0_ := Aside0.mk (Kd.R_lower ho14 (below_size (oB HB))); have n1_ := Aside0.mk (below_step (oB HB) hb); clear HB; have HO268 := n0_; have HB := n1_; clear n0_ n1_; clear hb ho14; have p12 : 0 ≤ (0 : Int) := (by omega); have q12 : (0 : Int) < ((y266.length : Int) : Int) := of_decide_eq_true (by first | (with_reducible assumption) | assumption); have qi12 : (0 < y266.length) = True := eq_true (by omega); obtain ⟨go12, co12, eo12, gb12, gl12, cl12, HG12⟩ := Kd.R_form HO268.out (by omega); (first | cases eo12 | (injection eo12 with ea_ en_ ec_; (first | subst ea_ | (injection ea_ with ea_; subst ea_)); subst ec_; clear en_)); have GB12 := Aside0.mk gb12; have GG12 := Aside0.mk HG12; clear gb12 gl12 HG12; obtain ⟨hx12_0, hf12_0⟩ := Kd.R_celln 0 HO268.out (0 : Int) p12 q12; (try rw [show ((0 : Int)).toNat = 0 from rfl] at hx12_0); (try simp only [Nat.reduceMul, Nat.zero_mul, Nat.zero_add, Nat.reduceAdd] at hx12_0); (try rw [show ((0 : Int)).toNat = 0 from rfl] at hf12_0); (try simp only [Nat.reduceMul, Nat.zero_mul, Nat.zero_add, Nat.reduceAdd] at hf12_0); replace p12 := eq_true p12; replace q12 := eq_true q12; obtain ⟨hy15_, hz15_⟩ := Kd.R_celln 0 HO268.out (0 : Int) (by omega) (of_decide_eq_true (by first | (with_reducible assumption) | assumption)); (try simp only [Int.reduceToNat, Int.toNat_zero, Int.toNat_ofNat, Nat.reduceMul, Nat.zero_mul, Nat.zero_add] at hy15_ hz15_); (try rw [show ((0 : Int)).toNat = 0 from rfl] at hy15_); (try rw [show ((0 : Int)).toNat = 0 from rfl] at hz15_); have HP15 := Kd.R_putg HO268.out (0 : Int) a0) | ((with_reducible refine gate_store (t := 3) (p := 20) rfl ?_); refine store_event (t := 3) (p := 20) (v := ?vo_w16) (w1 := (w13.setCell ⟨go12, (0 : Int).toNat, none⟩ (.int .i64 a0))) ?hg ?ho ?hn ?hr ?_; (case ho => rfl); (case hg => rfl); (case hn => rfl); (case hr => first | (go_simp; done) | (go_simp; rfl)); intro w16 hw; have hg : w13.grownBy w16 (some go12) := (by rw [hw]; exact HP15.2); have hp_ : Kd.R (Kd.int .i64) 3 w16 w.heap.size (fun _ => True) (.slice (some ⟨go12, 0, none⟩) y266.length co12) y269 := (by rw [hw, Ny269.out]; exact HP15.1); clear HP15; have n0_ := Aside0.mk (hp_); have n1_ := Aside0.mk ((by rw [hw]; exact below_set (HB.out) GB12.out : Below w.heap.size w w16)); clear HO268; clear HB; have HO268 := n0_; have HB := n1_; clear n0_ n1_; clear hg hw hp_))
            go_loopg [23] kj2 (fun kq v23 w' => ∃ (x6_2 : List Int) (x23_2 : Int), v23 = .int .i64 x23_2 ∧ Aside0 (impl_RunPlan.l0 kq x6_2 l1 (l1.length : Int) x23_2 = some (r1, r2)) ∧ Aside0 (kq ≤ kj2) ∧ Aside0 (Kd.R (Kd.int .i64) 3 w' w.heap.size (fun _ => True) (.slice (some ⟨go12, 0, none⟩) y266.length co12) x6_2) ∧ Aside0 (Below w.heap.size w w'))
            case atStart => exact ⟨(y269), (0), (by first | rfl | (simp; done) | (simp [*]; done)), H', ⟨Nat.le_refl _⟩, ⟨oR HO268⟩, ⟨oB HB⟩⟩
            case round =>
              clear H'
              try clear c1
              try clear p1
              try clear q1
              try clear hx1
              try clear qi1
              try clear p2
              try clear c4
              try clear c5
              try clear c9
              try clear c10
              try clear c10b0
              try clear c10b1
              try clear c11
              try clear c11b0
              try clear c11b1
              try clear p12
              try clear q12
              try clear hx12
              try clear qi12
              try clear hf12
              try clear hx12_0
              try clear p12
              try clear p2
              try clear q12
              obtain ⟨x6_2, x23_2, rfl, HA, HK2, HO_6, HB⟩ := hrel
              have hl6_2 := (Kd.R_reads' HO_6.out).1
              rw [hl6_2] at HO_6
              (try simp only [hl6_2])
              cases gk with
              | zero => exact absurd HA.out (by simp [impl_RunPlan.l0])
              | succ k2 =>
                have H := HA.out
                clear HA
                simp only [impl_RunPlan.l0] at H
                by_cases c17 : x23_2 < (l1.length : Int)
                · rw [if_pos c17] at H
                  have c17b0 : decide (x23_2 < (l1.length : Int)) = true := decide_eq_true c17
                  clear c17
                  by_cases c18 : 0 ≤ x23_2
                  · rw [if_pos c18] at H
                    have c18b0 : decide (0 ≤ x23_2) = true := decide_eq_true c18
                    clear c18
                    by_cases c19 : x23_2 < (l1.length : Int)
                    · rw [if_pos c19] at H
                      have c19b0 : decide (x23_2 < (l1.length : Int)) = true := decide_eq_true c19
                      clear c19
                      by_cases c20 : 0 ≤ ((rd_T67 l1 x23_2).f0)
                      · rw [if_pos c20] at H
                        have c20b0 : decide (0 ≤ ((rd_T67 l1 x23_2).f0)) = true := decide_eq_true c20
                        clear c20
                        by_cases c21 : ((rd_T67 l1 x23_2).f0) < (x6_2.length : Int)
                        · rw [if_pos c21] at H
                          have c21b0 : decide (((rd_T67 l1 x23_2).f0) < (x6_2.length : Int)) = true := decide_eq_true c21
                          clear c21
                          replace H := Option.bind_eq_some_iff.mp H
                          obtain ⟨t273, A220, H⟩ := H
                          (try dsimp only at H)
                          have A22 := Aside0.mk A220
                          clear A220
                          by_cases c23 : 0 ≤ ((rd_T67 l1 x23_2).f1)
                          · rw [if_pos c23] at H
                            have c23b0 : decide (0 ≤ ((rd_T67 l1 x23_2).f1)) = true := decide_eq_true c23
                            clear c23
                            by_cases c24 : ((rd_T67 l1 x23_2).f1) < (x6_2.length : Int)
                            · rw [if_pos c24] at H
                              have c24b0 : decide (((rd_T67 l1 x23_2).f1) < (x6_2.length : Int)) = true := decide_eq_true c24
                              clear c24
                              obtain ⟨y274, hy274⟩ : ∃ y_ : List Int, y_ = (x6_2.set (((rd_T67 l1 x23_2).f1) : Int).toNat t273) := ⟨_, rfl⟩
                              replace H : (if t273 = 0 then (some (([] : List Int), false)) else (impl_RunPlan.l0 k2 y274 l1 (l1.length : Int) (wrap64 (x23_2 + 1)))) = some (r1, r2) := by first | (rw [hy274]; with_reducible exact H) | (have H2_ := (Option.bind_some _ _).symm.trans H; rw [hy274]; with_reducible exact H2_) | (have H2_ := (Option.bind_some _ _).symm.trans H; with_reducible exact H2_) | with_reducible exact H | (rw [hy274]; exact H) | exact H
                              have Ny274 := Aside0.mk hy274
                              clear hy274
                              by_cases c27 : t273 = 0
                              · rw [if_pos c27] at H
                                have c27b0 : (t273 == 0) = true := beq_iff_eq.mpr c27
                                have c27b1 : (t273 != 0) = false := bne_eq_false_iff_eq.mpr c27
                                clear c27
                                simp only [Option.some.injEq, Prod.mk.injEq] at H
                                obtain ⟨rfl, rfl⟩ := H
                                have p270 : 0 ≤ (x23_2 : Int) := of_decide_eq_true (by first | (with_reducible assumption) | assumption)
                                have q270 : x23_2 < (l1.length : Int) := of_decide_eq_true (by first | (with_reducible assumption) | assumption)
                                obtain ⟨ad270, e270, hx270_0, hx270_1, hx270_2, hx270_3⟩ := at_T67 HR1.out x23_2 p270 q270
                                cases e270
                                replace hx270_0 := (HB.out.cell (World.block_lt_of_cell? w _ hx270_0)).trans hx270_0
                                replace hx270_1 := (HB.out.cell (World.block_lt_of_cell? w _ hx270_1)).trans hx270_1
                                replace hx270_2 := (HB.out.cell (World.block_lt_of_cell? w _ hx270_2)).trans hx270_2
                                replace hx270_3 := (HB.out.cell (World.block_lt_of_cell? w _ hx270_3)).trans hx270_3
                                replace p270 := eq_true p270
                                replace q270 := eq_true q270
                                try go_wp2_with (first | ((with_reducible refine gate_dst (N := 8) rfl ?_); refine box_event ?hg (N := 8) ?hd (cs := #[.int .i64 0, .int .i64 0, .int .i64 0, .int .i64 0]) (t := 67) ?hr ?_; (case hd => rfl); (case hg => rfl); (case hr => first | (go_simp; done) | (go_simp; rfl)); intro gb271 hg w28 hbox hb; have n0_ := Aside0.mk (Kd.R_below (oR HO_6) hb); have n1_ := Aside0.mk (below_step (oB HB) hb); have n2_ := Aside0.mk (hbox); have n3_ := Aside0.mk ((by rw [hg]; exact (below_size (oB HB)) : w.heap.size ≤ gb271)); have n4_ := Aside0.mk ((by rw [hg]; exact (below_size (oB HB)) : w.heap.size ≤ gb271)); clear HO_6; clear HB; have HO_6 := n0_; have HB := n1_; have BK271 := n2_; have GW271 := n3_; have GE271 := n4_; clear n0_ n1_ n2_ n3_ n4_; clear hb hbox hg; have hcz29_0 : w28.cell? ⟨gb271, 0, none⟩ = some (.int .i64 0) := (blk_cell BK271.out 0).trans rfl; have hcz29_1 : w28.cell? ⟨gb271, 1, none⟩ = some (.int .i64 0) := (blk_cell BK271.out 1).trans rfl; have hcz29_2 : w28.cell? ⟨gb271, 2, none⟩ = some (.int .i64 0) := (blk_cell BK271.out 2).trans rfl; have hcz29_3 : w28.cell? ⟨gb271, 3, none⟩ = some (.int .i64 0) := (blk_cell BK271.out 3).trans rfl; have hfz29_0 := blk_frozen BK271.out 0; have hfz29_1 := blk_frozen BK271.out 1; have hfz29_2 := blk_frozen BK271.out 2; have hfz29_3 := blk_frozen BK271.out 3))
                                have n0_ : Aside0 (Kd.R (Kd.int .i64) 3 ((((w28.setCell ⟨gb271, 0, none⟩ (.int .i64 ((rd_T67 l1 x23_2).f0))).setCell ⟨gb271, 1, none⟩ (.int .i64 ((rd_T67 l1 x23_2).f1))).setCell ⟨gb271, 2, none⟩ (.int .i64 ((rd_T67 l1 x23_2).f2))).setCell ⟨gb271, 3, none⟩ (.int .i64 ((rd_T67 l1 x23_2).f3))) w.heap.size (fun _ => True) (.slice (some ⟨go12, 0, none⟩) x6_2.length co12) x6_2) := ⟨by (with_reducible repeat (first | apply Kd.R_alloc | apply Kd.R_drewN | apply Kd.R_drew)); exact Kd.R_mono (Kd.R_far (p := ⟨gb271, 3, none⟩) (Kd.R_far (p := ⟨gb271, 2, none⟩) (Kd.R_far (p := ⟨gb271, 1, none⟩) (Kd.R_far (p := ⟨gb271, 0, none⟩) (Kd.R_types HO_6.out BK271.out (by decide)) (fun _ hk => hk.2) (.int .i64 ((rd_T67 l1 x23_2).f0))) (fun _ hk => hk.2) (.int .i64 ((rd_T67 l1 x23_2).f1))) (fun _ hk => hk.2) (.int .i64 ((rd_T67 l1 x23_2).f2))) (fun _ hk => hk.2) (.int .i64 ((rd_T67 l1 x23_2).f3))) (fun _ hk => trivial)⟩
                                have n1_ : Aside0 (((((w28.setCell ⟨gb271, 0, none⟩ (.int .i64 ((rd_T67 l1 x23_2).f0))).setCell ⟨gb271, 1, none⟩ (.int .i64 ((rd_T67 l1 x23_2).f1))).setCell ⟨gb271, 2, none⟩ (.int .i64 ((rd_T67 l1 x23_2).f2))).setCell ⟨gb271, 3, none⟩ (.int .i64 ((rd_T67 l1 x23_2).f3))).heap[gb271]? = some (.cells #[.int .i64 ((rd_T67 l1 x23_2).f0), .int .i64 ((rd_T67 l1 x23_2).f1), .int .i64 ((rd_T67 l1 x23_2).f2), .int .i64 ((rd_T67 l1 x23_2).f3)] 67 (0, 0))) := ⟨by (with_reducible repeat (first | refine blk_drewN ?_ _ | refine blk_drew ?_ | refine blk_alloc ?_ _)); refine blk_put (cs := #[.int .i64 ((rd_T67 l1 x23_2).f0), .int .i64 ((rd_T67 l1 x23_2).f1), .int .i64 ((rd_T67 l1 x23_2).f2), .int .i64 0]) ?_ 3 _ rfl; (with_reducible repeat (first | refine blk_drewN ?_ _ | refine blk_drew ?_ | refine blk_alloc ?_ _)); refine blk_put (cs := #[.int .i64 ((rd_T67 l1 x23_2).f0), .int .i64 ((rd_T67 l1 x23_2).f1), .int .i64 0, .int .i64 0]) ?_ 2 _ rfl; (with_reducible repeat (first | refine blk_drewN ?_ _ | refine blk_drew ?_ | refine blk_alloc ?_ _)); refine blk_put (cs := #[.int .i64 ((rd_T67 l1 x23_2).f0), .int .i64 0, .int .i64 0, .int .i64 0]) ?_ 1 _ rfl; (with_reducible repeat (first | refine blk_drewN ?_ _ | refine blk_drew ?_ | refine blk_alloc ?_ _)); refine blk_put (cs := #[.int .i64 0, .int .i64 0, .int .i64 0, .int .i64 0]) ?_ 0 _ rfl; (with_reducible repeat (first | refine blk_drewN ?_ _ | refine blk_drew ?_ | refine blk_alloc ?_ _)); exact BK271.out⟩
                                have n2_ : Aside0 (Below w.heap.size w ((((w28.setCell ⟨gb271, 0, none⟩ (.int .i64 ((rd_T67 l1 x23_2).f0))).setCell ⟨gb271, 1, none⟩ (.int .i64 ((rd_T67 l1 x23_2).f1))).setCell ⟨gb271, 2, none⟩ (.int .i64 ((rd_T67 l1 x23_2).f2))).setCell ⟨gb271, 3, none⟩ (.int .i64 ((rd_T67 l1 x23_2).f3)))) := ⟨oB HB⟩
                                (try clear HO_6)
                                (try clear BK271)
                                (try clear HB)
                                generalize ((((w28.setCell ⟨gb271, 0, none⟩ (.int .i64 ((rd_T67 l1 x23_2).f0))).setCell ⟨gb271, 1, none⟩ (.int .i64 ((rd_T67 l1 x23_2).f1))).setCell ⟨gb271, 2, none⟩ (.int .i64 ((rd_T67 l1 x23_2).f2))).setCell ⟨gb271, 3, none⟩ (.int .i64 ((rd_T67 l1 x23_2).f3))) = w30 at n0_ n1_ n2_ ⊢
                                have HO_6 := n0_
                                have BK271 := n1_
                                have HB := n2_
                                clear n0_ n1_ n2_
                                have n0_ := Aside0.mk (Kd.R_drew HO_6.out)
                                have n1_ := Aside0.mk (blk_drew BK271.out)
                                have n2_ := Aside0.mk (below_drew1 HB.out)
                                clear HO_6
                                clear BK271
                                clear HB
                                have HO_6 := n0_
                                have BK271 := n1_
                                have HB := n2_
                                clear n0_ n1_ n2_
                                have p272 : 0 ≤ (((rd_T67 l1 x23_2).f0) : Int) := of_decide_eq_true (by first | (with_reducible assumption) | assumption)
                                have q272 : ((rd_T67 l1 x23_2).f0) < (x6_2.length : Int) := of_decide_eq_true (by first | (with_reducible assumption) | assumption)
                                obtain ⟨ad272, e272, hx272_0⟩ := Kd.at_int (Kd.R_reads' HO_6.out).2.2 ((rd_T67 l1 x23_2).f0) p272 q272
                                obtain rfl : (⟨go12, 0, none⟩ : Addr) = ad272 := (by injection e272)
                                (first | simp only [add_plain] at hx272_0 | simp only [add_at] at hx272_0 | simp only [Addr.add, Nat.zero_add] at hx272_0 | skip)
                                replace p272 := eq_true p272
                                replace q272 := eq_true q272
                                refine start_ (n := 15) (S := fun w' => w'.cell? ⟨gb271, 0, none⟩ = some (.int .i64 ((rd_T67 l1 x23_2).f0)) ∧ w'.cell? ⟨gb271, 1, none⟩ = some (.int .i64 ((rd_T67 l1 x23_2).f1)) ∧ w'.cell? ⟨gb271, 2, none⟩ = some (.int .i64 ((rd_T67 l1 x23_2).f2)) ∧ w'.cell? ⟨gb271, 3, none⟩ = some (.int .i64 ((rd_T67 l1 x23_2).f3)) ∧ w'.cell? ⟨go12, (((rd_T67 l1 x23_2).f0)).toNat, none⟩ = some (.int .i64 (rd x6_2 ((rd_T67 l1 x23_2).f0)))) (ds := [14]) #[false, false, false, false, false, false, false, false, false, false, false, false, false, false, false] (by kernel_rfl) rfl rfl ⟨(blk_cell BK271.out 0).trans rfl, (blk_cell BK271.out 1).trans rfl, (blk_cell BK271.out 2).trans rfl, (blk_cell BK271.out 3).trans rfl, hx272_0⟩ (fun hHeld => ?_); refine with_tabW impl_RunPlan.tab8 impl_RunPlan.bits8 (fun HT_ HW_ => ?_)
                                generalize w30.drew = w31 at HO_6 BK271 HB hx272_0 hHeld ⊢
                                refine pure_ (i := 0) (N := some 27) (v := ?_) (a' := ?_) #[true, false, false, false, false, false, false, false, false, false, false, false, false, false, false] rfl rfl (any_of HT_.out (by kernel_rfl)) (fun _ _ _ h => h) (Or.inl ⟨by rfl, ?_⟩) ?_ ?_
                                rotate_left
                                · intro w'
                                  go_simp
                                  with_reducible rfl
                                rotate_left
                                · simp only [Act.put, List.setIfInBounds_toArray, List.set_cons_zero, List.set_cons_succ, i64_w, i32_w]
                                  rfl
                                refine pure_ (i := 1) (N := some 28) (v := ?_) (a' := ?_) #[true, true, false, false, false, false, false, false, false, false, false, false, false, false, false] rfl rfl (any_of HT_.out (by kernel_rfl)) (fun _ _ _ h => h) (Or.inl ⟨by rfl, ?_⟩) ?_ ?_
                                rotate_left
                                · intro w'
                                  go_simp
                                  with_reducible rfl
                                rotate_left
                                · simp only [Act.put, List.setIfInBounds_toArray, List.set_cons_zero, List.set_cons_succ, i64_w, i32_w]
                                  rfl
                                refine pure_ (i := 3) (N := some 30) (v := ?_) (a' := ?_) #[true, true, false, true, false, false, false, false, false, false, false, false, false, false, false] rfl rfl (any_of HT_.out (by kernel_rfl)) (fun _ _ _ h => h) (Or.inl ⟨by rfl, ?_⟩) ?_ ?_
                                rotate_left
                                · intro w'
                                  go_simp
                                  with_reducible rfl
                                rotate_left
                                · simp only [Act.put, List.setIfInBounds_toArray, List.set_cons_zero, List.set_cons_succ, i64_w, i32_w]
                                  rfl
                                refine pure_ (i := 4) (N := some 31) (v := ?_) (a' := ?_) #[true, true, false, true, true, false, false, false, false, false, false, false, false, false, false] rfl rfl (any_of HT_.out (by kernel_rfl)) (fun _ _ _ h => h) (Or.inl ⟨by rfl, ?_⟩) ?_ ?_
                                rotate_left
                                · intro w'
                                  go_simp
                                  with_reducible rfl
                                rotate_left
                                · simp only [Act.put, List.setIfInBounds_toArray, List.set_cons_zero, List.set_cons_succ, i64_w, i32_w]
                                  rfl
                                refine pure_ (i := 8) (N := some 35) (v := ?_) (a' := ?_) #[true, true, false, true, true, false, false, false, true, false, false, false, false, false, false] rfl rfl (any_of HT_.out (by kernel_rfl)) (fun _ _ _ h => h) (Or.inl ⟨by rfl, ?_⟩) ?_ ?_
                                rotate_left
                                · intro w'
                                  go_simp
                                  with_reducible rfl
                                rotate_left
                                · simp only [Act.put, List.setIfInBounds_toArray, List.set_cons_zero, List.set_cons_succ, i64_w, i32_w]
                                  rfl
                                refine pure_ (i := 10) (N := some 37) (v := ?_) (a' := ?_) #[true, true, false, true, true, false, false, false, true, false, true, false, false, false, false] rfl rfl (any_of HT_.out (by kernel_rfl)) (fun _ _ _ h => h) (Or.inl ⟨by rfl, ?_⟩) ?_ ?_
                                rotate_left
                                · intro w'
                                  go_simp
                                  with_reducible rfl
                                rotate_left
                                · simp only [Act.put, List.setIfInBounds_toArray, List.set_cons_zero, List.set_cons_succ, i64_w, i32_w]
                                  rfl
                                refine take_ (i := 2) (N := some 29) (v := ?_) (a' := ?_) #[true, true, true, true, true, false, false, false, true, false, true, false, false, false, false] rfl rfl (take_ofW HT_.out HW_.out (by kernel_rfl)) (fun _ _ _ h => h) (Or.inl ⟨by rfl, ?_⟩) hHeld ?_ ?_
                                rotate_left
                                · rintro w' ⟨s0, s1, s2, s3, s4⟩
                                  go_simp
                                  with_reducible rfl
                                rotate_left
                                · simp only [Act.put, List.setIfInBounds_toArray, List.set_cons_zero, List.set_cons_succ, i64_w, i32_w]
                                  rfl
                                refine take_ (i := 5) (N := some 32) (v := ?_) (a' := ?_) #[true, true, true, true, true, true, false, false, true, false, true, false, false, false, false] rfl rfl (take_ofW HT_.out HW_.out (by kernel_rfl)) (fun _ _ _ h => h) (Or.inl ⟨by rfl, ?_⟩) hHeld ?_ ?_
                                rotate_left
                                · rintro w' ⟨s0, s1, s2, s3, s4⟩
                                  go_simp
                                  with_reducible rfl
                                rotate_left
                                · simp only [Act.put, List.setIfInBounds_toArray, List.set_cons_zero, List.set_cons_succ, i64_w, i32_w]
                                  rfl
                                refine pure_ (i := 6) (N := some 33) (v := ?_) (a' := ?_) #[true, true, true, true, true, true, true, false, true, false, true, false, false, false, false] rfl rfl (any_of HT_.out (by kernel_rfl)) (fun _ _ _ h => h) (Or.inl ⟨by rfl, ?_⟩) ?_ ?_
                                rotate_left
                                · intro w'
                                  go_simp
                                  with_reducible rfl
                                rotate_left
                                · simp only [Act.put, List.setIfInBounds_toArray, List.set_cons_zero, List.set_cons_succ, i64_w, i32_w]
                                  rfl
                                refine take_ (i := 7) (N := some 34) (v := ?_) (a' := ?_) #[true, true, true, true, true, true, true, true, true, false, true, false, false, false, false] rfl rfl (take_ofW HT_.out HW_.out (by kernel_rfl)) (fun _ _ _ h => h) (Or.inl ⟨by rfl, ?_⟩) hHeld ?_ ?_
                                rotate_left
                                · rintro w' ⟨s0, s1, s2, s3, s4⟩
                                  go_simp
                                  with_reducible rfl
                                rotate_left
                                · simp only [Act.put, List.setIfInBounds_toArray, List.set_cons_zero, List.set_cons_succ, i64_w, i32_w]
                                  rfl
                                refine take_ (i := 9) (N := some 36) (v := ?_) (a' := ?_) #[true, true, true, true, true, true, true, true, true, true, true, false, false, false, false] rfl rfl (take_ofW HT_.out HW_.out (by kernel_rfl)) (fun _ _ _ h => h) (Or.inl ⟨by rfl, ?_⟩) hHeld ?_ ?_
                                rotate_left
                                · rintro w' ⟨s0, s1, s2, s3, s4⟩
                                  go_simp
                                  with_reducible rfl
                                rotate_left
                                · simp only [Act.put, List.setIfInBounds_toArray, List.set_cons_zero, List.set_cons_succ, i64_w, i32_w]
                                  rfl
                                refine take_ (i := 11) (N := some 38) (v := ?_) (a' := ?_) #[true, true, true, true, true, true, true, true, true, true, true, true, false, false, false] rfl rfl (take_ofW HT_.out HW_.out (by kernel_rfl)) (fun _ _ _ h => h) (Or.inl ⟨by rfl, ?_⟩) hHeld ?_ ?_
                                rotate_left
                                · rintro w' ⟨s0, s1, s2, s3, s4⟩
                                  go_simp
                                  with_reducible rfl
                                rotate_left
                                · simp only [Act.put, List.setIfInBounds_toArray, List.set_cons_zero, List.set_cons_succ, i64_w, i32_w]
                                  rfl
                                refine one_ (i := 12) (N := some 39) #[true, true, true, true, true, true, true, true, true, true, true, true, true, false, false] rfl rfl (one_of HT_.out (by kernel_rfl)) (by decide) (fun K hK => ?_)
                                refine goes_ Try.func77 (by kernel_rfl) rfl #[.int .i64 (rd x6_2 ((rd_T67 l1 x23_2).f0)), .int .i64 ((rd_T67 l1 x23_2).f2), .int .i64 ((rd_T67 l1 x23_2).f3)] (by rfl) rfl rfl (by (try simp only [List.map_toArray, List.map_cons, List.map_nil]); first | done | rfl | (simp only [List.length_drop, List.length_take]; rfl)) ?_
                                with_reducible refine (impl_TunedPitch.calls k2 (rd x6_2 ((rd_T67 l1 x23_2).f0)) ((rd_T67 l1 x23_2).f2) ((rd_T67 l1 x23_2).f3) t273 _ A22.out).mono ?_
                                rintro e w32 ⟨rfl, hb⟩
                                have HS4_ := (hb.cell (World.block_lt_of_cell? _ _ (hHeld.2.2.2.2))).trans (hHeld.2.2.2.2)
                                refine ⟨_, rfl, ?_⟩
                                have n0_ := Aside0.mk (Kd.R_below (oR HO_6) hb)
                                have n1_ := Aside0.mk (blk_below (g := gb271) (o := .cells #[.int .i64 ((rd_T67 l1 x23_2).f0), .int .i64 ((rd_T67 l1 x23_2).f1), .int .i64 ((rd_T67 l1 x23_2).f2), .int .i64 ((rd_T67 l1 x23_2).f3)] 67 (0, 0)) (oK BK271) hb)
                                have n2_ := Aside0.mk (below_step (oB HB) hb)
                                clear HO_6
                                clear BK271
                                clear HB
                                have HO_6 := n0_
                                have BK271 := n1_
                                have HB := n2_
                                clear n0_ n1_ n2_
                                (try clear hb)
                                (try clear hb2)
                                (try clear hk)
                                (try clear hi)
                                have p25 : 0 ≤ (((rd_T67 l1 x23_2).f1) : Int) := of_decide_eq_true (by first | (with_reducible assumption) | assumption)
                                have q25 : (((rd_T67 l1 x23_2).f1) : Int) < ((x6_2.length : Int) : Int) := of_decide_eq_true (by first | (with_reducible assumption) | assumption)
                                obtain ⟨hx25_0, hf25_0⟩ := Kd.R_celln 0 HO_6.out (((rd_T67 l1 x23_2).f1) : Int) p25 q25
                                replace p25 := eq_true p25
                                replace q25 := eq_true q25
                                have HP33 := Kd.R_putn HO_6.out (((rd_T67 l1 x23_2).f1) : Int) t273
                                rw [← Ny274.out] at HP33
                                have HQ33 := Aside0.mk HP33
                                clear HP33
                                refine hK.out _ _ ⟨(blk_cell BK271.out 0).trans rfl, (blk_cell BK271.out 1).trans rfl, (blk_cell BK271.out 2).trans rfl, (blk_cell BK271.out 3).trans rfl, HS4_⟩ (fun hHeld => ?_)
                                clear hK K
                                refine norm_ (a' := ?_) ?_ ?_
                                rotate_left
                                · show Act.put _ (some 39) _ = _
                                  simp only [Act.put, List.setIfInBounds_toArray, List.set_cons_zero, List.set_cons_succ, i64_w, i32_w]
                                  rfl
                                refine pure_ (i := 13) (N := some 40) (v := ?_) (a' := ?_) #[true, true, true, true, true, true, true, true, true, true, true, true, true, true, false] rfl rfl (any_of HT_.out (by kernel_rfl)) (fun _ _ _ h => h) (Or.inl ⟨by rfl, ?_⟩) ?_ ?_
                                rotate_left
                                · intro w'
                                  go_simp
                                  with_reducible rfl
                                rotate_left
                                · simp only [Act.put, List.setIfInBounds_toArray, List.set_cons_zero, List.set_cons_succ, i64_w, i32_w]
                                  rfl
                                refine last_ (i := 14) (N := none) #[true, true, true, true, true, true, true, true, true, true, true, true, true, true, true] rfl rfl (one_of HT_.out (by kernel_rfl)) (by decide) (fun K hK => ?_)
                                refine skip_ (w1 := ?_) (by rfl) rfl ?_ ?_
                                rotate_left
                                · go_simp
                                  rfl
                                refine hK.out _ _ ?_
                                clear hK K
                                refine done_ (done_of HT_.out (by kernel_rfl)) ?_
                                have hcz34_0 : w32.cell? ⟨gb271, 0, none⟩ = some (.int .i64 ((rd_T67 l1 x23_2).f0)) := (blk_cell BK271.out 0).trans rfl
                                have hcz34_1 : w32.cell? ⟨gb271, 1, none⟩ = some (.int .i64 ((rd_T67 l1 x23_2).f1)) := (blk_cell BK271.out 1).trans rfl
                                have hcz34_2 : w32.cell? ⟨gb271, 2, none⟩ = some (.int .i64 ((rd_T67 l1 x23_2).f2)) := (blk_cell BK271.out 2).trans rfl
                                have hcz34_3 : w32.cell? ⟨gb271, 3, none⟩ = some (.int .i64 ((rd_T67 l1 x23_2).f3)) := (blk_cell BK271.out 3).trans rfl
                                have hfz34_0 := blk_frozen BK271.out 0
                                have hfz34_1 := blk_frozen BK271.out 1
                                have hfz34_2 := blk_frozen BK271.out 2
                                have hfz34_3 := blk_frozen BK271.out 3
                                have p26 : 0 ≤ (((rd_T67 l1 x23_2).f1) : Int) := of_decide_eq_true (by first | (with_reducible assumption) | assumption)
                                have q26 : (((rd_T67 l1 x23_2).f1) : Int) < ((x6_2.length : Int) : Int) := of_decide_eq_true (by first | (with_reducible assumption) | assumption)
                                have hcl_ : (((rd_T67 l1 x23_2).f1) : Int).toNat < x6_2.length := by omega
                                have hcm_ := (Kd.R_celln 0 HQ33.out (((rd_T67 l1 x23_2).f1) : Int) p26 (by have h9 := (Kd.R_reads' HO_6.out).1; omega)).1
                                rw [Ny274.out, show rdOf 0 (x6_2.set (((rd_T67 l1 x23_2).f1) : Int).toNat t273) (((rd_T67 l1 x23_2).f1) : Int) = t273 by simp [rdOf, List.getD_eq_getElem?_getD, hcl_]] at hcm_
                                clear hcl_
                                have hcn_ : (w32.setCell ⟨go12, (((rd_T67 l1 x23_2).f1) : Int).toNat, none⟩ (.int .i64 t273)).cell? ⟨gb271, 1, none⟩ = some (.int .i64 (((rd_T67 l1 x23_2).f1) : Int)) := (blk_cell (blk_far BK271.out (fun e_ => Kd.R_ne HO_6.out BK271.out (by decide) (by simp only [Value.ownBlock]; rw [e_])) _) 1).trans rfl
                                replace p26 := eq_true p26
                                replace q26 := eq_true q26
                                try go_wp2
                                go_ret2
                                exact ⟨_, by first | rfl | (simp [errW_none, errW_some] <;> rfl) | (simp [*, errW_none, errW_some] <;> rfl), by first | exact Kd.R_nil _ _ _ _ _ | exact Kd.N_nil _ _ _ _ _ | exact Kd.V_nil _ _ _ _ _ | exact Kd.Q_nil _ _ _ _ _ | exact Kd.S_nil _ _ _ _ _, oB HB⟩
                              · rw [if_neg c27] at H
                                have c27b0 : (t273 == 0) = false := beq_eq_false_iff_ne.mpr c27
                                have c27b1 : (t273 != 0) = true := bne_iff_ne.mpr c27
                                have H' := Aside0.mk H
                                clear H
                                have p270 : 0 ≤ (x23_2 : Int) := of_decide_eq_true (by first | (with_reducible assumption) | assumption)
                                have q270 : x23_2 < (l1.length : Int) := of_decide_eq_true (by first | (with_reducible assumption) | assumption)
                                obtain ⟨ad270, e270, hx270_0, hx270_1, hx270_2, hx270_3⟩ := at_T67 HR1.out x23_2 p270 q270
                                cases e270
                                replace hx270_0 := (HB.out.cell (World.block_lt_of_cell? w _ hx270_0)).trans hx270_0
                                replace hx270_1 := (HB.out.cell (World.block_lt_of_cell? w _ hx270_1)).trans hx270_1
                                replace hx270_2 := (HB.out.cell (World.block_lt_of_cell? w _ hx270_2)).trans hx270_2
                                replace hx270_3 := (HB.out.cell (World.block_lt_of_cell? w _ hx270_3)).trans hx270_3
                                replace p270 := eq_true p270
                                replace q270 := eq_true q270
                                try go_wp2_with (first | ((with_reducible refine gate_dst (N := 8) rfl ?_); refine box_event ?hg (N := 8) ?hd (cs := #[.int .i64 0, .int .i64 0, .int .i64 0, .int .i64 0]) (t := 67) ?hr ?_; (case hd => rfl); (case hg => rfl); (case hr => first | (go_simp; done) | (go_simp; rfl)); intro gb271 hg w35 hbox hb; have n0_ := Aside0.mk (Kd.R_below (oR HO_6) hb); have n1_ := Aside0.mk (below_step (oB HB) hb); have n2_ := Aside0.mk (hbox); have n3_ := Aside0.mk ((by rw [hg]; exact (below_size (oB HB)) : w.heap.size ≤ gb271)); have n4_ := Aside0.mk ((by rw [hg]; exact (below_size (oB HB)) : w.heap.size ≤ gb271)); clear HO_6; clear HB; have HO_6 := n0_; have HB := n1_; have BK271 := n2_; have GW271 := n3_; have GE271 := n4_; clear n0_ n1_ n2_ n3_ n4_; clear hb hbox hg; have hcz36_0 : w35.cell? ⟨gb271, 0, none⟩ = some (.int .i64 0) := (blk_cell BK271.out 0).trans rfl; have hcz36_1 : w35.cell? ⟨gb271, 1, none⟩ = some (.int .i64 0) := (blk_cell BK271.out 1).trans rfl; have hcz36_2 : w35.cell? ⟨gb271, 2, none⟩ = some (.int .i64 0) := (blk_cell BK271.out 2).trans rfl; have hcz36_3 : w35.cell? ⟨gb271, 3, none⟩ = some (.int .i64 0) := (blk_cell BK271.out 3).trans rfl; have hfz36_0 := blk_frozen BK271.out 0; have hfz36_1 := blk_frozen BK271.out 1; have hfz36_2 := blk_frozen BK271.out 2; have hfz36_3 := blk_frozen BK271.out 3))
                                have n0_ : Aside0 (Kd.R (Kd.int .i64) 3 ((((w35.setCell ⟨gb271, 0, none⟩ (.int .i64 ((rd_T67 l1 x23_2).f0))).setCell ⟨gb271, 1, none⟩ (.int .i64 ((rd_T67 l1 x23_2).f1))).setCell ⟨gb271, 2, none⟩ (.int .i64 ((rd_T67 l1 x23_2).f2))).setCell ⟨gb271, 3, none⟩ (.int .i64 ((rd_T67 l1 x23_2).f3))) w.heap.size (fun _ => True) (.slice (some ⟨go12, 0, none⟩) x6_2.length co12) x6_2) := ⟨by (with_reducible repeat (first | apply Kd.R_alloc | apply Kd.R_drewN | apply Kd.R_drew)); exact Kd.R_mono (Kd.R_far (p := ⟨gb271, 3, none⟩) (Kd.R_far (p := ⟨gb271, 2, none⟩) (Kd.R_far (p := ⟨gb271, 1, none⟩) (Kd.R_far (p := ⟨gb271, 0, none⟩) (Kd.R_types HO_6.out BK271.out (by decide)) (fun _ hk => hk.2) (.int .i64 ((rd_T67 l1 x23_2).f0))) (fun _ hk => hk.2) (.int .i64 ((rd_T67 l1 x23_2).f1))) (fun _ hk => hk.2) (.int .i64 ((rd_T67 l1 x23_2).f2))) (fun _ hk => hk.2) (.int .i64 ((rd_T67 l1 x23_2).f3))) (fun _ hk => trivial)⟩
                                have n1_ : Aside0 (((((w35.setCell ⟨gb271, 0, none⟩ (.int .i64 ((rd_T67 l1 x23_2).f0))).setCell ⟨gb271, 1, none⟩ (.int .i64 ((rd_T67 l1 x23_2).f1))).setCell ⟨gb271, 2, none⟩ (.int .i64 ((rd_T67 l1 x23_2).f2))).setCell ⟨gb271, 3, none⟩ (.int .i64 ((rd_T67 l1 x23_2).f3))).heap[gb271]? = some (.cells #[.int .i64 ((rd_T67 l1 x23_2).f0), .int .i64 ((rd_T67 l1 x23_2).f1), .int .i64 ((rd_T67 l1 x23_2).f2), .int .i64 ((rd_T67 l1 x23_2).f3)] 67 (0, 0))) := ⟨by (with_reducible repeat (first | refine blk_drewN ?_ _ | refine blk_drew ?_ | refine blk_alloc ?_ _)); refine blk_put (cs := #[.int .i64 ((rd_T67 l1 x23_2).f0), .int .i64 ((rd_T67 l1 x23_2).f1), .int .i64 ((rd_T67 l1 x23_2).f2), .int .i64 0]) ?_ 3 _ rfl; (with_reducible repeat (first | refine blk_drewN ?_ _ | refine blk_drew ?_ | refine blk_alloc ?_ _)); refine blk_put (cs := #[.int .i64 ((rd_T67 l1 x23_2).f0), .int .i64 ((rd_T67 l1 x23_2).f1), .int .i64 0, .int .i64 0]) ?_ 2 _ rfl; (with_reducible repeat (first | refine blk_drewN ?_ _ | refine blk_drew ?_ | refine blk_alloc ?_ _)); refine blk_put (cs := #[.int .i64 ((rd_T67 l1 x23_2).f0), .int .i64 0, .int .i64 0, .int .i64 0]) ?_ 1 _ rfl; (with_reducible repeat (first | refine blk_drewN ?_ _ | refine blk_drew ?_ | refine blk_alloc ?_ _)); refine blk_put (cs := #[.int .i64 0, .int .i64 0, .int .i64 0, .int .i64 0]) ?_ 0 _ rfl; (with_reducible repeat (first | refine blk_drewN ?_ _ | refine blk_drew ?_ | refine blk_alloc ?_ _)); exact BK271.out⟩
                                have n2_ : Aside0 (Below w.heap.size w ((((w35.setCell ⟨gb271, 0, none⟩ (.int .i64 ((rd_T67 l1 x23_2).f0))).setCell ⟨gb271, 1, none⟩ (.int .i64 ((rd_T67 l1 x23_2).f1))).setCell ⟨gb271, 2, none⟩ (.int .i64 ((rd_T67 l1 x23_2).f2))).setCell ⟨gb271, 3, none⟩ (.int .i64 ((rd_T67 l1 x23_2).f3)))) := ⟨oB HB⟩
                                (try clear HO_6)
                                (try clear BK271)
                                (try clear HB)
                                generalize ((((w35.setCell ⟨gb271, 0, none⟩ (.int .i64 ((rd_T67 l1 x23_2).f0))).setCell ⟨gb271, 1, none⟩ (.int .i64 ((rd_T67 l1 x23_2).f1))).setCell ⟨gb271, 2, none⟩ (.int .i64 ((rd_T67 l1 x23_2).f2))).setCell ⟨gb271, 3, none⟩ (.int .i64 ((rd_T67 l1 x23_2).f3))) = w37 at n0_ n1_ n2_ ⊢
                                have HO_6 := n0_
                                have BK271 := n1_
                                have HB := n2_
                                clear n0_ n1_ n2_
                                have n0_ := Aside0.mk (Kd.R_drew HO_6.out)
                                have n1_ := Aside0.mk (blk_drew BK271.out)
                                have n2_ := Aside0.mk (below_drew1 HB.out)
                                clear HO_6
                                clear BK271
                                clear HB
                                have HO_6 := n0_
                                have BK271 := n1_
                                have HB := n2_
                                clear n0_ n1_ n2_
                                have p272 : 0 ≤ (((rd_T67 l1 x23_2).f0) : Int) := of_decide_eq_true (by first | (with_reducible assumption) | assumption)
                                have q272 : ((rd_T67 l1 x23_2).f0) < (x6_2.length : Int) := of_decide_eq_true (by first | (with_reducible assumption) | assumption)
                                obtain ⟨ad272, e272, hx272_0⟩ := Kd.at_int (Kd.R_reads' HO_6.out).2.2 ((rd_T67 l1 x23_2).f0) p272 q272
                                obtain rfl : (⟨go12, 0, none⟩ : Addr) = ad272 := (by injection e272)
                                (first | simp only [add_plain] at hx272_0 | simp only [add_at] at hx272_0 | simp only [Addr.add, Nat.zero_add] at hx272_0 | skip)
                                replace p272 := eq_true p272
                                replace q272 := eq_true q272
                                refine start_ (n := 15) (S := fun w' => w'.cell? ⟨gb271, 0, none⟩ = some (.int .i64 ((rd_T67 l1 x23_2).f0)) ∧ w'.cell? ⟨gb271, 1, none⟩ = some (.int .i64 ((rd_T67 l1 x23_2).f1)) ∧ w'.cell? ⟨gb271, 2, none⟩ = some (.int .i64 ((rd_T67 l1 x23_2).f2)) ∧ w'.cell? ⟨gb271, 3, none⟩ = some (.int .i64 ((rd_T67 l1 x23_2).f3)) ∧ w'.cell? ⟨go12, (((rd_T67 l1 x23_2).f0)).toNat, none⟩ = some (.int .i64 (rd x6_2 ((rd_T67 l1 x23_2).f0)))) (ds := [14]) #[false, false, false, false, false, false, false, false, false, false, false, false, false, false, false] (by kernel_rfl) rfl rfl ⟨(blk_cell BK271.out 0).trans rfl, (blk_cell BK271.out 1).trans rfl, (blk_cell BK271.out 2).trans rfl, (blk_cell BK271.out 3).trans rfl, hx272_0⟩ (fun hHeld => ?_); refine with_tabW impl_RunPlan.tab8 impl_RunPlan.bits8 (fun HT_ HW_ => ?_)
                                generalize w37.drew = w38 at HO_6 BK271 HB hx272_0 hHeld ⊢
                                refine pure_ (i := 0) (N := some 27) (v := ?_) (a' := ?_) #[true, false, false, false, false, false, false, false, false, false, false, false, false, false, false] rfl rfl (any_of HT_.out (by kernel_rfl)) (fun _ _ _ h => h) (Or.inl ⟨by rfl, ?_⟩) ?_ ?_
                                rotate_left
                                · intro w'
                                  go_simp
                                  with_reducible rfl
                                rotate_left
                                · simp only [Act.put, List.setIfInBounds_toArray, List.set_cons_zero, List.set_cons_succ, i64_w, i32_w]
                                  rfl
                                refine pure_ (i := 1) (N := some 28) (v := ?_) (a' := ?_) #[true, true, false, false, false, false, false, false, false, false, false, false, false, false, false] rfl rfl (any_of HT_.out (by kernel_rfl)) (fun _ _ _ h => h) (Or.inl ⟨by rfl, ?_⟩) ?_ ?_
                                rotate_left
                                · intro w'
                                  go_simp
                                  with_reducible rfl
                                rotate_left
                                · simp only [Act.put, List.setIfInBounds_toArray, List.set_cons_zero, List.set_cons_succ, i64_w, i32_w]
                                  rfl
                                refine pure_ (i := 3) (N := some 30) (v := ?_) (a' := ?_) #[true, true, false, true, false, false, false, false, false, false, false, false, false, false, false] rfl rfl (any_of HT_.out (by kernel_rfl)) (fun _ _ _ h => h) (Or.inl ⟨by rfl, ?_⟩) ?_ ?_
                                rotate_left
                                · intro w'
                                  go_simp
                                  with_reducible rfl
                                rotate_left
                                · simp only [Act.put, List.setIfInBounds_toArray, List.set_cons_zero, List.set_cons_succ, i64_w, i32_w]
                                  rfl
                                refine pure_ (i := 4) (N := some 31) (v := ?_) (a' := ?_) #[true, true, false, true, true, false, false, false, false, false, false, false, false, false, false] rfl rfl (any_of HT_.out (by kernel_rfl)) (fun _ _ _ h => h) (Or.inl ⟨by rfl, ?_⟩) ?_ ?_
                                rotate_left
                                · intro w'
                                  go_simp
                                  with_reducible rfl
                                rotate_left
                                · simp only [Act.put, List.setIfInBounds_toArray, List.set_cons_zero, List.set_cons_succ, i64_w, i32_w]
                                  rfl
                                refine pure_ (i := 8) (N := some 35) (v := ?_) (a' := ?_) #[true, true, false, true, true, false, false, false, true, false, false, false, false, false, false] rfl rfl (any_of HT_.out (by kernel_rfl)) (fun _ _ _ h => h) (Or.inl ⟨by rfl, ?_⟩) ?_ ?_
                                rotate_left
                                · intro w'
                                  go_simp
                                  with_reducible rfl
                                rotate_left
                                · simp only [Act.put, List.setIfInBounds_toArray, List.set_cons_zero, List.set_cons_succ, i64_w, i32_w]
                                  rfl
                                refine pure_ (i := 10) (N := some 37) (v := ?_) (a' := ?_) #[true, true, false, true, true, false, false, false, true, false, true, false, false, false, false] rfl rfl (any_of HT_.out (by kernel_rfl)) (fun _ _ _ h => h) (Or.inl ⟨by rfl, ?_⟩) ?_ ?_
                                rotate_left
                                · intro w'
                                  go_simp
                                  with_reducible rfl
                                rotate_left
                                · simp only [Act.put, List.setIfInBounds_toArray, List.set_cons_zero, List.set_cons_succ, i64_w, i32_w]
                                  rfl
                                refine take_ (i := 2) (N := some 29) (v := ?_) (a' := ?_) #[true, true, true, true, true, false, false, false, true, false, true, false, false, false, false] rfl rfl (take_ofW HT_.out HW_.out (by kernel_rfl)) (fun _ _ _ h => h) (Or.inl ⟨by rfl, ?_⟩) hHeld ?_ ?_
                                rotate_left
                                · rintro w' ⟨s0, s1, s2, s3, s4⟩
                                  go_simp
                                  with_reducible rfl
                                rotate_left
                                · simp only [Act.put, List.setIfInBounds_toArray, List.set_cons_zero, List.set_cons_succ, i64_w, i32_w]
                                  rfl
                                refine take_ (i := 5) (N := some 32) (v := ?_) (a' := ?_) #[true, true, true, true, true, true, false, false, true, false, true, false, false, false, false] rfl rfl (take_ofW HT_.out HW_.out (by kernel_rfl)) (fun _ _ _ h => h) (Or.inl ⟨by rfl, ?_⟩) hHeld ?_ ?_
                                rotate_left
                                · rintro w' ⟨s0, s1, s2, s3, s4⟩
                                  go_simp
                                  with_reducible rfl
                                rotate_left
                                · simp only [Act.put, List.setIfInBounds_toArray, List.set_cons_zero, List.set_cons_succ, i64_w, i32_w]
                                  rfl
                                refine pure_ (i := 6) (N := some 33) (v := ?_) (a' := ?_) #[true, true, true, true, true, true, true, false, true, false, true, false, false, false, false] rfl rfl (any_of HT_.out (by kernel_rfl)) (fun _ _ _ h => h) (Or.inl ⟨by rfl, ?_⟩) ?_ ?_
                                rotate_left
                                · intro w'
                                  go_simp
                                  with_reducible rfl
                                rotate_left
                                · simp only [Act.put, List.setIfInBounds_toArray, List.set_cons_zero, List.set_cons_succ, i64_w, i32_w]
                                  rfl
                                refine take_ (i := 7) (N := some 34) (v := ?_) (a' := ?_) #[true, true, true, true, true, true, true, true, true, false, true, false, false, false, false] rfl rfl (take_ofW HT_.out HW_.out (by kernel_rfl)) (fun _ _ _ h => h) (Or.inl ⟨by rfl, ?_⟩) hHeld ?_ ?_
                                rotate_left
                                · rintro w' ⟨s0, s1, s2, s3, s4⟩
                                  go_simp
                                  with_reducible rfl
                                rotate_left
                                · simp only [Act.put, List.setIfInBounds_toArray, List.set_cons_zero, List.set_cons_succ, i64_w, i32_w]
                                  rfl
                                refine take_ (i := 9) (N := some 36) (v := ?_) (a' := ?_) #[true, true, true, true, true, true, true, true, true, true, true, false, false, false, false] rfl rfl (take_ofW HT_.out HW_.out (by kernel_rfl)) (fun _ _ _ h => h) (Or.inl ⟨by rfl, ?_⟩) hHeld ?_ ?_
                                rotate_left
                                · rintro w' ⟨s0, s1, s2, s3, s4⟩
                                  go_simp
                                  with_reducible rfl
                                rotate_left
                                · simp only [Act.put, List.setIfInBounds_toArray, List.set_cons_zero, List.set_cons_succ, i64_w, i32_w]
                                  rfl
                                refine take_ (i := 11) (N := some 38) (v := ?_) (a' := ?_) #[true, true, true, true, true, true, true, true, true, true, true, true, false, false, false] rfl rfl (take_ofW HT_.out HW_.out (by kernel_rfl)) (fun _ _ _ h => h) (Or.inl ⟨by rfl, ?_⟩) hHeld ?_ ?_
                                rotate_left
                                · rintro w' ⟨s0, s1, s2, s3, s4⟩
                                  go_simp
                                  with_reducible rfl
                                rotate_left
                                · simp only [Act.put, List.setIfInBounds_toArray, List.set_cons_zero, List.set_cons_succ, i64_w, i32_w]
                                  rfl
                                refine one_ (i := 12) (N := some 39) #[true, true, true, true, true, true, true, true, true, true, true, true, true, false, false] rfl rfl (one_of HT_.out (by kernel_rfl)) (by decide) (fun K hK => ?_)
                                refine goes_ Try.func77 (by kernel_rfl) rfl #[.int .i64 (rd x6_2 ((rd_T67 l1 x23_2).f0)), .int .i64 ((rd_T67 l1 x23_2).f2), .int .i64 ((rd_T67 l1 x23_2).f3)] (by rfl) rfl rfl (by (try simp only [List.map_toArray, List.map_cons, List.map_nil]); first | done | rfl | (simp only [List.length_drop, List.length_take]; rfl)) ?_
                                with_reducible refine (impl_TunedPitch.calls k2 (rd x6_2 ((rd_T67 l1 x23_2).f0)) ((rd_T67 l1 x23_2).f2) ((rd_T67 l1 x23_2).f3) t273 _ A22.out).mono ?_
                                rintro e w39 ⟨rfl, hb⟩
                                have HS4_ := (hb.cell (World.block_lt_of_cell? _ _ (hHeld.2.2.2.2))).trans (hHeld.2.2.2.2)
                                refine ⟨_, rfl, ?_⟩
                                have n0_ := Aside0.mk (Kd.R_below (oR HO_6) hb)
                                have n1_ := Aside0.mk (blk_below (g := gb271) (o := .cells #[.int .i64 ((rd_T67 l1 x23_2).f0), .int .i64 ((rd_T67 l1 x23_2).f1), .int .i64 ((rd_T67 l1 x23_2).f2), .int .i64 ((rd_T67 l1 x23_2).f3)] 67 (0, 0)) (oK BK271) hb)
                                have n2_ := Aside0.mk (below_step (oB HB) hb)
                                clear HO_6
                                clear BK271
                                clear HB
                                have HO_6 := n0_
                                have BK271 := n1_
                                have HB := n2_
                                clear n0_ n1_ n2_
                                (try clear hb)
                                (try clear hb2)
                                (try clear hk)
                                (try clear hi)
                                have p25 : 0 ≤ (((rd_T67 l1 x23_2).f1) : Int) := of_decide_eq_true (by first | (with_reducible assumption) | assumption)
                                have q25 : (((rd_T67 l1 x23_2).f1) : Int) < ((x6_2.length : Int) : Int) := of_decide_eq_true (by first | (with_reducible assumption) | assumption)
                                obtain ⟨hx25_0, hf25_0⟩ := Kd.R_celln 0 HO_6.out (((rd_T67 l1 x23_2).f1) : Int) p25 q25
                                replace p25 := eq_true p25
                                replace q25 := eq_true q25
                                have HP40 := Kd.R_putn HO_6.out (((rd_T67 l1 x23_2).f1) : Int) t273
                                rw [← Ny274.out] at HP40
                                have HQ40 := Aside0.mk HP40
                                clear HP40
                                refine hK.out _ _ ⟨(blk_cell BK271.out 0).trans rfl, (blk_cell BK271.out 1).trans rfl, (blk_cell BK271.out 2).trans rfl, (blk_cell BK271.out 3).trans rfl, HS4_⟩ (fun hHeld => ?_)
                                clear hK K
                                refine norm_ (a' := ?_) ?_ ?_
                                rotate_left
                                · show Act.put _ (some 39) _ = _
                                  simp only [Act.put, List.setIfInBounds_toArray, List.set_cons_zero, List.set_cons_succ, i64_w, i32_w]
                                  rfl
                                refine pure_ (i := 13) (N := some 40) (v := ?_) (a' := ?_) #[true, true, true, true, true, true, true, true, true, true, true, true, true, true, false] rfl rfl (any_of HT_.out (by kernel_rfl)) (fun _ _ _ h => h) (Or.inl ⟨by rfl, ?_⟩) ?_ ?_
                                rotate_left
                                · intro w'
                                  go_simp
                                  with_reducible rfl
                                rotate_left
                                · simp only [Act.put, List.setIfInBounds_toArray, List.set_cons_zero, List.set_cons_succ, i64_w, i32_w]
                                  rfl
                                refine last_ (i := 14) (N := none) #[true, true, true, true, true, true, true, true, true, true, true, true, true, true, true] rfl rfl (one_of HT_.out (by kernel_rfl)) (by decide) (fun K hK => ?_)
                                refine skip_ (w1 := ?_) (by rfl) rfl ?_ ?_
                                rotate_left
                                · go_simp
                                  rfl
                                refine hK.out _ _ ?_
                                clear hK K
                                refine done_ (done_of HT_.out (by kernel_rfl)) ?_
                                have hcz41_0 : w39.cell? ⟨gb271, 0, none⟩ = some (.int .i64 ((rd_T67 l1 x23_2).f0)) := (blk_cell BK271.out 0).trans rfl
                                have hcz41_1 : w39.cell? ⟨gb271, 1, none⟩ = some (.int .i64 ((rd_T67 l1 x23_2).f1)) := (blk_cell BK271.out 1).trans rfl
                                have hcz41_2 : w39.cell? ⟨gb271, 2, none⟩ = some (.int .i64 ((rd_T67 l1 x23_2).f2)) := (blk_cell BK271.out 2).trans rfl
                                have hcz41_3 : w39.cell? ⟨gb271, 3, none⟩ = some (.int .i64 ((rd_T67 l1 x23_2).f3)) := (blk_cell BK271.out 3).trans rfl
                                have hfz41_0 := blk_frozen BK271.out 0
                                have hfz41_1 := blk_frozen BK271.out 1
                                have hfz41_2 := blk_frozen BK271.out 2
                                have hfz41_3 := blk_frozen BK271.out 3
                                have p26 : 0 ≤ (((rd_T67 l1 x23_2).f1) : Int) := of_decide_eq_true (by first | (with_reducible assumption) | assumption)
                                have q26 : (((rd_T67 l1 x23_2).f1) : Int) < ((x6_2.length : Int) : Int) := of_decide_eq_true (by first | (with_reducible assumption) | assumption)
                                have hcl_ : (((rd_T67 l1 x23_2).f1) : Int).toNat < x6_2.length := by omega
                                have hcm_ := (Kd.R_celln 0 HQ40.out (((rd_T67 l1 x23_2).f1) : Int) p26 (by have h9 := (Kd.R_reads' HO_6.out).1; omega)).1
                                rw [Ny274.out, show rdOf 0 (x6_2.set (((rd_T67 l1 x23_2).f1) : Int).toNat t273) (((rd_T67 l1 x23_2).f1) : Int) = t273 by simp [rdOf, List.getD_eq_getElem?_getD, hcl_]] at hcm_
                                clear hcl_
                                have hcn_ : (w39.setCell ⟨go12, (((rd_T67 l1 x23_2).f1) : Int).toNat, none⟩ (.int .i64 t273)).cell? ⟨gb271, 1, none⟩ = some (.int .i64 (((rd_T67 l1 x23_2).f1) : Int)) := (blk_cell (blk_far BK271.out (fun e_ => Kd.R_ne HO_6.out BK271.out (by decide) (by simp only [Value.ownBlock]; rw [e_])) _) 1).trans rfl
                                replace p26 := eq_true p26
                                replace q26 := eq_true q26
                                try go_wp2
                                (try simp only [← hl6_2])
                                go_roundg k2
                                case measure => have := HJ2.out; have := HK2.out; omega
                                case rel => exact ⟨(y274), (wrap64 (x23_2 + 1)), (by first | rfl | (simp; done) | (simp [*]; done)), H', ⟨by have := HJ2.out; have := HK2.out; omega⟩, ⟨by (try simp only [hl6_2]); (with_reducible repeat (first | apply Kd.R_alloc | apply Kd.R_drewN | apply Kd.R_drew)); exact HQ40.out⟩, ⟨oB HB⟩⟩
                            · rw [if_neg c24] at H
                              exact absurd H (by simp)
                          · rw [if_neg c23] at H
                            exact absurd H (by simp)
                        · rw [if_neg c21] at H
                          exact absurd H (by simp)
                      · rw [if_neg c20] at H
                        exact absurd H (by simp)
                    · rw [if_neg c19] at H
                      exact absurd H (by simp)
                  · rw [if_neg c18] at H
                    exact absurd H (by simp)
                · rw [if_neg c17] at H
                  have c17b0 : decide (x23_2 < (l1.length : Int)) = false := decide_eq_false c17
                  clear c17
                  simp only [Option.some.injEq, Prod.mk.injEq] at H
                  obtain ⟨rfl, rfl⟩ := H
                  go_wp2
                  go_ret2
                  exact ⟨_, by first | rfl | (simp [errW_none, errW_some] <;> rfl) | (simp [*, errW_none, errW_some] <;> rfl), oR HO_6, oB HB⟩
          · rw [if_neg c11] at H
            exact absurd H (by simp)
        · rw [if_neg c10] at H
          exact absurd H (by simp)
end Go.Proofs.Ytlhlmjklajdejaa.P

namespace Go.Proofs.Ytlhlmjklajdejaa.Q
set_option linter.unusedVariables false
set_option linter.unusedSimpArgs false
open Go.RowKit Go.Proofs.Ytlhlmjklajdejaa.P Go.Proofs.YtlhlmjklajdejaaW.PrintWords Go.Proofs.YtlhlmjklajdejaaW.PrintMore
theorem planGoS_eq (l : List S67) (t : List Bool) : planGoS l t = planGo l t := by
  induction l generalizing t with
  | nil => rfl
  | cons x r ih => simp only [planGoS, planGo, ih]; rfl
theorem planSpec_eq (l : List S67) : spec_PlanOk.f l = some (planOk l) := by
  show some (planOkS l) = some (planOk l)
  unfold planOkS planOk
  rw [planGoS_eq, Bool.and_comm]; rfl
theorem planImpl_eq (l : List S67) : impl_PlanOk.f l = some (planOk l) := rfl
def inKeys (x : S67) : Prop := 0 ≤ x.f0 ∧ x.f0 ≤ 11 ∧ 0 ≤ x.f1 ∧ x.f1 ≤ 11 ∧ x.f1 = (x.f0 + 1) % 12
theorem stepOk_in {x : S67} {t : List Bool} (h : stepOk x t = true) : inKeys x := by
  simp [stepOk] at h; unfold inKeys; omega
theorem planGo_in {l : List S67} {t : List Bool} (h : planGo l t = true) : ∀ x ∈ l, inKeys x := by
  induction l generalizing t with
  | nil => simp
  | cons y r ih =>
    simp only [planGo, Bool.and_eq_true] at h
    intro x hx
    rcases List.mem_cons.1 hx with rfl | hx
    · exact stepOk_in h.1
    · exact ih h.2 x hx
theorem planOk_in {l : List S67} (h : planOk l = true) : ∀ x ∈ l, inKeys x := by
  simp only [planOk, Bool.and_eq_true] at h; exact planGo_in h.2
theorem planOk_len {l : List S67} (h : planOk l = true) : l.length ≤ 11 := by
  simp only [planOk, Bool.and_eq_true, decide_eq_true_eq] at h; exact h.1
def runGo : List S67 → List Int → List Int × Bool
  | [], o => (o, true)
  | x :: r, o => if tunedPitch (o.getD x.f0.toNat 0) x.f2 x.f3 = 0 then ([], false) else runGo r (o.set x.f1.toNat (tunedPitch (o.getD x.f0.toNat 0) x.f2 x.f3))
def begun (a : Int) : List Int := a :: List.replicate 11 0
def runPlan (a : Int) (l : List S67) : List Int × Bool := if planOk l = true ∧ fine a = true then runGo l (begun a) else ([], false)
theorem rd_get (l : List Int) (i : Int) : rd l i = l.getD i.toNat 0 := rfl
theorem runPlan_impl (a : Int) (l : List S67) : Ev (fun n => impl_RunPlan.f n a l) (runPlan a l) := by
  have jt : Ev (fun n => impl_RunPlan.j0 n a l true) ([], false) := Ev.step (fun n => by rw [impl_RunPlan.j0]) (evp rfl (Ev.now _))
  unfold impl_RunPlan.f runPlan
  refine evb (planImpl_eq l) ?_
  by_cases hp : planOk l = true
  rotate_left
  · exact rneg (fun h => hp h.1) <| evn hp jt
  refine evp hp (evb (isFine_eq a) ?_)
  by_cases ha : fine a = true
  rotate_left
  · rw [show (!fine a) = true by simpa using ha]; exact rneg (fun h => ha h.2) jt
  rw [show (!fine a) = false by simpa using ha]
  refine rpos ⟨hp, ha⟩ ?_
  have hl := planOk_len hp
  have hin := planOk_in hp
  have key : ∀ i, i ≤ l.length → ∀ o : List Int, o.length = 12 → Ev (fun n => impl_RunPlan.l0 n o l (l.length : Int) (i : Int)) (runGo (l.drop i) o) := by
    refine down (n := l.length) ?_ ?_
    · intro o ho
      refine Ev.step (fun n => by rw [impl_RunPlan.l0]) (evn (by omega) (evs ?_))
      rw [drop_end]; rfl
    · intro i hi ih o ho
      obtain ⟨k0, k1, k2, k3, k4⟩ := hin l[i] (List.getElem_mem hi)
      refine Ev.step (fun n => by rw [impl_RunPlan.l0]) ?_
      refine evp (by omega) (evp (by omega) (evp (by omega) ?_))
      rw [rdS l i hi, drop_cons l i hi, runGo]
      refine evp k0 (evp (by omega) (Ev.bind (tuned_impl _ _ _) (evp k2 (evp (by omega) ?_))))
      rw [rd_get]
      by_cases hz : tunedPitch (o.getD l[i].f0.toNat 0) l[i].f2 l[i].f3 = 0
      · exact rpos hz <| evp hz (Ev.now _)
      refine rneg hz <| evn hz ?_
      rw [w64 (by omega) (by omega)]
      exact ih _ (by simpa using ho)
  refine Ev.step (fun n => by rw [impl_RunPlan.j0]) ?_
  refine evn (by decide) (evp (by decide) ?_)
  simp only [Option.bind_some]
  refine evp (by simp) ?_
  exact key 0 (Nat.zero_le _) _ (by simp)
theorem runPlan_spec (a : Int) (l : List S67) : Ev (fun n => spec_RunPlan.f n a l) (runPlan a l) := by
  have jt : Ev (fun n => spec_RunPlan.j0 n a l true) ([], false) := Ev.step (fun n => by rw [spec_RunPlan.j0]) (evp rfl (Ev.now _))
  unfold spec_RunPlan.f runPlan
  refine evb (planSpec_eq l) ?_
  by_cases hp : planOk l = true
  rotate_left
  · exact rneg (fun h => hp h.1) <| evn hp jt
  refine evp hp (evb (pitch_eq a) ?_)
  by_cases ha : fine a = true
  rotate_left
  · rw [show (!fine a) = true by simpa using ha]; exact rneg (fun h => ha h.2) jt
  rw [show (!fine a) = false by simpa using ha]
  refine rpos ⟨hp, ha⟩ ?_
  have hl := planOk_len hp
  have hin := planOk_in hp
  have key : ∀ i, i ≤ l.length → ∀ o : List Int, o.length = 12 → Ev (fun n => spec_RunPlan.l0 n l o (i : Int)) (runGo (l.drop i) o) := by
    refine down (n := l.length) ?_ ?_
    · intro o ho
      refine Ev.step (fun n => by rw [spec_RunPlan.l0]) (evn (by omega) (evs ?_))
      rw [drop_end]; rfl
    · intro i hi ih o ho
      obtain ⟨k0, k1, k2, k3, k4⟩ := hin l[i] (List.getElem_mem hi)
      refine Ev.step (fun n => by rw [spec_RunPlan.l0]) ?_
      refine evp (by omega) (evp (by omega) ?_)
      rw [rdS l i hi, drop_cons l i hi, runGo]
      refine evp k0 (evp (by omega) (Ev.bind (tuned_spec _ _ _) ?_))
      rw [rd_get]
      by_cases hz : tunedPitch (o.getD l[i].f0.toNat 0) l[i].f2 l[i].f3 = 0
      · exact rpos hz <| evp hz (Ev.now _)
      refine rneg hz <| evn hz (evp k2 (evp (by omega) ?_))
      rw [w64 (by omega) (by omega)]
      exact ih _ (by simpa using ho)
  refine Ev.step (fun n => by rw [spec_RunPlan.j0]) ?_
  refine evn (by decide) (evp (by decide) ?_)
  simp only [Option.bind_some]
  refine evp (by simp) ?_
  exact key 0 (Nat.zero_le _) _ (by simp)
theorem runGo_len {l : List S67} {o : List Int} (h : (runGo l o).2 = true) : (runGo l o).1.length = o.length := by
  induction l generalizing o with
  | nil => rfl
  | cons x r ih =>
    unfold runGo at h ⊢
    split at h
    · exact absurd h (by simp)
    · rw [if_neg (by assumption), ih h, List.length_set]
theorem runPlan_len {a : Int} {l : List S67} (h : (runPlan a l).2 = true) : (runPlan a l).1.length = 12 := by
  unfold runPlan at h ⊢
  split at h
  · rw [if_pos (by assumption), runGo_len h]; rfl
  · exact absurd h (by simp)
end Go.Proofs.Ytlhlmjklajdejaa.Q

namespace Go.Proofs.Ytlhlmjklajdejaa.Q
set_option linter.unusedVariables false
set_option linter.unusedSimpArgs false
open Go.RowKit Go.Proofs.Ytlhlmjklajdejaa.P Go.Proofs.YtlhlmjklajdejaaW.PrintWords Go.Proofs.YtlhlmjklajdejaaW.PrintMore
def stepTo (c : Int) : List S67 → Nat → Int
  | [], _ => -1
  | x :: r, j => if x.f1 = c then (j : Int) else stepTo c r (j + 1)
theorem stepTo_ev (l : List S67) (c : Int) (hl : l.length ≤ 4000000) : Ev (fun n => spec_l20Step.f n l c) (stepTo c l 0) := by
  have key : ∀ i, i ≤ l.length → Ev (fun n => spec_l20Step.l0 n l c (i : Int)) (stepTo c (l.drop i) i) := by
    refine down (n := l.length) ?_ ?_
    · refine Ev.step (fun n => by rw [spec_l20Step.l0]) (evn (by omega) (evs ?_))
      rw [drop_end]; rfl
    · intro i hi ih
      refine Ev.step (fun n => by rw [spec_l20Step.l0]) ?_
      refine evp (by omega) (evp (by omega) ?_)
      rw [rdS l i hi, drop_cons l i hi, stepTo]
      by_cases h : l[i].f1 = c
      · exact rpos h <| evp h (Ev.now _)
      · refine rneg h <| evn h ?_
        rw [w64 (by omega) (by omega)]
        exact ih
  exact key 0 (Nat.zero_le _)
theorem stepTo_lt (c : Int) (l : List S67) (j d : Nat) : (0 ≤ stepTo c l j ∧ stepTo c l j < ((j + d : Nat) : Int)) ↔ ∃ x ∈ l.take d, x.f1 = c := by
  induction l generalizing j d with
  | nil => simp [stepTo]
  | cons x r ih =>
    unfold stepTo
    cases d with
    | zero =>
      simp only [List.take_zero, List.not_mem_nil, false_and, exists_false, iff_false]
      by_cases h : x.f1 = c
      · rw [if_pos h]; omega
      · rw [if_neg h]
        have := ih (j + 1) 0
        simp at this
        have h1 := this
        intro h2
        have : ∀ (l : List S67) (j : Nat), stepTo c l j = -1 ∨ (j : Int) ≤ stepTo c l j := by
          intro l
          induction l with
          | nil => intro j; exact .inl rfl
          | cons y s ih2 =>
            intro j; unfold stepTo; split
            · exact .inr (Int.le_refl _)
            · rcases ih2 (j + 1) with h | h
              · exact .inl h
              · exact .inr (by omega)
        rcases this r (j + 1) with h3 | h3 <;> omega
    | succ d =>
      rw [List.take_succ_cons]
      by_cases h : x.f1 = c
      · rw [if_pos h]
        exact ⟨fun _ => ⟨x, List.mem_cons_self, h⟩, fun _ => ⟨by omega, by omega⟩⟩
      · rw [if_neg h]
        have := ih (j + 1) d
        rw [show j + 1 + d = j + (d + 1) by omega] at this
        rw [this]
        constructor
        · rintro ⟨y, hy, e⟩; exact ⟨y, List.mem_cons_of_mem _ hy, e⟩
        · rintro ⟨y, hy, e⟩
          rcases List.mem_cons.1 hy with rfl | hy
          · exact absurd e h
          · exact ⟨y, hy, e⟩
theorem tunedBy_len (l : List S67) (t : List Bool) : (P.tunedBy l t).length = t.length := by
  unfold P.tunedBy
  induction l generalizing t with
  | nil => rfl
  | cons x r ih => rw [List.foldl_cons, ih, List.length_set]
theorem tunedBy_get (l : List S67) (t : List Bool) (hin : ∀ x ∈ l, 0 ≤ x.f1) (c : Nat) (hc : c < t.length) : (P.tunedBy l t)[c]? = some (t[c] || l.any (fun x => decide (x.f1 = (c : Int)))) := by
  unfold P.tunedBy
  induction l generalizing t with
  | nil => simp [hc]
  | cons x r ih =>
    rw [List.foldl_cons, ih _ (fun y hy => hin y (List.mem_cons_of_mem _ hy)) (by simpa using hc)]
    have := hin x List.mem_cons_self
    simp only [List.any_cons, List.getElem_set]
    by_cases h : x.f1 = (c : Int)
    · rw [if_pos (by omega)]; simp [h]
    · rw [if_neg (by omega)]; simp [h]
theorem workOk_spec (p : List S67) (d : Int) (q : List Int) : Ev (fun n => spec_WorkOk.f n p d q) (workOk p d q) := by
  have jt : Ev (fun n => spec_WorkOk.j0 n true p d q) false := Ev.step (fun n => by rw [spec_WorkOk.j0]) (evp rfl (Ev.now _))
  unfold spec_WorkOk.f workOk
  refine evb (planSpec_eq p) ?_
  by_cases hp : planOk p = true
  rotate_left
  · rw [show planOk p = false by simpa using hp, Bool.false_and]; exact evn (by simp) jt
  refine evp hp (evb (l01In_eq _ _ _) ?_)
  rw [hp, Bool.true_and]
  by_cases hd : 0 ≤ d ∧ d ≤ (p.length : Int)
  rotate_left
  · rw [decide_eq_false hd, Bool.false_and]; exact evn (by simp) jt
  rw [decide_eq_true hd, Bool.true_and]
  refine evp rfl ?_
  by_cases hq : q.length = 12
  rotate_left
  · rw [decide_eq_false hq, Bool.false_and, show ((q.length : Int) != 12) = true by simpa using (show ¬ (q.length : Int) = 12 by omega)]; exact jt
  rw [decide_eq_true hq, Bool.true_and, show ((q.length : Int) != 12) = false by simpa using (show (q.length : Int) = 12 by omega)]
  have hl := planOk_len hp
  have hin := planOk_in hp
  obtain ⟨T, hT⟩ : ∃ T, P.tunedBy (p.take d.toNat) tuned0 = T := ⟨_, rfl⟩
  have hTl : T.length = 12 := by rw [← hT, tunedBy_len]; rfl
  have hTi : ∀ c : Nat, (hc : c < T.length) → T[c] = (decide (c = 0) || decide (0 ≤ stepTo (c : Int) p 0 ∧ stepTo (c : Int) p 0 < d)) := by
    intro c hc
    have h1 := tunedBy_get (p.take d.toNat) tuned0 (fun x hx => (hin x (List.mem_of_mem_take hx)).2.2.1) c (show c < 12 by omega)
    rw [hT, List.getElem?_eq_getElem hc] at h1
    rw [Option.some.inj h1]
    congr 1
    · have : ∀ c, (h : c < tuned0.length) → tuned0[c] = decide (c = 0) := by decide
      exact this c _
    · have h2 := stepTo_lt (c : Int) p 0 d.toNat
      rw [Nat.zero_add, Int.toNat_of_nonneg hd.1] at h2
      rw [Bool.eq_iff_iff, decide_eq_true_iff, h2]
      simp
  rw [hT]
  have key : ∀ i : Nat, i ≤ 12 → Ev (fun n => spec_WorkOk.l0 n (i : Int) p d q) (keyGo (T.drop i) (q.drop i)) := by
    refine down (n := 12) ?_ ?_
    · refine Ev.step (fun n => by rw [spec_WorkOk.l0]) (evn (by omega) (evs ?_))
      rw [List.drop_eq_nil_of_le (by omega)]; rfl
    · intro i hi ih
      refine Ev.step (fun n => by rw [spec_WorkOk.l0]) ?_
      refine evp (by omega) (Ev.bind (stepTo_ev p _ (by omega)) ?_)
      rw [rd_nat q i (by omega), drop_cons T i (by omega), drop_cons q i (by omega), keyGo, hTi i (by omega), w64 (n := (i : Int) + 1) (by omega) (by omega)]
      have fin : ∀ v : Bool, Ev (fun n => (spec_l18Pitch.f q[i]).bind fun t => if t = true then spec_WorkOk.l0 n (((i + 1 : Nat)) : Int) p d q else some false) (decide (1 ≤ q[i] ∧ q[i] ≤ 10000000) && keyGo (T.drop (i + 1)) (q.drop (i + 1))) := by
        intro v
        refine evb (pitch_eq _) ?_
        by_cases hf : fine q[i] = true
        · rw [show decide (1 ≤ q[i] ∧ q[i] ≤ 10000000) = true from hf, Bool.true_and]; exact evp hf ih
        · rw [show decide (1 ≤ q[i] ∧ q[i] ≤ 10000000) = false by simpa [fine] using hf, Bool.false_and]; exact evn hf (Ev.now _)
      have zer : Ev (fun n => if 0 ≤ (i : Int) then (if (i : Int) < (q.length : Int) then (if q[i] = 0 then spec_WorkOk.l0 n (((i + 1 : Nat)) : Int) p d q else some false) else none) else none) (decide (q[i] = 0) && keyGo (T.drop (i + 1)) (q.drop (i + 1))) := by
        refine evp (by omega) (evp (by omega) ?_)
        by_cases hz : q[i] = 0
        · rw [decide_eq_true hz, Bool.true_and]; exact evp hz ih
        · rw [decide_eq_false hz, Bool.false_and]; exact evn hz (Ev.now _)
      by_cases h0 : i = 0
      · refine evp (by omega) (evp (by omega) (evp (by omega) ?_))
        rw [decide_eq_true h0, Bool.true_or, if_pos rfl]
        exact fin true
      refine evn (by omega) ?_
      rw [decide_eq_false h0, Bool.false_or]
      by_cases h1 : 0 ≤ stepTo (i : Int) p 0
      rotate_left
      · rw [decide_eq_false (fun h => h1 h.1), if_neg (by simp)]; exact evn (by omega) zer
      refine evp (by omega) ?_
      by_cases h2 : stepTo (i : Int) p 0 < d
      · rw [decide_eq_true ⟨h1, h2⟩, if_pos rfl]; exact evp h2 (evp (by omega) (evp (by omega) (fin true)))
      · rw [decide_eq_false (fun h => h2 h.2), if_neg (by simp)]; exact evn h2 zer
  refine Ev.step (fun n => by rw [spec_WorkOk.j0]) (evn (by decide) ?_)
  exact key 0 (by omega)
theorem workImpl_eq (p : List S67) (d : Int) (q : List Int) : impl_WorkOk.f p d q = some (workOk p d q) := rfl
theorem workOk_plan {p : List S67} {d : Int} {q : List Int} (h : workOk p d q = true) : planOk p = true := by
  simp only [workOk, Bool.and_eq_true] at h; exact h.1
theorem workOk_done {p : List S67} {d : Int} {q : List Int} (h : workOk p d q = true) : 0 ≤ d ∧ d ≤ p.length := by
  simp only [workOk, Bool.and_eq_true, decide_eq_true_eq] at h; exact h.2.1
theorem workOk_len {p : List S67} {d : Int} {q : List Int} (h : workOk p d q = true) : q.length = 12 := by
  simp only [workOk, Bool.and_eq_true, decide_eq_true_eq] at h; exact h.2.2.1
end Go.Proofs.Ytlhlmjklajdejaa.Q

namespace Go.Proofs.Ytlhlmjklajdejaa.Q
set_option linter.unusedVariables false
set_option linter.unusedSimpArgs false
open Go.RowKit Go.Proofs.Ytlhlmjklajdejaa.P Go.Proofs.YtlhlmjklajdejaaW.PrintWords Go.Proofs.YtlhlmjklajdejaaW.PrintMore
def tuneAt (p : List S67) (q : List Int) (i : Nat) : Int := tunedPitch (q.getD (p.getD i z67).f0.toNat 0) (p.getD i z67).f2 (p.getD i z67).f3
theorem getS (p : List S67) (i : Nat) (hi : i < p.length) : p.getD i z67 = p[i] := by simp [List.getD_eq_getElem?_getD, hi]
theorem tunedBy_ev (p : List S67) (d : Int) (q : List Int) (i : Nat) (hp : planOk p = true) (hq : q.length = 12) (hi : i < p.length) : Ev (fun n => impl_tunedBy.f n p d q (i : Int)) (tuneAt p q i) := by
  obtain ⟨k0, k1, k2, k3, k4⟩ := planOk_in hp p[i] (List.getElem_mem hi)
  unfold impl_tunedBy.f tuneAt
  rw [getS p i hi, rdS p i hi]
  refine evp (by omega) (evp (by omega) (evp k0 (evp (by omega) (Ev.bind (tuned_impl _ _ _) (Ev.now _)))))
end Go.Proofs.Ytlhlmjklajdejaa.Q

namespace Go.Proofs.Ytlhlmjklajdejaa.Q
set_option linter.unusedVariables false
set_option linter.unusedSimpArgs false
open Go.RowKit Go.Proofs.Ytlhlmjklajdejaa.P Go.Proofs.YtlhlmjklajdejaaW.PrintWords Go.Proofs.YtlhlmjklajdejaaW.PrintMore
def isBad (p : List S67) (q : List Int) (i : Nat) : Bool := decide (q.getD (p.getD i z67).f1.toNat 0 ≠ tuneAt p q i)
def wrongs (p : List S67) (q : List Int) (l : List Nat) : List Int := (l.filter (isBad p q)).map (fun (i : Nat) => (i : Int))
def wrongSteps (p : List S67) (d : Int) (q : List Int) : List Int := if workOk p d q = true then wrongs p q (List.range d.toNat) else []
theorem wrongs_cons (p : List S67) (q : List Int) (i : Nat) (l : List Nat) : wrongs p q (i :: l) = if isBad p q i = true then (i : Int) :: wrongs p q l else wrongs p q l := by
  unfold wrongs; rw [List.filter_cons]; split <;> rfl
theorem wrong_impl (p : List S67) (d : Int) (q : List Int) : Ev (fun n => impl_WrongSteps.f n p d q) (wrongSteps p d q) := by
  unfold impl_WrongSteps.f wrongSteps
  refine evb (workImpl_eq p d q) ?_
  by_cases h : workOk p d q = true
  rotate_left
  · exact rneg h <| evn h (Ev.now _)
  have hp := workOk_plan h; have hd := workOk_done h; have hq := workOk_len h; have hl := planOk_len hp
  obtain ⟨m, rfl⟩ := Int.eq_ofNat_of_zero_le hd.1
  refine rpos h <| evp h (evp hd.1 (evp hd.2 ?_))
  simp only [Option.bind_some, Int.toNat_natCast]
  have key : ∀ i, i ≤ m → ∀ acc : List Int, acc.length ≤ i → Ev (fun n => impl_WrongSteps.l0 n acc (p.take m) ((p.take m).length : Int) (i : Int) p m q) (acc ++ wrongs p q ((List.range m).drop i)) := by
    refine down (n := m) ?_ ?_
    · intro acc ha
      refine Ev.step (fun n => by rw [impl_WrongSteps.l0]) (evn (by rw [List.length_take]; omega) (evs ?_))
      rw [List.drop_eq_nil_of_le (by simp)]; simp [wrongs]
    · intro i hi ih acc ha
      obtain ⟨k0, k1, k2, k3, k4⟩ := planOk_in hp p[i] (List.getElem_mem (by omega))
      have e : (p.take m)[i]'(by rw [List.length_take]; omega) = p[i] := by simp
      refine Ev.step (fun n => by rw [impl_WrongSteps.l0]) ?_
      refine evp (by rw [List.length_take]; omega) (evp (by omega) (evp (by rw [List.length_take]; omega) ?_))
      rw [rdS (p.take m) i (by rw [List.length_take]; omega), e]
      refine evp k2 (evp (by omega) (Ev.bind (tunedBy_ev p _ q i hp hq (by omega)) ?_))
      rw [drop_cons _ i (by simpa using hi), List.getElem_range, rd_get, w64 (n := (i : Int) + 1) (by omega) (by omega)]
      have g := getS p i (by omega)
      have eb : isBad p q i = decide (q.getD p[i].f1.toNat 0 ≠ tuneAt p q i) := by unfold isBad; rw [g]
      by_cases hb : q.getD p[i].f1.toNat 0 = tuneAt p q i
      · rw [show wrongs p q (i :: (List.range m).drop (i + 1)) = wrongs p q ((List.range m).drop (i + 1)) by rw [wrongs_cons, eb, if_neg (by simp only [decide_eq_true_eq]; exact fun h => h hb)]]
        refine evp hb ?_
        exact ih acc (by omega)
      · rw [show wrongs p q (i :: (List.range m).drop (i + 1)) = (i : Int) :: wrongs p q ((List.range m).drop (i + 1)) by rw [wrongs_cons, eb, if_pos (by simp only [decide_eq_true_eq]; exact hb)]]
        refine evn hb (evp (by omega) ?_)
        have := ih (acc ++ [(i : Int)]) (by simp; omega)
        rw [List.append_assoc] at this
        exact this
  have := key 0 (Nat.zero_le _) [] (Nat.le_refl _)
  simpa using this
theorem wrong_spec (p : List S67) (d : Int) (q : List Int) : Ev (fun n => spec_WrongSteps.f n p d q) (wrongSteps p d q) := by
  unfold spec_WrongSteps.f wrongSteps
  simp only [Option.bind_some]
  refine Ev.bind (workOk_spec p d q) ?_
  by_cases h : workOk p d q = true
  rotate_left
  · exact rneg h <| evn h (Ev.now _)
  have hp := workOk_plan h; have hd := workOk_done h; have hq := workOk_len h; have hl := planOk_len hp
  obtain ⟨m, rfl⟩ := Int.eq_ofNat_of_zero_le hd.1
  refine rpos h <| evp h ?_
  simp only [Int.toNat_natCast]
  have key : ∀ i, i ≤ m → ∀ acc : List Int, acc.length ≤ i → Ev (fun n => spec_WrongSteps.l0 n acc (i : Int) p m q) (acc ++ wrongs p q ((List.range m).drop i)) := by
    refine down (n := m) ?_ ?_
    · intro acc ha
      refine Ev.step (fun n => by rw [spec_WrongSteps.l0]) (evn (by omega) (evs ?_))
      rw [List.drop_eq_nil_of_le (by simp)]; simp [wrongs]
    · intro i hi ih acc ha
      obtain ⟨k0, k1, k2, k3, k4⟩ := planOk_in hp p[i] (List.getElem_mem (by omega))
      refine Ev.step (fun n => by rw [spec_WrongSteps.l0]) ?_
      refine evp (by omega) (evp (by omega) (evp (by omega) ?_))
      rw [rdS p i (by omega)]
      refine evp k2 (evp (by omega) (evp k0 (evp (by omega) (Ev.bind (tuned_spec _ _ _) ?_))))
      rw [drop_cons _ i (by simpa using hi), List.getElem_range, rd_get, rd_get, w64 (n := (i : Int) + 1) (by omega) (by omega)]
      have g := getS p i (by omega)
      have eb : isBad p q i = decide (q.getD p[i].f1.toNat 0 ≠ tuneAt p q i) := by unfold isBad; rw [g]
      by_cases hb : q.getD p[i].f1.toNat 0 = tuneAt p q i
      · rw [show wrongs p q (i :: (List.range m).drop (i + 1)) = wrongs p q ((List.range m).drop (i + 1)) by rw [wrongs_cons, eb, if_neg (by simp only [decide_eq_true_eq]; exact fun h => h hb)]]
        refine evp (by rw [hb]; unfold tuneAt; rw [g]) ?_
        exact ih acc (by omega)
      · rw [show wrongs p q (i :: (List.range m).drop (i + 1)) = (i : Int) :: wrongs p q ((List.range m).drop (i + 1)) by rw [wrongs_cons, eb, if_pos (by simp only [decide_eq_true_eq]; exact hb)]]
        refine evn (by unfold tuneAt at hb; rw [g] at hb; exact hb) (evp (by omega) ?_)
        have := ih (acc ++ [(i : Int)]) (by simp; omega)
        rw [List.append_assoc] at this
        exact this
  have := key 0 (Nat.zero_le _) [] (Nat.le_refl _)
  simpa using this
theorem wrongs_len (p : List S67) (q : List Int) (l : List Nat) : (wrongs p q l).length ≤ l.length := by
  unfold wrongs; rw [List.length_map]; exact List.length_filter_le _ _
theorem wrongSteps_len (p : List S67) (d : Int) (q : List Int) : (wrongSteps p d q).length ≤ 11 := by
  unfold wrongSteps
  by_cases h : workOk p d q = true
  · rw [if_pos h]
    have := wrongs_len p q (List.range d.toNat); have h2 := planOk_len (workOk_plan h); have h3 := workOk_done h
    rw [List.length_range] at this; omega
  · rw [if_neg h]; simp
end Go.Proofs.Ytlhlmjklajdejaa.Q

namespace Go.Proofs.Ytlhlmjklajdejaa.Q
set_option linter.unusedVariables false
set_option linter.unusedSimpArgs false
open Go.RowKit Go.Proofs.Ytlhlmjklajdejaa.P Go.Proofs.YtlhlmjklajdejaaW.PrintWords Go.Proofs.YtlhlmjklajdejaaW.PrintMore
theorem copyPlan_eq (p : List S67) (hp : p.length ≤ 4000000) : impl_copyPlan.f p = some p := by
  unfold impl_copyPlan.f; simp only [Option.bind_some]; rw [if_pos (by simp; omega)]; simp
theorem l19Copy_eq (p : List S67) (hp : p.length ≤ 4000000) : spec_l19Copy.f p = some p := by
  unfold spec_l19Copy.f; simp only [Option.bind_some]; rw [if_pos (by simp; omega)]; simp
theorem l02Copy_eq (p : List Int) (hp : p.length ≤ 4000000) : spec_l02Copy.f p = some p := by
  unfold spec_l02Copy.f; simp only [Option.bind_some]; rw [if_pos (by simp; omega)]; simp
theorem copyWork_eq (p : List S67) (d : Int) (q : List Int) (hp : p.length ≤ 4000000) (hq : q.length ≤ 4000000) : impl_copyWork.f p d q = some (p, d, q) := by
  unfold impl_copyWork.f; rw [copyPlan_eq p hp]; simp only [Option.bind_some]; rw [if_pos (by simp; omega)]; simp
theorem l36Copy_eq (p : List S67) (d : Int) (q : List Int) (hp : p.length ≤ 4000000) (hq : q.length ≤ 4000000) : spec_l36Copy.f p d q = some (p, d, q) := by
  unfold spec_l36Copy.f; rw [l19Copy_eq p hp]; simp only [Option.bind_some]; rw [l02Copy_eq q hq]; rfl
end Go.Proofs.Ytlhlmjklajdejaa.Q

namespace Go.Proofs.Ytlhlmjklajdejaa.Q
set_option linter.unusedVariables false
set_option linter.unusedSimpArgs false
open Go.RowKit Go.Proofs.Ytlhlmjklajdejaa.P Go.Proofs.YtlhlmjklajdejaaW.PrintWords Go.Proofs.YtlhlmjklajdejaaW.PrintMore
def mendStep (p : List S67) (d : Int) (q : List Int) : List S67 × Int × List Int × Bool :=
  match wrongSteps p d q with
  | [] => (p, d, q, false)
  | i :: _ => if tuneAt p q i.toNat = 0 then (p, d, q, false) else (p, d, q.set (p.getD i.toNat z67).f1.toNat (tuneAt p q i.toNat), true)
theorem wrongSteps_head {p : List S67} {d : Int} {q : List Int} {i : Int} {r : List Int} (h : wrongSteps p d q = i :: r) : workOk p d q = true ∧ ∃ j : Nat, i = j ∧ (j : Int) < d ∧ j < p.length := by
  unfold wrongSteps at h
  by_cases hw : workOk p d q = true
  rotate_left
  · rw [if_neg hw] at h; exact absurd h (by simp)
  rw [if_pos hw] at h
  refine ⟨hw, ?_⟩
  have hi : i ∈ wrongs p q (List.range d.toNat) := by rw [h]; exact List.mem_cons_self
  unfold wrongs at hi
  obtain ⟨j, hj, rfl⟩ := List.mem_map.1 hi
  have hd := workOk_done hw
  have := List.mem_range.1 (List.mem_filter.1 hj).1
  exact ⟨j, rfl, by omega, by omega⟩
theorem mend_impl (p : List S67) (d : Int) (q : List Int) (hp : p.length ≤ 4000000) (hq : q.length ≤ 4000000) : Ev (fun n => impl_MendStep.f n p d q) (mendStep p d q) := by
  unfold impl_MendStep.f mendStep
  refine evb (copyWork_eq p d q hp hq) (Ev.bind (wrong_impl p d q) ?_)
  cases h : wrongSteps p d q with
  | nil => exact evp rfl (Ev.now _)
  | cons i r =>
    obtain ⟨hw, j, rfl, hj, hj2⟩ := wrongSteps_head h
    have hp := workOk_plan hw; have hq := workOk_len hw
    obtain ⟨k0, k1, k2, k3, k4⟩ := planOk_in hp p[j] (List.getElem_mem hj2)
    refine evn (by simp; omega) (evp (by simp) ?_)
    rw [show rd ((j : Int) :: r) 0 = (j : Int) from rfl]
    refine Ev.bind (tunedBy_ev p d q j hp hq hj2) ?_
    simp only [Int.toNat_natCast]
    by_cases hz : tuneAt p q j = 0
    · exact rpos hz <| evp hz (Ev.now _)
    refine rneg hz <| evn hz (evp (by omega) (evp (by omega) ?_))
    rw [rdS p j hj2, getS p j hj2]
    exact evp k2 (evp (by omega) (Ev.now _))
theorem mend_spec (p : List S67) (d : Int) (q : List Int) (hp : p.length ≤ 4000000) (hq : q.length ≤ 4000000) : Ev (fun n => spec_MendStep.f n p d q) (mendStep p d q) := by
  unfold spec_MendStep.f mendStep
  refine evb (l36Copy_eq p d q hp hq) (Ev.bind (wrong_spec p d q) ?_)
  cases h : wrongSteps p d q with
  | nil => exact evp rfl (Ev.now _)
  | cons i r =>
    obtain ⟨hw, j, rfl, hj, hj2⟩ := wrongSteps_head h
    have hp := workOk_plan hw; have hq := workOk_len hw
    obtain ⟨k0, k1, k2, k3, k4⟩ := planOk_in hp p[j] (List.getElem_mem hj2)
    refine evn (by simp; omega) (evp (by simp) ?_)
    rw [show rd ((j : Int) :: r) 0 = (j : Int) from rfl]
    refine evp (by omega) (evp (by omega) ?_)
    rw [rdS p j hj2]
    refine evp k0 (evp (by omega) (Ev.bind (tuned_spec _ _ _) ?_))
    rw [rd_get]
    have et : tunedPitch (q.getD p[j].f0.toNat 0) p[j].f2 p[j].f3 = tuneAt p q j := by unfold tuneAt; rw [getS p j hj2]
    simp only [Int.toNat_natCast]
    rw [et, getS p j hj2]
    by_cases hz : tuneAt p q j = 0
    · exact rpos hz <| evp hz (Ev.now _)
    exact rneg hz <| evn hz (evp k2 (evp (by omega) (Ev.now _)))
theorem mendStep_len (p : List S67) (d : Int) (q : List Int) : (mendStep p d q).1 = p ∧ (mendStep p d q).2.1 = d ∧ (mendStep p d q).2.2.1.length = q.length := by
  unfold mendStep; split
  · exact ⟨rfl, rfl, rfl⟩
  · split
    · exact ⟨rfl, rfl, rfl⟩
    · exact ⟨rfl, rfl, by simp⟩
end Go.Proofs.Ytlhlmjklajdejaa.Q

namespace Go.Proofs.Ytlhlmjklajdejaa.Q
set_option linter.unusedVariables false
set_option linter.unusedSimpArgs false
open Go.RowKit Go.Proofs.Ytlhlmjklajdejaa.P Go.Proofs.YtlhlmjklajdejaaW.PrintWords Go.Proofs.YtlhlmjklajdejaaW.PrintMore
theorem toIntS_ev (l : List Int) (hl : l.length ≤ 1048576) : Ev (fun k => laws_toIntS.f k l) l := by
  have key : ∀ i, i ≤ l.length → ∀ acc : List Int, acc.length = l.length → Ev (fun k => laws_toIntS.l0 k l acc (i : Int)) (acc.take i ++ l.drop i) := by
    refine down (n := l.length) ?_ ?_
    · intro acc ha
      refine Ev.step (fun k => by rw [laws_toIntS.l0]) (evn (by omega) (evs ?_))
      rw [drop_end, List.append_nil, List.take_of_length_le (by omega)]
    · intro i hi ih acc ha
      refine Ev.step (fun k => by rw [laws_toIntS.l0]) (evp (by omega) (evp (by omega) (evp (by omega) ?_)))
      rw [w64 (by omega) (by omega), rd_nat l i hi, Int.toNat_natCast]
      have := ih (acc.set i l[i]) (by simpa using ha)
      rw [set_take _ _ _ (by omega), List.append_assoc] at this
      rw [drop_cons l i hi]
      exact this
  have := key 0 (Nat.zero_le _) (List.replicate l.length 0) (by simp)
  unfold laws_toIntS.f
  refine evp (by omega) (evp (by omega) ?_)
  simpa using this
theorem eqIntS_ev (l : List Int) (hl : l.length ≤ 9000000000000000000) : Ev (fun k => laws_eqIntS.f k l l) true := by
  have key : ∀ i, i ≤ l.length → Ev (fun k => laws_eqIntS.l0 k l l (i : Int)) true := by
    refine down (n := l.length) ?_ ?_
    · exact Ev.step (fun k => by rw [laws_eqIntS.l0]) (evn (by omega) (evs rfl))
    · intro i hi ih
      refine Ev.step (fun k => by rw [laws_eqIntS.l0]) (evp (by omega) (evp (by omega) (evp (by omega) (evp rfl ?_))))
      rw [w64 (by omega) (by omega)]
      exact ih
  unfold laws_eqIntS.f
  exact evp rfl (key 0 (Nat.zero_le _))
def runs (k : Int) (n : Nat) : List Int := (List.range n).map (fun (j : Nat) => k + j)
theorem runs_len (k : Int) (n : Nat) : (runs k n).length = n := by simp [runs]
theorem markIntS_ev (l : List Int) (m : Int) (h0 : 0 ≤ m) (hm : m + l.length ≤ 4000000000000000000) : Ev (fun k => laws_markIntS.f k l m) (m + l.length, runs m l.length) := by
  have key : ∀ i, i ≤ l.length → ∀ acc : List Int, acc.length = l.length → acc.take i = runs m i → Ev (fun k => laws_markIntS.l0 k acc (m + i) (i : Int)) (m + l.length, runs m l.length) := by
    refine down (n := l.length) ?_ ?_
    · intro acc ha ht
      refine Ev.step (fun k => by rw [laws_markIntS.l0]) (evn (by omega) (evs ?_))
      rw [← ht, List.take_of_length_le (by omega)]
    · intro i hi ih acc ha ht
      refine Ev.step (fun k => by rw [laws_markIntS.l0]) (evp (by omega) (evp (by omega) ?_))
      rw [w64 (by omega) (by omega), w64 (by omega) (by omega), Int.toNat_natCast]
      have := ih (acc.set i (m + i)) (by simpa using ha) (by
        rw [set_take _ _ _ (by omega), ht]
        simp [runs, List.range_succ])
      rw [Int.add_assoc]
      exact this
  have := key 0 (Nat.zero_le _) l rfl (by simp [runs])
  unfold laws_markIntS.f
  simpa using this
theorem heldIntS_ev (n : Nat) (m : Int) (h0 : 0 ≤ m) (hm : m + n ≤ 4000000000000000000) : Ev (fun k => laws_heldIntS.f k (runs m n) m) (m + n) := by
  have key : ∀ i, i ≤ n → Ev (fun k => laws_heldIntS.l0 k (runs m n) (m + i) (i : Int)) (m + n) := by
    refine down (n := n) ?_ ?_
    · exact Ev.step (fun k => by rw [laws_heldIntS.l0]) (evn (by rw [runs_len]; omega) (evs rfl))
    · intro i hi ih
      refine Ev.step (fun k => by rw [laws_heldIntS.l0]) (evp (by rw [runs_len]; omega) (evp (by omega) (evp ?_ ?_)))
      · rw [rd_nat _ _ (by rw [runs_len]; exact hi)]; simp [runs]
      · rw [w64 (by omega) (by omega), w64 (by omega) (by omega), Int.add_assoc]
        exact ih
  have := key 0 (Nat.zero_le _)
  unfold laws_heldIntS.f
  simpa using this
end Go.Proofs.Ytlhlmjklajdejaa.Q

namespace Go.Proofs.Ytlhlmjklajdejaa.Q
set_option linter.unusedVariables false
set_option linter.unusedSimpArgs false
open Go.RowKit Go.Proofs.Ytlhlmjklajdejaa.P Go.Proofs.YtlhlmjklajdejaaW.PrintWords Go.Proofs.YtlhlmjklajdejaaW.PrintMore
theorem szIntS_eq (l : List Int) (m : Int) (h0 : 0 ≤ m) (hm : m ≤ 1048576) (hl : l.length ≤ 9223372036854775807) : laws_szIntS.f l m = some (if m < l.length then -1 else m - l.length) := by
  unfold laws_szIntS.f
  rw [w64 (by omega) (by omega)]
  by_cases h : m < l.length
  · rw [if_pos (by omega), if_pos h]
  · rw [if_neg (by omega), if_neg h]
theorem szWork_eq (p : List S70) (d : Int) (q : List Int) (m : Int) (h0 : 0 ≤ m) (hm : m ≤ 1048576) (hp : p.length ≤ 9223372036854775807) (hq : q.length ≤ 9223372036854775807) :
    laws_szWork.f p d q m = some (if m < p.length + q.length then -1 else m - p.length - q.length) := by
  unfold laws_szWork.f
  rw [szStepS_eq p m h0 hm hp, Option.bind_some]
  by_cases h : m < p.length
  · rw [if_pos h, if_pos (by omega), if_pos (by omega)]
  rw [if_neg h, if_neg (by omega), szIntS_eq q _ (by omega) (by omega) hq, Option.bind_some]
  by_cases h2 : m - p.length < q.length
  · rw [if_pos h2, if_pos (by omega), if_pos (by omega)]
  · rw [if_neg h2, if_neg (by omega), if_neg (by omega)]
theorem toWork_ev (p : List S70) (d : Int) (q : List Int) (hp : p.length ≤ 1048576) (hq : q.length ≤ 1048576) : Ev (fun k => laws_toWork.f k p d q) (p.map cStep, d, q) := by
  unfold laws_toWork.f
  exact Ev.bind (toStepS_ev p hp) (Ev.bind (toIntS_ev q hq) (Ev.now _))
theorem eqWork_ev (p : List S67) (d : Int) (q : List Int) (hp : p.length ≤ 9000000000000000000) (hq : q.length ≤ 9000000000000000000) : Ev (fun k => laws_eqWork.f k p d q p d q) true := by
  unfold laws_eqWork.f
  exact Ev.bind (eqStepS_ev p hp) (evp rfl (evp rfl (Ev.bind (eqIntS_ev q hq) (evp rfl (Ev.now _)))))
end Go.Proofs.Ytlhlmjklajdejaa.Q

namespace Go.Proofs.Ytlhlmjklajdejaa.Q
set_option linter.unusedVariables false
set_option linter.unusedSimpArgs false
open Go.RowKit Go.Proofs.Ytlhlmjklajdejaa.P Go.Proofs.YtlhlmjklajdejaaW.PrintWords Go.Proofs.YtlhlmjklajdejaaW.PrintMore
theorem markWork_ev (p : List S67) (d : Int) (q : List Int) (m : Int) (h0 : 0 ≤ m) (hm : m + 4 * p.length + q.length ≤ 4000000000000000000) :
    Ev (fun k => laws_markWork.f k p d q m) (m + 4 * p.length + q.length, runsS m p.length, runs (m + 4 * p.length) q.length) := by
  unfold laws_markWork.f
  exact Ev.bind (markStepS_ev p m h0 (by omega)) (Ev.bind (markIntS_ev q _ (by omega) (by omega)) (Ev.now _))
theorem heldWork_ev (n : Nat) (d : Int) (j : Nat) (m : Int) (h0 : 0 ≤ m) (hm : m + 4 * n + j ≤ 4000000000000000000) :
    Ev (fun k => laws_heldWork.f k (runsS m n) d (runs (m + 4 * n) j) m) (m + 4 * n + j) := by
  unfold laws_heldWork.f
  exact Ev.bind (heldStepS_ev n m h0 (by omega)) (evn (by omega) (Ev.bind (heldIntS_ev j _ (by omega) (by omega)) (evn (by omega) (Ev.now _))))
end Go.Proofs.Ytlhlmjklajdejaa.Q

namespace Go.Proofs.Ytlhlmjklajdejaa.Q
set_option linter.unusedVariables false
set_option linter.unusedSimpArgs false
open Go.RowKit Go.Deep Go.ChangeShapes Go.WideShapes Go.Proofs.YtlhlmjklajdejaaW.PrintWords
def Opens {α : Type} (P : Program) (w : World) (d : Kd α) (T : TypeId) (G : α → Prop) : Prop :=
  ∀ (H : Type) (enc : TypeId × Value → H) (base : Nat) (spare : Nat → Bool) (held : Bool) (fuel : Nat) (cs : List Value) (x : DataW H × List MemPlace),
    DataW.trod enc P w base spare held fuel T cs = some x → ∃ v, d.K w v cs ∧ G v
def OpensFs {α : Type} (P : Program) (w : World) (d : Kd α) (off : Nat) (fs : Array Field) (i : Nat) (G : α → Prop) : Prop :=
  ∀ (H : Type) (enc : TypeId × Value → H) (base : Nat) (spare : Nat → Bool) (held : Bool) (fuel : Nat) (cs : List Value), cs.length = off + d.sz →
    (∀ j f, i ≤ j → fs[j]? = some f → ∃ y : DataW H × List MemPlace, DataW.trod enc P w base spare held fuel f.type ((cs.drop f.offset).take (P.cellsOf f.type)) = some y) → ∃ v, d.K w v (cs.drop off) ∧ G v
section
variable {P : Program} {w : World}
theorem Opens.mono {α : Type} {d : Kd α} {T : TypeId} {G G' : α → Prop} (h : Opens P w d T G) (hg : ∀ x, G x → G' x) : Opens P w d T G' := by
  intro H enc base spare held fuel cs x hx
  obtain ⟨v, hv, g⟩ := h H enc base spare held fuel cs x hx
  exact ⟨v, hv, hg v g⟩
theorem Opens.int {k : IntKind} {T : TypeId} (ht : P.underlying T = some (.int k)) : Opens P w (Kd.int k) T (fun n => (Lit.int k n).wf = true) := by
  intro H enc base spare held fuel cs x hx
  obtain ⟨n, rfl, _, hw⟩ := DataW.trod_int ht hx
  exact ⟨n, rfl, hw⟩
theorem Opens.slice {α : Type} (z : α) {d : Kd α} {E T : TypeId} {G : α → Prop} (ht : P.underlying T = some (.slice E)) (hC : P.cellsOf E = d.sz) (h : Opens P w d E G) :
    Opens P w (Kd.slice E d) T (fun l => l.length ≤ 9223372036854775807 ∧ ∀ x ∈ l, G x) := by
  haveI : Inhabited α := ⟨z⟩
  intro H enc base spare held fuel cs x hx
  rcases open_slice ht hx with ⟨rfl, _⟩ | ⟨a, len, cap, m, n, D, Pl, rfl, hb, hl, hm, hmm, _, hi⟩
  · exact ⟨[], ⟨none, 0, rfl, Nat.le_refl _, rfl, by simp, fun h => absurd h (by simp)⟩, by simp, by simp⟩
  · have hlm : len ≤ m := by rw [hmm]; split <;> omega
    obtain ⟨V, hV⟩ := choose_lt (α := α) (n := len) (p := fun i v => G v ∧ ∃ c, c.length = d.sz ∧ d.K w v c ∧ ∀ j u, c[j]? = some u → w.cell? (a.add (i * d.sz + j)) = some u) (fun i hil => by
      obtain ⟨cs', h1, h2⟩ := hi i (by omega)
      obtain ⟨v, hv, g⟩ := h H enc base spare held n cs' _ h2
      obtain ⟨_, hcl, hat⟩ := World.cells?_some h1
      refine ⟨v, g, cs', by rw [hcl, hC], hv, fun j u hu => ?_⟩
      have hj : j < P.cellsOf E := by rw [← hcl]; exact (List.getElem?_eq_some_iff.1 hu).1
      have := hat j hj
      rw [hC, Go.Deep.add_add] at this
      rw [this, hu])
    refine ⟨(List.range len).map V, ⟨some a, cap, by simp, by simpa using hl, by simp, by have := hm; unfold maxLen at this; simp; omega, fun _ => ⟨a, rfl, fun j p hj => ?_⟩⟩, ?_⟩
    · have hj' : j < len := by have := (List.getElem?_eq_some_iff.1 hj).1; simpa using this
      obtain rfl : V j = p := by simpa [hj'] using hj
      exact (hV j hj').2
    · refine ⟨by have := hm; unfold maxLen at this; simp; omega, fun x hx => ?_⟩
      obtain ⟨i, hi, rfl⟩ := List.mem_map.1 hx
      exact (hV i (List.mem_range.1 hi)).1
theorem OpensFs.one {α : Type} {d : Kd α} {off i : Nat} {fs : Array Field} {f : Field} {G : α → Prop} (hf : fs[i]? = some f) (h : Opens P w d f.type G) (ho : f.offset = off) (hc : P.cellsOf f.type = d.sz) : OpensFs P w d off fs i G := by
  intro H enc base spare held fuel cs hlen hfs
  obtain ⟨y, hy⟩ := hfs i f (Nat.le_refl _) hf
  rw [ho, hc, List.take_of_length_le (by simp [hlen])] at hy
  exact h H enc base spare held fuel _ _ hy
theorem OpensFs.more {α β : Type} {d : Kd α} {d2 : Kd β} {off i : Nat} {fs : Array Field} {f : Field} {G : α → Prop} {G2 : β → Prop} (hf : fs[i]? = some f) (h : Opens P w d f.type G) (ho : f.offset = off) (hc : P.cellsOf f.type = d.sz)
    (h2 : OpensFs P w d2 (off + d.sz) fs (i + 1) G2) : OpensFs P w (Kd.pair d d2) off fs i (fun x => G x.1 ∧ G2 x.2) := by
  intro H enc base spare held fuel cs hlen hfs
  have hlen' : cs.length = off + (d.sz + d2.sz) := hlen
  obtain ⟨y, hy⟩ := hfs i f (Nat.le_refl _) hf
  rw [ho, hc] at hy
  obtain ⟨v, hv, g⟩ := h H enc base spare held fuel _ _ hy
  obtain ⟨v2, hv2, g2⟩ := h2 H enc base spare held fuel cs (by omega) (fun j f' hj hf' => hfs j f' (by omega) hf')
  refine ⟨(v, v2), ⟨_, _, ?_, hv, hv2⟩, g, g2⟩
  rw [← List.drop_drop, List.take_append_drop]
theorem Opens.pairs {α : Type} {d : Kd α} {T : TypeId} {fs : Array Field} {G : α → Prop} (ht : P.underlying T = some (.struct fs)) (hC : P.cellsOf T = d.sz) (h : OpensFs P w d 0 fs 0 G) : Opens P w d T G := by
  intro H enc base spare held fuel cs x hx
  obtain ⟨xs, n, _, _, hlen, hxl, hat⟩ := DataW.trod_struct ht hx
  exact h H enc base spare held n cs (by rw [hlen, hC, Nat.zero_add]) (fun j f' _ hf' => by
    have hi' : j < fs.size := (Array.getElem?_eq_some_iff.1 hf').1
    have e := hat j f' hf'
    rw [List.getElem?_eq_getElem (by omega)] at e
    exact ⟨_, e⟩)
theorem Opens.struct {α β : Type} {d : Kd α} {T : TypeId} {fs : Array Field} {f : β → α} {G0 : α → Prop} {G : β → Prop} (g : α → β) (ht : P.underlying T = some (.struct fs)) (hC : P.cellsOf T = d.sz) (hfg : ∀ x, f (g x) = x)
    (h : OpensFs P w d 0 fs 0 G0) (hg : ∀ x, G0 x → G (g x)) : Opens P w (Kd.iso d f) T G := by
  intro H enc base spare held fuel cs x hx
  obtain ⟨v, hv, g0⟩ := Opens.pairs ht hC h H enc base spare held fuel cs x hx
  refine ⟨g v, ?_, hg v g0⟩
  show d.K w (f (g v)) cs
  rw [hfg]
  exact hv
theorem Opens.string {T : TypeId} (ht : P.underlying T = some .string) : Opens P w Kd.string T (fun s => s.size ≤ maxLen) := by
  intro H enc base spare held fuel cs x hx
  obtain ⟨s, rfl, _, hs⟩ := DataW.trod_string ht hx
  exact ⟨s, rfl, hs⟩
end
end Go.Proofs.Ytlhlmjklajdejaa.Q

namespace Go.Proofs.Ytlhlmjklajdejaa.Q
open Go.RowKit Go.Proofs.Ytlhlmjklajdejaa.P Go.Proofs.YtlhlmjklajdejaaW.PrintWords
def good70 (x : S70) : Prop := ((Lit.int .i64 x.f0).wf = true ∧ (Lit.int .i64 x.f1).wf = true ∧ (Lit.int .i64 x.f2).wf = true ∧ (Lit.int .i64 x.f3).wf = true)
theorem op70 {w : World} : Opens Try.prog w k70 70 good70 := (Opens.struct (fun x => (⟨x.1, x.2.1, x.2.2.1, x.2.2.2⟩ : S70)) (G := good70) Try.underlying70 (by kernel_rfl) (fun _ => rfl) (OpensFs.more rfl (Opens.int Try.underlying3) rfl (by kernel_rfl) (OpensFs.more rfl (Opens.int Try.underlying3) rfl (by kernel_rfl) (OpensFs.more rfl (Opens.int Try.underlying3) rfl (by kernel_rfl) (OpensFs.one rfl (Opens.int Try.underlying3) rfl (by kernel_rfl))))) (fun _ h => h))
def good3 (x : Int) : Prop := (Lit.int .i64 x).wf = true
theorem op3 {w : World} : Opens Try.prog w (Kd.int .i64) 3 good3 := (Opens.int Try.underlying3)
end Go.Proofs.Ytlhlmjklajdejaa.Q

namespace Go.Proofs.Ytlhlmjklajdejaa.Pure
set_option linter.unusedVariables false
set_option linter.unusedSimpArgs false
open Go.RowKit Go.Proofs.Ytlhlmjklajdejaa.P Go.Proofs.Ytlhlmjklajdejaa.Q Go.Proofs.YtlhlmjklajdejaaW.PrintWords Go.Proofs.YtlhlmjklajdejaaW.PrintLast
theorem FnExactMendStep (p : List S70) (d : Int) (q : List Int)  (h0 : (p.length ≤ 9223372036854775807 ∧ ∀ y ∈ p, good70 y) ∧ (Lit.int .i64 d).wf = true ∧ (q.length ≤ 9223372036854775807 ∧ ∀ y ∈ q, good3 y))  : ∃ k, laws_FnExactMendStep.f k p d q = some true := by
  refine Ev.rounds ?_
  unfold laws_FnExactMendStep.f
  refine evb (szWork_eq p d q 1048576 (by omega) (by omega) h0.1.1 h0.2.2.1) ?_
  by_cases h : (1048576 : Int) < p.length + q.length
  · rw [if_pos h]; exact evp (by omega) (Ev.now _)
  rw [if_neg h]
  refine evn (by omega) ?_
  have lp : (p.map cStep).length ≤ 1048576 := by simp; omega
  have T := toWork_ev p d q (by omega) (by omega)
  have E := eqWork_ev (p.map cStep) d q (by omega) (by omega)
  have M := markWork_ev (p.map cStep) d q 1 (by omega) (by omega)
  obtain ⟨R, hR⟩ : ∃ R, mendStep (p.map cStep) d q = R := ⟨_, rfl⟩
  have A := mend_spec (p.map cStep) d q (by omega) (by omega)
  have B := mend_impl (p.map cStep) d q (by omega) (by omega)
  rw [hR] at A B
  have L := mendStep_len (p.map cStep) d q
  rw [hR] at L
  have L1 : R.1.length ≤ 1048576 := by rw [L.1]; exact lp
  have L2 : R.2.2.1.length ≤ 1048576 := by rw [L.2.2]; omega
  have F := eqWork_ev R.1 R.2.1 R.2.2.1 (by omega) (by omega)
  have G := markWork_ev R.1 R.2.1 R.2.2.1 1 (by omega) (by omega)
  have H := heldWork_ev R.1.length R.2.1 R.2.2.1.length 1 (by omega) (by omega)
  repeat' first
    | exact Ev.now _
    | refine Ev.bind T ?_
    | refine Ev.bind E ?_
    | refine Ev.bind M ?_
    | refine Ev.bind A ?_
    | refine Ev.bind B ?_
    | refine Ev.bind F ?_
    | refine Ev.bind G ?_
    | refine Ev.bind H ?_
    | refine evp rfl ?_
    | refine evn (by first | decide | (dsimp only; omega) | simp) ?_
    | refine Ev.step (fun k => by rw [laws_FnExactMendStep.j0]) ?_
    | refine Ev.step (fun k => by rw [laws_FnExactMendStep.j1]) ?_
    | refine Ev.step (fun k => by rw [laws_FnExactMendStep.j2]) ?_
end Go.Proofs.Ytlhlmjklajdejaa.Pure

namespace Go.Proofs.Ytlhlmjklajdejaa.fnExactMendStep
open Go.ChangeShapes Go.WideShapes Go.ChangeAt Go.RowKit Go.Proofs.Ytlhlmjklajdejaa.P Go.Proofs.Ytlhlmjklajdejaa.Q Go.Proofs.YtlhlmjklajdejaaW.PrintWords
open Go.ChangeMaps (open_string shut_string)
set_option linter.unusedVariables false
set_option linter.unusedSimpArgs false
theorem own : ownKnob Try.prog.godebug = none := by kernel_rfl
theorem laidOut : laidOutB Try.prog = true := by kernel_rfl
set_option maxRecDepth 100000 in
theorem lifted (os : Os) (started : os.Started) (H : Type) (enc : TypeId × Value → H) :
    ReturnsInHanded {} Try.checked os 11 .any (Rows.fnExactMendStepSpec.pre6 enc Try.prog Try.f11 Rows.fnExactMendStepRow.domain false) (Rows.fnExactMendStepSpec.post enc Try.prog Try.f11 false true false false) := by
  refine returnsInHanded_of_change_sized (C := Try.checked) own started (by kernel_rfl) Try.func11
    (ChangeSpec.witness6 (enc := enc) (C := Try.checked) false ⟨#[], #[.agg #[.slice none 0 0, .int .i64 0, .slice none 0 0]], []⟩ 8 (by kernel_rfl) (by kernel_rfl) (by kernel_rfl) (by kernel_rfl)) ?_
  intro W base args ds gs before hval0 hW hcnd hsz0 _
  have hval : ∀ (j : Nat) t v, Try.f11.params[j]? = some t → args[j]? = some v → Value.okWide Try.prog W .any base t v := hval0
  have hW' := hW
  obtain ⟨p, q, hA0, hV, rfl, hfz, hnd⟩ := hW
  have hA : DataW.TrodAll enc Try.prog W 0 (fun _ => true) true Try.f11.params.toList args.toList ds p := hA0
  rw [Try.params11] at hA hval
  obtain ⟨v0, vs0, d0, ds0, p0, q0, hargs, rfl, rfl, h0, r0⟩ := trodAll_cons hA
  obtain ⟨rfl, rfl, rfl⟩ := trodAll_nil r0
  obtain rfl : args = #[v0] := by cases args; simp_all
  obtain ⟨rfl, rfl⟩ := trodVars_none hV
  have k0 := h0
  have lt0 : ∀ x ∈ p0, x.block < W.heap.size := by obtain ⟨m, hm⟩ := k0; exact DataW.trod_lt m _ _ _ hm
  obtain ⟨fuel0, f0⟩ := h0
  obtain ⟨x0, K0, G0⟩ := (show Opens Try.prog W (Kd.pair (Kd.slice 70 k70) (Kd.pair (Kd.int .i64) (Kd.slice 3 (Kd.int .i64)))) 25 _ from Opens.pairs Try.underlying25 (by kernel_rfl) (OpensFs.more rfl (Opens.slice z70 Try.underlying22 (by kernel_rfl) op70) rfl (by kernel_rfl) (OpensFs.more rfl (Opens.int Try.underlying3) rfl (by kernel_rfl) (OpensFs.one rfl (Opens.slice 0 Try.underlying23 (by kernel_rfl) op3) rfl (by kernel_rfl))))) H enc 0 _ _ fuel0 _ _ f0
  obtain ⟨cs0, rfl, _⟩ := okWide_struct Try.underlying25 (hval 0 25 v0 rfl rfl)
  obtain ⟨_, _, e0, ⟨A0_0, c0_0, rfl, hc0_0, hr0_0⟩, ⟨_, _, rfl, rfl, ⟨A0_1, c0_1, rfl, hc0_1, hr0_1⟩⟩⟩ := K0
  obtain rfl : cs0 = #[.slice A0_0 x0.1.length c0_0, .int .i64 x0.2.1, .slice A0_1 x0.2.2.length c0_1] := Array.ext' e0
  obtain ⟨k, hP⟩ := Pure.FnExactMendStep x0.1 x0.2.1 x0.2.2 G0
  refine (P.laws_FnExactMendStep.calls k _ _ x0.1 x0.2.1 _ _ x0.2.2 true W hr0_0 hc0_0 hr0_1 hc0_1 hP ⟨rfl⟩).mono fun e W' ⟨he, bel0⟩ => ?_
  have bel : Below W.heap.size W W' := bel0
  subst he
  exact ⟨_, rfl, _, _, _, [], _, [], hW', trodAll_mk1 (shut_bool Try.underlying4 _), (trodAll_cons_mk (Below.trod laidOut (by kernel_rfl) (of_decide_eq_true (by kernel_rfl)) k0 bel lt0) trodAll_mk0), rfl, bel.frame _, fun h => by cases h⟩
theorem over : Rows.fnExactMendStepRow.holds Try.pinned (OpenSpec.ofChange Rows.fnExactMendStepSpec) :=
  OpenClaim.holds_of_wide 11 Try.f11 rfl rfl rfl rfl rfl rfl rfl ⟨rfl, rfl, rfl, rfl, rfl⟩ rfl rfl rfl rfl rfl (by kernel_rfl) Try.func11 (by kernel_rfl)
    (of_decide_eq_true (by kernel_rfl)) (by unfold Func.isWrapper; first | (rw [if_pos (by decide +kernel)]; kernel_rfl) | (rw [if_neg (by decide +kernel)]; exact ⟨rfl, rfl⟩))
    (fun os started H enc _ => lifted os started H enc)
theorem proved : Rows.FnExactMendStepSaid := over
#print axioms proved
end Go.Proofs.Ytlhlmjklajdejaa.fnExactMendStep
namespace Go.Proofs.Ytlhlmjklajdejaa
theorem fnExactMendStep_holds : Rows.FnExactMendStepSaid := fnExactMendStep.proved
end Go.Proofs.Ytlhlmjklajdejaa
