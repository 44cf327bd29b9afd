/- What functions of the program come to (f), that their calls come to just this (calls), and the plain laws over lists and numbers. No condition but those of the given row. -/
import Derived.Test.YtanhnhkcpbdfmaaGreatD1
import Derived.KernelRfl
import Derived.Maps.RangeWalk
import Derived.Maps.OwnSet
import Derived.Maps.OwnOps
import Derived.Maps.Ext
import Derived.DeepKeys5
import Derived.Deep.RegionHeld3
set_option linter.unusedVariables false
set_option linter.unusedSimpArgs false
namespace Go.Proofs.YtanhnhkcpbdfmaaGreat.P
set_option maxHeartbeats 8000000
set_option maxRecDepth 100000
open Go.RowKit Go.Proofs.YtanhnhkcpbdfmaaGreatW.PrintWords Go.Proofs.YtanhnhkcpbdfmaaGreatW.PrintLast Go.Proofs.YtanhnhkcpbdfmaaGreatW.PrintMore
attribute [local go_sem] max2_int min2_int max_two min_two max_three min_three max_four min_four
def impl_copyLog.f (l0 : List (S104)) : Option ((List (S104))) := (some (([] : List (S104)) : List (S104))).bind fun y644 => (if y644.length + l0.length < 4398046511104 then (some (y644 ++ l0)) else (none))
theorem impl_copyLog.calls (A0 : Option Addr) (c0 : Nat) (l0 : List (S104)) (r : List (S104)) (w : World) (hr0 : Kd.C k104 w A0 l0.length l0) (hc0 : l0.length ≤ c0) (h : impl_copyLog.f l0 = some r) :
  Calls Tryz.prog 107 #[.slice A0 l0.length c0] w fun e w' => ∃ v0_ : Value, e = .returned (v0_) ∧ Kd.R k104 104 w' w.heap.size (fun _ => True) v0_ r ∧ Below w.heap.size w w' := by
 have HR0 := A_ hr0
 have HC0 := A_ hc0
 clear hr0 hc0
 have HB := A_ (Below.refl w.heap.size w)
 have H : ((some (([] : List (S104)) : List (S104))).bind fun y644 => (if y644.length + l0.length < 4398046511104 then (some (y644 ++ l0)) else (none))) = some r := h
 clear h
 obtain ⟨y644, hy644⟩ : ∃ y_ : List (S104), y_ = (([] : List (S104))) := ⟨_, rfl⟩
 replace H : (if y644.length + l0.length < 4398046511104 then (some (y644 ++ l0)) else (none)) = some r := by first | (rw [hy644]; with_reducible exact H) | (have H2_ := (Option.bind_some _ _).symm.trans H; rw [hy644]; with_reducible exact H2_) | (have H2_ := (Option.bind_some _ _).symm.trans H; with_reducible exact H2_) | with_reducible exact H | (rw [hy644]; exact H) | exact H
 have Ny644 := A_ hy644
 clear hy644
 by_cases c2 : y644.length + l0.length < 4398046511104
 ·rw [if_pos c2] at H
  have LMc2 := A_ c2
  clear c2
  obtain ⟨y647, hy647⟩ : ∃ y_ : List (S104), y_ = (y644 ++ l0) := ⟨_, rfl⟩
  replace H : (some y647) = some r := by first | (rw [hy647]; with_reducible exact H) | (have H2_ := (Option.bind_some _ _).symm.trans H; rw [hy647]; with_reducible exact H2_) | (have H2_ := (Option.bind_some _ _).symm.trans H; with_reducible exact H2_) | with_reducible exact H | (rw [hy647]; exact H) | exact H
  have Ny647 := A_ hy647
  clear hy647
  obtain rfl := Option.some.inj H
  go_enter Tryz.func107, Tryz.ntmps107
  go_wp2_with (first | ((with_reducible refine gate_dst (N := 3) rfl ?_); refine Kd.R_lit k104 _ 104 ?hg (N := 3) ?hd (xs := ([] : List (S104))) (inner := []) (ok := fun _ => True) (okp := fun _ => True) ?hr ?hp (fun _ hk => hk) trivial (Below.refl _ _) (Nat.le_refl _) (by simp) ?_; (case hd => rfl); (case hg => rfl); (case hr => first | (go_simp; done) | (go_simp; rfl)); (case hp => exact (Reps.none _ _)); intro v645 w3 ho4 hb hg_ hnew_; clear hg_ hnew_; (first | rw [← Ny644.out] at ho4 | (simp only [Int.reduceToNat] at ho4; rw [← Ny644.out] at ho4)); have n0_ := A_ (Kd.R_lower ho4 (below_size (oB HB))); have n1_ := A_ (below_step (oB HB) hb); clear HB; have HO646 := n0_; have HB := n1_; clear n0_ n1_; clear hb ho4) | ((with_reducible refine gate_builtin (b := .append) (xs := #[.tmp 3, .tmp 4]) rfl ?_); at_builtin; refine Kd.R_append_rows k104 (w0 := w) w.heap.size rfl (.tmp 3) (.tmp 4) 35 104 (.agg #[(.int .i64 0), (.int .i64 0), (.int .i64 0), (.int .i64 0)]) 32 rfl Tryz.underlying35 info104 rfl (by decide) (by omega) v645 y644 l0 _ _ _ (fun _ => True) (fun _ => False) rfl rfl ?aO ?aR (fun _ _ h => h) (fun _ h => h.elim) ?aF ?aB ?aS ?aL ?_; (case aR => exact oc_ HR0.out); (case aB => exact (oB HB)); (case aF => exact (fun _ _ => trivial)); (case aO => exact (oR HO646)); (case aS => exact (below_size (oB HB))); (case aL => have := LMc2.out; omega); intro v648 w5 ho hb hg hat; rw [← Ny647.out] at ho; have n0_ := A_ (hb); have n1_ := A_ (ho); clear HB; clear HO646; have HB := n0_; have HO649 := n1_; clear n0_ n1_; clear ho hb hg hat))
  go_ret
  exact ⟨_, eR, oR HO649, oB HB⟩
 ·rw [if_neg c2] at H
  exact absurd H (by simp)
def impl_TunedPitch.j0 : Nat → Int → Int → Int → Bool → Option (Int)
 | 0, _, _, _, _ => none
 | k + 1, x0, x1, x2, x27 => if x27 = true then (some 0) else (if x1 = 1 then ((impl_isFine.f (wrap64 (Int.tdiv (mx (wrap64 ((wrap64 (3 * x0)) - x2)) 0) 2))).bind fun t596 => (if t596 = true then (some (wrap64 (Int.tdiv (mx (wrap64 ((wrap64 (3 * x0)) - x2)) 0) 2))) else (some 0))) else (if x1 = 2 then ((impl_isFine.f (wrap64 (Int.tdiv (mx (wrap64 ((wrap64 (3 * x0)) - x2)) 0) 4))).bind fun t597 => (if t597 = true then (some (wrap64 (Int.tdiv (mx (wrap64 ((wrap64 (3 * x0)) - x2)) 0) 4))) else (some 0))) else (if x1 = 3 then ((impl_isFine.f (wrap64 (2 * x0))).bind fun t598 => (if t598 = true then (some (wrap64 (2 * x0))) else (some 0))) else (if x1 = 4 then ((impl_isFine.f (wrap64 (Int.tdiv x0 2))).bind fun t599 => (if t599 = true then (some (wrap64 (Int.tdiv x0 2))) else (some 0))) else ((impl_isFine.f 0).bind fun t600 => (if t600 = true then (some 0) else (some 0)))))))
def impl_TunedPitch.f (k : Nat) (a0 : Int) (a1 : Int) (a2 : Int) : Option (Int) := (impl_isFine.f a0).bind fun t594 => (if t594 = true then ((impl_within.f a2 0 100000).bind fun t595 => (if t595 = true then (if a2 = 0 then (impl_TunedPitch.j0 k a0 a1 a2 false) else (if a1 = 3 then (impl_TunedPitch.j0 k a0 a1 a2 true) else (impl_TunedPitch.j0 k a0 a1 a2 (a1 == 4)))) else (impl_TunedPitch.j0 k a0 a1 a2 true))) else (impl_TunedPitch.j0 k a0 a1 a2 true))
theorem impl_TunedPitch.calls (k : Nat) (a0 : Int) (a1 : Int) (a2 : Int) (r : Int) (w : World) (h : impl_TunedPitch.f k a0 a1 a2 = some r) :
  Calls Tryz.prog 91 #[.int .i64 a0, .int .i64 a1, .int .i64 a2] w fun e w' => e = .returned (.int .i64 r) ∧ Below w.heap.size w w' := by
 have HB := A_ (Below.refl w.heap.size w)
 have H : ((impl_isFine.f a0).bind fun t594 => (if t594 = true then ((impl_within.f a2 0 100000).bind fun t595 => (if t595 = true then (if a2 = 0 then (impl_TunedPitch.j0 k a0 a1 a2 false) else (if a1 = 3 then (impl_TunedPitch.j0 k a0 a1 a2 true) else (impl_TunedPitch.j0 k a0 a1 a2 (a1 == 4)))) else (impl_TunedPitch.j0 k a0 a1 a2 true))) else (impl_TunedPitch.j0 k a0 a1 a2 true))) = some r := h
 clear h
 have HC4 := A_ H
 clear H
 go_enter Tryz.func91, Tryz.ntmps91
 go_upto_region 1 with (fail)
 go_cut [27] (fun v27 wc => ∃ (kq : Nat) (x27_3 : Bool), v27 = .bool x27_3 ∧ Aside0 (impl_TunedPitch.j0 kq a0 a1 a2 x27_3 = some r) ∧ Aside0 (kq ≤ k) ∧ Aside0 (Below w.heap.size w wc))
 case first =>
  have H := HC4.out
  clear HC4
  replace H := Option.bind_eq_some_iff.mp H
  obtain ⟨t594, A50, H⟩ := H
  (try dsimp only at H)
  have A5 := A_ A50
  clear A50
  by_cases c6 : t594 = true
  ·subst c6
   rw [if_pos rfl] at H
   replace H := Option.bind_eq_some_iff.mp H
   obtain ⟨t595, A70, H⟩ := H
   (try dsimp only at H)
   have A7 := A_ A70
   clear A70
   by_cases c8 : t595 = true
   ·subst c8
    rw [if_pos rfl] at H
    by_cases c9 : a2 = 0
    ·rw [if_pos c9] at H
     have c9b0 : (a2 == 0) = true := beq_iff_eq.mpr c9
     have c9b1 : (a2 != 0) = false := bne_eq_false_iff_eq.mpr c9
     clear c9
     (first | rw [c9b0] | (simp only [i64_w, i32_w]; rw [c9b0]) | skip)
     have H' := A_ H
     clear H
     go_wp2_with (first | ((with_reducible refine gate_callee (f := 90) rfl ?_); refine gL (some 9) Tryz.func90 #[.int .i64 a0] ?_; (with_reducible refine (impl_isFine.calls a0 true _ A5.out).mono ?_); rintro e w' ⟨rfl, ⟨nd, rfl⟩⟩; refine ⟨_, rfl, ?_⟩) | (go_at_call 79; (with_reducible refine (impl_within.calls a2 0 100000 true _ A7.out).mono ?_); rintro e w' ⟨rfl, ⟨nd, rfl⟩⟩))
     go_meet
     case rel => exact ⟨_, (false), eS, H', ⟨by first | omega | exact Nat.le_refl _⟩, ⟨oB HB⟩⟩
    ·rw [if_neg c9] at H
     have c9b0 : (a2 == 0) = false := beq_eq_false_iff_ne.mpr c9
     have c9b1 : (a2 != 0) = true := bne_iff_ne.mpr c9
     (first | rw [c9b0] | (simp only [i64_w, i32_w]; rw [c9b0]) | skip)
     by_cases c10 : a1 = 3
     ·rw [if_pos c10] at H
      have c10b0 : (a1 == 3) = true := beq_iff_eq.mpr c10
      have c10b1 : (a1 != 3) = false := bne_eq_false_iff_eq.mpr c10
      clear c10
      have H' := A_ H
      clear H
      go_wp2_with (first | ((with_reducible refine gate_callee (f := 90) rfl ?_); refine gL (some 9) Tryz.func90 #[.int .i64 a0] ?_; (with_reducible refine (impl_isFine.calls a0 true _ A5.out).mono ?_); rintro e w' ⟨rfl, ⟨nd, rfl⟩⟩; refine ⟨_, rfl, ?_⟩) | (go_at_call 79; (with_reducible refine (impl_within.calls a2 0 100000 true _ A7.out).mono ?_); rintro e w' ⟨rfl, ⟨nd, rfl⟩⟩))
      go_meet
      case rel => exact ⟨_, (true), eS, H', ⟨by first | omega | exact Nat.le_refl _⟩, ⟨oB HB⟩⟩
     ·rw [if_neg c10] at H
      have c10b0 : (a1 == 3) = false := beq_eq_false_iff_ne.mpr c10
      have c10b1 : (a1 != 3) = true := bne_iff_ne.mpr c10
      have H' := A_ H
      clear H
      go_wp2_with (first | ((with_reducible refine gate_callee (f := 90) rfl ?_); refine gL (some 9) Tryz.func90 #[.int .i64 a0] ?_; (with_reducible refine (impl_isFine.calls a0 true _ A5.out).mono ?_); rintro e w' ⟨rfl, ⟨nd, rfl⟩⟩; refine ⟨_, rfl, ?_⟩) | (go_at_call 79; (with_reducible refine (impl_within.calls a2 0 100000 true _ A7.out).mono ?_); rintro e w' ⟨rfl, ⟨nd, rfl⟩⟩))
      go_meet
      case rel => exact ⟨_, ((a1 == 4)), eS, H', ⟨by first | omega | exact Nat.le_refl _⟩, ⟨oB HB⟩⟩
   ·replace c8 := Bool.eq_false_iff.mpr c8
    subst c8
    rw [if_neg (show ¬ (false = true) by decide)] at H
    have H' := A_ H
    clear H
    go_wp2_with (first | ((with_reducible refine gate_callee (f := 90) rfl ?_); refine gL (some 9) Tryz.func90 #[.int .i64 a0] ?_; (with_reducible refine (impl_isFine.calls a0 true _ A5.out).mono ?_); rintro e w' ⟨rfl, ⟨nd, rfl⟩⟩; refine ⟨_, rfl, ?_⟩) | (go_at_call 79; (with_reducible refine (impl_within.calls a2 0 100000 false _ A7.out).mono ?_); rintro e w' ⟨rfl, ⟨nd, rfl⟩⟩))
    go_meet
    case rel => exact ⟨_, (true), eS, H', ⟨by first | omega | exact Nat.le_refl _⟩, ⟨oB HB⟩⟩
  ·replace c6 := Bool.eq_false_iff.mpr c6
   subst c6
   rw [if_neg (show ¬ (false = true) by decide)] at H
   have H' := A_ H
   clear H
   go_wp2_with (first | ((with_reducible refine gate_callee (f := 90) rfl ?_); refine gL (some 9) Tryz.func90 #[.int .i64 a0] ?_; (with_reducible refine (impl_isFine.calls a0 false _ A5.out).mono ?_); rintro e w' ⟨rfl, ⟨nd, rfl⟩⟩; refine ⟨_, rfl, ?_⟩))
   go_meet
   case rel => exact ⟨_, (true), eS, H', ⟨by first | omega | exact Nat.le_refl _⟩, ⟨oB HB⟩⟩
 case rest =>
  clear HC4
  try clear c1
  try clear p2
  try clear c6
  try clear c8
  try clear c9
  try clear c9b0
  try clear c9b1
  try clear c10
  try clear c10b0
  try clear c10b1
  obtain ⟨kq, x27_3, rfl, HA, HJ3, HB⟩ := hcut
  cases kq with
  | zero => exact absurd HA.out (by simp [impl_TunedPitch.j0])
  | succ kj3 =>
   have H := HA.out
   clear HA
   simp only [impl_TunedPitch.j0] at H
   by_cases c11 : x27_3 = true
   ·subst c11
    rw [if_pos rfl] at H
    obtain rfl := Option.some.inj H
    go_wp2
    go_ret
    exact ⟨eR, oB HB⟩
   ·replace c11 := Bool.eq_false_iff.mpr c11
    subst c11
    rw [if_neg (show ¬ (false = true) by decide)] at H
    by_cases c12 : a1 = 1
    ·rw [if_pos c12] at H
     have c12b0 : (a1 == 1) = true := beq_iff_eq.mpr c12
     have c12b1 : (a1 != 1) = false := bne_eq_false_iff_eq.mpr c12
     clear c12
     obtain ⟨ji13, hji13⟩ : ∃ j_ : Int, (mx (wrap64 ((wrap64 (3 * a0)) - a2)) 0) = j_ := ⟨_, rfl⟩
     replace H : ((impl_isFine.f (wrap64 (Int.tdiv (ji13) 2))).bind fun t596 => (if t596 = true then (some (wrap64 (Int.tdiv (ji13) 2))) else (some 0))) = some r := by first | (rw [hji13] at H; exact H) | (simp only [hji13] at H ⊢; exact H)
     have hji13_ : (if (wrap64 ((wrap64 (3 * a0)) - a2)) < 0 then 0 else (wrap64 ((wrap64 (3 * a0)) - a2))) = ji13 := hji13
     replace H := Option.bind_eq_some_iff.mp H
     obtain ⟨t596, A140, H⟩ := H
     (try dsimp only at H)
     have A14 := A_ A140
     clear A140
     by_cases c15 : t596 = true
     ·subst c15
      rw [if_pos rfl] at H
      obtain rfl := Option.some.inj H
      go_wp2_with (first | ((with_reducible refine gate_callee (f := 90) rfl ?_); refine goesL_ (some 54) rfl rfl Tryz.func90 (by kernel_rfl) rfl #[.int .i64 (wrap64 (Int.tdiv (ji13) 2))] rfl (by (try simp only [List.map_toArray, List.map_cons, List.map_nil]); first | done | (simp only [hji13]; rfl) | rfl | (simp only [List.length_drop, List.length_take]; rfl)) ?_; (with_reducible refine (impl_isFine.calls (wrap64 (Int.tdiv (ji13) 2)) true _ A14.out).mono ?_); rintro e w' ⟨rfl, ⟨nd, rfl⟩⟩; refine ⟨_, rfl, ?_⟩))
      go_ret
      exact ⟨by first | rfl | (simp [errW_none, errW_some] <;> rfl) | (simp only [← hji13]; first | rfl | (simp [errW_none, errW_some] <;> rfl)) | (simp [*, errW_none, errW_some] <;> rfl), oB HB⟩
     ·replace c15 := Bool.eq_false_iff.mpr c15
      subst c15
      rw [if_neg (show ¬ (false = true) by decide)] at H
      obtain rfl := Option.some.inj H
      go_wp2_with (first | ((with_reducible refine gate_callee (f := 90) rfl ?_); refine goesL_ (some 54) rfl rfl Tryz.func90 (by kernel_rfl) rfl #[.int .i64 (wrap64 (Int.tdiv (ji13) 2))] rfl (by (try simp only [List.map_toArray, List.map_cons, List.map_nil]); first | done | (simp only [hji13]; rfl) | rfl | (simp only [List.length_drop, List.length_take]; rfl)) ?_; (with_reducible refine (impl_isFine.calls (wrap64 (Int.tdiv (ji13) 2)) false _ A14.out).mono ?_); rintro e w' ⟨rfl, ⟨nd, rfl⟩⟩; refine ⟨_, rfl, ?_⟩))
      go_ret
      exact ⟨by first | rfl | (simp [errW_none, errW_some] <;> rfl) | (simp only [← hji13]; first | rfl | (simp [errW_none, errW_some] <;> rfl)) | (simp [*, errW_none, errW_some] <;> rfl), oB HB⟩
    ·rw [if_neg c12] at H
     have c12b0 : (a1 == 1) = false := beq_eq_false_iff_ne.mpr c12
     have c12b1 : (a1 != 1) = true := bne_iff_ne.mpr c12
     by_cases c16 : a1 = 2
     ·rw [if_pos c16] at H
      have c16b0 : (a1 == 2) = true := beq_iff_eq.mpr c16
      have c16b1 : (a1 != 2) = false := bne_eq_false_iff_eq.mpr c16
      clear c16
      obtain ⟨ji17, hji17⟩ : ∃ j_ : Int, (mx (wrap64 ((wrap64 (3 * a0)) - a2)) 0) = j_ := ⟨_, rfl⟩
      replace H : ((impl_isFine.f (wrap64 (Int.tdiv (ji17) 4))).bind fun t597 => (if t597 = true then (some (wrap64 (Int.tdiv (ji17) 4))) else (some 0))) = some r := by first | (rw [hji17] at H; exact H) | (simp only [hji17] at H ⊢; exact H)
      have hji17_ : (if (wrap64 ((wrap64 (3 * a0)) - a2)) < 0 then 0 else (wrap64 ((wrap64 (3 * a0)) - a2))) = ji17 := hji17
      replace H := Option.bind_eq_some_iff.mp H
      obtain ⟨t597, A180, H⟩ := H
      (try dsimp only at H)
      have A18 := A_ A180
      clear A180
      by_cases c19 : t597 = true
      ·subst c19
       rw [if_pos rfl] at H
       obtain rfl := Option.some.inj H
       go_wp2_with (first | ((with_reducible refine gate_callee (f := 90) rfl ?_); refine goesL_ (some 54) rfl rfl Tryz.func90 (by kernel_rfl) rfl #[.int .i64 (wrap64 (Int.tdiv (ji17) 4))] rfl (by (try simp only [List.map_toArray, List.map_cons, List.map_nil]); first | done | (simp only [hji17]; rfl) | rfl | (simp only [List.length_drop, List.length_take]; rfl)) ?_; (with_reducible refine (impl_isFine.calls (wrap64 (Int.tdiv (ji17) 4)) true _ A18.out).mono ?_); rintro e w' ⟨rfl, ⟨nd, rfl⟩⟩; refine ⟨_, rfl, ?_⟩))
       go_ret
       exact ⟨by first | rfl | (simp [errW_none, errW_some] <;> rfl) | (simp only [← hji17]; first | rfl | (simp [errW_none, errW_some] <;> rfl)) | (simp [*, errW_none, errW_some] <;> rfl), oB HB⟩
      ·replace c19 := Bool.eq_false_iff.mpr c19
       subst c19
       rw [if_neg (show ¬ (false = true) by decide)] at H
       obtain rfl := Option.some.inj H
       go_wp2_with (first | ((with_reducible refine gate_callee (f := 90) rfl ?_); refine goesL_ (some 54) rfl rfl Tryz.func90 (by kernel_rfl) rfl #[.int .i64 (wrap64 (Int.tdiv (ji17) 4))] rfl (by (try simp only [List.map_toArray, List.map_cons, List.map_nil]); first | done | (simp only [hji17]; rfl) | rfl | (simp only [List.length_drop, List.length_take]; rfl)) ?_; (with_reducible refine (impl_isFine.calls (wrap64 (Int.tdiv (ji17) 4)) false _ A18.out).mono ?_); rintro e w' ⟨rfl, ⟨nd, rfl⟩⟩; refine ⟨_, rfl, ?_⟩))
       go_ret
       exact ⟨by first | rfl | (simp [errW_none, errW_some] <;> rfl) | (simp only [← hji17]; first | rfl | (simp [errW_none, errW_some] <;> rfl)) | (simp [*, errW_none, errW_some] <;> rfl), oB HB⟩
     ·rw [if_neg c16] at H
      have c16b0 : (a1 == 2) = false := beq_eq_false_iff_ne.mpr c16
      have c16b1 : (a1 != 2) = true := bne_iff_ne.mpr c16
      by_cases c20 : a1 = 3
      ·rw [if_pos c20] at H
       have c20b0 : (a1 == 3) = true := beq_iff_eq.mpr c20
       have c20b1 : (a1 != 3) = false := bne_eq_false_iff_eq.mpr c20
       clear c20
       replace H := Option.bind_eq_some_iff.mp H
       obtain ⟨t598, A210, H⟩ := H
       (try dsimp only at H)
       have A21 := A_ A210
       clear A210
       by_cases c22 : t598 = true
       ·subst c22
        rw [if_pos rfl] at H
        obtain rfl := Option.some.inj H
        go_wp2_with (first | ((with_reducible refine gate_callee (f := 90) rfl ?_); refine gL (some 54) Tryz.func90 #[.int .i64 (wrap64 (2 * a0))] ?_; (with_reducible refine (impl_isFine.calls (wrap64 (2 * a0)) true _ A21.out).mono ?_); rintro e w' ⟨rfl, ⟨nd, rfl⟩⟩; refine ⟨_, rfl, ?_⟩))
        go_ret
        exact ⟨eR, oB HB⟩
       ·replace c22 := Bool.eq_false_iff.mpr c22
        subst c22
        rw [if_neg (show ¬ (false = true) by decide)] at H
        obtain rfl := Option.some.inj H
        go_wp2_with (first | ((with_reducible refine gate_callee (f := 90) rfl ?_); refine gL (some 54) Tryz.func90 #[.int .i64 (wrap64 (2 * a0))] ?_; (with_reducible refine (impl_isFine.calls (wrap64 (2 * a0)) false _ A21.out).mono ?_); rintro e w' ⟨rfl, ⟨nd, rfl⟩⟩; refine ⟨_, rfl, ?_⟩))
        go_ret
        exact ⟨eR, oB HB⟩
      ·rw [if_neg c20] at H
       have c20b0 : (a1 == 3) = false := beq_eq_false_iff_ne.mpr c20
       have c20b1 : (a1 != 3) = true := bne_iff_ne.mpr c20
       by_cases c23 : a1 = 4
       ·rw [if_pos c23] at H
        have c23b0 : (a1 == 4) = true := beq_iff_eq.mpr c23
        have c23b1 : (a1 != 4) = false := bne_eq_false_iff_eq.mpr c23
        clear c23
        replace H := Option.bind_eq_some_iff.mp H
        obtain ⟨t599, A240, H⟩ := H
        (try dsimp only at H)
        have A24 := A_ A240
        clear A240
        by_cases c25 : t599 = true
        ·subst c25
         rw [if_pos rfl] at H
         obtain rfl := Option.some.inj H
         go_wp2_with (first | ((with_reducible refine gate_callee (f := 90) rfl ?_); refine gL (some 54) Tryz.func90 #[.int .i64 (wrap64 (Int.tdiv a0 2))] ?_; (with_reducible refine (impl_isFine.calls (wrap64 (Int.tdiv a0 2)) true _ A24.out).mono ?_); rintro e w' ⟨rfl, ⟨nd, rfl⟩⟩; refine ⟨_, rfl, ?_⟩))
         go_ret
         exact ⟨eR, oB HB⟩
        ·replace c25 := Bool.eq_false_iff.mpr c25
         subst c25
         rw [if_neg (show ¬ (false = true) by decide)] at H
         obtain rfl := Option.some.inj H
         go_wp2_with (first | ((with_reducible refine gate_callee (f := 90) rfl ?_); refine gL (some 54) Tryz.func90 #[.int .i64 (wrap64 (Int.tdiv a0 2))] ?_; (with_reducible refine (impl_isFine.calls (wrap64 (Int.tdiv a0 2)) false _ A24.out).mono ?_); rintro e w' ⟨rfl, ⟨nd, rfl⟩⟩; refine ⟨_, rfl, ?_⟩))
         go_ret
         exact ⟨eR, oB HB⟩
       ·rw [if_neg c23] at H
        have c23b0 : (a1 == 4) = false := beq_eq_false_iff_ne.mpr c23
        have c23b1 : (a1 != 4) = true := bne_iff_ne.mpr c23
        replace H := Option.bind_eq_some_iff.mp H
        obtain ⟨t600, A260, H⟩ := H
        (try dsimp only at H)
        have A26 := A_ A260
        clear A260
        by_cases c27 : t600 = true
        ·subst c27
         rw [if_pos rfl] at H
         obtain rfl := Option.some.inj H
         go_wp2_with (first | ((with_reducible refine gate_callee (f := 90) rfl ?_); refine gL (some 54) Tryz.func90 #[.int .i64 0] ?_; (with_reducible refine (impl_isFine.calls 0 true _ A26.out).mono ?_); rintro e w' ⟨rfl, ⟨nd, rfl⟩⟩; refine ⟨_, rfl, ?_⟩))
         go_ret
         exact ⟨eR, oB HB⟩
        ·replace c27 := Bool.eq_false_iff.mpr c27
         subst c27
         rw [if_neg (show ¬ (false = true) by decide)] at H
         obtain rfl := Option.some.inj H
         go_wp2_with (first | ((with_reducible refine gate_callee (f := 90) rfl ?_); refine gL (some 54) Tryz.func90 #[.int .i64 0] ?_; (with_reducible refine (impl_isFine.calls 0 false _ A26.out).mono ?_); rintro e w' ⟨rfl, ⟨nd, rfl⟩⟩; refine ⟨_, rfl, ?_⟩))
         go_ret
         exact ⟨eR, oB HB⟩
def impl_tunedBy.f (k : Nat) (l0_0 : List (S112)) (a0_1 : Int) (l0_2 : List Int) (a1 : Int) : Option (Int) := if 0 ≤ a1 then (if a1 < (l0_0.length : Int) then (if 0 ≤ ((rd_T112 l0_0 a1).f0) then (if ((rd_T112 l0_0 a1).f0) < (l0_2.length : Int) then ((impl_TunedPitch.f k (rd l0_2 ((rd_T112 l0_0 a1).f0)) ((rd_T112 l0_0 a1).f2) ((rd_T112 l0_0 a1).f3)).bind fun t605 => (some t605)) else (none)) else (none)) else (none)) else (none)
def impl_tunedBy.T2 : Bool × List (List Nat × List Nat) := (true, [([], []), ([0], [0]), ([], []), ([2], [2]), ([1, 3], [1, 3]), ([4], [4]), ([], []), ([6], [6]), ([], []), ([8], [8]), ([5, 7, 9], [5, 7, 9]), ([10, 10, 0, 1, 2, 3, 4, 5, 6, 7, 8, 9, 10], [10])])
def impl_tunedBy.B2 : List Nat := [0, 1, 0, 4, 15, 31, 0, 64, 0, 256, 1023, 2047]
theorem impl_tunedBy.tab2 : rtab .any (opsOf Tryz.f121 2) = impl_tunedBy.T2 := by kernel_rfl
theorem impl_tunedBy.bits2 : waitsOk impl_tunedBy.T2.2 impl_tunedBy.B2 = true := by kernel_rfl
theorem impl_tunedBy.calls (k : Nat) (A0_0 : Option Addr) (c0_0 : Nat) (l0_0 : List (S112)) (a0_1 : Int) (A0_2 : Option Addr) (c0_2 : Nat) (l0_2 : List Int) (a1 : Int) (r : Int) (w : World) (hr0_0 : Kd.C k112 w A0_0 l0_0.length l0_0) (hc0_0 : l0_0.length ≤ c0_0) (hr0_2 : Kd.C (Kd.int .i64) w A0_2 l0_2.length l0_2) (hc0_2 : l0_2.length ≤ c0_2) (h : impl_tunedBy.f k l0_0 a0_1 l0_2 a1 = some r) :
  Calls Tryz.prog 121 #[.agg #[.slice A0_0 l0_0.length c0_0, .int .i64 a0_1, .slice A0_2 l0_2.length c0_2], .int .i64 a1] w fun e w' => e = .returned (.int .i64 r) ∧ Below w.heap.size w w' := by
 have hu34 := Tryz.underlying34
 have hu112 := Tryz.underlying112
 have HR0_0 := A_ hr0_0
 have HC0_0 := A_ hc0_0
 clear hr0_0 hc0_0
 have HR0_2 := A_ hr0_2
 have HC0_2 := A_ hc0_2
 clear hr0_2 hc0_2
 have HB := A_ (Below.refl w.heap.size w)
 have H : (if 0 ≤ a1 then (if a1 < (l0_0.length : Int) then (if 0 ≤ ((rd_T112 l0_0 a1).f0) then (if ((rd_T112 l0_0 a1).f0) < (l0_2.length : Int) then ((impl_TunedPitch.f k (rd l0_2 ((rd_T112 l0_0 a1).f0)) ((rd_T112 l0_0 a1).f2) ((rd_T112 l0_0 a1).f3)).bind fun t605 => (some t605)) else (none)) else (none)) else (none)) else (none)) = some r := h
 clear h
 by_cases c3 : 0 ≤ a1
 ·rw [if_pos c3] at H
  have c3b0 : decide (0 ≤ a1) = true := decide_eq_true c3
  clear c3
  by_cases c4 : a1 < (l0_0.length : Int)
  ·rw [if_pos c4] at H
   have c4b0 : decide (a1 < (l0_0.length : Int)) = true := decide_eq_true c4
   clear c4
   by_cases c5 : 0 ≤ ((rd_T112 l0_0 a1).f0)
   ·rw [if_pos c5] at H
    have c5b0 : decide (0 ≤ ((rd_T112 l0_0 a1).f0)) = true := decide_eq_true c5
    clear c5
    by_cases c6 : ((rd_T112 l0_0 a1).f0) < (l0_2.length : Int)
    ·rw [if_pos c6] at H
     have c6b0 : decide (((rd_T112 l0_0 a1).f0) < (l0_2.length : Int)) = true := decide_eq_true c6
     clear c6
     replace H := Option.bind_eq_some_iff.mp H
     obtain ⟨t605, A70, H⟩ := H
     (try dsimp only at H)
     have A7 := A_ A70
     clear A70
     obtain rfl := Option.some.inj H
     go_enter Tryz.func121, Tryz.ntmps121
     try go_wp2_with (first | ((with_reducible refine gate_dst (N := 2) rfl ?_); refine bX (N := 2) (cs := #[.slice A0_0 l0_0.length c0_0, .int .i64 a0_1, .slice A0_2 l0_2.length c0_2]) (t := 34) ?_; intro gb601 hg w8 hbox hb; have n0_ := A_ (below_step (oB HB) hb); have n1_ := A_ (hbox); have n2_ := A_ ((by rw [hg]; exact (below_size (oB HB)) : w.heap.size ≤ gb601)); have n3_ := A_ ((by rw [hg]; exact (below_size (oB HB)) : w.heap.size ≤ gb601)); clear HB; have HB := n0_; have BK601 := n1_; have GW601 := n2_; have GE601 := n3_; clear n0_ n1_ n2_ n3_; clear hb hbox hg; have hcz9_0 := cz BK601 0; have hcz9_1 := cz BK601 1; have hcz9_2 := cz BK601 2; have hfz9_0 := blk_frozen BK601.out 0; have hfz9_1 := blk_frozen BK601.out 1; have hfz9_2 := blk_frozen BK601.out 2; have p602 : 0 ≤ (a1 : Int) := oD; have q602 : a1 < (l0_0.length : Int) := oD; obtain ⟨ad602, e602, hx602_0, hx602_1, hx602_2, hx602_3⟩ := at_T112 HR0_0.out a1 p602 q602; cases e602; replace hx602_0 := hW HB hx602_0; replace hx602_1 := hW HB hx602_1; replace hx602_2 := hW HB hx602_2; replace hx602_3 := hW HB hx602_3; replace p602 := eq_true p602; replace q602 := eq_true q602) | ((with_reducible refine gate_dst (N := 5) rfl ?_); refine bX (N := 5) (cs := #[.int .i64 0, .int .i64 0, .int .i64 0, .int .i64 0]) (t := 112) ?_; intro gb603 hg w10 hbox hb; have n0_ := A_ (bb BK601 hb); have n1_ := A_ (below_step (oB HB) hb); have n2_ := A_ (hbox); have n3_ := A_ ((by rw [hg]; exact (below_size (oB HB)) : w.heap.size ≤ gb603)); have n4_ := A_ ((by rw [hg]; exact (below_size (oB HB)) : w.heap.size ≤ gb603)); have n5_ := A_ (nL BK601 hg); have n6_ := A_ (nG BK601 hg); clear BK601; clear HB; have BK601 := n0_; have HB := n1_; have BK603 := n2_; have GW603 := n3_; have GE603 := n4_; have NB601_603 := n5_; have NB603_601 := n6_; clear n0_ n1_ n2_ n3_ n4_ n5_ n6_; clear hb hbox hg; have hnb11 := NB603_601.out; have hnc11 := NB601_603.out; have hcz12_0 := cz BK603 0; have hcz12_1 := cz BK603 1; have hcz12_2 := cz BK603 2; have hcz12_3 := cz BK603 3; have hfz12_0 := blk_frozen BK603.out 0; have hfz12_1 := blk_frozen BK603.out 1; have hfz12_2 := blk_frozen BK603.out 2; have hfz12_3 := blk_frozen BK603.out 3))
     have n0_ : Aside0 (((((w10.setCell ⟨gb603, 0, none⟩ (.int .i64 ((rd_T112 l0_0 a1).f0))).setCell ⟨gb603, 1, none⟩ (.int .i64 ((rd_T112 l0_0 a1).f1))).setCell ⟨gb603, 2, none⟩ (.int .i64 ((rd_T112 l0_0 a1).f2))).setCell ⟨gb603, 3, none⟩ (.int .i64 ((rd_T112 l0_0 a1).f3))).heap[gb601]? = some (.cells #[.slice (some ad602) l0_0.length c0_0, .int .i64 a0_1, .slice A0_2 l0_2.length c0_2] 34 (0, 0))) := ⟨by (with_reducible repeat (first | refine blk_drewN ?_ _ | refine blk_drew ?_ | refine blk_alloc ?_ _)); refine blk_far ?_ NB601_603.out _; (with_reducible repeat (first | refine blk_drewN ?_ _ | refine blk_drew ?_ | refine blk_alloc ?_ _)); refine blk_far ?_ NB601_603.out _; (with_reducible repeat (first | refine blk_drewN ?_ _ | refine blk_drew ?_ | refine blk_alloc ?_ _)); refine blk_far ?_ NB601_603.out _; (with_reducible repeat (first | refine blk_drewN ?_ _ | refine blk_drew ?_ | refine blk_alloc ?_ _)); refine blk_far ?_ NB601_603.out _; (with_reducible repeat (first | refine blk_drewN ?_ _ | refine blk_drew ?_ | refine blk_alloc ?_ _)); exact BK601.out⟩
     have n1_ : Aside0 (((((w10.setCell ⟨gb603, 0, none⟩ (.int .i64 ((rd_T112 l0_0 a1).f0))).setCell ⟨gb603, 1, none⟩ (.int .i64 ((rd_T112 l0_0 a1).f1))).setCell ⟨gb603, 2, none⟩ (.int .i64 ((rd_T112 l0_0 a1).f2))).setCell ⟨gb603, 3, none⟩ (.int .i64 ((rd_T112 l0_0 a1).f3))).heap[gb603]? = some (.cells #[.int .i64 ((rd_T112 l0_0 a1).f0), .int .i64 ((rd_T112 l0_0 a1).f1), .int .i64 ((rd_T112 l0_0 a1).f2), .int .i64 ((rd_T112 l0_0 a1).f3)] 112 (0, 0))) := ⟨by (with_reducible repeat (first | refine blk_drewN ?_ _ | refine blk_drew ?_ | refine blk_alloc ?_ _)); refine blk_put (cs := #[.int .i64 ((rd_T112 l0_0 a1).f0), .int .i64 ((rd_T112 l0_0 a1).f1), .int .i64 ((rd_T112 l0_0 a1).f2), .int .i64 0]) ?_ 3 _ rfl; (with_reducible repeat (first | refine blk_drewN ?_ _ | refine blk_drew ?_ | refine blk_alloc ?_ _)); refine blk_put (cs := #[.int .i64 ((rd_T112 l0_0 a1).f0), .int .i64 ((rd_T112 l0_0 a1).f1), .int .i64 0, .int .i64 0]) ?_ 2 _ rfl; (with_reducible repeat (first | refine blk_drewN ?_ _ | refine blk_drew ?_ | refine blk_alloc ?_ _)); refine blk_put (cs := #[.int .i64 ((rd_T112 l0_0 a1).f0), .int .i64 0, .int .i64 0, .int .i64 0]) ?_ 1 _ rfl; (with_reducible repeat (first | refine blk_drewN ?_ _ | refine blk_drew ?_ | refine blk_alloc ?_ _)); refine blk_put (cs := #[.int .i64 0, .int .i64 0, .int .i64 0, .int .i64 0]) ?_ 0 _ rfl; (with_reducible repeat (first | refine blk_drewN ?_ _ | refine blk_drew ?_ | refine blk_alloc ?_ _)); exact BK603.out⟩
     have n2_ : Aside0 (Below w.heap.size w ((((w10.setCell ⟨gb603, 0, none⟩ (.int .i64 ((rd_T112 l0_0 a1).f0))).setCell ⟨gb603, 1, none⟩ (.int .i64 ((rd_T112 l0_0 a1).f1))).setCell ⟨gb603, 2, none⟩ (.int .i64 ((rd_T112 l0_0 a1).f2))).setCell ⟨gb603, 3, none⟩ (.int .i64 ((rd_T112 l0_0 a1).f3)))) := ⟨oB HB⟩
     (try clear BK601)
     (try clear BK603)
     (try clear HB)
     generalize ((((w10.setCell ⟨gb603, 0, none⟩ (.int .i64 ((rd_T112 l0_0 a1).f0))).setCell ⟨gb603, 1, none⟩ (.int .i64 ((rd_T112 l0_0 a1).f1))).setCell ⟨gb603, 2, none⟩ (.int .i64 ((rd_T112 l0_0 a1).f2))).setCell ⟨gb603, 3, none⟩ (.int .i64 ((rd_T112 l0_0 a1).f3))) = w13 at n0_ n1_ n2_ ⊢
     have BK601 := n0_
     have BK603 := n1_
     have HB := n2_
     clear n0_ n1_ n2_
     have n0_ := A_ (blk_drew BK601.out)
     have n1_ := A_ (blk_drew BK603.out)
     have n2_ := A_ (below_drew1 HB.out)
     clear BK601
     clear BK603
     clear HB
     have BK601 := n0_
     have BK603 := n1_
     have HB := n2_
     clear n0_ n1_ n2_
     have p604 : 0 ≤ (((rd_T112 l0_0 a1).f0) : Int) := oD
     have q604 : ((rd_T112 l0_0 a1).f0) < (l0_2.length : Int) := oD
     obtain ⟨ad604, e604, hx604_0⟩ := Kd.at_int HR0_2.out ((rd_T112 l0_0 a1).f0) p604 q604
     have hw604_0 := hx604_0
     cases e604
     replace hx604_0 := hW HB hx604_0
     replace p604 := eq_true p604
     replace q604 := eq_true q604
     refine start_ (n := 12) (S := fun w' => w'.cell? ⟨gb601, 0, none⟩ = some (.slice (some ad602) l0_0.length c0_0) ∧ w'.cell? ⟨gb601, 1, none⟩ = some (.int .i64 a0_1) ∧ w'.cell? ⟨gb601, 2, none⟩ = some (.slice (some ad604) l0_2.length c0_2) ∧ w'.cell? ⟨gb603, 0, none⟩ = some (.int .i64 ((rd_T112 l0_0 a1).f0)) ∧ w'.cell? ⟨gb603, 1, none⟩ = some (.int .i64 ((rd_T112 l0_0 a1).f1)) ∧ w'.cell? ⟨gb603, 2, none⟩ = some (.int .i64 ((rd_T112 l0_0 a1).f2)) ∧ w'.cell? ⟨gb603, 3, none⟩ = some (.int .i64 ((rd_T112 l0_0 a1).f3)) ∧ w'.cell? (ad604.add (((rd_T112 l0_0 a1).f0)).toNat) = some (.int .i64 (rd l0_2 ((rd_T112 l0_0 a1).f0)))) (ds := []) #[false, false, false, false, false, false, false, false, false, false, false, false] (by kernel_rfl) rfl rfl ⟨cz BK601 0, cz BK601 1, cz BK601 2, cz BK603 0, cz BK603 1, cz BK603 2, cz BK603 3, (hW HB hw604_0)⟩ (fun hHeld => ?_); refine with_tabW impl_tunedBy.tab2 impl_tunedBy.bits2 (fun HT_ HW_ => ?_)
     generalize w13.drew = w14 at BK601 BK603 HB hx604_0 hHeld ⊢
     refine pA 0 (some 11) HT_.out ?_
     refine pA 2 (some 13) HT_.out ?_
     refine pA 6 (some 17) HT_.out ?_
     refine pA 8 (some 19) HT_.out ?_
     refine pT 1 (some 12) HT_.out HW_.out hHeld ?_
     refine pT 3 (some 14) HT_.out HW_.out hHeld ?_
     refine pA 4 (some 15) HT_.out ?_
     refine pT 5 (some 16) HT_.out HW_.out hHeld ?_
     refine pT 7 (some 18) HT_.out HW_.out hHeld ?_
     refine pT 9 (some 20) HT_.out HW_.out hHeld ?_
     refine one_ (i := 10) (N := some 21) #[true, true, true, true, true, true, true, true, true, true, true, false] rfl rfl (one_of HT_.out (by kernel_rfl)) (by decide) (fun K hK => ?_)
     refine goes_ Tryz.func91 (by kernel_rfl) rfl #[.int .i64 (rd l0_2 ((rd_T112 l0_0 a1).f0)), .int .i64 ((rd_T112 l0_0 a1).f2), .int .i64 ((rd_T112 l0_0 a1).f3)] (by rfl) rfl rfl (by (try simp only [List.map_toArray, List.map_cons, List.map_nil]); first | done | rfl | (simp only [List.length_drop, List.length_take]; rfl)) ?_
     with_reducible refine (impl_TunedPitch.calls k (rd l0_2 ((rd_T112 l0_0 a1).f0)) ((rd_T112 l0_0 a1).f2) ((rd_T112 l0_0 a1).f3) t605 _ A7.out).mono ?_
     rintro e w15 ⟨rfl, hb⟩
     refine ⟨_, rfl, ?_⟩
     have n0_ := A_ (bb BK601 hb)
     have n1_ := A_ (bb BK603 hb)
     have n2_ := A_ (below_step (oB HB) hb)
     clear BK601
     clear BK603
     clear HB
     have BK601 := n0_
     have BK603 := n1_
     have HB := n2_
     clear n0_ n1_ n2_
     (try clear hb)
     (try clear hb2)
     (try clear hk)
     (try clear hi)
     refine hK.out _ _ ⟨cz BK601 0, cz BK601 1, cz BK601 2, cz BK603 0, cz BK603 1, cz BK603 2, cz BK603 3, (hW HB hw604_0)⟩ (fun hHeld => ?_)
     clear hK K
     refine norm_ (a' := ?_) ?_ ?_
     rotate_left
     ·show Act.put _ (some 21) _ = _
      simp only [Act.put, List.setIfInBounds_toArray, List.set_cons_zero, List.set_cons_succ, i64_w, i32_w]
      rfl
     refine pA 11 (some 4) HT_.out ?_
     refine done_ (done_of HT_.out (by kernel_rfl)) ?_
     try go_wp2
     go_ret
     exact ⟨eR, oB HB⟩
    ·rw [if_neg c6] at H
     exact absurd H (by simp)
   ·rw [if_neg c5] at H
    exact absurd H (by simp)
  ·rw [if_neg c4] at H
   exact absurd H (by simp)
 ·rw [if_neg c3] at H
  exact absurd H (by simp)
def impl_WarmPitch.f (a0 : Int) (a1 : Int) : Option (Int) := (impl_isFine.f a0).bind fun t730 => (if t730 = true then ((impl_isWarmth.f a1).bind fun t731 => (if t731 = true then (some (wrap64 (Int.tdiv (wrap64 (a0 * (wrap64 (1000 + (wrap64 (2 * (wrap64 (a1 - 15)))))))) 1000))) else (some 0))) else (some 0))
theorem impl_WarmPitch.calls (a0 : Int) (a1 : Int) (r : Int) (w : World) (h : impl_WarmPitch.f a0 a1 = some r) :
  Calls Tryz.prog 42 #[.int .i64 a0, .int .i64 a1] w fun e w' => e = .returned (.int .i64 r) ∧ Drawn0 w w' := by
 have H : ((impl_isFine.f a0).bind fun t730 => (if t730 = true then ((impl_isWarmth.f a1).bind fun t731 => (if t731 = true then (some (wrap64 (Int.tdiv (wrap64 (a0 * (wrap64 (1000 + (wrap64 (2 * (wrap64 (a1 - 15)))))))) 1000))) else (some 0))) else (some 0))) = some r := h
 clear h
 replace H := Option.bind_eq_some_iff.mp H
 obtain ⟨t730, A30, H⟩ := H
 (try dsimp only at H)
 have A3 := A_ A30
 clear A30
 by_cases c4 : t730 = true
 ·subst c4
  rw [if_pos rfl] at H
  replace H := Option.bind_eq_some_iff.mp H
  obtain ⟨t731, A50, H⟩ := H
  (try dsimp only at H)
  have A5 := A_ A50
  clear A50
  by_cases c6 : t731 = true
  ·subst c6
   rw [if_pos rfl] at H
   obtain rfl := Option.some.inj H
   go_enter Tryz.func42, Tryz.ntmps42
   go_wp2_with (first | ((with_reducible refine gate_callee (f := 90) rfl ?_); refine gL (some 6) Tryz.func90 #[.int .i64 a0] ?_; (with_reducible refine (impl_isFine.calls a0 true _ A3.out).mono ?_); rintro e w' ⟨rfl, ⟨nd, rfl⟩⟩; refine ⟨_, rfl, ?_⟩) | (go_at_call 78; (with_reducible refine (impl_isWarmth.calls a1 true _ A5.out).mono ?_); rintro e w' ⟨rfl, ⟨nd, rfl⟩⟩))
   go_ret
   exact ⟨eS, by repeat (first | exact Drawn0.refl _ | apply Drawn0.step)⟩
  ·replace c6 := Bool.eq_false_iff.mpr c6
   subst c6
   rw [if_neg (show ¬ (false = true) by decide)] at H
   obtain rfl := Option.some.inj H
   go_enter Tryz.func42, Tryz.ntmps42
   go_wp2_with (first | ((with_reducible refine gate_callee (f := 90) rfl ?_); refine gL (some 6) Tryz.func90 #[.int .i64 a0] ?_; (with_reducible refine (impl_isFine.calls a0 true _ A3.out).mono ?_); rintro e w' ⟨rfl, ⟨nd, rfl⟩⟩; refine ⟨_, rfl, ?_⟩) | (go_at_call 78; (with_reducible refine (impl_isWarmth.calls a1 false _ A5.out).mono ?_); rintro e w' ⟨rfl, ⟨nd, rfl⟩⟩))
   go_ret
   exact ⟨eS, by repeat (first | exact Drawn0.refl _ | apply Drawn0.step)⟩
 ·replace c4 := Bool.eq_false_iff.mpr c4
  subst c4
  rw [if_neg (show ¬ (false = true) by decide)] at H
  obtain rfl := Option.some.inj H
  go_enter Tryz.func42, Tryz.ntmps42
  go_wp2_with (first | ((with_reducible refine gate_callee (f := 90) rfl ?_); refine gL (some 6) Tryz.func90 #[.int .i64 a0] ?_; (with_reducible refine (impl_isFine.calls a0 false _ A3.out).mono ?_); rintro e w' ⟨rfl, ⟨nd, rfl⟩⟩; refine ⟨_, rfl, ?_⟩))
  go_ret
  exact ⟨eS, by repeat (first | exact Drawn0.refl _ | apply Drawn0.step)⟩
def impl_truth.f (a0 : Bool) : Option (Int) := if a0 = true then (some 1) else (some 0)
theorem impl_truth.calls (a0 : Bool) (r : Int) (w : World) (h : impl_truth.f a0 = some r) :
  Calls Tryz.prog 58 #[.bool a0] w fun e w' => e = .returned (.int .i64 r) ∧ Drawn0 w w' := by
 have H : (if a0 = true then (some 1) else (some 0)) = some r := h
 clear h
 by_cases c2 : a0 = true
 ·subst c2
  rw [if_pos rfl] at H
  obtain rfl := Option.some.inj H
  go_enter Tryz.func58, Tryz.ntmps58
  go_wp2
  go_ret
  exact ⟨eS, by repeat (first | exact Drawn0.refl _ | apply Drawn0.step)⟩
 ·replace c2 := Bool.eq_false_iff.mpr c2
  subst c2
  rw [if_neg (show ¬ (false = true) by decide)] at H
  obtain rfl := Option.some.inj H
  go_enter Tryz.func58, Tryz.ntmps58
  go_wp2
  go_ret
  exact ⟨eS, by repeat (first | exact Drawn0.refl _ | apply Drawn0.step)⟩
def laws_markActS.l0 : Nat → List (S41) → Int → Int → Option (Int × (List (S41)))
 | 0, _, _, _ => none
 | k + 1, x0, x1, x5 => if x5 < (x0.length : Int) then (if 0 ≤ x5 then ((some (x0.set (x5 : Int).toNat (⟨x1, (rd_T41 x0 x5).f1, (rd_T41 x0 x5).f2, (rd_T41 x0 x5).f3⟩ : S41) : List (S41))).bind fun y1282 => ((some (y1282.set (x5 : Int).toNat (⟨(rd_T41 y1282 x5).f0, wrap64 (x1 + 1), (rd_T41 y1282 x5).f2, (rd_T41 y1282 x5).f3⟩ : S41) : List (S41))).bind fun y1283 => ((some (y1283.set (x5 : Int).toNat (⟨(rd_T41 y1283 x5).f0, (rd_T41 y1283 x5).f1, wrap64 ((wrap64 (x1 + 1)) + 1), (rd_T41 y1283 x5).f3⟩ : S41) : List (S41))).bind fun y1284 => (laws_markActS.l0 k (y1284.set (x5 : Int).toNat (⟨(rd_T41 y1284 x5).f0, (rd_T41 y1284 x5).f1, (rd_T41 y1284 x5).f2, wrap64 ((wrap64 ((wrap64 (x1 + 1)) + 1)) + 1)⟩ : S41)) (wrap64 ((wrap64 ((wrap64 ((wrap64 (x1 + 1)) + 1)) + 1)) + 1)) (wrap64 (x5 + 1)))))) else (none)) else (some (x1, x0))
def laws_markActS.f (k : Nat) (l0 : List (S41)) (a1 : Int) : Option (Int × (List (S41))) := laws_markActS.l0 k l0 a1 0
theorem laws_markActS.calls (k : Nat) (P0_ : Nat → Prop) (u9000_ : Value) (l0 : List (S41)) (a1 : Int) (r1 : Int) (r2 : List (S41)) (w0 w : World) (hB : Below w0.heap.size w0 w) (ho0 : Kd.R k41 41 w w0.heap.size P0_ u9000_ l0) (h : laws_markActS.f k l0 a1 = some (r1, r2)) :
  Calls Tryz.prog 23 #[u9000_, .int .i64 a1] w fun e w' => e = .returned (.int .i64 r1) ∧ Kd.R k41 41 w' w0.heap.size (fun k_ => (P0_ k_ ∨ w.heap.size ≤ k_)) u9000_ r2 ∧ Below w0.heap.size w0 w' ∧ Kept w w' (fun k_ => P0_ k_) := by
 have HO0 := A_ (show Kd.R k41 41 w w0.heap.size (fun k_ => (P0_ k_ ∨ w.heap.size ≤ k_)) u9000_ l0 from Kd.R_mono ho0 (fun k_ hk => (.inl hk)))
 have HK := A_ (Kept.refl w (fun k_ => P0_ k_))
 have HW0 := A_ hB.size
 have HB := A_ hB
 clear hB
 have H : (laws_markActS.l0 k l0 a1 0) = some (r1, r2) := h
 clear h
 have H' := A_ H
 clear H
 go_enter Tryz.func23, Tryz.ntmps23
 go_wp2
 go_loopg [1, 5] k (fun kq v1 v5 w' => ∃ (x0_1 : List (S41)) (x1_1 : Int) (x5_1 : Int), v1 = .int .i64 x1_1 ∧ v5 = .int .i64 x5_1 ∧ Aside0 (laws_markActS.l0 kq x0_1 x1_1 x5_1 = some (r1, r2)) ∧ Aside0 (kq ≤ k) ∧ Aside0 (Kd.R k41 41 w' w0.heap.size (fun k_ => (P0_ k_ ∨ w.heap.size ≤ k_)) u9000_ x0_1) ∧ Aside0 (Kept w w' (fun k_ => P0_ k_)) ∧ Aside0 (Below w0.heap.size w0 w'))
 case atStart => exact ⟨(l0), (a1), (0), eS, eS, H', ⟨Nat.le_refl _⟩, ⟨oR HO0⟩, ⟨by repeat (first | (with_reducible first | exact HK.out | apply Kept.alloc | apply Kept.drewN | apply Kept.drew) | exact HK.out)⟩, ⟨oB HB⟩⟩
 case round =>
  clear H'
  try clear c2
  try clear p2
  obtain ⟨x0_1, x1_1, x5_1, rfl, rfl, HA, HK1, HO_0, HK, HB⟩ := hrel
  cases gk with
  | zero => exact absurd HA.out (by simp [laws_markActS.l0])
  | succ k1 =>
   have H := HA.out
   clear HA
   simp only [laws_markActS.l0] at H
   by_cases c3 : x5_1 < (x0_1.length : Int)
   ·rw [if_pos c3] at H
    have c3b0 : decide (x5_1 < (x0_1.length : Int)) = true := decide_eq_true c3
    clear c3
    by_cases c4 : 0 ≤ x5_1
    ·rw [if_pos c4] at H
     have c4b0 : decide (0 ≤ x5_1) = true := decide_eq_true c4
     clear c4
     obtain ⟨y1282, hy1282⟩ : ∃ y_ : List (S41), y_ = (x0_1.set (x5_1 : Int).toNat (⟨x1_1, (rd_T41 x0_1 x5_1).f1, (rd_T41 x0_1 x5_1).f2, (rd_T41 x0_1 x5_1).f3⟩ : S41)) := ⟨_, rfl⟩
     replace H : ((some (y1282.set (x5_1 : Int).toNat (⟨(rd_T41 y1282 x5_1).f0, wrap64 (x1_1 + 1), (rd_T41 y1282 x5_1).f2, (rd_T41 y1282 x5_1).f3⟩ : S41) : List (S41))).bind fun y1283 => ((some (y1283.set (x5_1 : Int).toNat (⟨(rd_T41 y1283 x5_1).f0, (rd_T41 y1283 x5_1).f1, wrap64 ((wrap64 (x1_1 + 1)) + 1), (rd_T41 y1283 x5_1).f3⟩ : S41) : List (S41))).bind fun y1284 => (laws_markActS.l0 k1 (y1284.set (x5_1 : Int).toNat (⟨(rd_T41 y1284 x5_1).f0, (rd_T41 y1284 x5_1).f1, (rd_T41 y1284 x5_1).f2, wrap64 ((wrap64 ((wrap64 (x1_1 + 1)) + 1)) + 1)⟩ : S41)) (wrap64 ((wrap64 ((wrap64 ((wrap64 (x1_1 + 1)) + 1)) + 1)) + 1)) (wrap64 (x5_1 + 1))))) = some (r1, r2) := by first | (rw [hy1282]; with_reducible exact H) | (have H2_ := (Option.bind_some _ _).symm.trans H; rw [hy1282]; with_reducible exact H2_) | (have H2_ := (Option.bind_some _ _).symm.trans H; with_reducible exact H2_) | with_reducible exact H | (rw [hy1282]; exact H) | exact H
     have Ny1282 := A_ hy1282
     clear hy1282
     obtain ⟨y1283, hy1283⟩ : ∃ y_ : List (S41), y_ = (y1282.set (x5_1 : Int).toNat (⟨(rd_T41 y1282 x5_1).f0, wrap64 (x1_1 + 1), (rd_T41 y1282 x5_1).f2, (rd_T41 y1282 x5_1).f3⟩ : S41)) := ⟨_, rfl⟩
     replace H : ((some (y1283.set (x5_1 : Int).toNat (⟨(rd_T41 y1283 x5_1).f0, (rd_T41 y1283 x5_1).f1, wrap64 ((wrap64 (x1_1 + 1)) + 1), (rd_T41 y1283 x5_1).f3⟩ : S41) : List (S41))).bind fun y1284 => (laws_markActS.l0 k1 (y1284.set (x5_1 : Int).toNat (⟨(rd_T41 y1284 x5_1).f0, (rd_T41 y1284 x5_1).f1, (rd_T41 y1284 x5_1).f2, wrap64 ((wrap64 ((wrap64 (x1_1 + 1)) + 1)) + 1)⟩ : S41)) (wrap64 ((wrap64 ((wrap64 ((wrap64 (x1_1 + 1)) + 1)) + 1)) + 1)) (wrap64 (x5_1 + 1)))) = some (r1, r2) := by first | (rw [hy1283]; with_reducible exact H) | (have H2_ := (Option.bind_some _ _).symm.trans H; rw [hy1283]; with_reducible exact H2_) | (have H2_ := (Option.bind_some _ _).symm.trans H; with_reducible exact H2_) | with_reducible exact H | (rw [hy1283]; exact H) | exact H
     have Ny1283 := A_ hy1283
     clear hy1283
     obtain ⟨y1284, hy1284⟩ : ∃ y_ : List (S41), y_ = (y1283.set (x5_1 : Int).toNat (⟨(rd_T41 y1283 x5_1).f0, (rd_T41 y1283 x5_1).f1, wrap64 ((wrap64 (x1_1 + 1)) + 1), (rd_T41 y1283 x5_1).f3⟩ : S41)) := ⟨_, rfl⟩
     replace H : (laws_markActS.l0 k1 (y1284.set (x5_1 : Int).toNat (⟨(rd_T41 y1284 x5_1).f0, (rd_T41 y1284 x5_1).f1, (rd_T41 y1284 x5_1).f2, wrap64 ((wrap64 ((wrap64 (x1_1 + 1)) + 1)) + 1)⟩ : S41)) (wrap64 ((wrap64 ((wrap64 ((wrap64 (x1_1 + 1)) + 1)) + 1)) + 1)) (wrap64 (x5_1 + 1))) = some (r1, r2) := by first | (rw [hy1284]; with_reducible exact H) | (have H2_ := (Option.bind_some _ _).symm.trans H; rw [hy1284]; with_reducible exact H2_) | (have H2_ := (Option.bind_some _ _).symm.trans H; with_reducible exact H2_) | with_reducible exact H | (rw [hy1284]; exact H) | exact H
     have Ny1284 := A_ hy1284
     clear hy1284
     obtain ⟨y1285, hy1285⟩ : ∃ y_ : List (S41), y_ = (y1284.set (x5_1 : Int).toNat (⟨(rd_T41 y1284 x5_1).f0, (rd_T41 y1284 x5_1).f1, (rd_T41 y1284 x5_1).f2, wrap64 ((wrap64 ((wrap64 (x1_1 + 1)) + 1)) + 1)⟩ : S41)) := ⟨_, rfl⟩
     replace H : (laws_markActS.l0 k1 y1285 (wrap64 ((wrap64 ((wrap64 ((wrap64 (x1_1 + 1)) + 1)) + 1)) + 1)) (wrap64 (x5_1 + 1))) = some (r1, r2) := by first | (rw [hy1285]; with_reducible exact H) | (have H2_ := (Option.bind_some _ _).symm.trans H; rw [hy1285]; with_reducible exact H2_) | (have H2_ := (Option.bind_some _ _).symm.trans H; with_reducible exact H2_) | with_reducible exact H | (rw [hy1285]; exact H) | exact H
     have Ny1285 := A_ hy1285
     clear hy1285
     have H' := A_ H
     clear H
     obtain ⟨Ao9, co9, eo9⟩ := Kd.R_slice HO_0.out
     subst eo9
     have p5 : 0 ≤ (x5_1 : Int) := oD
     have q5 : (x5_1 : Int) < ((x0_1.length : Int) : Int) := oD
     obtain ⟨go5, co5, eo5, gb5, gl5, cl5, HG5⟩ := Kd.R_form HO_0.out (by omega)
     (first | cases eo5 | (injection eo5 with ea_ en_ ec_; (first | subst ea_ | (injection ea_ with ea_; subst ea_)); subst ec_; clear en_))
     have GB5 := A_ gb5
     have GG5 := A_ HG5
     clear gb5 gl5 HG5
     have HMgo5 := A_ (show (P0_ go5 ∨ w.heap.size ≤ go5) from (HO_0.out.1 _ rfl))
     obtain ⟨ce5, hcl5, hM5, hcc5, hfr5⟩ := Kd.R_elem HO_0.out z41 (x5_1 : Int) p5 q5
     obtain rfl := k41_openM hM5
     have hx5_0 : wr.cell? ⟨go5, (x5_1 : Int).toNat * 4, none⟩ = some (.int .i64 ((rd_T41 x0_1 x5_1).f0)) := hcc5 0 _ rfl
     have hx5_1 : wr.cell? ⟨go5, (x5_1 : Int).toNat * 4 + 1, none⟩ = some (.int .i64 ((rd_T41 x0_1 x5_1).f1)) := hcc5 1 _ rfl
     have hx5_2 : wr.cell? ⟨go5, (x5_1 : Int).toNat * 4 + 2, none⟩ = some (.int .i64 ((rd_T41 x0_1 x5_1).f2)) := hcc5 2 _ rfl
     have hx5_3 : wr.cell? ⟨go5, (x5_1 : Int).toNat * 4 + 3, none⟩ = some (.int .i64 ((rd_T41 x0_1 x5_1).f3)) := hcc5 3 _ rfl
     have hf5_0 : wr.frozen? ⟨go5, (x5_1 : Int).toNat * 4, none⟩ = false := hfr5 0
     have hf5_1 : wr.frozen? ⟨go5, (x5_1 : Int).toNat * 4 + 1, none⟩ = false := hfr5 1
     have hf5_2 : wr.frozen? ⟨go5, (x5_1 : Int).toNat * 4 + 2, none⟩ = false := hfr5 2
     have hf5_3 : wr.frozen? ⟨go5, (x5_1 : Int).toNat * 4 + 3, none⟩ = false := hfr5 3
     clear hcl5 hcc5 hfr5 hM5
     replace p5 := eq_true p5
     replace q5 := eq_true q5
     have HX10 := A_ (show Kd.R k41 41 wr w0.heap.size (fun k_ => (P0_ k_ ∨ w.heap.size ≤ k_)) (.slice (some ⟨go5, 0, none⟩) x0_1.length co9) x0_1 from (oR HO_0))
     obtain ⟨ce10, hcl10, hM10, hcc10, hfr10⟩ := Kd.R_elem HX10.out z41 (x5_1 : Int) (oD) (by have h_ : (x5_1 : Int) < ((x0_1.length : Int) : Int) := oD; first | exact h_ | (have e_ := (Kd.R_reads' HO_0.out).1; omega) | simpa using h_)
     obtain rfl := k41_openM hM10
     have HP10 := Kd.R_seg HX10.out (x5_1 : Int) (oD) (by have h_ : (x5_1 : Int) < ((x0_1.length : Int) : Int) := oD; first | exact h_ | (have e_ := (Kd.R_reads' HO_0.out).1; omega) | simpa using h_) (seg := [.int .i64 x1_1]) (j := 0) hcl10 hcc10 (show 1 ≤ 4 from by decide) (x' := (⟨x1_1, (rd_T41 x0_1 x5_1).f1, (rd_T41 x0_1 x5_1).f2, (rd_T41 x0_1 x5_1).f3⟩ : S41)) (k41_mkM _ _ _ (⟨x1_1, (rd_T41 x0_1 x5_1).f1, (rd_T41 x0_1 x5_1).f2, (rd_T41 x0_1 x5_1).f3⟩ : S41) ) (fun _ hk => hk)
     have hx10_0 := hcc10 0 _ rfl
     (try simp only [show (k41).sz = 4 from rfl, Nat.mul_one, Nat.add_zero] at hx10_0)
     have hf10_0 := hfr10 0
     (try simp only [show (k41).sz = 4 from rfl, Nat.mul_one, Nat.add_zero] at hf10_0)
     clear hcl10 hcc10 hfr10 hM10
     go_wp2_with (first | ((with_reducible refine gate_store (t := 3) (p := 16) rfl ?_); refine store_event (t := 3) (p := 16) (v := ?vo_w11) (w1 := (wr.setCell ⟨go5, (x5_1 : Int).toNat * 4, none⟩ (.int .i64 x1_1))) ?hg ?ho ?hn ?hr ?_; (case ho => rfl); (case hg => rfl); (case hn => rfl); (case hr => first | (go_simp; done) | (go_simp; rfl)); intro w11 hw; have hg : wr.grownBy w11 (some go5) := (by rw [hw]; exact HP10.2); have hp_ : Kd.R k41 41 w11 w0.heap.size (fun k_ => (P0_ k_ ∨ w.heap.size ≤ k_)) (.slice (some ⟨go5, 0, none⟩) x0_1.length co9) y1282 := (by rw [hw, Ny1282.out]; exact HP10.1); clear HP10; have n0_ := A_ (hp_); have n1_ := A_ ((by rw [hw]; exact below_set (HB.out) GB5.out : Below w0.heap.size w0 w11)); have n2_ := A_ (Kept.of_grown (S := (fun k_ => P0_ k_)) hg (by repeat (first | (with_reducible first | exact HK.out | apply Kept.alloc | apply Kept.drewN | apply Kept.drew) | exact HK.out)) (fun k_ e_ => (HO_0.out.1 k_ e_))); clear HO_0; clear HB; clear HK; have HO_0 := n0_; have HB := n1_; have HK := n2_; clear n0_ n1_ n2_; clear hg hw hp_; have p6 : 0 ≤ (x5_1 : Int) := oD; have q6 : (x5_1 : Int) < ((x0_1.length : Int) : Int) := oD; obtain ⟨ce6, hcl6, hM6, hcc6, hfr6⟩ := Kd.R_elem HO_0.out z41 (x5_1 : Int) p6 q6; obtain rfl := k41_openM hM6; have hx6_0 : w11.cell? ⟨go5, (x5_1 : Int).toNat * 4, none⟩ = some (.int .i64 ((rd_T41 y1282 x5_1).f0)) := hcc6 0 _ rfl; have hx6_1 : w11.cell? ⟨go5, (x5_1 : Int).toNat * 4 + 1, none⟩ = some (.int .i64 ((rd_T41 y1282 x5_1).f1)) := hcc6 1 _ rfl; have hx6_2 : w11.cell? ⟨go5, (x5_1 : Int).toNat * 4 + 2, none⟩ = some (.int .i64 ((rd_T41 y1282 x5_1).f2)) := hcc6 2 _ rfl; have hx6_3 : w11.cell? ⟨go5, (x5_1 : Int).toNat * 4 + 3, none⟩ = some (.int .i64 ((rd_T41 y1282 x5_1).f3)) := hcc6 3 _ rfl; have hf6_0 : w11.frozen? ⟨go5, (x5_1 : Int).toNat * 4, none⟩ = false := hfr6 0; have hf6_1 : w11.frozen? ⟨go5, (x5_1 : Int).toNat * 4 + 1, none⟩ = false := hfr6 1; have hf6_2 : w11.frozen? ⟨go5, (x5_1 : Int).toNat * 4 + 2, none⟩ = false := hfr6 2; have hf6_3 : w11.frozen? ⟨go5, (x5_1 : Int).toNat * 4 + 3, none⟩ = false := hfr6 3; clear hcl6 hcc6 hfr6 hM6; replace p6 := eq_true p6; replace q6 := eq_true q6; have HX12 := A_ (show Kd.R k41 41 w11 w0.heap.size (fun k_ => (P0_ k_ ∨ w.heap.size ≤ k_)) (.slice (some ⟨go5, 0, none⟩) x0_1.length co9) y1282 from (oR HO_0)); obtain ⟨ce12, hcl12, hM12, hcc12, hfr12⟩ := Kd.R_elem HX12.out z41 (x5_1 : Int) (oD) (by have h_ : (x5_1 : Int) < ((x0_1.length : Int) : Int) := oD; first | exact h_ | (have e_ := (Kd.R_reads' HO_0.out).1; omega) | simpa using h_); obtain rfl := k41_openM hM12; have HP12 := Kd.R_seg HX12.out (x5_1 : Int) (oD) (by have h_ : (x5_1 : Int) < ((x0_1.length : Int) : Int) := oD; first | exact h_ | (have e_ := (Kd.R_reads' HO_0.out).1; omega) | simpa using h_) (seg := [.int .i64 (wrap64 (x1_1 + 1))]) (j := 1) hcl12 hcc12 (show 2 ≤ 4 from by decide) (x' := (⟨(rd_T41 y1282 x5_1).f0, wrap64 (x1_1 + 1), (rd_T41 y1282 x5_1).f2, (rd_T41 y1282 x5_1).f3⟩ : S41)) (k41_mkM _ _ _ (⟨(rd_T41 y1282 x5_1).f0, wrap64 (x1_1 + 1), (rd_T41 y1282 x5_1).f2, (rd_T41 y1282 x5_1).f3⟩ : S41) ) (fun _ hk => hk); have hx12_1 := hcc12 1 _ rfl; (try simp only [show (k41).sz = 4 from rfl, Nat.mul_one, Nat.add_zero] at hx12_1); have hf12_1 := hfr12 1; (try simp only [show (k41).sz = 4 from rfl, Nat.mul_one, Nat.add_zero] at hf12_1); clear hcl12 hcc12 hfr12 hM12) | ((with_reducible refine gate_store (t := 3) (p := 23) rfl ?_); refine store_event (t := 3) (p := 23) (v := ?vo_w13) (w1 := (w11.setCell ⟨go5, (x5_1 : Int).toNat * 4 + 1, none⟩ (.int .i64 (wrap64 (x1_1 + 1))))) ?hg ?ho ?hn ?hr ?_; (case ho => rfl); (case hg => rfl); (case hn => rfl); (case hr => first | (go_simp; done) | (go_simp; rfl)); intro w13 hw; have hg : w11.grownBy w13 (some go5) := (by rw [hw]; exact HP12.2); have hp_ : Kd.R k41 41 w13 w0.heap.size (fun k_ => (P0_ k_ ∨ w.heap.size ≤ k_)) (.slice (some ⟨go5, 0, none⟩) x0_1.length co9) y1283 := (by rw [hw, Ny1283.out]; exact HP12.1); clear HP12; have n0_ := A_ (hp_); have n1_ := A_ ((by rw [hw]; exact below_set (HB.out) GB5.out : Below w0.heap.size w0 w13)); have n2_ := A_ (Kept.of_grown (S := (fun k_ => P0_ k_)) hg (by repeat (first | (with_reducible first | exact HK.out | apply Kept.alloc | apply Kept.drewN | apply Kept.drew) | exact HK.out)) (fun k_ e_ => (HO_0.out.1 k_ e_))); clear HO_0; clear HB; clear HK; have HO_0 := n0_; have HB := n1_; have HK := n2_; clear n0_ n1_ n2_; clear hg hw hp_; have p7 : 0 ≤ (x5_1 : Int) := oD; have q7 : (x5_1 : Int) < ((x0_1.length : Int) : Int) := oD; obtain ⟨ce7, hcl7, hM7, hcc7, hfr7⟩ := Kd.R_elem HO_0.out z41 (x5_1 : Int) p7 q7; obtain rfl := k41_openM hM7; have hx7_0 : w13.cell? ⟨go5, (x5_1 : Int).toNat * 4, none⟩ = some (.int .i64 ((rd_T41 y1283 x5_1).f0)) := hcc7 0 _ rfl; have hx7_1 : w13.cell? ⟨go5, (x5_1 : Int).toNat * 4 + 1, none⟩ = some (.int .i64 ((rd_T41 y1283 x5_1).f1)) := hcc7 1 _ rfl; have hx7_2 : w13.cell? ⟨go5, (x5_1 : Int).toNat * 4 + 2, none⟩ = some (.int .i64 ((rd_T41 y1283 x5_1).f2)) := hcc7 2 _ rfl; have hx7_3 : w13.cell? ⟨go5, (x5_1 : Int).toNat * 4 + 3, none⟩ = some (.int .i64 ((rd_T41 y1283 x5_1).f3)) := hcc7 3 _ rfl; have hf7_0 : w13.frozen? ⟨go5, (x5_1 : Int).toNat * 4, none⟩ = false := hfr7 0; have hf7_1 : w13.frozen? ⟨go5, (x5_1 : Int).toNat * 4 + 1, none⟩ = false := hfr7 1; have hf7_2 : w13.frozen? ⟨go5, (x5_1 : Int).toNat * 4 + 2, none⟩ = false := hfr7 2; have hf7_3 : w13.frozen? ⟨go5, (x5_1 : Int).toNat * 4 + 3, none⟩ = false := hfr7 3; clear hcl7 hcc7 hfr7 hM7; replace p7 := eq_true p7; replace q7 := eq_true q7; have HX14 := A_ (show Kd.R k41 41 w13 w0.heap.size (fun k_ => (P0_ k_ ∨ w.heap.size ≤ k_)) (.slice (some ⟨go5, 0, none⟩) x0_1.length co9) y1283 from (oR HO_0)); obtain ⟨ce14, hcl14, hM14, hcc14, hfr14⟩ := Kd.R_elem HX14.out z41 (x5_1 : Int) (oD) (by have h_ : (x5_1 : Int) < ((x0_1.length : Int) : Int) := oD; first | exact h_ | (have e_ := (Kd.R_reads' HO_0.out).1; omega) | simpa using h_); obtain rfl := k41_openM hM14; have HP14 := Kd.R_seg HX14.out (x5_1 : Int) (oD) (by have h_ : (x5_1 : Int) < ((x0_1.length : Int) : Int) := oD; first | exact h_ | (have e_ := (Kd.R_reads' HO_0.out).1; omega) | simpa using h_) (seg := [.int .i64 (wrap64 ((wrap64 (x1_1 + 1)) + 1))]) (j := 2) hcl14 hcc14 (show 3 ≤ 4 from by decide) (x' := (⟨(rd_T41 y1283 x5_1).f0, (rd_T41 y1283 x5_1).f1, wrap64 ((wrap64 (x1_1 + 1)) + 1), (rd_T41 y1283 x5_1).f3⟩ : S41)) (k41_mkM _ _ _ (⟨(rd_T41 y1283 x5_1).f0, (rd_T41 y1283 x5_1).f1, wrap64 ((wrap64 (x1_1 + 1)) + 1), (rd_T41 y1283 x5_1).f3⟩ : S41) ) (fun _ hk => hk); have hx14_2 := hcc14 2 _ rfl; (try simp only [show (k41).sz = 4 from rfl, Nat.mul_one, Nat.add_zero] at hx14_2); have hf14_2 := hfr14 2; (try simp only [show (k41).sz = 4 from rfl, Nat.mul_one, Nat.add_zero] at hf14_2); clear hcl14 hcc14 hfr14 hM14) | ((with_reducible refine gate_store (t := 3) (p := 30) rfl ?_); refine store_event (t := 3) (p := 30) (v := ?vo_w15) (w1 := (w13.setCell ⟨go5, (x5_1 : Int).toNat * 4 + 2, none⟩ (.int .i64 (wrap64 ((wrap64 (x1_1 + 1)) + 1))))) ?hg ?ho ?hn ?hr ?_; (case ho => rfl); (case hg => rfl); (case hn => rfl); (case hr => first | (go_simp; done) | (go_simp; rfl)); intro w15 hw; have hg : w13.grownBy w15 (some go5) := (by rw [hw]; exact HP14.2); have hp_ : Kd.R k41 41 w15 w0.heap.size (fun k_ => (P0_ k_ ∨ w.heap.size ≤ k_)) (.slice (some ⟨go5, 0, none⟩) x0_1.length co9) y1284 := (by rw [hw, Ny1284.out]; exact HP14.1); clear HP14; have n0_ := A_ (hp_); have n1_ := A_ ((by rw [hw]; exact below_set (HB.out) GB5.out : Below w0.heap.size w0 w15)); have n2_ := A_ (Kept.of_grown (S := (fun k_ => P0_ k_)) hg (by repeat (first | (with_reducible first | exact HK.out | apply Kept.alloc | apply Kept.drewN | apply Kept.drew) | exact HK.out)) (fun k_ e_ => (HO_0.out.1 k_ e_))); clear HO_0; clear HB; clear HK; have HO_0 := n0_; have HB := n1_; have HK := n2_; clear n0_ n1_ n2_; clear hg hw hp_; have p8 : 0 ≤ (x5_1 : Int) := oD; have q8 : (x5_1 : Int) < ((x0_1.length : Int) : Int) := oD; obtain ⟨ce8, hcl8, hM8, hcc8, hfr8⟩ := Kd.R_elem HO_0.out z41 (x5_1 : Int) p8 q8; obtain rfl := k41_openM hM8; have hx8_0 : w15.cell? ⟨go5, (x5_1 : Int).toNat * 4, none⟩ = some (.int .i64 ((rd_T41 y1284 x5_1).f0)) := hcc8 0 _ rfl; have hx8_1 : w15.cell? ⟨go5, (x5_1 : Int).toNat * 4 + 1, none⟩ = some (.int .i64 ((rd_T41 y1284 x5_1).f1)) := hcc8 1 _ rfl; have hx8_2 : w15.cell? ⟨go5, (x5_1 : Int).toNat * 4 + 2, none⟩ = some (.int .i64 ((rd_T41 y1284 x5_1).f2)) := hcc8 2 _ rfl; have hx8_3 : w15.cell? ⟨go5, (x5_1 : Int).toNat * 4 + 3, none⟩ = some (.int .i64 ((rd_T41 y1284 x5_1).f3)) := hcc8 3 _ rfl; have hf8_0 : w15.frozen? ⟨go5, (x5_1 : Int).toNat * 4, none⟩ = false := hfr8 0; have hf8_1 : w15.frozen? ⟨go5, (x5_1 : Int).toNat * 4 + 1, none⟩ = false := hfr8 1; have hf8_2 : w15.frozen? ⟨go5, (x5_1 : Int).toNat * 4 + 2, none⟩ = false := hfr8 2; have hf8_3 : w15.frozen? ⟨go5, (x5_1 : Int).toNat * 4 + 3, none⟩ = false := hfr8 3; clear hcl8 hcc8 hfr8 hM8; replace p8 := eq_true p8; replace q8 := eq_true q8; have HX16 := A_ (show Kd.R k41 41 w15 w0.heap.size (fun k_ => (P0_ k_ ∨ w.heap.size ≤ k_)) (.slice (some ⟨go5, 0, none⟩) x0_1.length co9) y1284 from (oR HO_0)); obtain ⟨ce16, hcl16, hM16, hcc16, hfr16⟩ := Kd.R_elem HX16.out z41 (x5_1 : Int) (oD) (by have h_ : (x5_1 : Int) < ((x0_1.length : Int) : Int) := oD; first | exact h_ | (have e_ := (Kd.R_reads' HO_0.out).1; omega) | simpa using h_); obtain rfl := k41_openM hM16; have HP16 := Kd.R_seg HX16.out (x5_1 : Int) (oD) (by have h_ : (x5_1 : Int) < ((x0_1.length : Int) : Int) := oD; first | exact h_ | (have e_ := (Kd.R_reads' HO_0.out).1; omega) | simpa using h_) (seg := [.int .i64 (wrap64 ((wrap64 ((wrap64 (x1_1 + 1)) + 1)) + 1))]) (j := 3) hcl16 hcc16 (show 4 ≤ 4 from by decide) (x' := (⟨(rd_T41 y1284 x5_1).f0, (rd_T41 y1284 x5_1).f1, (rd_T41 y1284 x5_1).f2, wrap64 ((wrap64 ((wrap64 (x1_1 + 1)) + 1)) + 1)⟩ : S41)) (k41_mkM _ _ _ (⟨(rd_T41 y1284 x5_1).f0, (rd_T41 y1284 x5_1).f1, (rd_T41 y1284 x5_1).f2, wrap64 ((wrap64 ((wrap64 (x1_1 + 1)) + 1)) + 1)⟩ : S41) ) (fun _ hk => hk); have hx16_3 := hcc16 3 _ rfl; (try simp only [show (k41).sz = 4 from rfl, Nat.mul_one, Nat.add_zero] at hx16_3); have hf16_3 := hfr16 3; (try simp only [show (k41).sz = 4 from rfl, Nat.mul_one, Nat.add_zero] at hf16_3); clear hcl16 hcc16 hfr16 hM16) | ((with_reducible refine gate_store (t := 3) (p := 37) rfl ?_); refine store_event (t := 3) (p := 37) (v := ?vo_w17) (w1 := (w15.setCell ⟨go5, (x5_1 : Int).toNat * 4 + 3, none⟩ (.int .i64 (wrap64 ((wrap64 ((wrap64 (x1_1 + 1)) + 1)) + 1))))) ?hg ?ho ?hn ?hr ?_; (case ho => rfl); (case hg => rfl); (case hn => rfl); (case hr => first | (go_simp; done) | (go_simp; rfl)); intro w17 hw; have hg : w15.grownBy w17 (some go5) := (by rw [hw]; exact HP16.2); have hp_ : Kd.R k41 41 w17 w0.heap.size (fun k_ => (P0_ k_ ∨ w.heap.size ≤ k_)) (.slice (some ⟨go5, 0, none⟩) x0_1.length co9) y1285 := (by rw [hw, Ny1285.out]; exact HP16.1); clear HP16; have n0_ := A_ (hp_); have n1_ := A_ ((by rw [hw]; exact below_set (HB.out) GB5.out : Below w0.heap.size w0 w17)); have n2_ := A_ (Kept.of_grown (S := (fun k_ => P0_ k_)) hg (by repeat (first | (with_reducible first | exact HK.out | apply Kept.alloc | apply Kept.drewN | apply Kept.drew) | exact HK.out)) (fun k_ e_ => (HO_0.out.1 k_ e_))); clear HO_0; clear HB; clear HK; have HO_0 := n0_; have HB := n1_; have HK := n2_; clear n0_ n1_ n2_; clear hg hw hp_))
     go_roundg k1
     case measure => have := HK1.out; omega
     case rel => exact ⟨(y1285), (wrap64 ((wrap64 ((wrap64 ((wrap64 (x1_1 + 1)) + 1)) + 1)) + 1)), (wrap64 (x5_1 + 1)), eS, eS, H', ⟨by have := HK1.out; omega⟩, ⟨oR HO_0⟩, ⟨by repeat (first | (with_reducible first | exact HK.out | apply Kept.alloc | apply Kept.drewN | apply Kept.drew) | exact HK.out)⟩, ⟨oB HB⟩⟩
    ·rw [if_neg c4] at H
     exact absurd H (by simp)
   ·rw [if_neg c3] at H
    have c3b0 : decide (x5_1 < (x0_1.length : Int)) = false := decide_eq_false c3
    clear c3
    simp only [Option.some.injEq, Prod.mk.injEq] at H
    obtain ⟨rfl, rfl⟩ := H
    obtain ⟨Ao18, co18, eo18⟩ := Kd.R_slice HO_0.out
    subst eo18
    go_wp2
    go_ret
    exact ⟨eR, oR HO_0, oB HB, by repeat (first | (with_reducible first | exact HK.out | apply Kept.alloc | apply Kept.drewN | apply Kept.drew) | exact HK.out)⟩
end Go.Proofs.YtanhnhkcpbdfmaaGreat.P
namespace Go.Proofs.YtanhnhkcpbdfmaaGreat.P
open Go.RowKit Go.Proofs.YtanhnhkcpbdfmaaGreatW.PrintWords Go.Proofs.YtanhnhkcpbdfmaaGreatW.PrintLast Go.Proofs.YtanhnhkcpbdfmaaGreatW.PrintMore
attribute [local go_sem] max2_int min2_int max_two min_two max_three min_three max_four min_four
theorem eqA74 (d : Nat) (w : World) (x0 y0 : Int) (x1 y1 : Int) :
  (Op.equalIn (d + 2) 74 (.agg #[.int .i64 x0, .int .i64 x1]) (.agg #[.int .i64 y0, .int .i64 y1])).run Tryz.prog w = .ok (x0 == y0 && (x1 == y1)) w := by
 refine eqA_of Tryz.underlying74 (by kernel_rfl) ?_
 refine eqf_cons (by rfl) (by go_simp; rfl) (by go_simp; rfl) (by go_simp) ?_
 exact eqf_last (by rfl) (by go_simp; rfl) (by go_simp; rfl) (by go_simp)
theorem eqA41 (d : Nat) (w : World) (x0 y0 : Int) (x1 y1 : Int) (x2 y2 : Int) (x3 y3 : Int) :
  (Op.equalIn (d + 2) 41 (.agg #[.int .i64 x0, .int .i64 x1, .int .i64 x2, .int .i64 x3]) (.agg #[.int .i64 y0, .int .i64 y1, .int .i64 y2, .int .i64 y3])).run Tryz.prog w = .ok (x0 == y0 && (x1 == y1 && (x2 == y2 && (x3 == y3)))) w := by
 refine eqA_of Tryz.underlying41 (by kernel_rfl) ?_
 refine eqf_cons (by rfl) (by go_simp; rfl) (by go_simp; rfl) (by go_simp) ?_
 refine eqf_cons (by rfl) (by go_simp; rfl) (by go_simp; rfl) (by go_simp) ?_
 refine eqf_cons (by rfl) (by go_simp; rfl) (by go_simp; rfl) (by go_simp) ?_
 exact eqf_last (by rfl) (by go_simp; rfl) (by go_simp; rfl) (by go_simp)
end Go.Proofs.YtanhnhkcpbdfmaaGreat.P
namespace Go.Proofs.YtanhnhkcpbdfmaaGreat.Q
open Go.RowKit Go.Proofs.YtanhnhkcpbdfmaaGreat.P Go.Proofs.YtanhnhkcpbdfmaaGreatW.PrintWords
theorem within_eq (a b c : Int) : impl_within.f a b c = some (decide (b ≤ a ∧ a ≤ c)) := by
  unfold impl_within.f; by_cases h : b ≤ a <;> simp [h]
theorem l01In_eq (a b c : Int) : spec_l01In.f a b c = some (decide (b ≤ a ∧ a ≤ c)) := by
  unfold spec_l01In.f; by_cases h : a ≥ b
  · rw [if_pos h]; simp [show b ≤ a from h]
  · rw [if_neg h]; simp [show ¬ b ≤ a from h]
def good140 (x : S140) : Prop := ((Lit.int .i64 x.f0).wf = true ∧ (Lit.int .i64 x.f1).wf = true ∧ (Lit.int .i64 x.f2).wf = true ∧ (Lit.int .i64 x.f3).wf = true)
theorem op140 {w : World} : Opens Tryz.prog w k140 140 good140 := (Opens.struct (fun x => (⟨x.1, x.2.1, x.2.2.1, x.2.2.2⟩ : S140)) (G := good140) Tryz.underlying140 (by kernel_rfl) (fun _ => rfl) (OpensFs.more rfl (Opens.int Tryz.underlying3) rfl (by kernel_rfl) (OpensFs.more rfl (Opens.int Tryz.underlying3) rfl (by kernel_rfl) (OpensFs.more rfl (Opens.int Tryz.underlying3) rfl (by kernel_rfl) (OpensFs.one rfl (Opens.int Tryz.underlying3) rfl (by kernel_rfl))))) (fun _ h => h))
def good3 (x : Int) : Prop := (Lit.int .i64 x).wf = true
theorem op3 {w : World} : Opens Tryz.prog w (Kd.int .i64) 3 good3 := (Opens.int Tryz.underlying3)
def good125 (x : S125) : Prop := ((Lit.int .i64 x.f0).wf = true ∧ (Lit.int .i64 x.f1).wf = true)
theorem op125 {w : World} : Opens Tryz.prog w k125 125 good125 := (Opens.struct (fun x => (⟨x.1, x.2⟩ : S125)) (G := good125) Tryz.underlying125 (by kernel_rfl) (fun _ => rfl) (OpensFs.more rfl (Opens.int Tryz.underlying3) rfl (by kernel_rfl) (OpensFs.one rfl (Opens.int Tryz.underlying3) rfl (by kernel_rfl))) (fun _ h => h))
def good127 (x : S127) : Prop := (((Lit.int .i64 x.f0.f0).wf = true ∧ (Lit.int .i64 x.f0.f1).wf = true) ∧ (Lit.int .i64 x.f1).wf = true ∧ (Lit.int .i64 x.f2).wf = true)
theorem op127 {w : World} : Opens Tryz.prog w k127 127 good127 := (Opens.struct (fun x => (⟨x.1, x.2.1, x.2.2⟩ : S127)) (G := good127) Tryz.underlying127 (by kernel_rfl) (fun _ => rfl) (OpensFs.more rfl op125 rfl (by kernel_rfl) (OpensFs.more rfl (Opens.int Tryz.underlying3) rfl (by kernel_rfl) (OpensFs.one rfl (Opens.int Tryz.underlying3) rfl (by kernel_rfl)))) (fun _ h => h))
def good30 (x : S30) : Prop := ((Lit.int .i64 x.f0).wf = true ∧ (Lit.int .i64 x.f1).wf = true ∧ (Lit.int .i64 x.f2).wf = true ∧ (Lit.int .i64 x.f3).wf = true)
theorem op30 {w : World} : Opens Tryz.prog w k30 30 good30 := (Opens.struct (fun x => (⟨x.1, x.2.1, x.2.2.1, x.2.2.2⟩ : S30)) (G := good30) Tryz.underlying30 (by kernel_rfl) (fun _ => rfl) (OpensFs.more rfl (Opens.int Tryz.underlying3) rfl (by kernel_rfl) (OpensFs.more rfl (Opens.int Tryz.underlying3) rfl (by kernel_rfl) (OpensFs.more rfl (Opens.int Tryz.underlying3) rfl (by kernel_rfl) (OpensFs.one rfl (Opens.int Tryz.underlying3) rfl (by kernel_rfl))))) (fun _ h => h))
end Go.Proofs.YtanhnhkcpbdfmaaGreat.Q
namespace Go.Proofs.YtanhnhkcpbdfmaaGreat.Q
open Go.RowKit Go.Proofs.YtanhnhkcpbdfmaaGreat.P Go.Proofs.YtanhnhkcpbdfmaaGreatW.PrintWords Go.Proofs.YtanhnhkcpbdfmaaGreatW.PrintMore
def fine (n : Int) : Bool := decide (1 ≤ n ∧ n ≤ 10000000)
theorem pitch_eq (n : Int) : spec_l18Pitch.f n = some (fine n) := by unfold spec_l18Pitch.f; rw [l01In_eq]; rfl
theorem isFine_eq (n : Int) : impl_isFine.f n = some (fine n) := by unfold impl_isFine.f; rw [within_eq]; rfl
theorem copyLog_eq (l : List S104) (hl : l.length ≤ 4000000) : impl_copyLog.f l = some l := by
  unfold impl_copyLog.f; simp only [Option.bind_some]; rw [if_pos (by simp; omega)]; simp
theorem l34Copy_eq (l : List S104) (hl : l.length ≤ 4000000) : spec_l34Copy.f l = some l := by
  unfold spec_l34Copy.f; simp only [Option.bind_some]; rw [if_pos (by simp; omega)]; simp
def orZero (n : Int) : Int := if fine n = true then n else 0
def tunedPitch (a k b : Int) : Int :=
  if fine a = true then
    if 0 ≤ b ∧ b ≤ 100000 then
      if k = 1 then orZero (wrap64 (Int.tdiv (mx (wrap64 ((wrap64 (3 * a)) - b)) 0) 2))
      else if k = 2 then orZero (wrap64 (Int.tdiv (mx (wrap64 ((wrap64 (3 * a)) - b)) 0) 4))
      else if k = 3 then if b = 0 then orZero (wrap64 (2 * a)) else 0
      else if k = 4 then if b = 0 then orZero (wrap64 (Int.tdiv a 2)) else 0
      else 0
    else 0
  else 0
theorem mx_comm (a b : Int) : mx a b = mx b a := by unfold mx; split <;> split <;> omega
theorem evz {n : Int} {x : Option Bool} (h : x = some (fine n)) : Ev (fun _ => x.bind fun t => if t = true then some n else some 0) (orZero n) := by
  subst h; simp only [Option.bind_some]; unfold orZero; by_cases h : fine n = true
  · rw [if_pos h, if_pos h]; exact Ev.now _
  · rw [if_neg h, if_neg h]; exact Ev.now _
theorem tuned_impl (a k b : Int) : Ev (fun n => impl_TunedPitch.f n a k b) (tunedPitch a k b) := by
  have jt : Ev (fun n => impl_TunedPitch.j0 n a k b true) 0 := Ev.step (fun n => by rw [impl_TunedPitch.j0]) (evp rfl (Ev.now _))
  unfold impl_TunedPitch.f
  refine evb (isFine_eq a) ?_
  unfold tunedPitch
  by_cases ha : fine a = true
  rotate_left
  · exact rneg ha <| evn ha jt
  refine rpos ha <| evp ha (evb (within_eq _ _ _) ?_)
  by_cases hb : 0 ≤ b ∧ b ≤ 100000
  rotate_left
  · exact rneg hb <| evn (by simpa using hb) jt
  refine rpos hb <| evp (by simpa using hb) ?_
  have jf : (k = 3 ∨ k = 4 → b = 0) → Ev (fun n => impl_TunedPitch.j0 n a k b false) (if k = 1 then orZero (wrap64 (Int.tdiv (mx (wrap64 ((wrap64 (3 * a)) - b)) 0) 2))
      else if k = 2 then orZero (wrap64 (Int.tdiv (mx (wrap64 ((wrap64 (3 * a)) - b)) 0) 4))
      else if k = 3 then if b = 0 then orZero (wrap64 (2 * a)) else 0
      else if k = 4 then if b = 0 then orZero (wrap64 (Int.tdiv a 2)) else 0
      else 0) := by
    intro h0
    refine Ev.step (fun n => by rw [impl_TunedPitch.j0]) (evn (by decide) ?_)
    by_cases h1 : k = 1
    · exact rpos h1 <| evp h1 (evz (isFine_eq _))
    refine rneg h1 <| evn h1 ?_
    by_cases h2 : k = 2
    · exact rpos h2 <| evp h2 (evz (isFine_eq _))
    refine rneg h2 <| evn h2 ?_
    by_cases h3 : k = 3
    · exact rpos h3 <| rpos (h0 (.inl h3)) <| evp h3 (evz (isFine_eq _))
    refine rneg h3 <| evn h3 ?_
    by_cases h4 : k = 4
    · exact rpos h4 <| rpos (h0 (.inr h4)) <| evp h4 (evz (isFine_eq _))
    refine rneg h4 <| evn h4 ?_
    refine evb (isFine_eq _) (evn (by decide) (Ev.now _))
  by_cases b0 : b = 0
  · exact evp b0 (jf fun _ => b0)
  refine evn b0 ?_
  by_cases h3 : k = 3
  · refine evp h3 ?_
    exact rneg (by omega) <| rneg (by omega) <| rpos h3 <| rneg b0 jt
  refine evn h3 ?_
  by_cases h4 : k = 4
  · rw [show (k == 4) = true by simp [h4]]; exact rneg (by omega) <| rneg (by omega) <| rneg (by omega) <| rpos h4 <| rneg b0 jt
  · rw [show (k == 4) = false by simp [h4]]; exact jf (by omega)
theorem tuned_spec (a k b : Int) : Ev (fun n => spec_TunedPitch.f n a k b) (tunedPitch a k b) := by
  have jt : Ev (fun n => spec_TunedPitch.j0 n a k b true) 0 := Ev.step (fun n => by rw [spec_TunedPitch.j0]) (evp rfl (Ev.now _))
  unfold spec_TunedPitch.f
  refine evb (pitch_eq a) ?_
  unfold tunedPitch
  by_cases ha : fine a = true
  rotate_left
  · exact rneg ha <| evn ha jt
  refine rpos ha <| evp ha (evb (l01In_eq _ _ _) ?_)
  by_cases hb : 0 ≤ b ∧ b ≤ 100000
  rotate_left
  · rw [show (!decide (0 ≤ b ∧ b ≤ 100000)) = true by rw [decide_eq_false hb]; rfl]; exact rneg hb jt
  rw [show (!decide (0 ≤ b ∧ b ≤ 100000)) = false by rw [decide_eq_true hb]; rfl]
  refine rpos hb ?_
  have j2t : Ev (fun n => spec_TunedPitch.j2 n a 0 true) (orZero (wrap64 (Int.tdiv a 2))) := Ev.step (fun n => by rw [spec_TunedPitch.j2]) (evp rfl (evz (pitch_eq _)))
  have j2f : Ev (fun n => spec_TunedPitch.j2 n a 0 false) 0 := Ev.step (fun n => by rw [spec_TunedPitch.j2]) (evn (by decide) (evz (pitch_eq 0)))
  refine Ev.step (fun n => by rw [spec_TunedPitch.j0]) (evn (by decide) ?_)
  by_cases h1 : k = 1
  · rw [mx_comm 0]; exact rpos h1 <| evp h1 (evz (pitch_eq _))
  refine rneg h1 <| evn h1 ?_
  by_cases h2 : k = 2
  · rw [mx_comm 0]; exact rpos h2 <| evp h2 (evz (pitch_eq _))
  refine rneg h2 <| evn h2 ?_
  have j1f : Ev (fun n => spec_TunedPitch.j1 n a k b 0 false) (if k = 4 then if b = 0 then orZero (wrap64 (Int.tdiv a 2)) else 0 else 0) := by
    refine Ev.step (fun n => by rw [spec_TunedPitch.j1]) (evn (by decide) ?_)
    by_cases h4 : k = 4
    · refine rpos h4 <| evp h4 ?_
      by_cases b0 : b = 0
      · rw [show (b == 0) = true by simp [b0]]; exact rpos b0 j2t
      · rw [show (b == 0) = false by simp [b0]]; exact rneg b0 j2f
    · exact rneg h4 <| evn h4 j2f
  by_cases h3 : k = 3
  · refine rpos h3 <| evp h3 ?_
    by_cases b0 : b = 0
    · rw [show (b == 0) = true by simp [b0]]
      exact rpos b0 <| Ev.step (fun n => by rw [spec_TunedPitch.j1]) (evp rfl (evz (pitch_eq _)))
    · rw [show (b == 0) = false by simp [b0]]
      rw [if_neg (by omega)] at j1f
      exact rneg b0 j1f
  exact rneg h3 <| evn h3 j1f
theorem toIntS_ev (l : List Int) (hl : l.length ≤ 1048576) : Ev (fun k => laws_toIntS.f k l) l := by
  have key : ∀ i, i ≤ l.length → ∀ acc : List Int, acc.length = l.length → Ev (fun k => laws_toIntS.l0 k l acc (i : Int)) (acc.take i ++ l.drop i) := by
    refine down (n := l.length) ?_ ?_
    · intro acc ha
      refine Ev.step (fun k => by rw [laws_toIntS.l0]) (evn (by omega) (evs ?_))
      rw [drop_end, List.append_nil, List.take_of_length_le (by omega)]
    · intro i hi ih acc ha
      refine Ev.step (fun k => by rw [laws_toIntS.l0]) (evp (by omega) (evp (by omega) (evp (by omega) ?_)))
      rw [w64 (by omega) (by omega), rd_nat l i hi, Int.toNat_natCast]
      have := ih (acc.set i l[i]) (by simpa using ha)
      rw [set_take _ _ _ (by omega), List.append_assoc] at this
      rw [drop_cons l i hi]
      exact this
  have := key 0 (Nat.zero_le _) (List.replicate l.length 0) (by simp)
  unfold laws_toIntS.f
  refine evp (by omega) (evp (by omega) ?_)
  simpa using this
theorem eqIntS_ev (l : List Int) (hl : l.length ≤ 9000000000000000000) : Ev (fun k => laws_eqIntS.f k l l) true := by
  have key : ∀ i, i ≤ l.length → Ev (fun k => laws_eqIntS.l0 k l l (i : Int)) true := by
    refine down (n := l.length) ?_ ?_
    · exact Ev.step (fun k => by rw [laws_eqIntS.l0]) (evn (by omega) (evs rfl))
    · intro i hi ih
      refine Ev.step (fun k => by rw [laws_eqIntS.l0]) (evp (by omega) (evp (by omega) (evp (by omega) (evp rfl ?_))))
      rw [w64 (by omega) (by omega)]
      exact ih
  unfold laws_eqIntS.f
  exact evp rfl (key 0 (Nat.zero_le _))
def runs (k : Int) (n : Nat) : List Int := (List.range n).map (fun (j : Nat) => k + j)
theorem runs_len (k : Int) (n : Nat) : (runs k n).length = n := by simp [runs]
theorem markIntS_ev (l : List Int) (m : Int) (h0 : 0 ≤ m) (hm : m + l.length ≤ 4000000000000000000) : Ev (fun k => laws_markIntS.f k l m) (m + l.length, runs m l.length) := by
  have key : ∀ i, i ≤ l.length → ∀ acc : List Int, acc.length = l.length → acc.take i = runs m i → Ev (fun k => laws_markIntS.l0 k acc (m + i) (i : Int)) (m + l.length, runs m l.length) := by
    refine down (n := l.length) ?_ ?_
    · intro acc ha ht
      refine Ev.step (fun k => by rw [laws_markIntS.l0]) (evn (by omega) (evs ?_))
      rw [← ht, List.take_of_length_le (by omega)]
    · intro i hi ih acc ha ht
      refine Ev.step (fun k => by rw [laws_markIntS.l0]) (evp (by omega) (evp (by omega) ?_))
      rw [w64 (by omega) (by omega), w64 (by omega) (by omega), Int.toNat_natCast]
      have := ih (acc.set i (m + i)) (by simpa using ha) (by
        rw [set_take _ _ _ (by omega), ht]
        simp [runs, List.range_succ])
      rw [Int.add_assoc]
      exact this
  have := key 0 (Nat.zero_le _) l rfl (by simp [runs])
  unfold laws_markIntS.f
  simpa using this
theorem heldIntS_ev (n : Nat) (m : Int) (h0 : 0 ≤ m) (hm : m + n ≤ 4000000000000000000) : Ev (fun k => laws_heldIntS.f k (runs m n) m) (m + n) := by
  have key : ∀ i, i ≤ n → Ev (fun k => laws_heldIntS.l0 k (runs m n) (m + i) (i : Int)) (m + n) := by
    refine down (n := n) ?_ ?_
    · exact Ev.step (fun k => by rw [laws_heldIntS.l0]) (evn (by rw [runs_len]; omega) (evs rfl))
    · intro i hi ih
      refine Ev.step (fun k => by rw [laws_heldIntS.l0]) (evp (by rw [runs_len]; omega) (evp (by omega) (evp ?_ ?_)))
      · rw [rd_nat _ _ (by rw [runs_len]; exact hi)]; simp [runs]
      · rw [w64 (by omega) (by omega), w64 (by omega) (by omega), Int.add_assoc]
        exact ih
  have := key 0 (Nat.zero_le _)
  unfold laws_heldIntS.f
  simpa using this
end Go.Proofs.YtanhnhkcpbdfmaaGreat.Q
namespace Go.Proofs.YtanhnhkcpbdfmaaGreat.Q
open Go.RowKit Go.Proofs.YtanhnhkcpbdfmaaGreat.P
def entOk (e : S104) : Bool := decide (0 ≤ e.f0.f0 ∧ e.f0.f0 ≤ 3) && (decide (0 ≤ e.f0.f1 ∧ e.f0.f1 ≤ 39) && (decide (0 ≤ e.f1 ∧ e.f1 ≤ 2) && decide (0 ≤ e.f2 ∧ e.f2 ≤ 100000)))
def logGo : Int → List S104 → Bool
  | _, [] => true
  | p, e :: r => entOk e && (decide (p ≤ e.f2) && logGo e.f2 r)
def logOk (l : List S104) : Bool := logGo 0 l && decide (l.length ≤ 30)
def prevM (l : List S104) (i : Nat) : Int := if i = 0 then 0 else (l.getD (i - 1) z104).f2
theorem prevM_succ (l : List S104) (i : Nat) (h : i < l.length) : prevM l (i + 1) = l[i].f2 := by simp [prevM, List.getD_eq_getElem?_getD, h]
theorem prevM_pos (l : List S104) (i : Nat) (h0 : 0 < i) (h : i < l.length) : prevM l i = l[i - 1].f2 := by
  simp [prevM, List.getD_eq_getElem?_getD, show i ≠ 0 by omega, show i - 1 < l.length by omega]
theorem logGo_at (l : List S104) (i : Nat) (h : i < l.length) : logGo (prevM l i) (l.drop i) = (entOk l[i] && (decide (prevM l i ≤ l[i].f2) && logGo (prevM l (i + 1)) (l.drop (i + 1)))) := by
  rw [List.drop_eq_getElem_cons h, prevM_succ l i h]; rfl
end Go.Proofs.YtanhnhkcpbdfmaaGreat.Q
namespace Go.Proofs.YtanhnhkcpbdfmaaGreat.P
open Go.RowKit Go.Proofs.YtanhnhkcpbdfmaaGreatW.PrintWords
def stepOk (x : S112) (t : List Bool) : Bool :=
  (decide (x.f2 = 1) || decide (x.f2 = 2)) && (decide (0 ≤ x.f3 ∧ x.f3 ≤ 5000) && (decide (0 ≤ x.f0 ∧ x.f0 ≤ 11) && (decide (0 ≤ x.f1 ∧ x.f1 ≤ 11) && (decide (x.f1 = (x.f0 + 1) % 12) && (t.getD x.f0.toNat false && !t.getD x.f1.toNat false)))))
def planGo : List S112 → List Bool → Bool
  | [], _ => true
  | x :: r, t => stepOk x t && planGo r (t.set x.f1.toNat true)
def tuned0 : List Bool := true :: List.replicate 11 false
def planOk (l : List S112) : Bool := decide (l.length ≤ 11) && planGo l tuned0
def tunedBy (l : List S112) (t : List Bool) : List Bool := l.foldl (fun t x => t.set x.f1.toNat true) t
def keyGo : List Bool → List Int → Bool
  | b :: t, p :: q => (if b then decide (1 ≤ p ∧ p ≤ 10000000) else decide (p = 0)) && keyGo t q
  | _, _ => true
def workOk (p : List S112) (d : Int) (q : List Int) : Bool :=
  planOk p && (decide (0 ≤ d ∧ d ≤ p.length) && (decide (q.length = 12) && keyGo (tunedBy (p.take d.toNat) tuned0) q))
theorem planGo_keys : ∀ (l : List S112) (t : List Bool), planGo l t = true → ∀ x ∈ l, 0 ≤ x.f1 ∧ x.f1 ≤ 11
  | [], _, _, x, hx => by simp at hx
  | y :: r, t, h, x, hx => by
    simp only [planGo, Bool.and_eq_true] at h
    rcases List.mem_cons.1 hx with rfl | hx
    · have h1 := h.1; simp [stepOk] at h1; exact h1.2.2.2.1
    · exact planGo_keys r _ h.2 x hx
theorem tunedBy_len (l : List S112) : ∀ t : List Bool, (tunedBy l t).length = t.length := by
  induction l with
  | nil => intro t; rfl
  | cons x r ih => intro t; show (tunedBy r _).length = _; rw [ih, List.length_set]
theorem tunedBy_snoc (l : List S112) (x : S112) (t : List Bool) : tunedBy (l ++ [x]) t = (tunedBy l t).set x.f1.toNat true := by simp [tunedBy, List.foldl_append]
end Go.Proofs.YtanhnhkcpbdfmaaGreat.P
namespace Go.Proofs.YtanhnhkcpbdfmaaGreat.P
set_option maxHeartbeats 8000000
set_option maxRecDepth 100000
open Go.RowKit Go.Proofs.YtanhnhkcpbdfmaaGreatW.PrintWords Go.Proofs.YtanhnhkcpbdfmaaGreatW.PrintLast Go.Proofs.YtanhnhkcpbdfmaaGreatW.PrintMore
attribute [local go_sem] max2_int min2_int max_two min_two max_three min_three max_four min_four
def impl_PlanOk.f (l0 : List (S112)) : Option (Bool) := some (planOk l0)
theorem impl_PlanOk.calls (A0 : Option Addr) (c0 : Nat) (l0 : List (S112)) (r : Bool) (w : World) (hr0 : Kd.C k112 w A0 l0.length l0) (hc0 : l0.length ≤ c0) (h : impl_PlanOk.f l0 = some r) :
    Calls Tryz.prog 89 #[.slice A0 l0.length c0] w fun e w' => e = .returned (.bool r) ∧ Below w.heap.size w w' := by
  have H := Option.some.inj h
  clear h
  by_cases h11 : l0.length ≤ 11
  rotate_left
  · have hb : decide (11 < (l0.length : Int)) = true := decide_eq_true (by omega)
    have hb2 : decide (11 < l0.length) = true := decide_eq_true (by omega)
    obtain rfl : false = r := by rw [← H]; simp [planOk, h11]
    go_enter Tryz.func89, Tryz.ntmps89
    go_wp2
    go_ret
    exact ⟨rfl, Below.refl _ _⟩
  · have hb : decide (11 < (l0.length : Int)) = false := decide_eq_false (by omega)
    have hb2 : decide (11 < l0.length) = false := decide_eq_false (by omega)
    go_enter Tryz.func89, Tryz.ntmps89
    go_wp2
    go_loopg [12] (l0.length + 1) (fun kq v12 w' => ∃ (i : Nat) (tn : List Bool), v12 = .int .i64 (i : Int) ∧ Aside0 (i + kq = l0.length + 1) ∧ Aside0 (i ≤ l0.length) ∧ Aside0 (tn.length = 12) ∧ Aside0 (w'.heap[w.heap.size]? = some (.cells (tn.map Value.bool).toArray 136 (0, 0))) ∧ Aside0 (planGo (l0.drop i) tn = r) ∧ Aside0 (Below w.heap.size w w'))
    case atStart =>
      exact ⟨0, tuned0, rfl, ⟨by omega⟩, ⟨by omega⟩, ⟨rfl⟩, ⟨by rw [heap_alloc_new]; rfl⟩, ⟨by rw [← H]; simp [planOk, h11]⟩, ⟨below_alloc (Below.refl _ _) _⟩⟩
    case round =>
      obtain ⟨i, tn, rfl, HK, HI, HT, HA, HP, HB⟩ := hrel
      by_cases hlt : i < l0.length
      rotate_left
      · have hb3 : decide ((i : Int) < (l0.length : Int)) = false := decide_eq_false (by omega)
        have hb4 : decide (i < l0.length) = false := decide_eq_false (by omega)
        obtain rfl : true = r := by
          have h1 := HP.out
          rw [List.drop_eq_nil_of_le (by omega)] at h1
          exact h1
        go_wp2
        go_ret
        exact ⟨rfl, HB.out⟩
      · have hb3 : decide ((i : Int) < (l0.length : Int)) = true := decide_eq_true (by omega)
        have hb4 : decide (i < l0.length) = true := decide_eq_true (by omega)
        obtain ⟨ad, e, hx0, hx1, hx2, hx3⟩ := at_T112 hr0 (i : Int) (by omega) (by omega)
        cases e
        replace hx0 := hW HB hx0
        replace hx1 := hW HB hx1
        replace hx2 := hW HB hx2
        replace hx3 := hW HB hx3
        obtain ⟨x, hx⟩ : ∃ x, rd_T112 l0 (i : Int) = x := ⟨_, rfl⟩
        rw [hx] at hx0 hx1 hx2 hx3
        simp only [Int.toNat_natCast] at hx0 hx1 hx2 hx3
        have hd : planGo (l0.drop i) tn = (stepOk x tn && planGo (l0.drop (i + 1)) (tn.set x.f1.toNat true)) := by
          rw [List.drop_eq_getElem_cons hlt]
          have e0 : l0[i] = x := by rw [← hx]; simp [rd_T112, List.getD_eq_getElem?_getD, hlt]
          rw [e0]; rfl
        have HX := A_ hx
        clear hx
        have HD := A_ hd
        clear hd
        have win : ∀ (a b c : Int) (d : Bool) (W : World), decide (b ≤ a ∧ a ≤ c) = d → Calls Tryz.prog 79 #[.int .i64 a, .int .i64 b, .int .i64 c] W fun e w' => e = .returned (.bool d) ∧ Drawn0 W w' := fun a b c d W hd =>
          impl_within.calls a b c d W (by rw [← hd]; unfold impl_within.f; by_cases hh : b ≤ a <;> simp [hh])
        have tc : ∀ k, k < 12 → ∀ o : Obj, (wr.alloc o).cell? ⟨w.heap.size, k, none⟩ = some (.bool (tn.getD k false)) := fun k hk o => (blk_cell (blk_alloc HA.out o) k).trans (by have := HT.out; simp [List.getD_eq_getElem?_getD, show k < tn.length by omega])
        by_cases q1 : 0 ≤ x.f3 ∧ x.f3 ≤ 5000
        rotate_left
        · have W1 := A_ fun W => win x.f3 0 5000 false W (decide_eq_false q1)
          have Q1 := A_ q1
          clear q1 win tc
          go_wp2_with (first | (go_at_call 79; (with_reducible refine (W1.out _).mono ?_); rintro e w' ⟨rfl, ⟨nd, rfl⟩⟩))
          all_goals
            obtain rfl : false = r := by
              rw [← HP.out, HD.out]; simp [stepOk, Q1.out]
            go_ret
            exact ⟨rfl, by repeat (first | exact HB.out | apply below_alloc | apply pw_below_drewN | apply below_drew1)⟩
        have W1 := A_ fun W => win x.f3 0 5000 true W (decide_eq_true q1)
        by_cases q2 : 0 ≤ x.f0 ∧ x.f0 ≤ 11
        rotate_left
        · have W2 := A_ fun W => win x.f0 0 11 false W (decide_eq_false q2)
          have Q1 := A_ q2
          clear q1 q2 win tc
          go_wp2_with (first | (go_at_call 79; (with_reducible refine (W1.out _).mono ?_); rintro e w' ⟨rfl, ⟨nd, rfl⟩⟩) | (go_at_call 79; (with_reducible refine (W2.out _).mono ?_); rintro e w' ⟨rfl, ⟨nd, rfl⟩⟩))
          all_goals
            obtain rfl : false = r := by
              rw [← HP.out, HD.out]; simp [stepOk, Q1.out]
            go_ret
            exact ⟨rfl, by repeat (first | exact HB.out | apply below_alloc | apply pw_below_drewN | apply below_drew1)⟩
        have W2 := A_ fun W => win x.f0 0 11 true W (decide_eq_true q2)
        by_cases q3 : 0 ≤ x.f1 ∧ x.f1 ≤ 11
        rotate_left
        · have W3 := A_ fun W => win x.f1 0 11 false W (decide_eq_false q3)
          have Q1 := A_ q3
          clear q1 q2 q3 win tc
          go_wp2_with (first | (go_at_call 79; (with_reducible refine (W1.out _).mono ?_); rintro e w' ⟨rfl, ⟨nd, rfl⟩⟩) | (go_at_call 79; (with_reducible refine (W2.out _).mono ?_); rintro e w' ⟨rfl, ⟨nd, rfl⟩⟩) | (go_at_call 79; (with_reducible refine (W3.out _).mono ?_); rintro e w' ⟨rfl, ⟨nd, rfl⟩⟩))
          all_goals
            obtain rfl : false = r := by
              rw [← HP.out, HD.out]; simp [stepOk, Q1.out]
            go_ret
            exact ⟨rfl, by repeat (first | exact HB.out | apply below_alloc | apply pw_below_drewN | apply below_drew1)⟩
        have W3 := A_ fun W => win x.f1 0 11 true W (decide_eq_true q3)
        clear win
        obtain ⟨q2a, q2b⟩ := q2
        obtain ⟨q3a, q3b⟩ := q3
        have Q13 := A_ q1
        clear q1
        have hc0 := tc x.f0.toNat (by omega)
        have hc1 := tc x.f1.toNat (by omega)
        have hfz := fun o : Obj => blk_frozen (blk_alloc HA.out o) x.f1.toNat
        clear tc
        by_cases q4 : x.f1 = (x.f0 + 1) % 12
        rotate_left
        · have q4a : (x.f1 == (x.f0 + 1) % 12) = false := beq_eq_false_iff_ne.mpr q4
          have q4b : (x.f1 != (x.f0 + 1) % 12) = true := bne_iff_ne.mpr q4
          have Q4 := A_ q4
          clear q4 hc0 hc1 hfz
          go_wp2_with (first | (go_at_call 79; (with_reducible refine (W1.out _).mono ?_); rintro e w' ⟨rfl, ⟨nd, rfl⟩⟩) | (go_at_call 79; (with_reducible refine (W2.out _).mono ?_); rintro e w' ⟨rfl, ⟨nd, rfl⟩⟩) | (go_at_call 79; (with_reducible refine (W3.out _).mono ?_); rintro e w' ⟨rfl, ⟨nd, rfl⟩⟩))
          all_goals
            obtain rfl : false = r := by
              rw [← HP.out, HD.out]; simp [stepOk, Q4.out]
            go_ret
            exact ⟨rfl, by repeat (first | exact HB.out | apply below_alloc | apply pw_below_drewN | apply below_drew1)⟩
        have q4a : (x.f1 == (x.f0 + 1) % 12) = true := beq_iff_eq.mpr q4
        have q4b : (x.f1 != (x.f0 + 1) % 12) = false := bne_eq_false_iff_eq.mpr q4
        have Q4 := A_ q4
        clear q4
        obtain ⟨b0, hb0⟩ : ∃ b, tn.getD x.f0.toNat false = b := ⟨_, rfl⟩
        obtain ⟨b1, hb1⟩ : ∃ b, tn.getD x.f1.toNat false = b := ⟨_, rfl⟩
        rw [hb0] at hc0
        rw [hb1] at hc1
        have B0 := A_ hb0
        have B1 := A_ hb1
        clear hb0 hb1
        go_wp2_with (first | (go_at_call 79; (with_reducible refine (W1.out _).mono ?_); rintro e w' ⟨rfl, ⟨nd, rfl⟩⟩) | (go_at_call 79; (with_reducible refine (W2.out _).mono ?_); rintro e w' ⟨rfl, ⟨nd, rfl⟩⟩) | (go_at_call 79; (with_reducible refine (W3.out _).mono ?_); rintro e w' ⟨rfl, ⟨nd, rfl⟩⟩))
        all_goals first
          | (go_ret
             have e : false = r := by
               have h3 := B0.out; have h4 := B1.out
               rw [← HP.out, HD.out]; unfold stepOk; rw [h3, h4]; simp [*]
             subst e
             exact ⟨rfl, by repeat (first | exact HB.out | apply below_alloc | apply pw_below_drewN | apply below_drew1)⟩)
          | (go_roundg (gk - 1)
             case measure => have := HK.out; omega
             case rel =>
               refine ⟨i + 1, tn.set x.f1.toNat true, by go_num, ⟨by have := HK.out; omega⟩, ⟨by omega⟩, ⟨by rw [List.length_set]; exact HT.out⟩, ⟨?_⟩, ⟨?_⟩, ⟨?_⟩⟩
               · refine blk_put (cs := (tn.map Value.bool).toArray) ?_ x.f1.toNat (.bool true) ?_
                 · repeat (first | exact HA.out | refine blk_drewN ?_ _ | refine blk_drew ?_ | refine blk_alloc ?_ _)
                 · simp [List.map_set]
               · rw [← HP.out, HD.out]
                 have e : stepOk x tn = true := by
                   have h1 := Q4.out; have h2 := Q13.out; have h3 := B0.out; have h4 := B1.out
                   unfold stepOk; rw [h3, h4]; simp [*]; omega
                 rw [e, Bool.true_and]
               · refine below_set ?_ (Nat.le_refl _)
                 repeat (first | exact HB.out | apply below_alloc | apply pw_below_drewN | apply below_drew1))
def impl_WorkOk.f (l0_0 : List (S112)) (a0_1 : Int) (l0_2 : List Int) : Option (Bool) := some (workOk l0_0 a0_1 l0_2)
theorem impl_WorkOk.calls (A0_0 : Option Addr) (c0_0 : Nat) (l0_0 : List (S112)) (a0_1 : Int) (A0_2 : Option Addr) (c0_2 : Nat) (l0_2 : List Int) (r : Bool) (w : World) (hr0_0 : Kd.C k112 w A0_0 l0_0.length l0_0) (hc0_0 : l0_0.length ≤ c0_0) (hr0_2 : Kd.C (Kd.int .i64) w A0_2 l0_2.length l0_2) (hc0_2 : l0_2.length ≤ c0_2) (h : impl_WorkOk.f l0_0 a0_1 l0_2 = some r) :
  Calls Tryz.prog 76 #[.agg #[.slice A0_0 l0_0.length c0_0, .int .i64 a0_1, .slice A0_2 l0_2.length c0_2]] w fun e w' => e = .returned (.bool r) ∧ Below w.heap.size w w' := by
 have HH := A_ (Option.some.inj h)
 clear h
 have win : ∀ (a b c : Int) (d : Bool) (W : World), decide (b ≤ a ∧ a ≤ c) = d → Calls Tryz.prog 79 #[.int .i64 a, .int .i64 b, .int .i64 c] W fun e w' => e = .returned (.bool d) ∧ Drawn0 W w' := fun a b c d W hd =>
  impl_within.calls a b c d W (by rw [← hd]; unfold impl_within.f; by_cases hh : b ≤ a <;> simp [hh])
 have hpl : ∀ (b : Bool) (o : Obj), planOk l0_0 = b → Calls Tryz.prog 89 #[.slice A0_0 l0_0.length c0_0] (w.alloc o) fun e w' => e = .returned (.bool b) ∧ Below (w.alloc o).heap.size (w.alloc o) w' := fun b o hb =>
  impl_PlanOk.calls A0_0 c0_0 l0_0 b (w.alloc o) (Kd.C_alloc hr0_0 o) hc0_0 (by unfold impl_PlanOk.f; rw [hb])
 have hbx : ∀ (w1 : World) (o : Obj), Below (w.alloc o).heap.size (w.alloc o) w1 → w1.heap[w.heap.size]? = some o ∧ Below w.heap.size w w1 ∧ w.heap.size + 1 ≤ w1.heap.size := fun w1 o hb =>
  ⟨blk_below (blk_new w o) hb, below_step (below_alloc (Below.refl _ _) o) hb, by have := hb.size; simpa using this⟩
 by_cases p1 : planOk l0_0 = true
 rotate_left
 ·have P1 := A_ fun o => hpl false o (Bool.eq_false_iff.2 p1)
  obtain rfl : false = r := by rw [← HH.out]; simp [workOk, p1]
  clear hpl win p1
  go_enter Tryz.func76, Tryz.ntmps76
  go_wp2_with (first | (go_at_call 89; (with_reducible refine (P1.out _).mono ?_); rintro e w1 ⟨rfl, hb⟩; obtain ⟨hB1, hB2, hB3⟩ := hbx w1 _ hb; have HB := A_ hB2; clear hb hB1 hB2 hB3))
  go_ret
  exact ⟨rfl, by repeat (first | exact HB.out | apply below_alloc | apply pw_below_drewN | apply below_drew1)⟩
 have P1 := A_ fun o => hpl true o p1
 by_cases p2 : 0 ≤ a0_1 ∧ a0_1 ≤ (l0_0.length : Int)
 rotate_left
 ·have W1 := A_ fun W => win a0_1 0 l0_0.length false W (decide_eq_false p2)
  obtain rfl : false = r := by rw [← HH.out]; simp [workOk, p2]
  clear hpl win p1 p2
  go_enter Tryz.func76, Tryz.ntmps76
  go_wp2_with (first | (go_at_call 89; (with_reducible refine (P1.out _).mono ?_); rintro e w1 ⟨rfl, hb⟩; obtain ⟨hB1, hB2, hB3⟩ := hbx w1 _ hb; have HB := A_ hB2; have hcz0 := blk_cell hB1 0; have hcz1 := blk_cell hB1 1; have hcz2 := blk_cell hB1 2; clear hb hB1 hB2 hB3) | (go_at_call 79; (with_reducible refine (W1.out _).mono ?_); rintro e w' ⟨rfl, ⟨nd, rfl⟩⟩))
  go_ret
  exact ⟨rfl, by repeat (first | exact HB.out | apply below_alloc | apply pw_below_drewN | apply below_drew1)⟩
 have W1 := A_ fun W => win a0_1 0 l0_0.length true W (decide_eq_true p2)
 by_cases p3 : l0_2.length = 12
 rotate_left
 ·have p3a : ((l0_2.length : Int) != 12) = true := bne_iff_ne.mpr (by omega)
  have p3b : ((l0_2.length : Int) == 12) = false := beq_eq_false_iff_ne.mpr (by omega)
  obtain rfl : false = r := by rw [← HH.out]; simp [workOk, p3]
  have P3 := A_ p3
  clear hpl win p1 p2 p3
  go_enter Tryz.func76, Tryz.ntmps76
  go_wp2_with (first | (go_at_call 89; (with_reducible refine (P1.out _).mono ?_); rintro e w1 ⟨rfl, hb⟩; obtain ⟨hB1, hB2, hB3⟩ := hbx w1 _ hb; have HB := A_ hB2; have HX := A_ hB1; have HS := A_ hB3; have hcz0 := blk_cell hB1 0; have hcz1 := blk_cell hB1 1; clear hb hB1 hB2 hB3) | (go_at_call 79; (with_reducible refine (W1.out _).mono ?_); rintro e w2 ⟨rfl, hdr⟩; have n1 := A_ (below_step HB.out hdr.below); have hB1 := blk_below HX.out hdr.below; have n3 := A_ (Nat.le_trans HS.out hdr.below.size); clear HB HX HS hcz0 hcz1 hdr; have HB := n1; have HX := A_ hB1; have HS := n3; clear n1 n3; have hcz0 := blk_cell hB1 0; have hcz1 := blk_cell hB1 1; have hcz2 := blk_cell hB1 2; have hca0 := fun o : Obj => blk_cell (blk_alloc hB1 o) 0; have hca1 := fun o : Obj => blk_cell (blk_alloc hB1 o) 1; have hca2 := fun o : Obj => blk_cell (blk_alloc hB1 o) 2; clear hB1))
  go_ret
  exact ⟨rfl, by repeat (first | exact HB.out | apply below_alloc | apply pw_below_drewN | apply below_drew1)⟩
 have p3a : ((l0_2.length : Int) != 12) = false := bne_eq_false_iff_eq.mpr (by omega)
 have p3b : ((l0_2.length : Int) == 12) = true := beq_iff_eq.mpr (by omega)
 obtain ⟨d, rfl⟩ : ∃ d : Nat, a0_1 = (d : Int) := ⟨a0_1.toNat, by omega⟩
 have hd1 : d ≤ l0_0.length := by omega
 have hd2 : d ≤ c0_0 := by omega
 have hm : l0_0.length ≤ 9223372036854775807 := Kd.C_max hr0_0
 have HK := A_ (planGo_keys l0_0 tuned0 (by have := p1; simp [planOk] at this; exact this.2))
 have HQ : Aside0 (keyGo (tunedBy (l0_0.take d) tuned0) l0_2 = r) := ⟨by rw [← HH.out]; simp [workOk, p1, p3, hd1]⟩
 have P3 := A_ p3
 have HR0 := A_ hr0_0
 have HR2 := A_ hr0_2
 clear hpl p1 p2 p3 HH hr0_0 hr0_2
 go_enter Tryz.func76, Tryz.ntmps76
 go_wp2_with (first | (go_at_call 89; (with_reducible refine (P1.out _).mono ?_); rintro e w1 ⟨rfl, hb⟩; obtain ⟨hB1, hB2, hB3⟩ := hbx w1 _ hb; have HB := A_ hB2; have HX := A_ hB1; have HS := A_ hB3; have hcz0 := blk_cell hB1 0; have hcz1 := blk_cell hB1 1; clear hb hB1 hB2 hB3) | (go_at_call 79; (with_reducible refine (W1.out _).mono ?_); rintro e w2 ⟨rfl, hdr⟩; have n1 := A_ (below_step HB.out hdr.below); have hB1 := blk_below HX.out hdr.below; have n3 := A_ (Nat.le_trans HS.out hdr.below.size); clear HB HX HS hcz0 hcz1 hdr; have HB := n1; have HX := A_ hB1; have HS := n3; clear n1 n3; have hcz0 := blk_cell hB1 0; have hcz1 := blk_cell hB1 1; have hcz2 := blk_cell hB1 2; have hca0 := fun o : Obj => blk_cell (blk_alloc hB1 o) 0; have hca1 := fun o : Obj => blk_cell (blk_alloc hB1 o) 1; have hca2 := fun o : Obj => blk_cell (blk_alloc hB1 o) 2; clear hB1))
 have BX := A_ (rfl : #[Value.slice A0_0 l0_0.length c0_0, .int .i64 (d : Int), .slice A0_2 l0_2.length c0_2] = #[Value.slice A0_0 l0_0.length c0_0, .int .i64 (d : Int), .slice A0_2 l0_2.length c0_2])
 go_loopg [34] (d + 1) (fun kq v34 w' => ∃ (i : Nat), v34 = .int .i64 (i : Int) ∧ Aside0 (i + kq = d + 1) ∧ Aside0 (i ≤ d) ∧ Aside0 (w'.heap[w2.heap.size]? = some (.cells ((tunedBy (l0_0.take i) tuned0).map Value.bool).toArray 136 (0, 0))) ∧ Aside0 (w'.heap[w.heap.size]? = some (.cells #[.slice A0_0 l0_0.length c0_0, .int .i64 (d : Int), .slice A0_2 l0_2.length c0_2] 34 (0, 0))) ∧ Aside0 (Below w.heap.size w w'))
 case atStart =>
  exact ⟨0, rfl, ⟨by omega⟩, ⟨by omega⟩, ⟨by rw [heap_alloc_new]; rfl⟩, ⟨blk_alloc HX.out _⟩, ⟨below_alloc HB.out _⟩⟩
 case round =>
  clear hcz0 hcz1 hcz2 hca0 hca1 hca2 HB HX
  obtain ⟨i, rfl, HI1, HI2, HA, HX, HB⟩ := hrel
  have hTl : (tunedBy (l0_0.take i) tuned0).length = 12 := tunedBy_len _ _
  by_cases hlt : i < d
  ·have hb3 : decide ((i : Int) < (d : Int)) = true := decide_eq_true (by omega)
   have hb4 : decide (i < d) = true := decide_eq_true (by omega)
   obtain ⟨ad, e, hx0, hx1, hx2, hx3⟩ := at_T112 HR0.out (i : Int) (by omega) (by omega)
   cases e
   replace hx0 := hW HB hx0
   replace hx1 := hW HB hx1
   replace hx2 := hW HB hx2
   replace hx3 := hW HB hx3
   obtain ⟨x, hx⟩ : ∃ x, rd_T112 l0_0 (i : Int) = x := ⟨_, rfl⟩
   rw [hx] at hx0 hx1 hx2 hx3
   simp only [Int.toNat_natCast] at hx0 hx1 hx2 hx3
   have hil : i < l0_0.length := by omega
   have e0 : l0_0[i] = x := by rw [← hx]; simp [rd_T112, List.getD_eq_getElem?_getD, hil]
   obtain ⟨q1, q2⟩ := HK.out x (by rw [← e0]; exact List.getElem_mem hil)
   have HT : Aside0 (tunedBy (l0_0.take (i + 1)) tuned0 = (tunedBy (l0_0.take i) tuned0).set x.f1.toNat true) := ⟨by rw [List.take_succ_eq_append_getElem hil, e0, tunedBy_snoc]⟩
   obtain ⟨tn, htn⟩ : ∃ tn, tunedBy (l0_0.take i) tuned0 = tn := ⟨_, rfl⟩
   have HA' := A_ (show wr.heap[w2.heap.size]? = some (.cells (tn.map Value.bool).toArray 136 (0, 0)) by rw [← htn]; exact HA.out)
   rw [htn] at hTl HT
   have hc1 : ∀ o : Obj, (wr.alloc o).cell? ⟨w2.heap.size, x.f1.toNat, none⟩ = some (.bool (tn.getD x.f1.toNat false)) := fun o => (blk_cell (blk_alloc HA'.out o) _).trans (by simp [List.getD_eq_getElem?_getD, show x.f1.toNat < tn.length by omega])
   have hfz := fun o : Obj => blk_frozen (blk_alloc HA'.out o) x.f1.toNat
   clear hx e0 htn HA hTl
   go_wp2
   go_roundg (d - i)
   case measure => have := HI1.out; omega
   case rel =>
    refine ⟨i + 1, by go_num, ⟨by omega⟩, ⟨by omega⟩, ⟨?_⟩, ⟨?_⟩, ⟨?_⟩⟩
    ·rw [HT.out]
     refine blk_put (cs := (tn.map Value.bool).toArray) (blk_alloc HA'.out _) x.f1.toNat (.bool true) ?_
     simp [List.map_set]
    ·refine blk_far ?_ (by have := HS.out; show w.heap.size ≠ w2.heap.size; omega) _
     exact blk_alloc HX.out _
    ·refine below_set (below_alloc HB.out _) (by have := HS.out; omega)
  ·have hb3 : decide ((i : Int) < (d : Int)) = false := decide_eq_false (by omega)
   have hb4 : decide (i < d) = false := decide_eq_false (by omega)
   obtain rfl : i = d := by have := HI2.out; omega
   obtain ⟨tn, htn⟩ : ∃ tn, tunedBy (l0_0.take i) tuned0 = tn := ⟨_, rfl⟩
   have HA' := A_ (show wr.heap[w2.heap.size]? = some (.cells (tn.map Value.bool).toArray 136 (0, 0)) by rw [← htn]; exact HA.out)
   have HT := A_ (show tn.length = 12 by rw [← htn]; exact hTl)
   have HQ' := A_ (show keyGo tn l0_2 = r by rw [← htn]; exact HQ.out)
   have hcz0 := blk_cell HX.out 0
   have hcz1 := blk_cell HX.out 1
   have hcz2 := blk_cell HX.out 2
   clear HA HQ htn hTl
   go_wp2
   have H12 := P3.out
   go_loopg [45] 13 (fun kq v45 w' => ∃ (j : Nat), v45 = .int .i64 (j : Int) ∧ Aside0 (j + kq = 13) ∧ Aside0 (j ≤ 12) ∧ Aside0 (keyGo (tn.drop j) (l0_2.drop j) = r) ∧ Aside0 (w'.heap[w2.heap.size]? = some (.cells (tn.map Value.bool).toArray 136 (0, 0))) ∧ Aside0 (Below w.heap.size w w'))
   case atStart => exact ⟨0, rfl, ⟨by omega⟩, ⟨by omega⟩, ⟨HQ'.out⟩, ⟨HA'.out⟩, ⟨HB.out⟩⟩
   case round =>
    clear hcz0 hcz1 hcz2 HB HX HA' HQ'
    obtain ⟨j, rfl, HJ1, HJ2, HQ, HA, HB⟩ := hrel
    by_cases hlt2 : j < 12
    rotate_left
    ·have hb5 : decide ((j : Int) < (l0_2.length : Int)) = false := decide_eq_false (by omega)
     have hb6 : decide (j < l0_2.length) = false := decide_eq_false (by omega)
     obtain rfl : true = r := by
      have h1 := HQ.out
      rw [List.drop_eq_nil_of_le (by have := HT.out; omega)] at h1
      simpa [keyGo] using h1
     clear H12
     go_wp2
     go_ret
     exact ⟨rfl, HB.out⟩
    ·have hb5 : decide ((j : Int) < (l0_2.length : Int)) = true := decide_eq_true (by omega)
     have hb6 : decide (j < l0_2.length) = true := decide_eq_true (by omega)
     have hj : j < l0_2.length := by omega
     obtain ⟨ad, e, hy⟩ := Kd.at_int HR2.out (j : Int) (by omega) (by omega)
     cases e
     replace hy := hW HB hy
     obtain ⟨y, hyy⟩ : ∃ y, rd l0_2 (j : Int) = y := ⟨_, rfl⟩
     obtain ⟨b, hbb⟩ : ∃ b, tn.getD j false = b := ⟨_, rfl⟩
     rw [hyy] at hy
     simp only [Int.toNat_natCast] at hy
     have hT12 := HT.out
     have hct : wr.cell? ⟨w2.heap.size, j, none⟩ = some (.bool b) := (blk_cell HA.out j).trans (by rw [← hbb]; simp [List.getD_eq_getElem?_getD, show j < tn.length by omega])
     have HD : Aside0 (keyGo (tn.drop j) (l0_2.drop j) = ((if b then decide (1 ≤ y ∧ y ≤ 10000000) else decide (y = 0)) && keyGo (tn.drop (j + 1)) (l0_2.drop (j + 1)))) := ⟨by
      rw [List.drop_eq_getElem_cons (show j < tn.length by omega), List.drop_eq_getElem_cons (show j < l0_2.length by omega)]
      have e1 : tn[j] = b := by rw [← hbb]; simp [List.getD_eq_getElem?_getD, show j < tn.length by omega]
      have e2 : l0_2[j] = y := by rw [← hyy]; simp [rd, List.getD_eq_getElem?_getD, show j < l0_2.length by omega]
      rw [e1, e2]; rfl⟩
     have fine : ∀ (d : Bool) (W : World), decide (1 ≤ y ∧ y ≤ 10000000) = d → Calls Tryz.prog 90 #[.int .i64 y] W fun e w' => e = .returned (.bool d) ∧ Drawn0 W w' := fun d W hd =>
      impl_isFine.calls y d W (by rw [← hd]; unfold impl_isFine.f impl_within.f; by_cases hh : 1 ≤ y <;> simp [hh])
     clear hyy hbb hT12 H12
     cases b with
     | true =>
      by_cases q : 1 ≤ y ∧ y ≤ 10000000
      ·have F1 := A_ fun W => fine true W (decide_eq_true q)
       have Q := A_ q
       clear q fine
       go_wp2_with (first | (go_at_call 90; (with_reducible refine (F1.out _).mono ?_); rintro e w' ⟨rfl, ⟨nd, rfl⟩⟩))
       go_roundg (12 - j)
       case measure => have := HJ1.out; omega
       case rel =>
        refine ⟨j + 1, by go_num, ⟨by omega⟩, ⟨by omega⟩, ⟨?_⟩, ⟨?_⟩, ⟨?_⟩⟩
        ·rw [← HQ.out, HD.out]; simp [Q.out]
        ·repeat (first | exact HA.out | refine blk_drewN ?_ _ | refine blk_drew ?_)
        ·repeat (first | exact HB.out | apply below_alloc | apply pw_below_drewN | apply below_drew1)
      ·have F1 := A_ fun W => fine false W (decide_eq_false q)
       have Q := A_ q
       clear q fine
       obtain rfl : false = r := by rw [← HQ.out, HD.out]; simp [Q.out]
       go_wp2_with (first | (go_at_call 90; (with_reducible refine (F1.out _).mono ?_); rintro e w' ⟨rfl, ⟨nd, rfl⟩⟩))
       go_ret
       exact ⟨rfl, by repeat (first | exact HB.out | apply below_alloc | apply pw_below_drewN | apply below_drew1)⟩
     | false =>
      by_cases q : y = 0
      ·have q1 : (y != 0) = false := bne_eq_false_iff_eq.mpr q
       have q2 : (y == 0) = true := beq_iff_eq.mpr q
       have Q := A_ q
       clear q fine
       go_wp2
       go_roundg (12 - j)
       case measure => have := HJ1.out; omega
       case rel =>
        refine ⟨j + 1, by go_num, ⟨by omega⟩, ⟨by omega⟩, ⟨?_⟩, ⟨?_⟩, ⟨?_⟩⟩
        ·rw [← HQ.out, HD.out]; simp [Q.out]
        ·repeat (first | exact HA.out | refine blk_drewN ?_ _ | refine blk_drew ?_)
        ·repeat (first | exact HB.out | apply below_alloc | apply pw_below_drewN | apply below_drew1)
      ·have q1 : (y != 0) = true := bne_iff_ne.mpr q
       have q2 : (y == 0) = false := beq_eq_false_iff_ne.mpr q
       have Q := A_ q
       clear q fine
       obtain rfl : false = r := by rw [← HQ.out, HD.out]; simp [Q.out]
       go_wp2
       go_ret
       exact ⟨rfl, by repeat (first | exact HB.out | apply below_alloc | apply pw_below_drewN | apply below_drew1)⟩
def impl_WrongSteps.l0 : Nat → List Int → List (S112) → Int → Int → List (S112) → Int → List Int → Option (List Int)
 | 0, _, _, _, _, _, _, _ => none
 | k + 1, x3, x14, x15, x16, x607000, x607001, x607002 => if x16 < x15 then (if 0 ≤ x16 then (if x16 < (x14.length : Int) then (if 0 ≤ ((rd_T112 x14 x16).f1) then (if ((rd_T112 x14 x16).f1) < (x607002.length : Int) then ((impl_tunedBy.f k x607000 x607001 x607002 x16).bind fun t618 => (if (rd x607002 ((rd_T112 x14 x16).f1)) = t618 then (impl_WrongSteps.l0 k x3 x14 x15 (wrap64 (x16 + 1)) x607000 x607001 x607002) else (if x3.length < 17592186044416 then (impl_WrongSteps.l0 k (x3 ++ [x16]) x14 x15 (wrap64 (x16 + 1)) x607000 x607001 x607002) else (none)))) else (none)) else (none)) else (none)) else (none)) else (some x3)
def impl_WrongSteps.f (k : Nat) (l0_0 : List (S112)) (a0_1 : Int) (l0_2 : List Int) : Option (List Int) := (impl_WorkOk.f l0_0 a0_1 l0_2).bind fun t607 => (if t607 = true then (if 0 ≤ a0_1 then (if a0_1 ≤ (l0_0.length : Int) then ((some (l0_0.take (a0_1 : Int).toNat : List (S112))).bind fun y611 => (impl_WrongSteps.l0 k (([] : List Int)) y611 (y611.length : Int) 0 l0_0 a0_1 l0_2)) else (none)) else (none)) else (some ([] : List Int)))
def impl_WrongSteps.T7 : Bool × List (List Nat × List Nat) := (true, [([], []), ([0], [0]), ([], []), ([2], [2]), ([1, 3], [1, 3]), ([4], [4]), ([], []), ([], []), ([6, 7], [6, 7]), ([5, 8], [5, 8])])
def impl_WrongSteps.B7 : List Nat := [0, 1, 0, 4, 15, 31, 0, 0, 192, 511]
theorem impl_WrongSteps.tab7 : rtab .any (opsOf Tryz.f82 7) = impl_WrongSteps.T7 := by kernel_rfl
theorem impl_WrongSteps.bits7 : waitsOk impl_WrongSteps.T7.2 impl_WrongSteps.B7 = true := by kernel_rfl
theorem impl_WrongSteps.calls (k : Nat) (A0_0 : Option Addr) (c0_0 : Nat) (l0_0 : List (S112)) (a0_1 : Int) (A0_2 : Option Addr) (c0_2 : Nat) (l0_2 : List Int) (r : List Int) (w : World) (hr0_0 : Kd.C k112 w A0_0 l0_0.length l0_0) (hc0_0 : l0_0.length ≤ c0_0) (hr0_2 : Kd.C (Kd.int .i64) w A0_2 l0_2.length l0_2) (hc0_2 : l0_2.length ≤ c0_2) (h : impl_WrongSteps.f k l0_0 a0_1 l0_2 = some r) :
  Calls Tryz.prog 82 #[.agg #[.slice A0_0 l0_0.length c0_0, .int .i64 a0_1, .slice A0_2 l0_2.length c0_2]] w fun e w' => ∃ v0_ : Value, e = .returned (v0_) ∧ Kd.R (Kd.int .i64) 3 w' w.heap.size (fun _ => True) v0_ r ∧ Below w.heap.size w w' := by
 have hu34 := Tryz.underlying34
 have hu112 := Tryz.underlying112
 have HR0_0 := A_ hr0_0
 have HC0_0 := A_ hc0_0
 clear hr0_0 hc0_0
 have HR0_2 := A_ hr0_2
 have HC0_2 := A_ hc0_2
 clear hr0_2 hc0_2
 have HB := A_ (Below.refl w.heap.size w)
 have H : ((impl_WorkOk.f l0_0 a0_1 l0_2).bind fun t607 => (if t607 = true then (if 0 ≤ a0_1 then (if a0_1 ≤ (l0_0.length : Int) then ((some (l0_0.take (a0_1 : Int).toNat : List (S112))).bind fun y611 => (impl_WrongSteps.l0 k (([] : List Int)) y611 (y611.length : Int) 0 l0_0 a0_1 l0_2)) else (none)) else (none)) else (some ([] : List Int)))) = some r := h
 clear h
 replace H := Option.bind_eq_some_iff.mp H
 obtain ⟨t607, A20, H⟩ := H
 (try dsimp only at H)
 have A2 := A_ A20
 clear A20
 by_cases c3 : t607 = true
 ·subst c3
  rw [if_pos rfl] at H
  obtain ⟨y608, hy608⟩ : ∃ y_ : List Int, y_ = (([] : List Int)) := ⟨_, rfl⟩
  replace H : (if 0 ≤ a0_1 then (if a0_1 ≤ (l0_0.length : Int) then ((some (l0_0.take (a0_1 : Int).toNat : List (S112))).bind fun y611 => (impl_WrongSteps.l0 k y608 y611 (y611.length : Int) 0 l0_0 a0_1 l0_2)) else (none)) else (none)) = some r := by first | (rw [hy608]; with_reducible exact H) | (have H2_ := (Option.bind_some _ _).symm.trans H; rw [hy608]; with_reducible exact H2_) | (have H2_ := (Option.bind_some _ _).symm.trans H; with_reducible exact H2_) | with_reducible exact H | (rw [hy608]; exact H) | exact H
  have Ny608 := A_ hy608
  clear hy608
  by_cases c4 : 0 ≤ a0_1
  ·rw [if_pos c4] at H
   have c4b0 := eq_true c4
   have c4b1 : decide (0 ≤ a0_1) = true := decide_eq_true c4
   clear c4
   by_cases c5 : a0_1 ≤ (l0_0.length : Int)
   ·rw [if_pos c5] at H
    have c5b0 := eq_true c5
    have c5b1 : decide (a0_1 ≤ (l0_0.length : Int)) = true := decide_eq_true c5
    clear c5
    obtain ⟨y611, hy611⟩ : ∃ y_ : List (S112), y_ = (l0_0.take (a0_1 : Int).toNat) := ⟨_, rfl⟩
    replace H : (impl_WrongSteps.l0 k y608 y611 (y611.length : Int) 0 l0_0 a0_1 l0_2) = some r := by first | (rw [hy611]; with_reducible exact H) | (have H2_ := (Option.bind_some _ _).symm.trans H; rw [hy611]; with_reducible exact H2_) | (have H2_ := (Option.bind_some _ _).symm.trans H; with_reducible exact H2_) | with_reducible exact H | (rw [hy611]; exact H) | exact H
    have Ny611 := A_ hy611
    clear hy611
    have H' := A_ H
    clear H
    go_enter Tryz.func82, Tryz.ntmps82
    go_wp2_with (first | ((with_reducible refine gate_dst (N := 1) rfl ?_); refine bX (N := 1) (cs := #[.slice A0_0 l0_0.length c0_0, .int .i64 a0_1, .slice A0_2 l0_2.length c0_2]) (t := 34) ?_; intro gb606 hg w6 hbox hb; have n0_ := A_ (below_step (oB HB) hb); have n1_ := A_ (hbox); have n2_ := A_ ((by rw [hg]; exact (below_size (oB HB)) : w.heap.size ≤ gb606)); have n3_ := A_ ((by rw [hg]; exact (below_size (oB HB)) : w.heap.size ≤ gb606)); clear HB; have HB := n0_; have BK606 := n1_; have GW606 := n2_; have GE606 := n3_; clear n0_ n1_ n2_ n3_; clear hb hbox hg; have hcz7_0 := cz BK606 0; have hcz7_1 := cz BK606 1; have hcz7_2 := cz BK606 2; have hfz7_0 := blk_frozen BK606.out 0; have hfz7_1 := blk_frozen BK606.out 1; have hfz7_2 := blk_frozen BK606.out 2) | ((with_reducible refine gate_callee (f := 76) rfl ?_); refine gL (some 7) Tryz.func76 #[.agg #[.slice A0_0 l0_0.length c0_0, .int .i64 a0_1, .slice A0_2 l0_2.length c0_2]] ?_; (with_reducible refine (impl_WorkOk.calls _ _ l0_0 a0_1 _ _ l0_2 true _ ?side1 ?side2 ?side3 ?side4 A2.out).mono ?_); (case side1 => exact oc_ HR0_0.out); (case side2 => exact HC0_0.out); (case side3 => exact oc_ HR0_2.out); (case side4 => exact HC0_2.out); rintro e w8 ⟨rfl, hb⟩; refine ⟨_, rfl, ?_⟩; have n0_ := A_ (bb BK606 hb); have n1_ := A_ (below_step (oB HB) hb); clear BK606; clear HB; have BK606 := n0_; have HB := n1_; clear n0_ n1_; (try clear hb); (try clear hb2); (try clear hk); (try clear hi)) | ((with_reducible refine gate_dst (N := 9) rfl ?_); refine Kd.R_lit (Kd.int .i64) _ 3 ?hg (N := 9) ?hd (xs := ([] : List Int)) (inner := []) (ok := fun _ => True) (okp := fun _ => True) ?hr ?hp (fun _ hk => hk) trivial (Below.refl _ _) (Nat.le_refl _) (by simp) ?_; (case hd => rfl); (case hg => rfl); (case hr => first | (go_simp; done) | (go_simp; rfl)); (case hp => exact (Reps.none _ _)); intro v609 w9 ho10 hb hg_ hnew_; clear hg_ hnew_; (first | rw [← Ny608.out] at ho10 | (simp only [Int.reduceToNat] at ho10; rw [← Ny608.out] at ho10)); have n0_ := A_ (Kd.R_lower ho10 (below_size (oB HB))); have n1_ := A_ (bb BK606 hb); have n2_ := A_ (below_step (oB HB) hb); clear BK606; clear HB; have HO610 := n0_; have BK606 := n1_; have HB := n2_; clear n0_ n1_ n2_; clear hb ho10; have hcz11_0 := cz BK606 0; have hcz11_1 := cz BK606 1; have hcz11_2 := cz BK606 2; have hfz11_0 := blk_frozen BK606.out 0; have hfz11_1 := blk_frozen BK606.out 1; have hfz11_2 := blk_frozen BK606.out 2; have q12 : (a0_1 : Int) ≤ ((l0_0.length : Int) : Int) := oD; obtain ⟨i012, hi012, _, hsz12, _⟩ := info_parts info112; have hroom12 : l0_0.length ≤ c0_0 := HC0_0.out; have hC12 : Kd.C k112 _ A0_0 l0_0.length l0_0 := HR0_0.out; have hcut12 := cut_to (P := Tryz.prog) 32 112 .i64 Tryz.underlying32 hi012 A0_0 l0_0.length c0_0 a0_1 (oD) q12 hroom12; have hr12 := Kd.C_take (m := (a0_1 : Int).toNat) hC12 (by omega); have hy12 : y611.length = (a0_1 : Int).toNat := (by rw [Ny611.out, List.length_take]; omega); rw [← Ny611.out] at hr12; rw [← hy12] at hcut12; have HR614 := A_ hr12; have HC614 := A_ (show y611.length ≤ c0_0 from by omega); clear hr12 hC12 hroom12 hi012 hsz12; have KY12 := A_ hy12; clear hy12; replace q12 := eq_true q12))
    go_loopg [3, 16] k (fun kq v3 v16 w' => ∃ (x3_1 : List Int) (x16_1 : Int), v16 = .int .i64 x16_1 ∧ Aside0 (impl_WrongSteps.l0 kq x3_1 y611 (y611.length : Int) x16_1 l0_0 a0_1 l0_2 = some r) ∧ Aside0 (kq ≤ k) ∧ Aside0 (Kd.R (Kd.int .i64) 3 w' w.heap.size (fun _ => True) v3 x3_1) ∧ Aside0 (w'.heap[gb606]? = some (.cells #[(.slice A0_0 l0_0.length c0_0), .int .i64 a0_1, (.slice A0_2 l0_2.length c0_2)] 34 (0, 0))) ∧ Aside0 (Below w.heap.size w w'))
    case atStart => exact ⟨(y608), (0), eS, H', ⟨Nat.le_refl _⟩, ⟨oR HO610⟩, ⟨oK BK606⟩, ⟨oB HB⟩⟩
    case round =>
     clear H'
     try clear q1
     try clear p2
     try clear c3
     try clear c4
     try clear c4b0
     try clear c4b1
     try clear c5
     try clear c5b0
     try clear c5b1
     try clear c7
     try clear c8
     try clear q12
     try clear hcz11_0
     try clear hcz11_1
     try clear hcz11_2
     try clear hcz7_0
     try clear hcz7_1
     try clear hcz7_2
     try clear hfz11_0
     try clear hfz11_1
     try clear hfz11_2
     try clear hfz7_0
     try clear hfz7_1
     try clear hfz7_2
     try clear q12
     obtain ⟨x3_1, x16_1, rfl, HA, HK1, HO_3, BK606, HB⟩ := hrel
     cases gk with
     | zero => exact absurd HA.out (by simp [impl_WrongSteps.l0])
     | succ k1 =>
      have H := HA.out
      clear HA
      simp only [impl_WrongSteps.l0] at H
      by_cases c13 : x16_1 < (y611.length : Int)
      ·rw [if_pos c13] at H
       have c13b0 : decide (x16_1 < (y611.length : Int)) = true := decide_eq_true c13
       clear c13
       by_cases c14 : 0 ≤ x16_1
       ·rw [if_pos c14] at H
        have c14b0 : decide (0 ≤ x16_1) = true := decide_eq_true c14
        clear c14
        by_cases c15 : x16_1 < (y611.length : Int)
        ·rw [if_pos c15] at H
         have c15b0 : decide (x16_1 < (y611.length : Int)) = true := decide_eq_true c15
         clear c15
         by_cases c16 : 0 ≤ ((rd_T112 y611 x16_1).f1)
         ·rw [if_pos c16] at H
          have c16b0 : decide (0 ≤ ((rd_T112 y611 x16_1).f1)) = true := decide_eq_true c16
          clear c16
          by_cases c17 : ((rd_T112 y611 x16_1).f1) < (l0_2.length : Int)
          ·rw [if_pos c17] at H
           have c17b0 : decide (((rd_T112 y611 x16_1).f1) < (l0_2.length : Int)) = true := decide_eq_true c17
           clear c17
           replace H := Option.bind_eq_some_iff.mp H
           obtain ⟨t618, A180, H⟩ := H
           (try dsimp only at H)
           have A18 := A_ A180
           clear A180
           by_cases c19 : (rd l0_2 ((rd_T112 y611 x16_1).f1)) = t618
           ·rw [if_pos c19] at H
            have c19b0 : ((rd l0_2 ((rd_T112 y611 x16_1).f1)) == t618) = true := beq_iff_eq.mpr c19
            have c19b1 : ((rd l0_2 ((rd_T112 y611 x16_1).f1)) != t618) = false := bne_eq_false_iff_eq.mpr c19
            clear c19
            have H' := A_ H
            clear H
            have p615 : 0 ≤ (x16_1 : Int) := oD
            have q615 : x16_1 < (y611.length : Int) := oD
            obtain ⟨ad615, e615, hx615_0, hx615_1, hx615_2, hx615_3⟩ := at_T112 HR614.out x16_1 p615 q615
            cases e615
            replace hx615_0 := hW HB hx615_0
            replace hx615_1 := hW HB hx615_1
            replace hx615_2 := hW HB hx615_2
            replace hx615_3 := hW HB hx615_3
            replace p615 := eq_true p615
            replace q615 := eq_true q615
            try go_wp2_with (first | ((with_reducible refine gate_dst (N := 5) rfl ?_); refine bX (N := 5) (cs := #[.int .i64 0, .int .i64 0, .int .i64 0, .int .i64 0]) (t := 112) ?_; intro gb616 hg w20 hbox hb; have n0_ := A_ (Kd.R_below (oR HO_3) hb); have n1_ := A_ (bb BK606 hb); have n2_ := A_ (below_step (oB HB) hb); have n3_ := A_ (hbox); have n4_ := A_ ((by rw [hg]; exact (below_size (oB HB)) : w.heap.size ≤ gb616)); have n5_ := A_ ((by rw [hg]; exact (below_size (oB HB)) : w.heap.size ≤ gb616)); have n6_ := A_ (nL BK606 hg); have n7_ := A_ (nG BK606 hg); clear HO_3; clear BK606; clear HB; have HO_3 := n0_; have BK606 := n1_; have HB := n2_; have BK616 := n3_; have GW616 := n4_; have GE616 := n5_; have NB606_616 := n6_; have NB616_606 := n7_; clear n0_ n1_ n2_ n3_ n4_ n5_ n6_ n7_; clear hb hbox hg; have hnb21 := NB616_606.out; have hnc21 := NB606_616.out; have hcz22_0 := cz BK616 0; have hcz22_1 := cz BK616 1; have hcz22_2 := cz BK616 2; have hcz22_3 := cz BK616 3; have hfz22_0 := blk_frozen BK616.out 0; have hfz22_1 := blk_frozen BK616.out 1; have hfz22_2 := blk_frozen BK616.out 2; have hfz22_3 := blk_frozen BK616.out 3))
            have n0_ : Aside0 (Kd.R (Kd.int .i64) 3 ((((w20.setCell ⟨gb616, 0, none⟩ (.int .i64 ((rd_T112 y611 x16_1).f0))).setCell ⟨gb616, 1, none⟩ (.int .i64 ((rd_T112 y611 x16_1).f1))).setCell ⟨gb616, 2, none⟩ (.int .i64 ((rd_T112 y611 x16_1).f2))).setCell ⟨gb616, 3, none⟩ (.int .i64 ((rd_T112 y611 x16_1).f3))) w.heap.size (fun _ => True) u3 x3_1) := ⟨by (with_reducible repeat (first | apply Kd.R_alloc | apply Kd.R_drewN | apply Kd.R_drew)); exact Kd.R_mono (Kd.R_far (p := ⟨gb616, 3, none⟩) (Kd.R_far (p := ⟨gb616, 2, none⟩) (Kd.R_far (p := ⟨gb616, 1, none⟩) (Kd.R_far (p := ⟨gb616, 0, none⟩) (Kd.R_types HO_3.out BK616.out (by decide)) (fun _ hk => hk.2) (.int .i64 ((rd_T112 y611 x16_1).f0))) (fun _ hk => hk.2) (.int .i64 ((rd_T112 y611 x16_1).f1))) (fun _ hk => hk.2) (.int .i64 ((rd_T112 y611 x16_1).f2))) (fun _ hk => hk.2) (.int .i64 ((rd_T112 y611 x16_1).f3))) (fun _ hk => trivial)⟩
            have n1_ : Aside0 (((((w20.setCell ⟨gb616, 0, none⟩ (.int .i64 ((rd_T112 y611 x16_1).f0))).setCell ⟨gb616, 1, none⟩ (.int .i64 ((rd_T112 y611 x16_1).f1))).setCell ⟨gb616, 2, none⟩ (.int .i64 ((rd_T112 y611 x16_1).f2))).setCell ⟨gb616, 3, none⟩ (.int .i64 ((rd_T112 y611 x16_1).f3))).heap[gb606]? = some (.cells #[.slice (some ad615) l0_0.length c0_0, .int .i64 a0_1, .slice A0_2 l0_2.length c0_2] 34 (0, 0))) := ⟨by (with_reducible repeat (first | refine blk_drewN ?_ _ | refine blk_drew ?_ | refine blk_alloc ?_ _)); refine blk_far ?_ NB606_616.out _; (with_reducible repeat (first | refine blk_drewN ?_ _ | refine blk_drew ?_ | refine blk_alloc ?_ _)); refine blk_far ?_ NB606_616.out _; (with_reducible repeat (first | refine blk_drewN ?_ _ | refine blk_drew ?_ | refine blk_alloc ?_ _)); refine blk_far ?_ NB606_616.out _; (with_reducible repeat (first | refine blk_drewN ?_ _ | refine blk_drew ?_ | refine blk_alloc ?_ _)); refine blk_far ?_ NB606_616.out _; (with_reducible repeat (first | refine blk_drewN ?_ _ | refine blk_drew ?_ | refine blk_alloc ?_ _)); exact BK606.out⟩
            have n2_ : Aside0 (((((w20.setCell ⟨gb616, 0, none⟩ (.int .i64 ((rd_T112 y611 x16_1).f0))).setCell ⟨gb616, 1, none⟩ (.int .i64 ((rd_T112 y611 x16_1).f1))).setCell ⟨gb616, 2, none⟩ (.int .i64 ((rd_T112 y611 x16_1).f2))).setCell ⟨gb616, 3, none⟩ (.int .i64 ((rd_T112 y611 x16_1).f3))).heap[gb616]? = some (.cells #[.int .i64 ((rd_T112 y611 x16_1).f0), .int .i64 ((rd_T112 y611 x16_1).f1), .int .i64 ((rd_T112 y611 x16_1).f2), .int .i64 ((rd_T112 y611 x16_1).f3)] 112 (0, 0))) := ⟨by (with_reducible repeat (first | refine blk_drewN ?_ _ | refine blk_drew ?_ | refine blk_alloc ?_ _)); refine blk_put (cs := #[.int .i64 ((rd_T112 y611 x16_1).f0), .int .i64 ((rd_T112 y611 x16_1).f1), .int .i64 ((rd_T112 y611 x16_1).f2), .int .i64 0]) ?_ 3 _ rfl; (with_reducible repeat (first | refine blk_drewN ?_ _ | refine blk_drew ?_ | refine blk_alloc ?_ _)); refine blk_put (cs := #[.int .i64 ((rd_T112 y611 x16_1).f0), .int .i64 ((rd_T112 y611 x16_1).f1), .int .i64 0, .int .i64 0]) ?_ 2 _ rfl; (with_reducible repeat (first | refine blk_drewN ?_ _ | refine blk_drew ?_ | refine blk_alloc ?_ _)); refine blk_put (cs := #[.int .i64 ((rd_T112 y611 x16_1).f0), .int .i64 0, .int .i64 0, .int .i64 0]) ?_ 1 _ rfl; (with_reducible repeat (first | refine blk_drewN ?_ _ | refine blk_drew ?_ | refine blk_alloc ?_ _)); refine blk_put (cs := #[.int .i64 0, .int .i64 0, .int .i64 0, .int .i64 0]) ?_ 0 _ rfl; (with_reducible repeat (first | refine blk_drewN ?_ _ | refine blk_drew ?_ | refine blk_alloc ?_ _)); exact BK616.out⟩
            have n3_ : Aside0 (Below w.heap.size w ((((w20.setCell ⟨gb616, 0, none⟩ (.int .i64 ((rd_T112 y611 x16_1).f0))).setCell ⟨gb616, 1, none⟩ (.int .i64 ((rd_T112 y611 x16_1).f1))).setCell ⟨gb616, 2, none⟩ (.int .i64 ((rd_T112 y611 x16_1).f2))).setCell ⟨gb616, 3, none⟩ (.int .i64 ((rd_T112 y611 x16_1).f3)))) := ⟨oB HB⟩
            (try clear HO_3)
            (try clear BK606)
            (try clear BK616)
            (try clear HB)
            generalize ((((w20.setCell ⟨gb616, 0, none⟩ (.int .i64 ((rd_T112 y611 x16_1).f0))).setCell ⟨gb616, 1, none⟩ (.int .i64 ((rd_T112 y611 x16_1).f1))).setCell ⟨gb616, 2, none⟩ (.int .i64 ((rd_T112 y611 x16_1).f2))).setCell ⟨gb616, 3, none⟩ (.int .i64 ((rd_T112 y611 x16_1).f3))) = w23 at n0_ n1_ n2_ n3_ ⊢
            have HO_3 := n0_
            have BK606 := n1_
            have BK616 := n2_
            have HB := n3_
            clear n0_ n1_ n2_ n3_
            have n0_ := A_ (Kd.R_drew HO_3.out)
            have n1_ := A_ (blk_drew BK606.out)
            have n2_ := A_ (blk_drew BK616.out)
            have n3_ := A_ (below_drew1 HB.out)
            clear HO_3
            clear BK606
            clear BK616
            clear HB
            have HO_3 := n0_
            have BK606 := n1_
            have BK616 := n2_
            have HB := n3_
            clear n0_ n1_ n2_ n3_
            have p617 : 0 ≤ (((rd_T112 y611 x16_1).f1) : Int) := oD
            have q617 : ((rd_T112 y611 x16_1).f1) < (l0_2.length : Int) := oD
            obtain ⟨ad617, e617, hx617_0⟩ := Kd.at_int HR0_2.out ((rd_T112 y611 x16_1).f1) p617 q617
            have hw617_0 := hx617_0
            cases e617
            replace hx617_0 := hW HB hx617_0
            replace p617 := eq_true p617
            replace q617 := eq_true q617
            refine start_ (n := 10) (S := fun w' => w'.cell? ⟨gb606, 0, none⟩ = some (.slice (some ad615) l0_0.length c0_0) ∧ w'.cell? ⟨gb606, 1, none⟩ = some (.int .i64 a0_1) ∧ w'.cell? ⟨gb606, 2, none⟩ = some (.slice (some ad617) l0_2.length c0_2) ∧ w'.cell? ⟨gb616, 0, none⟩ = some (.int .i64 ((rd_T112 y611 x16_1).f0)) ∧ w'.cell? ⟨gb616, 1, none⟩ = some (.int .i64 ((rd_T112 y611 x16_1).f1)) ∧ w'.cell? ⟨gb616, 2, none⟩ = some (.int .i64 ((rd_T112 y611 x16_1).f2)) ∧ w'.cell? ⟨gb616, 3, none⟩ = some (.int .i64 ((rd_T112 y611 x16_1).f3)) ∧ w'.cell? (ad617.add (((rd_T112 y611 x16_1).f1)).toNat) = some (.int .i64 (rd l0_2 ((rd_T112 y611 x16_1).f1)))) (ds := []) #[false, false, false, false, false, false, false, false, false, false] (by kernel_rfl) rfl rfl ⟨cz BK606 0, cz BK606 1, cz BK606 2, cz BK616 0, cz BK616 1, cz BK616 2, cz BK616 3, (hW HB hw617_0)⟩ (fun hHeld => ?_); refine with_tabW impl_WrongSteps.tab7 impl_WrongSteps.bits7 (fun HT_ HW_ => ?_)
            generalize w23.drew = w24 at HO_3 BK606 BK616 HB hx617_0 hHeld ⊢
            refine pA 0 (some 21) HT_.out ?_
            refine pA 2 (some 23) HT_.out ?_
            refine pA 7 (some 28) HT_.out ?_
            refine pT 1 (some 22) HT_.out HW_.out hHeld ?_
            refine pT 3 (some 24) HT_.out HW_.out hHeld ?_
            refine pA 4 (some 25) HT_.out ?_
            refine pT 5 (some 26) HT_.out HW_.out hHeld ?_
            refine pT 6 (some 27) HT_.out HW_.out hHeld ?_
            refine one_ (i := 8) (N := some 29) #[true, true, true, true, true, true, true, true, true, false] rfl rfl (one_of HT_.out (by kernel_rfl)) (by decide) (fun K hK => ?_)
            refine goes_ Tryz.func121 (by kernel_rfl) rfl #[.agg #[.slice (some ad615) l0_0.length c0_0, .int .i64 a0_1, .slice (some ad617) l0_2.length c0_2], .int .i64 x16_1] (by rfl) rfl rfl (by (try simp only [List.map_toArray, List.map_cons, List.map_nil]); first | done | rfl | (simp only [List.length_drop, List.length_take]; rfl)) ?_
            with_reducible refine (impl_tunedBy.calls k1 _ _ l0_0 a0_1 _ _ l0_2 x16_1 t618 _ ?side1 ?side2 ?side3 ?side4 A18.out).mono ?_
            (case side1 => exact oc_ HR0_0.out)
            (case side2 => exact HC0_0.out)
            (case side3 => exact oc_ HR0_2.out)
            (case side4 => exact HC0_2.out)
            rintro e w25 ⟨rfl, hb⟩
            refine ⟨_, rfl, ?_⟩
            have n0_ := A_ (Kd.R_below (oR HO_3) hb)
            have n1_ := A_ (bb BK606 hb)
            have n2_ := A_ (bb BK616 hb)
            have n3_ := A_ (below_step (oB HB) hb)
            clear HO_3
            clear BK606
            clear BK616
            clear HB
            have HO_3 := n0_
            have BK606 := n1_
            have BK616 := n2_
            have HB := n3_
            clear n0_ n1_ n2_ n3_
            (try clear hb)
            (try clear hb2)
            (try clear hk)
            (try clear hi)
            refine hK.out _ _ ⟨cz BK606 0, cz BK606 1, cz BK606 2, cz BK616 0, cz BK616 1, cz BK616 2, cz BK616 3, (hW HB hw617_0)⟩ (fun hHeld => ?_)
            clear hK K
            refine norm_ (a' := ?_) ?_ ?_
            rotate_left
            ·show Act.put _ (some 29) _ = _
             simp only [Act.put, List.setIfInBounds_toArray, List.set_cons_zero, List.set_cons_succ, i64_w, i32_w]
             rfl
            refine pA 9 (some 30) HT_.out ?_
            refine done_ (done_of HT_.out (by kernel_rfl)) ?_
            try go_wp2
            go_roundg k1
            case measure => have := HK1.out; omega
            case rel => exact ⟨(x3_1), (wrap64 (x16_1 + 1)), eS, H', ⟨by have := HK1.out; omega⟩, ⟨oR HO_3⟩, ⟨oK BK606⟩, ⟨oB HB⟩⟩
           ·rw [if_neg c19] at H
            have c19b0 : ((rd l0_2 ((rd_T112 y611 x16_1).f1)) == t618) = false := beq_eq_false_iff_ne.mpr c19
            have c19b1 : ((rd l0_2 ((rd_T112 y611 x16_1).f1)) != t618) = true := bne_iff_ne.mpr c19
            by_cases c26 : x3_1.length < 17592186044416
            ·rw [if_pos c26] at H
             have LMc26 := A_ c26
             clear c26
             obtain ⟨y619, hy619⟩ : ∃ y_ : List Int, y_ = (x3_1 ++ [x16_1]) := ⟨_, rfl⟩
             replace H : (impl_WrongSteps.l0 k1 y619 y611 (y611.length : Int) (wrap64 (x16_1 + 1)) l0_0 a0_1 l0_2) = some r := by first | (rw [hy619]; with_reducible exact H) | (have H2_ := (Option.bind_some _ _).symm.trans H; rw [hy619]; with_reducible exact H2_) | (have H2_ := (Option.bind_some _ _).symm.trans H; with_reducible exact H2_) | with_reducible exact H | (rw [hy619]; exact H) | exact H
             have Ny619 := A_ hy619
             clear hy619
             have H' := A_ H
             clear H
             have p615 : 0 ≤ (x16_1 : Int) := oD
             have q615 : x16_1 < (y611.length : Int) := oD
             obtain ⟨ad615, e615, hx615_0, hx615_1, hx615_2, hx615_3⟩ := at_T112 HR614.out x16_1 p615 q615
             cases e615
             replace hx615_0 := hW HB hx615_0
             replace hx615_1 := hW HB hx615_1
             replace hx615_2 := hW HB hx615_2
             replace hx615_3 := hW HB hx615_3
             replace p615 := eq_true p615
             replace q615 := eq_true q615
             try go_wp2_with (first | ((with_reducible refine gate_dst (N := 5) rfl ?_); refine bX (N := 5) (cs := #[.int .i64 0, .int .i64 0, .int .i64 0, .int .i64 0]) (t := 112) ?_; intro gb616 hg w27 hbox hb; have n0_ := A_ (Kd.R_below (oR HO_3) hb); have n1_ := A_ (bb BK606 hb); have n2_ := A_ (below_step (oB HB) hb); have n3_ := A_ (hbox); have n4_ := A_ ((by rw [hg]; exact (below_size (oB HB)) : w.heap.size ≤ gb616)); have n5_ := A_ ((by rw [hg]; exact (below_size (oB HB)) : w.heap.size ≤ gb616)); have n6_ := A_ (nL BK606 hg); have n7_ := A_ (nG BK606 hg); clear HO_3; clear BK606; clear HB; have HO_3 := n0_; have BK606 := n1_; have HB := n2_; have BK616 := n3_; have GW616 := n4_; have GE616 := n5_; have NB606_616 := n6_; have NB616_606 := n7_; clear n0_ n1_ n2_ n3_ n4_ n5_ n6_ n7_; clear hb hbox hg; have hnb28 := NB616_606.out; have hnc28 := NB606_616.out; have hcz29_0 := cz BK616 0; have hcz29_1 := cz BK616 1; have hcz29_2 := cz BK616 2; have hcz29_3 := cz BK616 3; have hfz29_0 := blk_frozen BK616.out 0; have hfz29_1 := blk_frozen BK616.out 1; have hfz29_2 := blk_frozen BK616.out 2; have hfz29_3 := blk_frozen BK616.out 3))
             have n0_ : Aside0 (Kd.R (Kd.int .i64) 3 ((((w27.setCell ⟨gb616, 0, none⟩ (.int .i64 ((rd_T112 y611 x16_1).f0))).setCell ⟨gb616, 1, none⟩ (.int .i64 ((rd_T112 y611 x16_1).f1))).setCell ⟨gb616, 2, none⟩ (.int .i64 ((rd_T112 y611 x16_1).f2))).setCell ⟨gb616, 3, none⟩ (.int .i64 ((rd_T112 y611 x16_1).f3))) w.heap.size (fun _ => True) u3 x3_1) := ⟨by (with_reducible repeat (first | apply Kd.R_alloc | apply Kd.R_drewN | apply Kd.R_drew)); exact Kd.R_mono (Kd.R_far (p := ⟨gb616, 3, none⟩) (Kd.R_far (p := ⟨gb616, 2, none⟩) (Kd.R_far (p := ⟨gb616, 1, none⟩) (Kd.R_far (p := ⟨gb616, 0, none⟩) (Kd.R_types HO_3.out BK616.out (by decide)) (fun _ hk => hk.2) (.int .i64 ((rd_T112 y611 x16_1).f0))) (fun _ hk => hk.2) (.int .i64 ((rd_T112 y611 x16_1).f1))) (fun _ hk => hk.2) (.int .i64 ((rd_T112 y611 x16_1).f2))) (fun _ hk => hk.2) (.int .i64 ((rd_T112 y611 x16_1).f3))) (fun _ hk => trivial)⟩
             have n1_ : Aside0 (((((w27.setCell ⟨gb616, 0, none⟩ (.int .i64 ((rd_T112 y611 x16_1).f0))).setCell ⟨gb616, 1, none⟩ (.int .i64 ((rd_T112 y611 x16_1).f1))).setCell ⟨gb616, 2, none⟩ (.int .i64 ((rd_T112 y611 x16_1).f2))).setCell ⟨gb616, 3, none⟩ (.int .i64 ((rd_T112 y611 x16_1).f3))).heap[gb606]? = some (.cells #[.slice (some ad615) l0_0.length c0_0, .int .i64 a0_1, .slice A0_2 l0_2.length c0_2] 34 (0, 0))) := ⟨by (with_reducible repeat (first | refine blk_drewN ?_ _ | refine blk_drew ?_ | refine blk_alloc ?_ _)); refine blk_far ?_ NB606_616.out _; (with_reducible repeat (first | refine blk_drewN ?_ _ | refine blk_drew ?_ | refine blk_alloc ?_ _)); refine blk_far ?_ NB606_616.out _; (with_reducible repeat (first | refine blk_drewN ?_ _ | refine blk_drew ?_ | refine blk_alloc ?_ _)); refine blk_far ?_ NB606_616.out _; (with_reducible repeat (first | refine blk_drewN ?_ _ | refine blk_drew ?_ | refine blk_alloc ?_ _)); refine blk_far ?_ NB606_616.out _; (with_reducible repeat (first | refine blk_drewN ?_ _ | refine blk_drew ?_ | refine blk_alloc ?_ _)); exact BK606.out⟩
             have n2_ : Aside0 (((((w27.setCell ⟨gb616, 0, none⟩ (.int .i64 ((rd_T112 y611 x16_1).f0))).setCell ⟨gb616, 1, none⟩ (.int .i64 ((rd_T112 y611 x16_1).f1))).setCell ⟨gb616, 2, none⟩ (.int .i64 ((rd_T112 y611 x16_1).f2))).setCell ⟨gb616, 3, none⟩ (.int .i64 ((rd_T112 y611 x16_1).f3))).heap[gb616]? = some (.cells #[.int .i64 ((rd_T112 y611 x16_1).f0), .int .i64 ((rd_T112 y611 x16_1).f1), .int .i64 ((rd_T112 y611 x16_1).f2), .int .i64 ((rd_T112 y611 x16_1).f3)] 112 (0, 0))) := ⟨by (with_reducible repeat (first | refine blk_drewN ?_ _ | refine blk_drew ?_ | refine blk_alloc ?_ _)); refine blk_put (cs := #[.int .i64 ((rd_T112 y611 x16_1).f0), .int .i64 ((rd_T112 y611 x16_1).f1), .int .i64 ((rd_T112 y611 x16_1).f2), .int .i64 0]) ?_ 3 _ rfl; (with_reducible repeat (first | refine blk_drewN ?_ _ | refine blk_drew ?_ | refine blk_alloc ?_ _)); refine blk_put (cs := #[.int .i64 ((rd_T112 y611 x16_1).f0), .int .i64 ((rd_T112 y611 x16_1).f1), .int .i64 0, .int .i64 0]) ?_ 2 _ rfl; (with_reducible repeat (first | refine blk_drewN ?_ _ | refine blk_drew ?_ | refine blk_alloc ?_ _)); refine blk_put (cs := #[.int .i64 ((rd_T112 y611 x16_1).f0), .int .i64 0, .int .i64 0, .int .i64 0]) ?_ 1 _ rfl; (with_reducible repeat (first | refine blk_drewN ?_ _ | refine blk_drew ?_ | refine blk_alloc ?_ _)); refine blk_put (cs := #[.int .i64 0, .int .i64 0, .int .i64 0, .int .i64 0]) ?_ 0 _ rfl; (with_reducible repeat (first | refine blk_drewN ?_ _ | refine blk_drew ?_ | refine blk_alloc ?_ _)); exact BK616.out⟩
             have n3_ : Aside0 (Below w.heap.size w ((((w27.setCell ⟨gb616, 0, none⟩ (.int .i64 ((rd_T112 y611 x16_1).f0))).setCell ⟨gb616, 1, none⟩ (.int .i64 ((rd_T112 y611 x16_1).f1))).setCell ⟨gb616, 2, none⟩ (.int .i64 ((rd_T112 y611 x16_1).f2))).setCell ⟨gb616, 3, none⟩ (.int .i64 ((rd_T112 y611 x16_1).f3)))) := ⟨oB HB⟩
             (try clear HO_3)
             (try clear BK606)
             (try clear BK616)
             (try clear HB)
             generalize ((((w27.setCell ⟨gb616, 0, none⟩ (.int .i64 ((rd_T112 y611 x16_1).f0))).setCell ⟨gb616, 1, none⟩ (.int .i64 ((rd_T112 y611 x16_1).f1))).setCell ⟨gb616, 2, none⟩ (.int .i64 ((rd_T112 y611 x16_1).f2))).setCell ⟨gb616, 3, none⟩ (.int .i64 ((rd_T112 y611 x16_1).f3))) = w30 at n0_ n1_ n2_ n3_ ⊢
             have HO_3 := n0_
             have BK606 := n1_
             have BK616 := n2_
             have HB := n3_
             clear n0_ n1_ n2_ n3_
             have n0_ := A_ (Kd.R_drew HO_3.out)
             have n1_ := A_ (blk_drew BK606.out)
             have n2_ := A_ (blk_drew BK616.out)
             have n3_ := A_ (below_drew1 HB.out)
             clear HO_3
             clear BK606
             clear BK616
             clear HB
             have HO_3 := n0_
             have BK606 := n1_
             have BK616 := n2_
             have HB := n3_
             clear n0_ n1_ n2_ n3_
             have p617 : 0 ≤ (((rd_T112 y611 x16_1).f1) : Int) := oD
             have q617 : ((rd_T112 y611 x16_1).f1) < (l0_2.length : Int) := oD
             obtain ⟨ad617, e617, hx617_0⟩ := Kd.at_int HR0_2.out ((rd_T112 y611 x16_1).f1) p617 q617
             have hw617_0 := hx617_0
             cases e617
             replace hx617_0 := hW HB hx617_0
             replace p617 := eq_true p617
             replace q617 := eq_true q617
             refine start_ (n := 10) (S := fun w' => w'.cell? ⟨gb606, 0, none⟩ = some (.slice (some ad615) l0_0.length c0_0) ∧ w'.cell? ⟨gb606, 1, none⟩ = some (.int .i64 a0_1) ∧ w'.cell? ⟨gb606, 2, none⟩ = some (.slice (some ad617) l0_2.length c0_2) ∧ w'.cell? ⟨gb616, 0, none⟩ = some (.int .i64 ((rd_T112 y611 x16_1).f0)) ∧ w'.cell? ⟨gb616, 1, none⟩ = some (.int .i64 ((rd_T112 y611 x16_1).f1)) ∧ w'.cell? ⟨gb616, 2, none⟩ = some (.int .i64 ((rd_T112 y611 x16_1).f2)) ∧ w'.cell? ⟨gb616, 3, none⟩ = some (.int .i64 ((rd_T112 y611 x16_1).f3)) ∧ w'.cell? (ad617.add (((rd_T112 y611 x16_1).f1)).toNat) = some (.int .i64 (rd l0_2 ((rd_T112 y611 x16_1).f1)))) (ds := []) #[false, false, false, false, false, false, false, false, false, false] (by kernel_rfl) rfl rfl ⟨cz BK606 0, cz BK606 1, cz BK606 2, cz BK616 0, cz BK616 1, cz BK616 2, cz BK616 3, (hW HB hw617_0)⟩ (fun hHeld => ?_); refine with_tabW impl_WrongSteps.tab7 impl_WrongSteps.bits7 (fun HT_ HW_ => ?_)
             generalize w30.drew = w31 at HO_3 BK606 BK616 HB hx617_0 hHeld ⊢
             refine pA 0 (some 21) HT_.out ?_
             refine pA 2 (some 23) HT_.out ?_
             refine pA 7 (some 28) HT_.out ?_
             refine pT 1 (some 22) HT_.out HW_.out hHeld ?_
             refine pT 3 (some 24) HT_.out HW_.out hHeld ?_
             refine pA 4 (some 25) HT_.out ?_
             refine pT 5 (some 26) HT_.out HW_.out hHeld ?_
             refine pT 6 (some 27) HT_.out HW_.out hHeld ?_
             refine one_ (i := 8) (N := some 29) #[true, true, true, true, true, true, true, true, true, false] rfl rfl (one_of HT_.out (by kernel_rfl)) (by decide) (fun K hK => ?_)
             refine goes_ Tryz.func121 (by kernel_rfl) rfl #[.agg #[.slice (some ad615) l0_0.length c0_0, .int .i64 a0_1, .slice (some ad617) l0_2.length c0_2], .int .i64 x16_1] (by rfl) rfl rfl (by (try simp only [List.map_toArray, List.map_cons, List.map_nil]); first | done | rfl | (simp only [List.length_drop, List.length_take]; rfl)) ?_
             with_reducible refine (impl_tunedBy.calls k1 _ _ l0_0 a0_1 _ _ l0_2 x16_1 t618 _ ?side1 ?side2 ?side3 ?side4 A18.out).mono ?_
             (case side1 => exact oc_ HR0_0.out)
             (case side2 => exact HC0_0.out)
             (case side3 => exact oc_ HR0_2.out)
             (case side4 => exact HC0_2.out)
             rintro e w32 ⟨rfl, hb⟩
             refine ⟨_, rfl, ?_⟩
             have n0_ := A_ (Kd.R_below (oR HO_3) hb)
             have n1_ := A_ (bb BK606 hb)
             have n2_ := A_ (bb BK616 hb)
             have n3_ := A_ (below_step (oB HB) hb)
             clear HO_3
             clear BK606
             clear BK616
             clear HB
             have HO_3 := n0_
             have BK606 := n1_
             have BK616 := n2_
             have HB := n3_
             clear n0_ n1_ n2_ n3_
             (try clear hb)
             (try clear hb2)
             (try clear hk)
             (try clear hi)
             refine hK.out _ _ ⟨cz BK606 0, cz BK606 1, cz BK606 2, cz BK616 0, cz BK616 1, cz BK616 2, cz BK616 3, (hW HB hw617_0)⟩ (fun hHeld => ?_)
             clear hK K
             refine norm_ (a' := ?_) ?_ ?_
             rotate_left
             ·show Act.put _ (some 29) _ = _
              simp only [Act.put, List.setIfInBounds_toArray, List.set_cons_zero, List.set_cons_succ, i64_w, i32_w]
              rfl
             refine pA 9 (some 30) HT_.out ?_
             refine done_ (done_of HT_.out (by kernel_rfl)) ?_
             try go_wp2_with (first | ((with_reducible refine gate_builtin (b := .append) (xs := #[.tmp 31, .tmp 33]) rfl ?_); at_builtin; refine Kd.R_append (Kd.int .i64) (w0 := w) w.heap.size rfl (.tmp 31) (.tmp 33) 23 3 (.int .i64 0) 8 rfl Tryz.underlying23 info3 rfl (by decide) (by omega) u3 x3_1 x16_1 [.int .i64 x16_1] (fun _ => True) (fun _ => False) rfl rfl ?aP (fun _ hk => hk.elim) ?aF ?aO ?aB ?aS ?aL ?_; (case aP => exact rfl); (case aB => exact (oB HB)); (case aF => exact (fun _ _ => trivial)); (case aO => exact (oR HO_3)); (case aS => exact (below_size (oB HB))); (case aL => have := LMc26.out; omega); intro v620 w33 ho hb hg hat; rw [← Ny619.out] at ho; have n0_ := A_ (bg BK606 hg (Kd.R_ne HO_3.out BK606.out (by decide))); have n1_ := A_ (bg BK616 hg (Kd.R_ne HO_3.out BK616.out (by decide))); have n2_ := A_ (hb); have n3_ := A_ (ho); clear BK606; clear BK616; clear HB; clear HO_3; have BK606 := n0_; have BK616 := n1_; have HB := n2_; have HO621 := n3_; clear n0_ n1_ n2_ n3_; clear ho hb hg hat))
             go_roundg k1
             case measure => have := HK1.out; omega
             case rel => exact ⟨(y619), (wrap64 (x16_1 + 1)), eS, H', ⟨by have := HK1.out; omega⟩, ⟨oR HO621⟩, ⟨oK BK606⟩, ⟨oB HB⟩⟩
            ·rw [if_neg c26] at H
             exact absurd H (by simp)
          ·rw [if_neg c17] at H
           exact absurd H (by simp)
         ·rw [if_neg c16] at H
          exact absurd H (by simp)
        ·rw [if_neg c15] at H
         exact absurd H (by simp)
       ·rw [if_neg c14] at H
        exact absurd H (by simp)
      ·rw [if_neg c13] at H
       have c13b0 : decide (x16_1 < (y611.length : Int)) = false := decide_eq_false c13
       clear c13
       obtain rfl := Option.some.inj H
       go_wp2
       go_ret
       exact ⟨_, eR, oR HO_3, oB HB⟩
   ·rw [if_neg c5] at H
    exact absurd H (by simp)
  ·rw [if_neg c4] at H
   exact absurd H (by simp)
 ·replace c3 := Bool.eq_false_iff.mpr c3
  subst c3
  rw [if_neg (show ¬ (false = true) by decide)] at H
  obtain rfl := Option.some.inj H
  go_enter Tryz.func82, Tryz.ntmps82
  go_wp2_with (first | ((with_reducible refine gate_dst (N := 1) rfl ?_); refine bX (N := 1) (cs := #[.slice A0_0 l0_0.length c0_0, .int .i64 a0_1, .slice A0_2 l0_2.length c0_2]) (t := 34) ?_; intro gb606 hg w34 hbox hb; have n0_ := A_ (below_step (oB HB) hb); have n1_ := A_ (hbox); have n2_ := A_ ((by rw [hg]; exact (below_size (oB HB)) : w.heap.size ≤ gb606)); have n3_ := A_ ((by rw [hg]; exact (below_size (oB HB)) : w.heap.size ≤ gb606)); clear HB; have HB := n0_; have BK606 := n1_; have GW606 := n2_; have GE606 := n3_; clear n0_ n1_ n2_ n3_; clear hb hbox hg; have hcz35_0 := cz BK606 0; have hcz35_1 := cz BK606 1; have hcz35_2 := cz BK606 2; have hfz35_0 := blk_frozen BK606.out 0; have hfz35_1 := blk_frozen BK606.out 1; have hfz35_2 := blk_frozen BK606.out 2) | ((with_reducible refine gate_callee (f := 76) rfl ?_); refine gL (some 7) Tryz.func76 #[.agg #[.slice A0_0 l0_0.length c0_0, .int .i64 a0_1, .slice A0_2 l0_2.length c0_2]] ?_; (with_reducible refine (impl_WorkOk.calls _ _ l0_0 a0_1 _ _ l0_2 false _ ?side1 ?side2 ?side3 ?side4 A2.out).mono ?_); (case side1 => exact oc_ HR0_0.out); (case side2 => exact HC0_0.out); (case side3 => exact oc_ HR0_2.out); (case side4 => exact HC0_2.out); rintro e w36 ⟨rfl, hb⟩; refine ⟨_, rfl, ?_⟩; have n0_ := A_ (bb BK606 hb); have n1_ := A_ (below_step (oB HB) hb); clear BK606; clear HB; have BK606 := n0_; have HB := n1_; clear n0_ n1_; (try clear hb); (try clear hb2); (try clear hk); (try clear hi)))
  go_ret
  exact ⟨_, eR, by first | exact Kd.R_nil _ _ _ _ _ | exact Kd.N_nil _ _ _ _ _ | exact Kd.V_nil _ _ _ _ _ | exact Kd.Q_nil _ _ _ _ _ | exact Kd.S_nil _ _ _ _ _, oB HB⟩
end Go.Proofs.YtanhnhkcpbdfmaaGreat.P
namespace Go.Proofs.YtanhnhkcpbdfmaaGreat.Q
open Go.RowKit Go.Proofs.YtanhnhkcpbdfmaaGreat.P
def lastOk (l : List S104) (m : Int) : Prop := l.length = 0 ∨ (l.getD (l.length - 1) z104).f2 ≤ m
instance (l : List S104) (m : Int) : Decidable (lastOk l m) := by unfold lastOk; exact inferInstance
def shopOk (p : List S112) (d : Int) (q : List Int) (a m : Int) (l : List S104) : Bool := workOk p d q && (logOk l && (decide (-10 ≤ a ∧ a ≤ 40) && (decide (0 ≤ m ∧ m ≤ 100000) && decide (lastOk l m))))
theorem shopOk_iff {p : List S112} {d : Int} {q : List Int} {a m : Int} {l : List S104} : shopOk p d q a m l = true ↔ workOk p d q = true ∧ logOk l = true ∧ (-10 ≤ a ∧ a ≤ 40) ∧ (0 ≤ m ∧ m ≤ 100000) ∧ lastOk l m := by
  unfold shopOk; simp only [Bool.and_eq_true, decide_eq_true_eq]
end Go.Proofs.YtanhnhkcpbdfmaaGreat.Q
namespace Go.Proofs.YtanhnhkcpbdfmaaGreat.P
open Go.RowKit Go.Proofs.YtanhnhkcpbdfmaaGreatW.PrintWords Go.Proofs.YtanhnhkcpbdfmaaGreatW.PrintLast Go.Proofs.YtanhnhkcpbdfmaaGreatW.PrintMore
open Go.Maps (Keyed)
theorem mapLaidOut : laidOutB Tryz.prog = true := by kernel_rfl
theorem pipeLaw : WideMaps.KeyLaw Tryz.prog 74 := deep_law_gate mapLaidOut (of_decide_eq_true (by kernel_rfl)) (of_decide_eq_true (by kernel_rfl)) (by kernel_rfl) (by kernel_rfl)
theorem pipeKeyed : Keyed Tryz.prog 74 := Keyed.of_law pipeLaw
def wf64 (a : Int) : Prop := (Lit.int .i64 a).wf = true
theorem wf64_of {a : Int} (h : -9223372036854775808 ≤ a) (h2 : a ≤ 9223372036854775807) : wf64 a := by
  have e1 : IntKind.i64.min = -9223372036854775808 := by decide
  have e2 : IntKind.i64.max = 9223372036854775807 := by decide
  unfold wf64 Lit.wf
  simp [e1, e2]
  omega
def pairV (a b : Int) : Value := .agg #[.int .i64 a, .int .i64 b]
def quadV (x : S104) : Value := .agg #[.int .i64 x.f0.f0, .int .i64 x.f0.f1, .int .i64 x.f1, .int .i64 x.f2]
theorem pipe_cells : Tryz.prog.cellsOf 74 = 2 := by kernel_rfl
theorem int_cells : Tryz.prog.cellsOf 3 = 1 := by kernel_rfl
theorem types_succ : ∃ m, Tryz.prog.types.size = m + 1 := ⟨Tryz.prog.types.size - 1, by have : 0 < Tryz.prog.types.size := of_decide_eq_true (by kernel_rfl); omega⟩
theorem keyLits_int (m : Nat) (v : Value) : Tryz.prog.keyLits (m + 1) 3 [v] = (match v with | .int q' n => if q' = .i64 ∧ (Lit.int .i64 n).wf = true then some [.int .i64 n] else none | _ => none) := by
  simp only [Program.keyLits, Tryz.underlying3]
  cases v <;> rfl
def pipeL (a b : Int) : Lit := .string (keyBytes [.int .i64 a, .int .i64 b])
theorem keyOf_pipe {a b : Int} (ha : wf64 a) (hb : wf64 b) : keyOf Tryz.prog 74 (pairV a b) = some (pipeL a b) := by
  obtain ⟨m, hm⟩ := types_succ
  have kt : Tryz.prog.keyType 74 = true := by kernel_rfl
  unfold wf64 at ha hb
  have fm : (pairV a b).formed Tryz.prog 74 = true := by simp [pairV, Value.formed, Tryz.underlying74, pipe_cells]
  have hl : Tryz.prog.keyLits (m + 1 + 1) 74 [.int .i64 a, .int .i64 b] = some [.int .i64 a, .int .i64 b] := by
    unfold Program.keyLits
    simp only [Tryz.underlying74]
    simp [pipe_cells, int_cells, keyLits_int, ha, hb]
  rw [← hm] at hl
  unfold keyOf
  simp only [Tryz.underlying74, kt, fm, Bool.and_self, if_true, Option.map_eq_some_iff]
  exact ⟨_, hl, rfl⟩
theorem keyOf_pipe_inv {v : Value} {l : Lit} (h : keyOf Tryz.prog 74 v = some l) : ∃ a b, v = pairV a b ∧ wf64 a ∧ wf64 b := by
  obtain ⟨m, hm⟩ := types_succ
  have kt : Tryz.prog.keyType 74 = true := by kernel_rfl
  unfold keyOf at h
  simp only [Tryz.underlying74, kt, Bool.true_and] at h
  split at h
  case isFalse => cases h
  case isTrue hf =>
    cases v <;> simp [Value.formed, Tryz.underlying74, pipe_cells] at hf
    rename_i cs
    obtain ⟨c0, c1, rfl⟩ : ∃ c0 c1, cs = #[c0, c1] := by
      rcases cs with ⟨_ | ⟨x, _ | ⟨y, _ | ⟨z, t⟩⟩⟩⟩ <;> simp at hf ⊢
    simp only [Option.map_eq_some_iff] at h
    obtain ⟨ls, h, _⟩ := h
    rw [hm] at h
    replace h : Tryz.prog.keyLits (m + 1 + 1) 74 [c0, c1] = some ls := h
    unfold Program.keyLits at h
    simp only [Tryz.underlying74] at h
    simp [pipe_cells, int_cells, keyLits_int] at h
    cases c0 <;> simp at h
    rename_i k0 n0
    by_cases e0 : k0 = .i64 ∧ (Lit.int .i64 n0).wf = true
    · obtain ⟨rfl, e0⟩ := e0
      cases c1 <;> simp [e0] at h
      rename_i k1 n1
      by_cases e1 : k1 = .i64 ∧ (Lit.int .i64 n1).wf = true
      · obtain ⟨rfl, e1⟩ := e1
        exact ⟨_, _, rfl, e0, e1⟩
      · simp [e1] at h
    · simp [e0] at h
instance pipeDec : DecidableEq S74 := fun a b => decidable_of_iff (a.f0 = b.f0 ∧ a.f1 = b.f1) ⟨fun h => by obtain ⟨x, y⟩ := a; obtain ⟨z, u⟩ := b; simp only at h; obtain ⟨rfl, rfl⟩ := h; rfl, fun h => by rw [h]; exact ⟨rfl, rfl⟩⟩
abbrev pipeR (v : Value) : Option (DataW Unit × List MemPlace) :=
  match v with
  | .agg ⟨[.int .i64 a, .int .i64 b, .int .i64 c, .int .i64 d]⟩ => some (.agg [.lit (.int .i64 a), .lit (.int .i64 b), .lit (.int .i64 c), .lit (.int .i64 d)], [])
  | _ => none
def quadD (x : S104) : DataW Unit := .agg [.lit (.int .i64 x.f0.f0), .lit (.int .i64 x.f0.f1), .lit (.int .i64 x.f1), .lit (.int .i64 x.f2)]
theorem pipeR_mk (x : S104) : pipeR (quadV x) = some (quadD x, []) := rfl
theorem pipeR_inv {v : Value} {y : DataW Unit × List MemPlace} (h : pipeR v = some y) : ∃ x : S104, v = quadV x ∧ y = (quadD x, []) := by
  unfold pipeR at h
  split at h
  · exact ⟨⟨⟨_, _⟩, _, _⟩, rfl, (Option.some.inj h).symm⟩
  · cases h
theorem quadD_inj {x y : S104} (h : quadD x = quadD y) : x = y := by
  obtain ⟨⟨a, b⟩, c, d⟩ := x
  obtain ⟨⟨a', b'⟩, c', d'⟩ := y
  simp [quadD] at h
  obtain ⟨rfl, rfl, rfl, rfl⟩ := h
  rfl
structure MapIs (D : DataW Unit) (m : S74 → Option S104) : Prop where
  isMap : Maps.IsMap D
  at_ : ∀ p : S74, wf64 p.f0 → wf64 p.f1 → ∀ z, D.atKey (pipeL p.f0 p.f1) z = ((m p).map quadD).getD z
theorem mapIs_empty : MapIs (.map []) (fun _ => none) := ⟨Maps.isMap_empty, fun _ _ _ _ => rfl⟩
theorem pipeL_inj {a b a' b' : Int} (ha : wf64 a) (hb : wf64 b) (ha' : wf64 a') (hb' : wf64 b') (h : pipeL a b = pipeL a' b') : a = a' ∧ b = b' := by
  have h1 := keyOf_pipe ha hb
  have h2 := keyOf_pipe ha' hb'
  rw [← h] at h2
  have e := pipeKeyed.inj h1 h2
  simp [pairV] at e
  exact e
theorem MapIs.put {D : DataW Unit} {m : S74 → Option S104} (h : MapIs D m) (p : S74) (ha : wf64 p.f0) (hb : wf64 p.f1) (x : S104) :
    MapIs (D.put (pipeL p.f0 p.f1) (quadD x)) (fun q => if q = p then some x else m q) := by
  refine ⟨h.isMap.put _ _, fun q hq0 hq1 z => ?_⟩
  by_cases e : q = p
  · subst e
    rw [Maps.atKey_put_same h.isMap (pipeKeyed.key (keyOf_pipe ha hb))]
    simp
  · have hne : pipeL q.f0 q.f1 ≠ pipeL p.f0 p.f1 := fun hh => e (by
      have := pipeL_inj hq0 hq1 ha hb hh
      obtain ⟨a, b⟩ := q
      obtain ⟨c, d⟩ := p
      simp only at this
      obtain ⟨rfl, rfl⟩ := this
      rfl)
    rw [Maps.atKey_put_other hne, h.at_ q hq0 hq1]
    simp [e]
def lastMap (l : List S104) (p : S74) : Option S104 := l.foldl (fun o x => if p = x.f0 then some x else o) none
theorem lastMap_snoc (l : List S104) (x : S104) : lastMap (l ++ [x]) = fun q => if q = x.f0 then some x else lastMap l q := by
  funext q
  simp [lastMap]
abbrev pipeMap (w : World) (b n : Nat) (l : List S104) : Prop := ∃ D, w.ownsMap Tryz.prog 74 pipeR b n D ∧ MapIs D (lastMap l)
set_option maxHeartbeats 4000000 in
set_option maxRecDepth 100000 in
theorem impl_lastOf.calls (A0 : Option Addr) (c0 : Nat) (l0 : List S104) (w : World) (hr0 : Kd.C k104 w A0 l0.length l0) (hc0 : l0.length ≤ c0) (hl : l0.length ≤ 1000) (hw : ∀ x ∈ l0, wf64 x.f0.f0 ∧ wf64 x.f0.f1) :
    Calls Tryz.prog 92 #[.slice A0 l0.length c0] w fun e w' => ∃ b : Nat, e = .returned (.map (some b)) ∧ w.heap.size ≤ b ∧ pipeMap w' b l0.length l0 ∧ Below w.heap.size w w' := by
  have HR0 := Aside0.mk hr0
  have HW := Aside0.mk hw
  have HB := Aside0.mk (Below.refl w.heap.size w)
  clear hr0 hw
  have hown0 := World.ownsMap_made w Tryz.prog 74 pipeR
  have HO := Aside0.mk hown0
  clear hown0
  have hmm := @run_makeMap Tryz.prog
  go_enter Tryz.func92, Tryz.ntmps92
  go_wp2
  go_loopg [9] (l0.length + 1) (fun kq v9 w' => ∃ (i : Nat), v9 = .int .i64 (i : Int) ∧ Aside0 (i + kq = l0.length + 1) ∧ Aside0 (i ≤ l0.length) ∧ Aside0 (pipeMap w' w.heap.size i (l0.take i)) ∧ Aside0 (Below w.heap.size w w'))
  case atStart =>
    exact ⟨0, rfl, ⟨by omega⟩, ⟨by omega⟩, ⟨⟨_, HO.out, mapIs_empty⟩⟩, ⟨below_alloc HB.out _⟩⟩
  case round =>
    clear HB HO
    obtain ⟨i, rfl, HI1, HI2, HM, HB⟩ := hrel
    by_cases hlt : i < l0.length
    · have hb3 : decide ((i : Int) < (l0.length : Int)) = true := decide_eq_true (by omega)
      have hb4 : decide (i < l0.length) = true := decide_eq_true (by omega)
      obtain ⟨ad, e, hx0, hx1, hx2, hx3⟩ := at_T104 HR0.out (i : Int) (by omega) (by omega)
      cases e
      replace hx0 := (HB.out.cell (World.block_lt_of_cell? w _ hx0)).trans hx0
      replace hx1 := (HB.out.cell (World.block_lt_of_cell? w _ hx1)).trans hx1
      replace hx2 := (HB.out.cell (World.block_lt_of_cell? w _ hx2)).trans hx2
      replace hx3 := (HB.out.cell (World.block_lt_of_cell? w _ hx3)).trans hx3
      obtain ⟨x, hx⟩ : ∃ x, rd_T104 l0 (i : Int) = x := ⟨_, rfl⟩
      rw [hx] at hx0 hx1 hx2 hx3
      simp only [Int.toNat_natCast] at hx0 hx1 hx2 hx3
      have e0 : l0[i] = x := by rw [← hx]; simp [rd_T104, List.getD_eq_getElem?_getD, hlt]
      obtain ⟨q1, q2⟩ := HW.out x (by rw [← e0]; exact List.getElem_mem hlt)
      have HT : Aside0 (l0.take (i + 1) = l0.take i ++ [x]) := ⟨by rw [List.take_succ_eq_append_getElem hlt, e0]⟩
      have HQ := Aside0.mk q1
      have HQ2 := Aside0.mk q2
      obtain ⟨D, hD, hD2⟩ := HM.out
      have HD := Aside0.mk hD
      have HD2 := Aside0.mk hD2
      have HLT := Aside0.mk hlt
      clear hx e0 q1 q2 HM hD hD2
      go_wp2_with (first | (at_mapUpdate; refine wpList_mapUpdate_own _ rfl _ _ _ 114 rfl 74 104 pipeKeyed Tryz.underlying114 pipeR w.heap.size i D rfl (HD.out.alloc _) (show i < maxLen from Nat.lt_of_le_of_lt (show i ≤ 1000 by omega) (by decide)) (pairV x.f0.f0 x.f0.f1) (quadV x) _ rfl rfl (keyOf_pipe HQ.out HQ2.out) (quadD x) [] (pipeR_mk x) ?_; intro w2 h2 hg2; have H2 := Aside0.mk h2; have HG2 := Aside0.mk hg2; clear h2 hg2))
      go_roundg (l0.length - i)
      case measure => have := HI1.out; omega
      case rel =>
        refine ⟨i + 1, by go_num, ⟨by omega⟩, ⟨by omega⟩, ⟨⟨_, H2.out, ?_⟩⟩, ⟨?_⟩⟩
        · rw [HT.out, lastMap_snoc]
          exact MapIs.put HD2.out x.f0 HQ.out HQ2.out x
        · exact (below_alloc HB.out _).grown HG2.out (below_alloc HB.out _).size (fun k hk => by cases hk; exact Nat.le_refl _)
    · have hb3 : decide ((i : Int) < (l0.length : Int)) = false := decide_eq_false (by omega)
      have hb4 : decide (i < l0.length) = false := decide_eq_false (by omega)
      obtain rfl : i = l0.length := by have := HI2.out; omega
      go_wp2
      go_ret
      exact ⟨w.heap.size, rfl, Nat.le_refl _, by simpa using HM.out, HB.out⟩
def faultOf (l : List S104) (p : S74) : Int := ((lastMap l p).getD z104).f1
instance (a : Int) : Decidable (wf64 a) := by unfold wf64; infer_instance
theorem zero_entry (w : World) : (zeroValue 104).run Tryz.prog w = .ok (quadV z104) w := by kernel_rfl
theorem field_fault (a b c d : Int) (w : World) : (Instr.field 104 (.agg #[.int .i64 a, .int .i64 b, .int .i64 c, .int .i64 d]) 1).run Tryz.prog w = .ok (.int .i64 c) w := by kernel_rfl
theorem lookup_pipe {w : World} {b n : Nat} {D : DataW Unit} {m : S74 → Option S104} (h : w.ownsMap Tryz.prog 74 pipeR b n D) (hD : MapIs D m) (p : S74) (h0 : wf64 p.f0) (h1 : wf64 p.f1) :
    ∃ x : S104, (Instr.lookup 114 (.map (some b)) (.agg #[.int .i64 p.f0, .int .i64 p.f1]) false).run Tryz.prog w = .ok (.agg #[.int .i64 x.f0.f0, .int .i64 x.f0.f1, .int .i64 x.f1, .int .i64 x.f2]) w ∧ x = (m p).getD z104 := by
  obtain ⟨v, ps, hrun, hv⟩ := h.lookup pipeKeyed Tryz.underlying114 (zero_entry w) (pipeR_mk _) (keyOf_pipe h0 h1)
  obtain ⟨x, rfl, e⟩ := pipeR_inv hv
  refine ⟨x, hrun, ?_⟩
  rw [hD.at_ p h0 h1] at e
  simp only [Prod.mk.injEq] at e
  cases hm : m p with
  | none => rw [hm] at e; exact (quadD_inj e.1).symm
  | some y => rw [hm] at e; exact (quadD_inj e.1).symm
end Go.Proofs.YtanhnhkcpbdfmaaGreat.P
namespace Go.Proofs.YtanhnhkcpbdfmaaGreat.V
open Go.RowKit Go.Proofs.YtanhnhkcpbdfmaaGreatW.PrintWords
class From (w0 W : World) : Prop where out : Below w0.heap.size w0 W
class Bel (w : outParam World) (W : World) : Prop where out : Below w.heap.size w W
class Born (w : outParam World) (g : Nat) : Prop where out : g = w.heap.size
class Blk (W : World) (g : Nat) (cs : outParam (Array Value)) (t : outParam TypeId) : Prop where out : W.heap[g]? = some (.cells cs t (0, 0))
class Sz (w0 W : World) : Prop where out : w0.heap.size ≤ W.heap.size
class Nw (w0 : World) (g : Nat) : Prop where out : w0.heap.size ≤ g
class NeB (g g' : Nat) : Prop where out : g ≠ g'
class LeI (n c : Nat) : Prop where out : n ≤ c
class RdE {α : Type} (d : Kd α) (w0 : outParam World) (A : Option Addr) (xs : outParam (List α)) : Prop where out : d.C w0 A xs.length xs
class Rd {α : Type} (d : Kd α) (W : World) (A : Option Addr) (xs : List α) : Prop where out : d.C W A xs.length xs
class RowE {α : Type} (d : Kd α) (e : outParam Nat) (w1 w2 : outParam World) (A : Option Addr) (c : outParam Nat) (xs : outParam (List α)) : Prop where out : d.R e w2 w1.heap.size (fun _ => True) (.slice A xs.length c) xs
class Keep (w1 w2 W : World) : Prop where out : ∀ k, w1.heap.size ≤ k → k < w2.heap.size → W.heap[k]? = w2.heap[k]?
class Off (w1 w2 : World) (g : Nat) : Prop where out : g < w1.heap.size ∨ w2.heap.size ≤ g
section
variable {w0 w1 w2 w W W' : World} {g g' : Nat} {cs cs' : Array Value} {t t' : TypeId} {o : Obj} {n i : Nat} {v : Value}
instance : From w w := ⟨Below.refl _ _⟩
instance [h : From w0 W] : From w0 (W.alloc o) := ⟨below_alloc h.out _⟩
instance [h : From w0 W] : From w0 W.drew := ⟨below_drew1 h.out⟩
instance [h : From w0 W] : From w0 (W.drewN n) := ⟨pw_below_drewN h.out _⟩
instance [h : From w0 W] [hg : Nw w0 g] : From w0 (W.setCell ⟨g, i, none⟩ v) := ⟨below_set h.out hg.out⟩
instance [h : Bel w W] [k : From w0 w] : From w0 W := ⟨below_step k.out h.out⟩
instance : Sz w w := ⟨Nat.le_refl _⟩
instance [h : Sz w0 W] : Sz w0 (W.alloc o) := ⟨Nat.le_trans h.out (by simp)⟩
instance [h : Sz w0 W] : Sz w0 W.drew := ⟨h.out⟩
instance [h : Sz w0 W] : Sz w0 (W.drewN n) := ⟨h.out⟩
instance {p : Addr} [h : Sz w0 W] : Sz w0 (W.setCell p v) := ⟨by simpa using h.out⟩
instance [h : Bel w W] [k : Sz w0 w] : Sz w0 W := ⟨Nat.le_trans k.out h.out.size⟩
instance [h : Born W g] [k : Sz w0 W] : Nw w0 g := ⟨by rw [h.out]; exact k.out⟩
instance [h : Blk W g cs t] : Blk (W.alloc o) g cs t := ⟨blk_alloc h.out _⟩
instance [h : Blk W g cs t] : Blk W.drew g cs t := ⟨h.out⟩
instance [h : Blk W g cs t] : Blk (W.drewN n) g cs t := ⟨h.out⟩
instance [h : Blk W g cs t] [k : NeB g g'] : Blk (W.setCell ⟨g', i, none⟩ v) g cs t := ⟨blk_far h.out k.out _⟩
instance [h : Blk W g cs t] : Blk (W.setCell ⟨g, i, none⟩ v) g (cs.setIfInBounds i v) t := ⟨blk_set h.out _ _⟩
instance [h : Bel w W] [k : Blk w g cs t] : Blk W g cs t := ⟨blk_below k.out h.out⟩
instance [h : Born W g'] [k : Blk W g cs t] : NeB g g' := ⟨by rw [h.out]; exact Nat.ne_of_lt (blk_lt k.out)⟩
instance [h : Born W g] [k : Blk W g' cs t] : NeB g g' := ⟨by rw [h.out]; exact Nat.ne_of_gt (blk_lt k.out)⟩
theorem cell_b (W : World) (g i : Nat) [h : Blk W g cs t] : W.cell? ⟨g, i, none⟩ = cs[i]? := blk_cell h.out i
theorem frozen_b (W : World) (g i : Nat) [h : Blk W g cs t] : W.frozen? ⟨g, i, none⟩ = false := blk_frozen h.out i
instance : Keep w1 w2 w2 := ⟨fun _ _ _ => rfl⟩
theorem keep_lt (h : Keep w1 w2 W) {k : Nat} (h1 : w1.heap.size ≤ k) (h2 : k < w2.heap.size) : k < W.heap.size := by
  have := h.out k h1 h2
  rw [Array.getElem?_eq_getElem h2] at this
  exact (Array.getElem?_eq_some_iff.1 this).1
instance [h : Keep w1 w2 W] : Keep w1 w2 (W.alloc o) := ⟨fun k h1 h2 => (Below.heap_alloc W o k (keep_lt h h1 h2)).trans (h.out k h1 h2)⟩
instance [h : Keep w1 w2 W] : Keep w1 w2 W.drew := ⟨h.out⟩
instance [h : Keep w1 w2 W] : Keep w1 w2 (W.drewN n) := ⟨h.out⟩
instance [h : Bel w W] [k : Keep w1 w2 w] : Keep w1 w2 W := ⟨fun j h1 h2 => (h.out.block j (keep_lt k h1 h2)).trans (k.out j h1 h2)⟩
instance [h : Keep w1 w2 W] [k : Off w1 w2 g] : Keep w1 w2 (W.setCell ⟨g, i, none⟩ v) := ⟨fun j h1 h2 => (Below.heap_setCell W _ v j (by have := k.out; show j ≠ g; omega)).trans (h.out j h1 h2)⟩
instance [h : Blk w1 g cs t] : Off w1 w2 g := ⟨.inl (blk_lt h.out)⟩
instance [h : Nw w2 g] : Off w1 w2 g := ⟨.inr h.out⟩
section
variable {α : Type} {d : Kd α} {e : Nat} {A : Option Addr} {c : Nat} {xs : List α}
instance [h : RdE d w0 A xs] [k : From w0 W] : Rd d W A xs := ⟨Kd.C_below h.out k.out⟩
theorem row_ [h : RowE d e w1 w2 A c xs] [k : Keep w1 w2 W] : d.R e W w1.heap.size (fun _ => True) (.slice A xs.length c) xs :=
  Kd.R_mono (Kd.R_move (Kd.R_bound h.out) (fun j hj => k.out j hj.2.1 hj.2.2.1)) (fun _ _ => trivial)
theorem rowRd [h : RowE d e w1 w2 A c xs] [k : Keep w1 w2 W] : d.C W A xs.length xs := (Kd.R_reads' (row_ (h := h) (k := k))).2.2
instance [h : RowE d e w1 w2 A c xs] [k : Keep w1 w2 W] : Rd d W A xs := ⟨rowRd (h := h) (k := k)⟩
theorem rowLe (h : RowE d e w1 w2 A c xs) : xs.length ≤ c := (Kd.R_reads' h.out).2.1
theorem rowFin [h : RowE d e w1 w2 A c xs] [k : Keep w1 w2 W] [l : From w w1] : d.R e W w.heap.size (fun _ => True) (.slice A xs.length c) xs := Kd.R_lower (row_ (h := h) (k := k)) l.out.size
theorem rowAny {α : Type} {d : Kd α} {e B : Nat} {w : World} {ok : Nat → Prop} {v : Value} {xs : List α} (h : d.R e w B ok v xs) : d.R e w B (fun _ => True) v xs := Kd.R_mono h (fun _ _ => trivial)
end
class Sin (w0 : outParam World) (W : World) : Prop where out : Below w0.heap.size w0 W
instance {w0 w W : World} [h : Sin w0 W] [k : Sz w w0] : Sz w W := ⟨Nat.le_trans k.out h.out.size⟩
instance {w0 w W : World} [h : Sin w0 W] [k : From w w0] : From w W := ⟨below_step k.out h.out⟩
instance {w0 W : World} {g : Nat} {cs : Array Value} {t : TypeId} [h : Sin w0 W] [k : Blk w0 g cs t] : Blk W g cs t := ⟨blk_below k.out h.out⟩
instance {w0 w1 w2 W : World} [h : Sin w0 W] [k : Keep w1 w2 w0] : Keep w1 w2 W := ⟨fun j h1 h2 => (h.out.block j (keep_lt k h1 h2)).trans (k.out j h1 h2)⟩
class SinB (B : outParam Nat) (w0 : outParam World) (W : World) : Prop where out : B ≤ w0.heap.size ∧ Below B w0 W
class LtB (g B : Nat) : Prop where out : g < B
class FromB (B : Nat) (w0 W : World) : Prop where out : B ≤ w0.heap.size ∧ Below B w0 W
section
variable {w0 w W W1 : World} {g g' B i n : Nat} {cs : Array Value} {t : TypeId} {o : Obj} {v : Value}
instance [h : Born W g'] [k : Blk W g cs t] : LtB g g' := ⟨by rw [h.out]; exact blk_lt k.out⟩
instance [h : SinB B w0 W] [k : Blk w0 g cs t] [l : LtB g B] : Blk W g cs t := ⟨(h.out.2.block g l.out).trans k.out⟩
instance [h : SinB B w0 W] [k : Sz w w0] : Sz w W := ⟨Nat.le_trans k.out h.out.2.size⟩
instance [h : SinB B w0 W] [k : From w w0] [l : Nw w B] : From w W := ⟨below_weaken k.out l.out h.out.2⟩
instance [k : Blk w0 g cs t] : FromB g w0 w0 := ⟨⟨Nat.le_of_lt (blk_lt k.out), Below.refl _ _⟩⟩
instance [h : FromB B w0 W] : FromB B w0 (W.alloc o) := ⟨⟨h.out.1, h.out.2.alloc (Nat.le_trans h.out.1 h.out.2.size) _⟩⟩
instance [h : FromB B w0 W] : FromB B w0 W.drew := ⟨⟨h.out.1, h.out.2.drew⟩⟩
instance [h : FromB B w0 W] : FromB B w0 (W.drewN n) := ⟨⟨h.out.1, pw_below_drewN h.out.2 _⟩⟩
instance [k : Bel w W] [h : FromB B w0 w] : FromB B w0 W := ⟨⟨h.out.1, below_then h.out.2 (Nat.le_trans h.out.1 h.out.2.size) k.out⟩⟩
instance [h : FromB g w0 W] : FromB g w0 (W.setCell ⟨g, i, none⟩ v) := ⟨⟨h.out.1, h.out.2.setCell (Nat.le_refl _) _⟩⟩
instance [h : FromB B w0 W] [l : LtB B g'] : FromB B w0 (W.setCell ⟨g', i, none⟩ v) := ⟨⟨h.out.1, h.out.2.setCell (Nat.le_of_lt l.out) _⟩⟩
instance [k : SinB B w0 W] : FromB B w0 W := ⟨k.out⟩
end
theorem region_st {P : Program} {id : Nat} {ops : Array Oper} {Q : Exit → Act → World → Prop} {a : Act} {W : World} (N : Nat) {g : Nat} (hp : a.tmps.getD N undef = .pointer (some ⟨g, 0, none⟩))
    (h : ∀ g', g' = g → ∀ w3, Bel W w3 → (Code.region id ops true).wp P Q a w3) : (Code.region id ops true).wp P Q a W := h g rfl W ⟨Below.refl _ _⟩
theorem region_at {P : Program} {id : Nat} {ops : Array Oper} {Q : Exit → Act → World → Prop} {a : Act} {W : World} (h : ∀ w3, Bel W w3 → (Code.region id ops true).wp P Q a w3) : (Code.region id ops true).wp P Q a W := h W ⟨Below.refl _ _⟩
class Mk (W : outParam World) (W' : World) (w1 w2 : outParam World) : Prop where out : Kept W W' (fun k => w1.heap.size ≤ k ∧ k < w2.heap.size)
class Dis (a b w1 w2 : World) : Prop where out : b.heap.size ≤ w1.heap.size ∨ w2.heap.size ≤ a.heap.size
section
variable {a b w1 w2 W W' : World} {g : Nat} {cs : Array Value} {t : TypeId}
instance [h : Sz b w1] : Dis a b w1 w2 := ⟨.inl h.out⟩
instance [h : Sz w2 a] : Dis a b w1 w2 := ⟨.inr h.out⟩
instance {w0 : World} [m : Mk W W' a b] [h : Sz w0 W] : Sz w0 W' := ⟨Nat.le_trans h.out m.out.1⟩
instance [m : Mk W W' a b] [h : Keep w1 w2 W] [d : Dis a b w1 w2] : Keep w1 w2 W' :=
  ⟨fun k h1 h2 => (m.out.2 k (keep_lt h h1 h2) (fun hk => by have := d.out; omega)).trans (h.out k h1 h2)⟩
instance [m : Mk W W' a b] [h : Blk W g cs t] [d : Off a b g] : Blk W' g cs t := ⟨(m.out.2 g (blk_lt h.out) (fun hk => by have := d.out; omega)).trans h.out⟩
end
theorem hF_ {b : Bool} (h : ¬ b = true) : b = false := Bool.eq_false_iff.mpr h
theorem hG_ {b : Bool} (h : (!b) = true) : b = false := (Bool.not_eq_true' _).mp h
theorem hH_ {b : Bool} (h : ¬ (!b) = true) : b = true := (Bool.not_eq_false' _).mp (Bool.eq_false_iff.mpr h)
theorem hI_ {α : Type} [BEq α] [LawfulBEq α] {a b : α} (h : a = b) : (a == b) = true := beq_iff_eq.mpr h
theorem hJ_ {α : Type} [BEq α] [LawfulBEq α] {a b : α} (h : a = b) : (a != b) = false := bne_eq_false_iff_eq.mpr h
theorem hK_ {α : Type} [BEq α] [LawfulBEq α] {a b : α} (h : a ≠ b) : (a == b) = false := beq_eq_false_iff_ne.mpr h
theorem hL_ {α : Type} [BEq α] [LawfulBEq α] {a b : α} (h : a ≠ b) : (a != b) = true := bne_iff_ne.mpr h
theorem none_some {α : Type} {r : α} (h : none = some r) : False := by cases h
theorem ite_some {α : Type} {c : Prop} [Decidable c] {x y : Option α} {r : α} (h : (if c then x else y) = some r) : (c ∧ x = some r) ∨ (¬ c ∧ y = some r) := by
  by_cases hc : c
  · exact .inl ⟨hc, by rwa [if_pos hc] at h⟩
  · exact .inr ⟨hc, by rwa [if_neg hc] at h⟩
end
end Go.Proofs.YtanhnhkcpbdfmaaGreat.V
namespace Go.Proofs.YtanhnhkcpbdfmaaGreat.V
open Go.RowKit Go.Proofs.YtanhnhkcpbdfmaaGreatW.PrintWords
theorem bV {P : Program} {ops : Array Oper} {rest : List Oper} {o : Oper} {a : Act} {Q : Exit → Act → World → Prop} {W : World} {N : Tmp} (cs : Array Value) (t : TypeId) (h : ∀ g w1, Born W g → Bel W w1 → Blk w1 g cs t → wpList P ops Q rest (a.put o.dst (.pointer (some ⟨g, 0, none⟩))) w1)
    (hgd : o.guard = none := by rfl) (hd : o.dst = some N := by rfl) (hrun : (execOp a.eval o).run P W = .ok (.value (.pointer (some ⟨W.heap.size, 0, none⟩))) (W.alloc (.cells cs t (0, 0))) := by first | (go_simp; done) | (go_simp; rfl)) : wpList P ops Q (o :: rest) a W :=
  Go.Proofs.YtanhnhkcpbdfmaaGreat.P.bX (N := N) (fun g hg w1 hk hb => h g w1 ⟨hg⟩ ⟨hb⟩ ⟨hk⟩) hgd hd hrun
theorem rowS {α : Type} {d : Kd α} {e : Nat} {w1 w2 : World} {v : Value} {xs : List α} (h : d.R e w2 w1.heap.size (fun _ => True) v xs) : ∃ A c, v = .slice A xs.length c ∧ RowE d e w1 w2 A c xs ∧ LeI xs.length c := by
  obtain ⟨A, c, rfl⟩ := Kd.R_slice h
  exact ⟨A, c, rfl, ⟨h⟩, ⟨(Kd.R_reads' h).2.1⟩⟩
theorem bI {α β : Type} {x : Option α} {f : α → Option β} {b : β} (h : x.bind f = some b) : ∃ a, x = some a ∧ f a = some b := Option.bind_eq_some_iff.mp h
end Go.Proofs.YtanhnhkcpbdfmaaGreat.V
namespace Go.Proofs.YtanhnhkcpbdfmaaGreat.P
set_option maxHeartbeats 8000000
set_option maxRecDepth 100000
set_option synthInstance.maxHeartbeats 400000
set_option synthInstance.maxSize 100000
open Go.RowKit Go.Proofs.YtanhnhkcpbdfmaaGreatW.PrintWords Go.Proofs.YtanhnhkcpbdfmaaGreatW.PrintLast Go.Proofs.YtanhnhkcpbdfmaaGreatW.PrintMore Go.Proofs.YtanhnhkcpbdfmaaGreat.V
attribute [local go_sem] cell_b frozen_b
attribute [local go_sem] max2_int min2_int max_two min_two max_three min_three max_four min_four
def laws_szWork.f (l0_0 : List (S140)) (a0_1 : Int) (l0_2 : List Int) (a1 : Int) : Option (Int) := (laws_szStepS.f l0_0 a1).bind fun t102 => (if t102 < 0 then (some (-1)) else ((laws_szIntS.f l0_2 t102).bind fun t103 => (if t103 < 0 then (some (-1)) else (some t103))))
theorem laws_szWork.calls (A0_0 : Option Addr) (c0_0 : Nat) (l0_0 : List (S140)) (a0_1 : Int) (A0_2 : Option Addr) (c0_2 : Nat) (l0_2 : List Int) (a1 : Int) (r : Int) (w : World) (hr0_0 : Kd.C k140 w A0_0 l0_0.length l0_0) (hc0_0 : l0_0.length ≤ c0_0) (hr0_2 : Kd.C (Kd.int .i64) w A0_2 l0_2.length l0_2) (hc0_2 : l0_2.length ≤ c0_2) (h : laws_szWork.f l0_0 a0_1 l0_2 a1 = some r) :
  Calls Tryz.prog 43 #[.agg #[.slice A0_0 l0_0.length c0_0, .int .i64 a0_1, .slice A0_2 l0_2.length c0_2], .int .i64 a1] w fun e w' => e = .returned (.int .i64 r) ∧ Below w.heap.size w w' := by
 replace hr0_0 := RdE.mk hr0_0
 replace hc0_0 := LeI.mk hc0_0
 replace hr0_2 := RdE.mk hr0_2
 replace hc0_2 := LeI.mk hc0_2
 unfold laws_szWork.f at h
 have hu25 := Tryz.underlying25
 (repeat' first | ((with_reducible replace h := ite_some h); rcases h with ⟨hc, h⟩ | ⟨hc, h⟩ <;> first | exact (none_some h).elim | exact absurd hc (by decide) | subst hc | (replace hc := hF_ hc; subst hc) | (have hd := hI_ hc; have he := hJ_ hc; clear hc) | (have hd := hK_ hc; have he := hL_ hc) | (have hd := decide_eq_false hc) | (have hd := decide_eq_true hc) | skip))
 all_goals go_enter Tryz.func43, Tryz.ntmps43
 all_goals go_wp2_with ((first
  | ((with_reducible refine gate_dst (N := 2) rfl ?_); refine bV #[.slice A0_0 l0_0.length c0_0, .int .i64 a0_1, .slice A0_2 l0_2.length c0_2] 25 fun g w1 j1 j2 j3 => ?_)
  | (go_at_call 93; replace h := bI h; obtain ⟨t, A, h⟩ := h; (try dsimp only at h); refine (laws_szStepS.calls _ _ _ _ _ _ Rd.out LeI.out A).mono ?_; rintro e w2 ⟨rfl, n, rfl⟩; clear A)
  | (go_at_call 94; replace h := bI h; obtain ⟨t, A, h⟩ := h; (try dsimp only at h); refine (laws_szIntS.calls _ _ _ _ _ _ Rd.out LeI.out A).mono ?_; rintro e w2 ⟨rfl, n, rfl⟩; clear A)); (repeat' first | ((with_reducible replace h := ite_some h); rcases h with ⟨hc, h⟩ | ⟨hc, h⟩ <;> first | exact (none_some h).elim | exact absurd hc (by decide) | subst hc | (replace hc := hF_ hc; subst hc) | (have hd := hI_ hc; have he := hJ_ hc; clear hc) | (have hd := hK_ hc; have he := hL_ hc) | (have hd := decide_eq_false hc) | (have hd := decide_eq_true hc) | skip)))
 all_goals obtain rfl := Option.some.inj h
 all_goals go_ret
 all_goals exact ⟨rfl, From.out⟩
def laws_szShop.f (l0_0 : List (S140)) (a0_1 : Int) (l0_2 : List Int) (a0_3 : Int) (a0_4 : Int) (l0_5 : List (S127)) (a1 : Int) : Option (Int) := (laws_szWork.f l0_0 a0_1 l0_2 a1).bind fun t105 => (if t105 < 0 then (some (-1)) else ((laws_szEntryS.f l0_5 t105).bind fun t106 => (if t106 < 0 then (some (-1)) else (some t106))))
theorem laws_szShop.calls (A0_0 : Option Addr) (c0_0 : Nat) (l0_0 : List (S140)) (a0_1 : Int) (A0_2 : Option Addr) (c0_2 : Nat) (l0_2 : List Int) (a0_3 : Int) (a0_4 : Int) (A0_5 : Option Addr) (c0_5 : Nat) (l0_5 : List (S127)) (a1 : Int) (r : Int) (w : World) (hr0_0 : Kd.C k140 w A0_0 l0_0.length l0_0) (hc0_0 : l0_0.length ≤ c0_0) (hr0_2 : Kd.C (Kd.int .i64) w A0_2 l0_2.length l0_2) (hc0_2 : l0_2.length ≤ c0_2) (hr0_5 : Kd.C k127 w A0_5 l0_5.length l0_5) (hc0_5 : l0_5.length ≤ c0_5) (h : laws_szShop.f l0_0 a0_1 l0_2 a0_3 a0_4 l0_5 a1 = some r) :
  Calls Tryz.prog 9 #[.agg #[.slice A0_0 l0_0.length c0_0, .int .i64 a0_1, .slice A0_2 l0_2.length c0_2, .int .i64 a0_3, .int .i64 a0_4, .slice A0_5 l0_5.length c0_5], .int .i64 a1] w fun e w' => e = .returned (.int .i64 r) ∧ Below w.heap.size w w' := by
 replace hr0_0 := RdE.mk hr0_0
 replace hc0_0 := LeI.mk hc0_0
 replace hr0_2 := RdE.mk hr0_2
 replace hc0_2 := LeI.mk hc0_2
 replace hr0_5 := RdE.mk hr0_5
 replace hc0_5 := LeI.mk hc0_5
 unfold laws_szShop.f at h
 have hu28 := Tryz.underlying28
 (repeat' first | ((with_reducible replace h := ite_some h); rcases h with ⟨hc, h⟩ | ⟨hc, h⟩ <;> first | exact (none_some h).elim | exact absurd hc (by decide) | subst hc | (replace hc := hF_ hc; subst hc) | (have hd := hI_ hc; have he := hJ_ hc; clear hc) | (have hd := hK_ hc; have he := hL_ hc) | (have hd := decide_eq_false hc) | (have hd := decide_eq_true hc) | skip))
 all_goals go_enter Tryz.func9, Tryz.ntmps9
 all_goals go_wp2_with ((first
  | ((with_reducible refine gate_dst (N := 2) rfl ?_); refine bV #[.slice A0_0 l0_0.length c0_0, .int .i64 a0_1, .slice A0_2 l0_2.length c0_2, .int .i64 a0_3, .int .i64 a0_4, .slice A0_5 l0_5.length c0_5] 28 fun g w1 j1 j2 j3 => ?_)
  | (go_at_call 43; replace h := bI h; obtain ⟨t, A, h⟩ := h; (try dsimp only at h); refine (laws_szWork.calls _ _ _ _ _ _ _ _ _ _ Rd.out LeI.out Rd.out LeI.out A).mono ?_; rintro e w2 ⟨rfl, hb⟩; have jb := Bel.mk hb; clear A hb)
  | (go_at_call 44; replace h := bI h; obtain ⟨t, A, h⟩ := h; (try dsimp only at h); refine (laws_szEntryS.calls _ _ _ _ _ _ Rd.out LeI.out A).mono ?_; rintro e w2 ⟨rfl, n, rfl⟩; clear A)); (repeat' first | ((with_reducible replace h := ite_some h); rcases h with ⟨hc, h⟩ | ⟨hc, h⟩ <;> first | exact (none_some h).elim | exact absurd hc (by decide) | subst hc | (replace hc := hF_ hc; subst hc) | (have hd := hI_ hc; have he := hJ_ hc; clear hc) | (have hd := hK_ hc; have he := hL_ hc) | (have hd := decide_eq_false hc) | (have hd := decide_eq_true hc) | skip)))
 all_goals obtain rfl := Option.some.inj h
 all_goals go_ret
 all_goals exact ⟨rfl, From.out⟩
def laws_toWork.f (k : Nat) (l0_0 : List (S140)) (a0_1 : Int) (l0_2 : List Int) : Option ((List (S112)) × Int × List Int) := (laws_toStepS.f k l0_0).bind fun t553 => ((laws_toIntS.f k l0_2).bind fun t556 => (some (t553, a0_1, t556)))
theorem laws_toWork.calls (k : Nat) (A0_0 : Option Addr) (c0_0 : Nat) (l0_0 : List (S140)) (a0_1 : Int) (A0_2 : Option Addr) (c0_2 : Nat) (l0_2 : List Int) (r1 : List (S112)) (r2 : Int) (r3 : List Int) (w : World) (hr0_0 : Kd.C k140 w A0_0 l0_0.length l0_0) (hc0_0 : l0_0.length ≤ c0_0) (hr0_2 : Kd.C (Kd.int .i64) w A0_2 l0_2.length l0_2) (hc0_2 : l0_2.length ≤ c0_2) (h : laws_toWork.f k l0_0 a0_1 l0_2 = some (r1, r2, r3)) :
  Calls Tryz.prog 54 #[.agg #[.slice A0_0 l0_0.length c0_0, .int .i64 a0_1, .slice A0_2 l0_2.length c0_2]] w fun e w' => ∃ v0_ v2_ : Value, e = .returned (.agg #[v0_, .int .i64 r2, v2_]) ∧ Kd.R k112 112 w' w.heap.size (fun _ => True) v0_ r1 ∧ Kd.R (Kd.int .i64) 3 w' w.heap.size (fun _ => True) v2_ r3 ∧ Below w.heap.size w w' := by
 replace hr0_0 := RdE.mk hr0_0
 replace hc0_0 := LeI.mk hc0_0
 replace hr0_2 := RdE.mk hr0_2
 replace hc0_2 := LeI.mk hc0_2
 unfold laws_toWork.f at h
 have hu25 := Tryz.underlying25
 have hu34 := Tryz.underlying34
 (repeat' first | ((with_reducible replace h := ite_some h); rcases h with ⟨hc, h⟩ | ⟨hc, h⟩ <;> first | exact (none_some h).elim | exact absurd hc (by decide) | subst hc | (replace hc := hF_ hc; subst hc) | (have hd := hI_ hc; have he := hJ_ hc; clear hc) | (have hd := hK_ hc; have he := hL_ hc) | (have hd := decide_eq_false hc) | (have hd := decide_eq_true hc) | skip))
 all_goals go_enter Tryz.func54, Tryz.ntmps54
 all_goals go_wp2_with ((first
  | ((with_reducible refine gate_dst (N := 1) rfl ?_); refine bV #[.slice A0_0 l0_0.length c0_0, .int .i64 a0_1, .slice A0_2 l0_2.length c0_2] 25 fun g w1 j1 j2 j3 => ?_)
  | ((with_reducible refine gate_dst (N := 2) rfl ?_); refine bV #[.slice none 0 0, .int .i64 0, .slice none 0 0] 34 fun g w1 j1 j2 j3 => ?_)
  | ((with_reducible refine gate_dst (N := 3) rfl ?_); refine bV #[.slice none 0 0, .int .i64 0, .slice none 0 0] 34 fun g w1 j1 j2 j3 => ?_)
  | (go_at_call 104; replace h := bI h; obtain ⟨t, A, h⟩ := h; (try dsimp only at h); refine (laws_toStepS.calls _ _ _ _ _ _ Rd.out LeI.out A).mono ?_; rintro e w2 ⟨v0, rfl, ho0, hb⟩; obtain ⟨B0, b0, rfl, j0, q0⟩ := rowS ho0; have jb := Bel.mk hb; clear A ho0 hb)
  | (go_at_call 27; replace h := bI h; obtain ⟨t, A, h⟩ := h; (try dsimp only at h); refine (laws_toIntS.calls _ _ _ _ _ _ Rd.out LeI.out A).mono ?_; rintro e w2 ⟨v0, rfl, ho0, hb⟩; obtain ⟨B0, b0, rfl, j0, q0⟩ := rowS ho0; have jb := Bel.mk hb; clear A ho0 hb)); (repeat' first | ((with_reducible replace h := ite_some h); rcases h with ⟨hc, h⟩ | ⟨hc, h⟩ <;> first | exact (none_some h).elim | exact absurd hc (by decide) | subst hc | (replace hc := hF_ hc; subst hc) | (have hd := hI_ hc; have he := hJ_ hc; clear hc) | (have hd := hK_ hc; have he := hL_ hc) | (have hd := decide_eq_false hc) | (have hd := decide_eq_true hc) | skip)); all_goals (try have hn : decide (0 < t.length) = true := decide_eq_true (by omega)); all_goals (try have hn : decide (0 < t.length) = false := decide_eq_false (by omega)))
 all_goals simp only [Option.some.injEq, Prod.mk.injEq] at h
 all_goals obtain ⟨rfl, rfl, rfl⟩ := h
 all_goals refine bodyPost_ret (results_cell_row rfl _ _ _ _ _ (0, 0) _ rfl Blk.out Tryz.underlying34 rfl (by kernel_rfl)) rfl ?_
 all_goals exact ⟨_, _, rfl, (by first | exact rowFin | exact Kd.R_nil _ _ _ _ _), (by first | exact rowFin | exact Kd.R_nil _ _ _ _ _), From.out⟩
def laws_toEntry.f (a0_0 : Int) (a0_1 : Int) (a0_2 : Int) (a0_3 : Int) : Option (Int × Int × Int × Int) := (laws_toPipe.f a0_0 a0_1).bind fun bt565 => (some (bt565.1, bt565.2, a0_2, a0_3))
theorem laws_toEntry.calls (a0_0 : Int) (a0_1 : Int) (a0_2 : Int) (a0_3 : Int) (r1 : Int) (r2 : Int) (r3 : Int) (r4 : Int) (w : World) (h : laws_toEntry.f a0_0 a0_1 a0_2 a0_3 = some (r1, r2, r3, r4)) :
  Calls Tryz.prog 105 #[.agg #[.int .i64 a0_0, .int .i64 a0_1, .int .i64 a0_2, .int .i64 a0_3]] w fun e w' => e = .returned (.agg #[.int .i64 r1, .int .i64 r2, .int .i64 r3, .int .i64 r4]) ∧ Below w.heap.size w w' := by
 unfold laws_toEntry.f at h
 have hu104 := Tryz.underlying104
 have hu127 := Tryz.underlying127
 (repeat' first | ((with_reducible replace h := ite_some h); rcases h with ⟨hc, h⟩ | ⟨hc, h⟩ <;> first | exact (none_some h).elim | exact absurd hc (by decide) | subst hc | (replace hc := hF_ hc; subst hc) | (have hd := hI_ hc; have he := hJ_ hc; clear hc) | (have hd := hK_ hc; have he := hL_ hc) | (have hd := decide_eq_false hc) | (have hd := decide_eq_true hc) | skip))
 all_goals go_enter Tryz.func105, Tryz.ntmps105
 all_goals go_wp2_with ((first
  | ((with_reducible refine gate_dst (N := 1) rfl ?_); refine bV #[.int .i64 a0_0, .int .i64 a0_1, .int .i64 a0_2, .int .i64 a0_3] 127 fun g w1 j1 j2 j3 => ?_)
  | ((with_reducible refine gate_dst (N := 2) rfl ?_); refine bV #[.int .i64 0, .int .i64 0, .int .i64 0, .int .i64 0] 104 fun g w1 j1 j2 j3 => ?_)
  | ((with_reducible refine gate_dst (N := 3) rfl ?_); refine bV #[.int .i64 0, .int .i64 0, .int .i64 0, .int .i64 0] 104 fun g w1 j1 j2 j3 => ?_)
  | (go_at_call 130; replace h := bI h; obtain ⟨⟨t1, t2⟩, A, h⟩ := h; (try dsimp only at h); refine (laws_toPipe.calls _ _ _ _ _ A).mono ?_; rintro e w2 ⟨rfl, hb⟩; have jb := Bel.mk hb; clear A hb)); (repeat' first | ((with_reducible replace h := ite_some h); rcases h with ⟨hc, h⟩ | ⟨hc, h⟩ <;> first | exact (none_some h).elim | exact absurd hc (by decide) | subst hc | (replace hc := hF_ hc; subst hc) | (have hd := hI_ hc; have he := hJ_ hc; clear hc) | (have hd := hK_ hc; have he := hL_ hc) | (have hd := decide_eq_false hc) | (have hd := decide_eq_true hc) | skip)))
 all_goals simp only [Option.some.injEq, Prod.mk.injEq] at h
 all_goals obtain ⟨rfl, rfl, rfl, rfl⟩ := h
 all_goals refine bodyPost_ret (results_cell_row rfl _ _ _ _ _ (0, 0) _ rfl Blk.out Tryz.underlying104 rfl (by kernel_rfl)) rfl ?_
 all_goals exact ⟨rfl, From.out⟩
def laws_eqStep.f (a0_0 : Int) (a0_1 : Int) (a0_2 : Int) (a0_3 : Int) (a1_0 : Int) (a1_1 : Int) (a1_2 : Int) (a1_3 : Int) : Option (Bool) := if a0_0 = a1_0 then (if a0_1 = a1_1 then (if a0_2 = a1_2 then (if a0_3 = a1_3 then (some true) else (some false)) else (some false)) else (some false)) else (some false)
theorem laws_eqStep.calls (a0_0 : Int) (a0_1 : Int) (a0_2 : Int) (a0_3 : Int) (a1_0 : Int) (a1_1 : Int) (a1_2 : Int) (a1_3 : Int) (r : Bool) (w : World) (h : laws_eqStep.f a0_0 a0_1 a0_2 a0_3 a1_0 a1_1 a1_2 a1_3 = some r) :
  Calls Tryz.prog 133 #[.agg #[.int .i64 a0_0, .int .i64 a0_1, .int .i64 a0_2, .int .i64 a0_3], .agg #[.int .i64 a1_0, .int .i64 a1_1, .int .i64 a1_2, .int .i64 a1_3]] w fun e w' => e = .returned (.bool r) ∧ Below w.heap.size w w' := by
 unfold laws_eqStep.f at h
 have hu112 := Tryz.underlying112
 (repeat' first | ((with_reducible replace h := ite_some h); rcases h with ⟨hc, h⟩ | ⟨hc, h⟩ <;> first | exact (none_some h).elim | exact absurd hc (by decide) | subst hc | (replace hc := hF_ hc; subst hc) | (have hd := hI_ hc; have he := hJ_ hc; clear hc) | (have hd := hK_ hc; have he := hL_ hc) | (have hd := decide_eq_false hc) | (have hd := decide_eq_true hc) | skip))
 all_goals go_enter Tryz.func133, Tryz.ntmps133
 all_goals go_wp2_with ((first
  | ((with_reducible refine gate_dst (N := 2) rfl ?_); refine bV #[.int .i64 a0_0, .int .i64 a0_1, .int .i64 a0_2, .int .i64 a0_3] 112 fun g w1 j1 j2 j3 => ?_)
  | ((with_reducible refine gate_dst (N := 3) rfl ?_); refine bV #[.int .i64 a1_0, .int .i64 a1_1, .int .i64 a1_2, .int .i64 a1_3] 112 fun g w1 j1 j2 j3 => ?_)); (repeat' first | ((with_reducible replace h := ite_some h); rcases h with ⟨hc, h⟩ | ⟨hc, h⟩ <;> first | exact (none_some h).elim | exact absurd hc (by decide) | subst hc | (replace hc := hF_ hc; subst hc) | (have hd := hI_ hc; have he := hJ_ hc; clear hc) | (have hd := hK_ hc; have he := hL_ hc) | (have hd := decide_eq_false hc) | (have hd := decide_eq_true hc) | skip)))
 all_goals obtain rfl := Option.some.inj h
 all_goals go_ret
 all_goals exact ⟨rfl, From.out⟩
def laws_eqPipe.f (a0_0 : Int) (a0_1 : Int) (a1_0 : Int) (a1_1 : Int) : Option (Bool) := if a0_0 = a1_0 then (if a0_1 = a1_1 then (some true) else (some false)) else (some false)
theorem laws_eqPipe.calls (a0_0 : Int) (a0_1 : Int) (a1_0 : Int) (a1_1 : Int) (r : Bool) (w : World) (h : laws_eqPipe.f a0_0 a0_1 a1_0 a1_1 = some r) :
  Calls Tryz.prog 134 #[.agg #[.int .i64 a0_0, .int .i64 a0_1], .agg #[.int .i64 a1_0, .int .i64 a1_1]] w fun e w' => e = .returned (.bool r) ∧ Below w.heap.size w w' := by
 unfold laws_eqPipe.f at h
 have hu74 := Tryz.underlying74
 (repeat' first | ((with_reducible replace h := ite_some h); rcases h with ⟨hc, h⟩ | ⟨hc, h⟩ <;> first | exact (none_some h).elim | exact absurd hc (by decide) | subst hc | (replace hc := hF_ hc; subst hc) | (have hd := hI_ hc; have he := hJ_ hc; clear hc) | (have hd := hK_ hc; have he := hL_ hc) | (have hd := decide_eq_false hc) | (have hd := decide_eq_true hc) | skip))
 all_goals go_enter Tryz.func134, Tryz.ntmps134
 all_goals go_wp2_with ((first
  | ((with_reducible refine gate_dst (N := 2) rfl ?_); refine bV #[.int .i64 a0_0, .int .i64 a0_1] 74 fun g w1 j1 j2 j3 => ?_)
  | ((with_reducible refine gate_dst (N := 3) rfl ?_); refine bV #[.int .i64 a1_0, .int .i64 a1_1] 74 fun g w1 j1 j2 j3 => ?_)); (repeat' first | ((with_reducible replace h := ite_some h); rcases h with ⟨hc, h⟩ | ⟨hc, h⟩ <;> first | exact (none_some h).elim | exact absurd hc (by decide) | subst hc | (replace hc := hF_ hc; subst hc) | (have hd := hI_ hc; have he := hJ_ hc; clear hc) | (have hd := hK_ hc; have he := hL_ hc) | (have hd := decide_eq_false hc) | (have hd := decide_eq_true hc) | skip)))
 all_goals obtain rfl := Option.some.inj h
 all_goals go_ret
 all_goals exact ⟨rfl, From.out⟩
def laws_eqEntry.f (a0_0 : Int) (a0_1 : Int) (a0_2 : Int) (a0_3 : Int) (a1_0 : Int) (a1_1 : Int) (a1_2 : Int) (a1_3 : Int) : Option (Bool) := (laws_eqPipe.f a0_0 a0_1 a1_0 a1_1).bind fun t1030 => (if t1030 = true then (if a0_2 = a1_2 then (if a0_3 = a1_3 then (some true) else (some false)) else (some false)) else (some false))
theorem laws_eqEntry.calls (a0_0 : Int) (a0_1 : Int) (a0_2 : Int) (a0_3 : Int) (a1_0 : Int) (a1_1 : Int) (a1_2 : Int) (a1_3 : Int) (r : Bool) (w : World) (h : laws_eqEntry.f a0_0 a0_1 a0_2 a0_3 a1_0 a1_1 a1_2 a1_3 = some r) :
  Calls Tryz.prog 112 #[.agg #[.int .i64 a0_0, .int .i64 a0_1, .int .i64 a0_2, .int .i64 a0_3], .agg #[.int .i64 a1_0, .int .i64 a1_1, .int .i64 a1_2, .int .i64 a1_3]] w fun e w' => e = .returned (.bool r) ∧ Below w.heap.size w w' := by
 unfold laws_eqEntry.f at h
 have hu104 := Tryz.underlying104
 (repeat' first | ((with_reducible replace h := ite_some h); rcases h with ⟨hc, h⟩ | ⟨hc, h⟩ <;> first | exact (none_some h).elim | exact absurd hc (by decide) | subst hc | (replace hc := hF_ hc; subst hc) | (have hd := hI_ hc; have he := hJ_ hc; clear hc) | (have hd := hK_ hc; have he := hL_ hc) | (have hd := decide_eq_false hc) | (have hd := decide_eq_true hc) | skip))
 all_goals go_enter Tryz.func112, Tryz.ntmps112
 all_goals go_wp2_with ((first
  | ((with_reducible refine gate_dst (N := 2) rfl ?_); refine bV #[.int .i64 a0_0, .int .i64 a0_1, .int .i64 a0_2, .int .i64 a0_3] 104 fun g w1 j1 j2 j3 => ?_)
  | ((with_reducible refine gate_dst (N := 3) rfl ?_); refine bV #[.int .i64 a1_0, .int .i64 a1_1, .int .i64 a1_2, .int .i64 a1_3] 104 fun g w1 j1 j2 j3 => ?_)
  | (go_at_call 134; replace h := bI h; obtain ⟨t, A, h⟩ := h; (try dsimp only at h); refine (laws_eqPipe.calls _ _ _ _ _ _ A).mono ?_; rintro e w2 ⟨rfl, hb⟩; have jb := Bel.mk hb; clear A hb)); (repeat' first | ((with_reducible replace h := ite_some h); rcases h with ⟨hc, h⟩ | ⟨hc, h⟩ <;> first | exact (none_some h).elim | exact absurd hc (by decide) | subst hc | (replace hc := hF_ hc; subst hc) | (have hd := hI_ hc; have he := hJ_ hc; clear hc) | (have hd := hK_ hc; have he := hL_ hc) | (have hd := decide_eq_false hc) | (have hd := decide_eq_true hc) | skip)))
 all_goals obtain rfl := Option.some.inj h
 all_goals go_ret
 all_goals exact ⟨rfl, From.out⟩
def laws_heldWork.f (k : Nat) (l0_0 : List (S112)) (a0_1 : Int) (l0_2 : List Int) (a1 : Int) : Option (Int) := (laws_heldStepS.f k l0_0 a1).bind fun t1064 => (if t1064 < 0 then (some (-1)) else ((laws_heldIntS.f k l0_2 t1064).bind fun t1065 => (if t1065 < 0 then (some (-1)) else (some t1065))))
theorem laws_heldWork.calls (k : Nat) (A0_0 : Option Addr) (c0_0 : Nat) (l0_0 : List (S112)) (a0_1 : Int) (A0_2 : Option Addr) (c0_2 : Nat) (l0_2 : List Int) (a1 : Int) (r : Int) (w : World) (hr0_0 : Kd.C k112 w A0_0 l0_0.length l0_0) (hc0_0 : l0_0.length ≤ c0_0) (hr0_2 : Kd.C (Kd.int .i64) w A0_2 l0_2.length l0_2) (hc0_2 : l0_2.length ≤ c0_2) (h : laws_heldWork.f k l0_0 a0_1 l0_2 a1 = some r) :
  Calls Tryz.prog 67 #[.agg #[.slice A0_0 l0_0.length c0_0, .int .i64 a0_1, .slice A0_2 l0_2.length c0_2], .int .i64 a1] w fun e w' => e = .returned (.int .i64 r) ∧ Below w.heap.size w w' := by
 replace hr0_0 := RdE.mk hr0_0
 replace hc0_0 := LeI.mk hc0_0
 replace hr0_2 := RdE.mk hr0_2
 replace hc0_2 := LeI.mk hc0_2
 unfold laws_heldWork.f at h
 have hu34 := Tryz.underlying34
 (repeat' first | ((with_reducible replace h := ite_some h); rcases h with ⟨hc, h⟩ | ⟨hc, h⟩ <;> first | exact (none_some h).elim | exact absurd hc (by decide) | subst hc | (replace hc := hF_ hc; subst hc) | (have hd := hI_ hc; have he := hJ_ hc; clear hc) | (have hd := hK_ hc; have he := hL_ hc) | (have hd := decide_eq_false hc) | (have hd := decide_eq_true hc) | skip))
 all_goals go_enter Tryz.func67, Tryz.ntmps67
 all_goals go_wp2_with ((first
  | ((with_reducible refine gate_dst (N := 2) rfl ?_); refine bV #[.slice A0_0 l0_0.length c0_0, .int .i64 a0_1, .slice A0_2 l0_2.length c0_2] 34 fun g w1 j1 j2 j3 => ?_)
  | (go_at_call 114; replace h := bI h; obtain ⟨t, A, h⟩ := h; (try dsimp only at h); refine (laws_heldStepS.calls _ _ _ _ _ _ _ Rd.out LeI.out A).mono ?_; rintro e w2 ⟨rfl, n, rfl⟩; clear A)
  | (go_at_call 25; replace h := bI h; obtain ⟨t, A, h⟩ := h; (try dsimp only at h); refine (laws_heldIntS.calls _ _ _ _ _ _ _ Rd.out LeI.out A).mono ?_; rintro e w2 ⟨rfl, n, rfl⟩; clear A)); (repeat' first | ((with_reducible replace h := ite_some h); rcases h with ⟨hc, h⟩ | ⟨hc, h⟩ <;> first | exact (none_some h).elim | exact absurd hc (by decide) | subst hc | (replace hc := hF_ hc; subst hc) | (have hd := hI_ hc; have he := hJ_ hc; clear hc) | (have hd := hK_ hc; have he := hL_ hc) | (have hd := decide_eq_false hc) | (have hd := decide_eq_true hc) | skip)))
 all_goals obtain rfl := Option.some.inj h
 all_goals go_ret
 all_goals exact ⟨rfl, From.out⟩
def laws_heldShop.f (k : Nat) (l0_0 : List (S112)) (a0_1 : Int) (l0_2 : List Int) (a0_3 : Int) (a0_4 : Int) (l0_5 : List (S104)) (a1 : Int) : Option (Int) := (laws_heldWork.f k l0_0 a0_1 l0_2 a1).bind fun t1071 => (if t1071 < 0 then (some (-1)) else ((laws_heldEntryS.f k l0_5 t1071).bind fun t1072 => (if t1072 < 0 then (some (-1)) else (some t1072))))
theorem laws_heldShop.calls (k : Nat) (A0_0 : Option Addr) (c0_0 : Nat) (l0_0 : List (S112)) (a0_1 : Int) (A0_2 : Option Addr) (c0_2 : Nat) (l0_2 : List Int) (a0_3 : Int) (a0_4 : Int) (A0_5 : Option Addr) (c0_5 : Nat) (l0_5 : List (S104)) (a1 : Int) (r : Int) (w : World) (hr0_0 : Kd.C k112 w A0_0 l0_0.length l0_0) (hc0_0 : l0_0.length ≤ c0_0) (hr0_2 : Kd.C (Kd.int .i64) w A0_2 l0_2.length l0_2) (hc0_2 : l0_2.length ≤ c0_2) (hr0_5 : Kd.C k104 w A0_5 l0_5.length l0_5) (hc0_5 : l0_5.length ≤ c0_5) (h : laws_heldShop.f k l0_0 a0_1 l0_2 a0_3 a0_4 l0_5 a1 = some r) :
  Calls Tryz.prog 16 #[.agg #[.slice A0_0 l0_0.length c0_0, .int .i64 a0_1, .slice A0_2 l0_2.length c0_2, .int .i64 a0_3, .int .i64 a0_4, .slice A0_5 l0_5.length c0_5], .int .i64 a1] w fun e w' => e = .returned (.int .i64 r) ∧ Below w.heap.size w w' := by
 replace hr0_0 := RdE.mk hr0_0
 replace hc0_0 := LeI.mk hc0_0
 replace hr0_2 := RdE.mk hr0_2
 replace hc0_2 := LeI.mk hc0_2
 replace hr0_5 := RdE.mk hr0_5
 replace hc0_5 := LeI.mk hc0_5
 unfold laws_heldShop.f at h
 have hu37 := Tryz.underlying37
 (repeat' first | ((with_reducible replace h := ite_some h); rcases h with ⟨hc, h⟩ | ⟨hc, h⟩ <;> first | exact (none_some h).elim | exact absurd hc (by decide) | subst hc | (replace hc := hF_ hc; subst hc) | (have hd := hI_ hc; have he := hJ_ hc; clear hc) | (have hd := hK_ hc; have he := hL_ hc) | (have hd := decide_eq_false hc) | (have hd := decide_eq_true hc) | skip))
 all_goals go_enter Tryz.func16, Tryz.ntmps16
 all_goals go_wp2_with ((first
  | ((with_reducible refine gate_dst (N := 2) rfl ?_); refine bV #[.slice A0_0 l0_0.length c0_0, .int .i64 a0_1, .slice A0_2 l0_2.length c0_2, .int .i64 a0_3, .int .i64 a0_4, .slice A0_5 l0_5.length c0_5] 37 fun g w1 j1 j2 j3 => ?_)
  | (go_at_call 67; replace h := bI h; obtain ⟨t, A, h⟩ := h; (try dsimp only at h); refine (laws_heldWork.calls _ _ _ _ _ _ _ _ _ _ _ Rd.out LeI.out Rd.out LeI.out A).mono ?_; rintro e w2 ⟨rfl, hb⟩; have jb := Bel.mk hb; clear A hb)
  | (go_at_call 68; replace h := bI h; obtain ⟨t, A, h⟩ := h; (try dsimp only at h); refine (laws_heldEntryS.calls _ _ _ _ _ _ _ Rd.out LeI.out A).mono ?_; rintro e w2 ⟨rfl, n, rfl⟩; clear A)); (repeat' first | ((with_reducible replace h := ite_some h); rcases h with ⟨hc, h⟩ | ⟨hc, h⟩ <;> first | exact (none_some h).elim | exact absurd hc (by decide) | subst hc | (replace hc := hF_ hc; subst hc) | (have hd := hI_ hc; have he := hJ_ hc; clear hc) | (have hd := hK_ hc; have he := hL_ hc) | (have hd := decide_eq_false hc) | (have hd := decide_eq_true hc) | skip)))
 all_goals obtain rfl := Option.some.inj h
 all_goals go_ret
 all_goals exact ⟨rfl, From.out⟩
def spec_l36Copy.f (l0_0 : List (S112)) (a0_1 : Int) (l0_2 : List Int) : Option ((List (S112)) × Int × List Int) := (spec_l19Copy.f l0_0).bind fun t158 => ((spec_l02Copy.f l0_2).bind fun t161 => (some (t158, a0_1, t161)))
theorem spec_l36Copy.calls (A0_0 : Option Addr) (c0_0 : Nat) (l0_0 : List (S112)) (a0_1 : Int) (A0_2 : Option Addr) (c0_2 : Nat) (l0_2 : List Int) (r1 : List (S112)) (r2 : Int) (r3 : List Int) (w : World) (hr0_0 : Kd.C k112 w A0_0 l0_0.length l0_0) (hc0_0 : l0_0.length ≤ c0_0) (hr0_2 : Kd.C (Kd.int .i64) w A0_2 l0_2.length l0_2) (hc0_2 : l0_2.length ≤ c0_2) (h : spec_l36Copy.f l0_0 a0_1 l0_2 = some (r1, r2, r3)) :
  Calls Tryz.prog 95 #[.agg #[.slice A0_0 l0_0.length c0_0, .int .i64 a0_1, .slice A0_2 l0_2.length c0_2]] w fun e w' => ∃ v0_ v2_ : Value, e = .returned (.agg #[v0_, .int .i64 r2, v2_]) ∧ Kd.R k112 112 w' w.heap.size (fun _ => True) v0_ r1 ∧ Kd.R (Kd.int .i64) 3 w' w.heap.size (fun _ => True) v2_ r3 ∧ Below w.heap.size w w' := by
 replace hr0_0 := RdE.mk hr0_0
 replace hc0_0 := LeI.mk hc0_0
 replace hr0_2 := RdE.mk hr0_2
 replace hc0_2 := LeI.mk hc0_2
 unfold spec_l36Copy.f at h
 have hu34 := Tryz.underlying34
 (repeat' first | ((with_reducible replace h := ite_some h); rcases h with ⟨hc, h⟩ | ⟨hc, h⟩ <;> first | exact (none_some h).elim | exact absurd hc (by decide) | subst hc | (replace hc := hF_ hc; subst hc) | (have hd := hI_ hc; have he := hJ_ hc; clear hc) | (have hd := hK_ hc; have he := hL_ hc) | (have hd := decide_eq_false hc) | (have hd := decide_eq_true hc) | skip))
 all_goals go_enter Tryz.func95, Tryz.ntmps95
 all_goals go_wp2_with ((first
  | ((with_reducible refine gate_dst (N := 1) rfl ?_); refine bV #[.slice A0_0 l0_0.length c0_0, .int .i64 a0_1, .slice A0_2 l0_2.length c0_2] 34 fun g w1 j1 j2 j3 => ?_)
  | ((with_reducible refine gate_dst (N := 2) rfl ?_); refine bV #[.slice none 0 0, .int .i64 0, .slice none 0 0] 34 fun g w1 j1 j2 j3 => ?_)
  | ((with_reducible refine region_at ?_); intro w3 jw; refine region_st 2 (by rfl) ?_; intro g hg w4 jv; subst hg; go_region_held3 (fun w' => SinB g w4 w') (first | exact ⟨FromB.out⟩ | skip) (first | (go_at_call 126; replace h := bI h; obtain ⟨t, A, h⟩ := h; (try dsimp only at h); refine (spec_l19Copy.calls _ _ _ _ _ Rd.out LeI.out A).mono ?_; rintro e w2 ⟨v0, rfl, ho0, hb⟩; obtain ⟨B0, b0, rfl, j0, q0⟩ := rowS ho0; have jb := Bel.mk hb; clear A ho0 hb; (repeat' first | ((with_reducible replace h := ite_some h); rcases h with ⟨hc, h⟩ | ⟨hc, h⟩ <;> first | exact (none_some h).elim | exact absurd hc (by decide) | subst hc | (replace hc := hF_ hc; subst hc) | (have hd := hI_ hc; have he := hJ_ hc; clear hc) | (have hd := hK_ hc; have he := hL_ hc) | (have hd := decide_eq_false hc) | (have hd := decide_eq_true hc) | skip)); (try have hn : decide (0 < t.length) = true := decide_eq_true (by omega)); (try have hn : decide (0 < t.length) = false := decide_eq_false (by omega))) | (go_at_call 127; replace h := bI h; obtain ⟨t, A, h⟩ := h; (try dsimp only at h); refine (spec_l02Copy.calls _ _ _ _ _ Rd.out LeI.out A).mono ?_; rintro e w2 ⟨v0, rfl, ho0, hb⟩; obtain ⟨B0, b0, rfl, j0, q0⟩ := rowS ho0; have jb := Bel.mk hb; clear A ho0 hb)); (repeat' first | ((with_reducible replace h := ite_some h); rcases h with ⟨hc, h⟩ | ⟨hc, h⟩ <;> first | exact (none_some h).elim | exact absurd hc (by decide) | subst hc | (replace hc := hF_ hc; subst hc) | (have hd := hI_ hc; have he := hJ_ hc; clear hc) | (have hd := hK_ hc; have he := hL_ hc) | (have hd := decide_eq_false hc) | (have hd := decide_eq_true hc) | skip)); all_goals (try have hn : decide (0 < t.length) = true := decide_eq_true (by omega)); all_goals (try have hn : decide (0 < t.length) = false := decide_eq_false (by omega)))))
 all_goals simp only [Option.some.injEq, Prod.mk.injEq] at h
 all_goals obtain ⟨rfl, rfl, rfl⟩ := h
 all_goals refine bodyPost_ret (results_cell_row rfl _ _ _ _ _ (0, 0) _ rfl Blk.out Tryz.underlying34 rfl (by kernel_rfl)) rfl ?_
 all_goals exact ⟨_, _, rfl, (by first | exact rowFin | exact Kd.R_nil _ _ _ _ _), (by first | exact rowFin | exact Kd.R_nil _ _ _ _ _), From.out⟩
def spec_l38Copy.f (l0_0 : List (S112)) (a0_1 : Int) (l0_2 : List Int) (a0_3 : Int) (a0_4 : Int) (l0_5 : List (S104)) : Option ((List (S112)) × Int × List Int × Int × Int × (List (S104))) := (spec_l36Copy.f l0_0 a0_1 l0_2).bind fun bt172 => ((spec_l34Copy.f l0_5).bind fun t179 => (some (bt172.1, bt172.2.1, bt172.2.2, a0_3, a0_4, t179)))
theorem spec_l38Copy.calls (A0_0 : Option Addr) (c0_0 : Nat) (l0_0 : List (S112)) (a0_1 : Int) (A0_2 : Option Addr) (c0_2 : Nat) (l0_2 : List Int) (a0_3 : Int) (a0_4 : Int) (A0_5 : Option Addr) (c0_5 : Nat) (l0_5 : List (S104)) (r1 : List (S112)) (r2 : Int) (r3 : List Int) (r4 : Int) (r5 : Int) (r6 : List (S104)) (w : World) (hr0_0 : Kd.C k112 w A0_0 l0_0.length l0_0) (hc0_0 : l0_0.length ≤ c0_0) (hr0_2 : Kd.C (Kd.int .i64) w A0_2 l0_2.length l0_2) (hc0_2 : l0_2.length ≤ c0_2) (hr0_5 : Kd.C k104 w A0_5 l0_5.length l0_5) (hc0_5 : l0_5.length ≤ c0_5) (h : spec_l38Copy.f l0_0 a0_1 l0_2 a0_3 a0_4 l0_5 = some (r1, r2, r3, r4, r5, r6)) :
  Calls Tryz.prog 45 #[.agg #[.slice A0_0 l0_0.length c0_0, .int .i64 a0_1, .slice A0_2 l0_2.length c0_2, .int .i64 a0_3, .int .i64 a0_4, .slice A0_5 l0_5.length c0_5]] w fun e w' => ∃ v0_ v2_ v5_ : Value, e = .returned (.agg #[v0_, .int .i64 r2, v2_, .int .i64 r4, .int .i64 r5, v5_]) ∧ Kd.R k112 112 w' w.heap.size (fun _ => True) v0_ r1 ∧ Kd.R (Kd.int .i64) 3 w' w.heap.size (fun _ => True) v2_ r3 ∧ Kd.R k104 104 w' w.heap.size (fun _ => True) v5_ r6 ∧ Below w.heap.size w w' := by
 replace hr0_0 := RdE.mk hr0_0
 replace hc0_0 := LeI.mk hc0_0
 replace hr0_2 := RdE.mk hr0_2
 replace hc0_2 := LeI.mk hc0_2
 replace hr0_5 := RdE.mk hr0_5
 replace hc0_5 := LeI.mk hc0_5
 unfold spec_l38Copy.f at h
 have hu37 := Tryz.underlying37
 (repeat' first | ((with_reducible replace h := ite_some h); rcases h with ⟨hc, h⟩ | ⟨hc, h⟩ <;> first | exact (none_some h).elim | exact absurd hc (by decide) | subst hc | (replace hc := hF_ hc; subst hc) | (have hd := hI_ hc; have he := hJ_ hc; clear hc) | (have hd := hK_ hc; have he := hL_ hc) | (have hd := decide_eq_false hc) | (have hd := decide_eq_true hc) | skip))
 all_goals go_enter Tryz.func45, Tryz.ntmps45
 all_goals go_wp2_with ((first
  | ((with_reducible refine gate_dst (N := 1) rfl ?_); refine bV #[.slice A0_0 l0_0.length c0_0, .int .i64 a0_1, .slice A0_2 l0_2.length c0_2, .int .i64 a0_3, .int .i64 a0_4, .slice A0_5 l0_5.length c0_5] 37 fun g w1 j1 j2 j3 => ?_)
  | ((with_reducible refine gate_dst (N := 2) rfl ?_); refine bV #[.slice none 0 0, .int .i64 0, .slice none 0 0, .int .i64 0, .int .i64 0, .slice none 0 0] 37 fun g w1 j1 j2 j3 => ?_)
  | ((with_reducible refine region_at ?_); intro w3 jw; refine region_st 2 (by rfl) ?_; intro g hg w4 jv; subst hg; go_region_held3 (fun w' => SinB g w4 w') (first | exact ⟨FromB.out⟩ | skip) (first | (go_at_call 95; replace h := bI h; obtain ⟨⟨t1, t2, t3⟩, A, h⟩ := h; (try dsimp only at h); refine (spec_l36Copy.calls _ _ _ _ _ _ _ _ _ _ _ Rd.out LeI.out Rd.out LeI.out A).mono ?_; rintro e w2 ⟨v0, v1, rfl, ho0, ho1, hb⟩; obtain ⟨B0, b0, rfl, j0, q0⟩ := rowS ho0; obtain ⟨B1, b1, rfl, j1, q1⟩ := rowS ho1; have jb := Bel.mk hb; clear A ho0 ho1 hb; (repeat' first | ((with_reducible replace h := ite_some h); rcases h with ⟨hc, h⟩ | ⟨hc, h⟩ <;> first | exact (none_some h).elim | exact absurd hc (by decide) | subst hc | (replace hc := hF_ hc; subst hc) | (have hd := hI_ hc; have he := hJ_ hc; clear hc) | (have hd := hK_ hc; have he := hL_ hc) | (have hd := decide_eq_false hc) | (have hd := decide_eq_true hc) | skip))) | (go_at_call 96; replace h := bI h; obtain ⟨t, A, h⟩ := h; (try dsimp only at h); refine (spec_l34Copy.calls _ _ _ _ _ Rd.out LeI.out A).mono ?_; rintro e w2 ⟨v0, rfl, ho0, hb⟩; obtain ⟨B0, b0, rfl, j0, q0⟩ := rowS ho0; have jb := Bel.mk hb; clear A ho0 hb)); (repeat' first | ((with_reducible replace h := ite_some h); rcases h with ⟨hc, h⟩ | ⟨hc, h⟩ <;> first | exact (none_some h).elim | exact absurd hc (by decide) | subst hc | (replace hc := hF_ hc; subst hc) | (have hd := hI_ hc; have he := hJ_ hc; clear hc) | (have hd := hK_ hc; have he := hL_ hc) | (have hd := decide_eq_false hc) | (have hd := decide_eq_true hc) | skip)); all_goals (try have hn : decide (0 < t.length) = true := decide_eq_true (by omega)); all_goals (try have hn : decide (0 < t.length) = false := decide_eq_false (by omega)))))
 all_goals simp only [Option.some.injEq, Prod.mk.injEq] at h
 all_goals obtain ⟨rfl, rfl, rfl, rfl, rfl, rfl⟩ := h
 all_goals refine bodyPost_ret (results_cell_row rfl _ _ _ _ _ (0, 0) _ rfl Blk.out Tryz.underlying37 rfl (by kernel_rfl)) rfl ?_
 all_goals exact ⟨_, _, _, rfl, (by first | exact rowFin | exact Kd.R_nil _ _ _ _ _), (by first | exact rowFin | exact Kd.R_nil _ _ _ _ _), (by first | exact rowFin | exact Kd.R_nil _ _ _ _ _), From.out⟩
def laws_toAct.f (a0_0 : Int) (a0_1 : Int) (a0_2 : Int) (a0_3 : Int) : Option (Int × Int × Int × Int) := some (a0_0, a0_1, a0_2, a0_3)
theorem laws_toAct.calls (a0_0 : Int) (a0_1 : Int) (a0_2 : Int) (a0_3 : Int) (r1 : Int) (r2 : Int) (r3 : Int) (r4 : Int) (w : World) (h : laws_toAct.f a0_0 a0_1 a0_2 a0_3 = some (r1, r2, r3, r4)) :
  Calls Tryz.prog 12 #[.agg #[.int .i64 a0_0, .int .i64 a0_1, .int .i64 a0_2, .int .i64 a0_3]] w fun e w' => e = .returned (.agg #[.int .i64 r1, .int .i64 r2, .int .i64 r3, .int .i64 r4]) ∧ Below w.heap.size w w' := by
 unfold laws_toAct.f at h
 have hu30 := Tryz.underlying30
 have hu41 := Tryz.underlying41
 (repeat' first | ((with_reducible replace h := ite_some h); rcases h with ⟨hc, h⟩ | ⟨hc, h⟩ <;> first | exact (none_some h).elim | exact absurd hc (by decide) | subst hc | (replace hc := hF_ hc; subst hc) | (have hd := hI_ hc; have he := hJ_ hc; clear hc) | (have hd := hK_ hc; have he := hL_ hc) | (have hd := decide_eq_false hc) | (have hd := decide_eq_true hc) | skip))
 all_goals go_enter Tryz.func12, Tryz.ntmps12
 all_goals go_wp2_with ((first
  | ((with_reducible refine gate_dst (N := 1) rfl ?_); refine bV #[.int .i64 a0_0, .int .i64 a0_1, .int .i64 a0_2, .int .i64 a0_3] 30 fun g w1 j1 j2 j3 => ?_)
  | ((with_reducible refine gate_dst (N := 2) rfl ?_); refine bV #[.int .i64 0, .int .i64 0, .int .i64 0, .int .i64 0] 41 fun g w1 j1 j2 j3 => ?_)
  | ((with_reducible refine gate_dst (N := 3) rfl ?_); refine bV #[.int .i64 0, .int .i64 0, .int .i64 0, .int .i64 0] 41 fun g w1 j1 j2 j3 => ?_)); (repeat' first | ((with_reducible replace h := ite_some h); rcases h with ⟨hc, h⟩ | ⟨hc, h⟩ <;> first | exact (none_some h).elim | exact absurd hc (by decide) | subst hc | (replace hc := hF_ hc; subst hc) | (have hd := hI_ hc; have he := hJ_ hc; clear hc) | (have hd := hK_ hc; have he := hL_ hc) | (have hd := decide_eq_false hc) | (have hd := decide_eq_true hc) | skip)))
 all_goals simp only [Option.some.injEq, Prod.mk.injEq] at h
 all_goals obtain ⟨rfl, rfl, rfl, rfl⟩ := h
 all_goals refine bodyPost_ret (results_cell_row rfl _ _ _ _ _ (0, 0) _ rfl Blk.out Tryz.underlying41 rfl (by kernel_rfl)) rfl ?_
 all_goals exact ⟨rfl, From.out⟩
def impl_copyShop.f (l0_0 : List (S112)) (a0_1 : Int) (l0_2 : List Int) (a0_3 : Int) (a0_4 : Int) (l0_5 : List (S104)) : Option ((List (S112)) × Int × List Int × Int × Int × (List (S104))) := (impl_copyWork.f l0_0 a0_1 l0_2).bind fun bt652 => ((impl_copyLog.f l0_5).bind fun t659 => (some (bt652.1, bt652.2.1, bt652.2.2, a0_3, a0_4, t659)))
theorem impl_copyShop.calls (A0_0 : Option Addr) (c0_0 : Nat) (l0_0 : List (S112)) (a0_1 : Int) (A0_2 : Option Addr) (c0_2 : Nat) (l0_2 : List Int) (a0_3 : Int) (a0_4 : Int) (A0_5 : Option Addr) (c0_5 : Nat) (l0_5 : List (S104)) (r1 : List (S112)) (r2 : Int) (r3 : List Int) (r4 : Int) (r5 : Int) (r6 : List (S104)) (w : World) (hr0_0 : Kd.C k112 w A0_0 l0_0.length l0_0) (hc0_0 : l0_0.length ≤ c0_0) (hr0_2 : Kd.C (Kd.int .i64) w A0_2 l0_2.length l0_2) (hc0_2 : l0_2.length ≤ c0_2) (hr0_5 : Kd.C k104 w A0_5 l0_5.length l0_5) (hc0_5 : l0_5.length ≤ c0_5) (h : impl_copyShop.f l0_0 a0_1 l0_2 a0_3 a0_4 l0_5 = some (r1, r2, r3, r4, r5, r6)) :
  Calls Tryz.prog 57 #[.agg #[.slice A0_0 l0_0.length c0_0, .int .i64 a0_1, .slice A0_2 l0_2.length c0_2, .int .i64 a0_3, .int .i64 a0_4, .slice A0_5 l0_5.length c0_5]] w fun e w' => ∃ v0_ v2_ v5_ : Value, e = .returned (.agg #[v0_, .int .i64 r2, v2_, .int .i64 r4, .int .i64 r5, v5_]) ∧ Kd.R k112 112 w' w.heap.size (fun _ => True) v0_ r1 ∧ Kd.R (Kd.int .i64) 3 w' w.heap.size (fun _ => True) v2_ r3 ∧ Kd.R k104 104 w' w.heap.size (fun _ => True) v5_ r6 ∧ Below w.heap.size w w' := by
 replace hr0_0 := RdE.mk hr0_0
 replace hc0_0 := LeI.mk hc0_0
 replace hr0_2 := RdE.mk hr0_2
 replace hc0_2 := LeI.mk hc0_2
 replace hr0_5 := RdE.mk hr0_5
 replace hc0_5 := LeI.mk hc0_5
 unfold impl_copyShop.f at h
 have hu37 := Tryz.underlying37
 (repeat' first | ((with_reducible replace h := ite_some h); rcases h with ⟨hc, h⟩ | ⟨hc, h⟩ <;> first | exact (none_some h).elim | exact absurd hc (by decide) | subst hc | (replace hc := hF_ hc; subst hc) | (have hd := hI_ hc; have he := hJ_ hc; clear hc) | (have hd := hK_ hc; have he := hL_ hc) | (have hd := decide_eq_false hc) | (have hd := decide_eq_true hc) | skip))
 all_goals go_enter Tryz.func57, Tryz.ntmps57
 all_goals go_wp2_with ((first
  | ((with_reducible refine gate_dst (N := 1) rfl ?_); refine bV #[.slice A0_0 l0_0.length c0_0, .int .i64 a0_1, .slice A0_2 l0_2.length c0_2, .int .i64 a0_3, .int .i64 a0_4, .slice A0_5 l0_5.length c0_5] 37 fun g w1 j1 j2 j3 => ?_)
  | ((with_reducible refine gate_dst (N := 2) rfl ?_); refine bV #[.slice none 0 0, .int .i64 0, .slice none 0 0, .int .i64 0, .int .i64 0, .slice none 0 0] 37 fun g w1 j1 j2 j3 => ?_)
  | ((with_reducible refine region_at ?_); intro w3 jw; refine region_st 2 (by rfl) ?_; intro g hg w4 jv; subst hg; go_region_held3 (fun w' => SinB g w4 w') (first | exact ⟨FromB.out⟩ | skip) (first | (go_at_call 106; replace h := bI h; obtain ⟨⟨t1, t2, t3⟩, A, h⟩ := h; (try dsimp only at h); refine (impl_copyWork.calls _ _ _ _ _ _ _ _ _ _ _ Rd.out LeI.out Rd.out LeI.out A).mono ?_; rintro e w2 ⟨v0, v1, rfl, ho0, ho1, hb⟩; obtain ⟨B0, b0, rfl, j0, q0⟩ := rowS ho0; obtain ⟨B1, b1, rfl, j1, q1⟩ := rowS ho1; have jb := Bel.mk hb; clear A ho0 ho1 hb; (repeat' first | ((with_reducible replace h := ite_some h); rcases h with ⟨hc, h⟩ | ⟨hc, h⟩ <;> first | exact (none_some h).elim | exact absurd hc (by decide) | subst hc | (replace hc := hF_ hc; subst hc) | (have hd := hI_ hc; have he := hJ_ hc; clear hc) | (have hd := hK_ hc; have he := hL_ hc) | (have hd := decide_eq_false hc) | (have hd := decide_eq_true hc) | skip))) | (go_at_call 107; replace h := bI h; obtain ⟨t, A, h⟩ := h; (try dsimp only at h); refine (impl_copyLog.calls _ _ _ _ _ Rd.out LeI.out A).mono ?_; rintro e w2 ⟨v0, rfl, ho0, hb⟩; obtain ⟨B0, b0, rfl, j0, q0⟩ := rowS ho0; have jb := Bel.mk hb; clear A ho0 hb)); (repeat' first | ((with_reducible replace h := ite_some h); rcases h with ⟨hc, h⟩ | ⟨hc, h⟩ <;> first | exact (none_some h).elim | exact absurd hc (by decide) | subst hc | (replace hc := hF_ hc; subst hc) | (have hd := hI_ hc; have he := hJ_ hc; clear hc) | (have hd := hK_ hc; have he := hL_ hc) | (have hd := decide_eq_false hc) | (have hd := decide_eq_true hc) | skip)); all_goals (try have hn : decide (0 < t.length) = true := decide_eq_true (by omega)); all_goals (try have hn : decide (0 < t.length) = false := decide_eq_false (by omega)))))
 all_goals simp only [Option.some.injEq, Prod.mk.injEq] at h
 all_goals obtain ⟨rfl, rfl, rfl, rfl, rfl, rfl⟩ := h
 all_goals refine bodyPost_ret (results_cell_row rfl _ _ _ _ _ (0, 0) _ rfl Blk.out Tryz.underlying37 rfl (by kernel_rfl)) rfl ?_
 all_goals exact ⟨_, _, _, rfl, (by first | exact rowFin | exact Kd.R_nil _ _ _ _ _), (by first | exact rowFin | exact Kd.R_nil _ _ _ _ _), (by first | exact rowFin | exact Kd.R_nil _ _ _ _ _), From.out⟩
def laws_eqAct.f (a0_0 : Int) (a0_1 : Int) (a0_2 : Int) (a0_3 : Int) (a1_0 : Int) (a1_1 : Int) (a1_2 : Int) (a1_3 : Int) : Option (Bool) := if a0_0 = a1_0 then (if a0_1 = a1_1 then (if a0_2 = a1_2 then (if a0_3 = a1_3 then (some true) else (some false)) else (some false)) else (some false)) else (some false)
theorem laws_eqAct.calls (a0_0 : Int) (a0_1 : Int) (a0_2 : Int) (a0_3 : Int) (a1_0 : Int) (a1_1 : Int) (a1_2 : Int) (a1_3 : Int) (r : Bool) (w : World) (h : laws_eqAct.f a0_0 a0_1 a0_2 a0_3 a1_0 a1_1 a1_2 a1_3 = some r) :
  Calls Tryz.prog 69 #[.agg #[.int .i64 a0_0, .int .i64 a0_1, .int .i64 a0_2, .int .i64 a0_3], .agg #[.int .i64 a1_0, .int .i64 a1_1, .int .i64 a1_2, .int .i64 a1_3]] w fun e w' => e = .returned (.bool r) ∧ Below w.heap.size w w' := by
 unfold laws_eqAct.f at h
 have hu41 := Tryz.underlying41
 (repeat' first | ((with_reducible replace h := ite_some h); rcases h with ⟨hc, h⟩ | ⟨hc, h⟩ <;> first | exact (none_some h).elim | exact absurd hc (by decide) | subst hc | (replace hc := hF_ hc; subst hc) | (have hd := hI_ hc; have he := hJ_ hc; clear hc) | (have hd := hK_ hc; have he := hL_ hc) | (have hd := decide_eq_false hc) | (have hd := decide_eq_true hc) | skip))
 all_goals go_enter Tryz.func69, Tryz.ntmps69
 all_goals go_wp2_with ((first
  | ((with_reducible refine gate_dst (N := 2) rfl ?_); refine bV #[.int .i64 a0_0, .int .i64 a0_1, .int .i64 a0_2, .int .i64 a0_3] 41 fun g w1 j1 j2 j3 => ?_)
  | ((with_reducible refine gate_dst (N := 3) rfl ?_); refine bV #[.int .i64 a1_0, .int .i64 a1_1, .int .i64 a1_2, .int .i64 a1_3] 41 fun g w1 j1 j2 j3 => ?_)); (repeat' first | ((with_reducible replace h := ite_some h); rcases h with ⟨hc, h⟩ | ⟨hc, h⟩ <;> first | exact (none_some h).elim | exact absurd hc (by decide) | subst hc | (replace hc := hF_ hc; subst hc) | (have hd := hI_ hc; have he := hJ_ hc; clear hc) | (have hd := hK_ hc; have he := hL_ hc) | (have hd := decide_eq_false hc) | (have hd := decide_eq_true hc) | skip)))
 all_goals obtain rfl := Option.some.inj h
 all_goals go_ret
 all_goals exact ⟨rfl, From.out⟩
end Go.Proofs.YtanhnhkcpbdfmaaGreat.P
namespace Go.Proofs.YtanhnhkcpbdfmaaGreat.P
set_option maxHeartbeats 8000000
set_option maxRecDepth 100000
open Go.RowKit Go.Proofs.YtanhnhkcpbdfmaaGreatW.PrintWords Go.Proofs.YtanhnhkcpbdfmaaGreatW.PrintLast Go.Proofs.YtanhnhkcpbdfmaaGreatW.PrintMore
attribute [local go_sem] max2_int min2_int max_two min_two max_three min_three max_four min_four
def laws_toEntryS.l0 : Nat → List (S127) → List (S104) → Int → Option ((List (S104)))
 | 0, _, _, _ => none
 | k + 1, x0, x3, x4 => if x4 < (x0.length : Int) then (if 0 ≤ x4 then ((laws_toEntry.f ((rd_T127 x0 x4).f0.f0) ((rd_T127 x0 x4).f0.f1) ((rd_T127 x0 x4).f1) ((rd_T127 x0 x4).f2)).bind fun bt571 => (if x4 < (x3.length : Int) then (laws_toEntryS.l0 k x0 (x3.set (x4 : Int).toNat (⟨(⟨bt571.1, bt571.2.1⟩ : S74), bt571.2.2.1, bt571.2.2.2⟩ : S104)) (wrap64 (x4 + 1))) else (none))) else (none)) else (some x3)
def laws_toEntryS.f (k : Nat) (l0 : List (S127)) : Option ((List (S104))) := if 0 ≤ (l0.length : Int) then (if ((l0.length : Int) : Int).toNat ≤ 8796093022208 then (laws_toEntryS.l0 k l0 (List.replicate ((l0.length : Int) : Int).toNat z104) 0) else (none)) else (none)
theorem laws_toEntryS.calls (k : Nat) (A0 : Option Addr) (c0 : Nat) (l0 : List (S127)) (r : List (S104)) (w : World) (hr0 : Kd.C k127 w A0 l0.length l0) (hc0 : l0.length ≤ c0) (h : laws_toEntryS.f k l0 = some r) :
  Calls Tryz.prog 55 #[.slice A0 l0.length c0] w fun e w' => ∃ v0_ : Value, e = .returned (v0_) ∧ Kd.R k104 104 w' w.heap.size (fun _ => True) v0_ r ∧ Below w.heap.size w w' := by
 have hu127 := Tryz.underlying127
 have hu104 := Tryz.underlying104
 have HR0 := A_ hr0
 have HC0 := A_ hc0
 clear hr0 hc0
 have HB := A_ (Below.refl w.heap.size w)
 have H : (if 0 ≤ (l0.length : Int) then (if ((l0.length : Int) : Int).toNat ≤ 8796093022208 then (laws_toEntryS.l0 k l0 (List.replicate ((l0.length : Int) : Int).toNat z104) 0) else (none)) else (none)) = some r := h
 clear h
 by_cases c2 : 0 ≤ (l0.length : Int)
 ·rw [if_pos c2] at H
  have c2b0 := eq_true c2
  have c2b1 : decide (0 ≤ (l0.length : Int)) = true := decide_eq_true c2
  clear c2
  by_cases c3 : ((l0.length : Int) : Int).toNat ≤ 8796093022208
  ·rw [if_pos c3] at H
   have c3b0 := eq_true c3
   have c3b1 : decide (((l0.length : Int) : Int).toNat ≤ 8796093022208) = true := decide_eq_true c3
   clear c3
   obtain ⟨y567, hy567⟩ : ∃ y_ : List (S104), y_ = (List.replicate ((l0.length : Int) : Int).toNat z104) := ⟨_, rfl⟩
   replace H : (laws_toEntryS.l0 k l0 y567 0) = some r := by first | (rw [hy567]; with_reducible exact H) | (have H2_ := (Option.bind_some _ _).symm.trans H; rw [hy567]; with_reducible exact H2_) | (have H2_ := (Option.bind_some _ _).symm.trans H; with_reducible exact H2_) | with_reducible exact H | (rw [hy567]; exact H) | exact H
   have Ny567 := A_ hy567
   clear hy567
   have H' := A_ H
   clear H
   go_enter Tryz.func55, Tryz.ntmps55
   go_wp2_with (first | ((with_reducible refine gate_dst (N := 7) rfl ?_); refine Kd.R_make k104 _ 104 rfl (N := 7) rfl 35 _ _ rfl (l0.length : Int) rfl rfl Tryz.underlying35 (.agg #[(.int .i64 0), (.int .i64 0), (.int .i64 0), (.int .i64 0)]) 32 info104 rfl (by decide) (by omega) z104 (ok := fun _ => True) (okp := fun _ => True) (k104_mkM _ _ _ z104 ) (fun _ hk => hk) trivial (oD) (Nat.le_trans (Nat.mul_le_mul_right _ (oD : (l0.length : Int).toNat ≤ 8796093022208)) (by omega)) (Below.refl _ _) (Nat.le_refl _) ?_; intro v568 w4 ho5 hb hg_ hnew_; clear hg_ hnew_; (first | rw [← Ny567.out] at ho5 | (simp only [Int.reduceToNat] at ho5; rw [← Ny567.out] at ho5)); have n0_ := A_ (Kd.R_lower ho5 (below_size (oB HB))); have n1_ := A_ (below_step (oB HB) hb); clear HB; have HO569 := n0_; have HB := n1_; clear n0_ n1_; clear hb ho5))
   go_loopg [4] k (fun kq v4 w' => ∃ (x3_1 : List (S104)) (x4_1 : Int), v4 = .int .i64 x4_1 ∧ Aside0 (laws_toEntryS.l0 kq l0 x3_1 x4_1 = some r) ∧ Aside0 (kq ≤ k) ∧ Aside0 (Kd.R k104 104 w' w.heap.size (fun _ => True) v568 x3_1) ∧ Aside0 (Below w.heap.size w w'))
   case atStart => exact ⟨(y567), (0), eS, H', ⟨Nat.le_refl _⟩, ⟨oR HO569⟩, ⟨oB HB⟩⟩
   case round =>
    clear H'
    try clear c2
    try clear c2b0
    try clear c2b1
    try clear p2
    try clear c3
    try clear c3b0
    try clear c3b1
    try clear c5
    obtain ⟨x3_1, x4_1, rfl, HA, HK1, HO_3, HB⟩ := hrel
    cases gk with
    | zero => exact absurd HA.out (by simp [laws_toEntryS.l0])
    | succ k1 =>
     have H := HA.out
     clear HA
     simp only [laws_toEntryS.l0] at H
     by_cases c6 : x4_1 < (l0.length : Int)
     ·rw [if_pos c6] at H
      have c6b0 : decide (x4_1 < (l0.length : Int)) = true := decide_eq_true c6
      clear c6
      by_cases c7 : 0 ≤ x4_1
      ·rw [if_pos c7] at H
       have c7b0 : decide (0 ≤ x4_1) = true := decide_eq_true c7
       clear c7
       replace H := Option.bind_eq_some_iff.mp H
       obtain ⟨⟨t571, t572, t573, t574⟩, A80, H⟩ := H
       (try dsimp only at H)
       have A8 := A_ A80
       clear A80
       by_cases c9 : x4_1 < (x3_1.length : Int)
       ·rw [if_pos c9] at H
        have c9b0 : decide (x4_1 < (x3_1.length : Int)) = true := decide_eq_true c9
        clear c9
        obtain ⟨y575, hy575⟩ : ∃ y_ : List (S104), y_ = (x3_1.set (x4_1 : Int).toNat (⟨(⟨t571, t572⟩ : S74), t573, t574⟩ : S104)) := ⟨_, rfl⟩
        replace H : (laws_toEntryS.l0 k1 l0 y575 (wrap64 (x4_1 + 1))) = some r := by first | (rw [hy575]; with_reducible exact H) | (have H2_ := (Option.bind_some _ _).symm.trans H; rw [hy575]; with_reducible exact H2_) | (have H2_ := (Option.bind_some _ _).symm.trans H; with_reducible exact H2_) | with_reducible exact H | (rw [hy575]; exact H) | exact H
        have Ny575 := A_ hy575
        clear hy575
        have H' := A_ H
        clear H
        have p570 : 0 ≤ (x4_1 : Int) := oD
        have q570 : x4_1 < (l0.length : Int) := oD
        obtain ⟨ad570, e570, hx570_0, hx570_1, hx570_2, hx570_3⟩ := at_T127 HR0.out x4_1 p570 q570
        cases e570
        replace hx570_0 := hW HB hx570_0
        replace hx570_1 := hW HB hx570_1
        replace hx570_2 := hW HB hx570_2
        replace hx570_3 := hW HB hx570_3
        replace p570 := eq_true p570
        replace q570 := eq_true q570
        go_wp2_with (first | ((with_reducible refine gate_callee (f := 105) rfl ?_); refine gL (some 20) Tryz.func105 #[.agg #[.int .i64 ((rd_T127 l0 x4_1).f0.f0), .int .i64 ((rd_T127 l0 x4_1).f0.f1), .int .i64 ((rd_T127 l0 x4_1).f1), .int .i64 ((rd_T127 l0 x4_1).f2)]] ?_; (with_reducible refine (laws_toEntry.calls ((rd_T127 l0 x4_1).f0.f0) ((rd_T127 l0 x4_1).f0.f1) ((rd_T127 l0 x4_1).f1) ((rd_T127 l0 x4_1).f2) t571 t572 t573 t574 _ A8.out).mono ?_); rintro e w11 ⟨rfl, hb⟩; refine ⟨_, rfl, ?_⟩; have n0_ := A_ (Kd.R_below (oR HO_3) hb); have n1_ := A_ (below_step (oB HB) hb); clear HO_3; clear HB; have HO_3 := n0_; have HB := n1_; clear n0_ n1_; (try clear hb); (try clear hb2); (try clear hk); (try clear hi); have p10 : 0 ≤ (x4_1 : Int) := oD; have q10 : (x4_1 : Int) < ((x3_1.length : Int) : Int) := oD; obtain ⟨go10, co10, eo10, gb10, gl10, cl10, HG10⟩ := Kd.R_form HO_3.out (by omega); (first | cases eo10 | (injection eo10 with ea_ en_ ec_; (first | subst ea_ | (injection ea_ with ea_; subst ea_)); subst ec_; clear en_)); have GB10 := A_ gb10; have GG10 := A_ HG10; clear gb10 gl10 HG10; obtain ⟨ce10, hcl10, hM10, hcc10, hfr10⟩ := Kd.R_elem HO_3.out z104 (x4_1 : Int) p10 q10; obtain rfl := k104_openM hM10; have hx10_0 : w11.cell? ⟨go10, (x4_1 : Int).toNat * 4, none⟩ = some (.int .i64 ((rd_T104 x3_1 x4_1).f0.f0)) := hcc10 0 _ rfl; have hx10_1 : w11.cell? ⟨go10, (x4_1 : Int).toNat * 4 + 1, none⟩ = some (.int .i64 ((rd_T104 x3_1 x4_1).f0.f1)) := hcc10 1 _ rfl; have hx10_2 : w11.cell? ⟨go10, (x4_1 : Int).toNat * 4 + 2, none⟩ = some (.int .i64 ((rd_T104 x3_1 x4_1).f1)) := hcc10 2 _ rfl; have hx10_3 : w11.cell? ⟨go10, (x4_1 : Int).toNat * 4 + 3, none⟩ = some (.int .i64 ((rd_T104 x3_1 x4_1).f2)) := hcc10 3 _ rfl; have hf10_0 : w11.frozen? ⟨go10, (x4_1 : Int).toNat * 4, none⟩ = false := hfr10 0; have hf10_1 : w11.frozen? ⟨go10, (x4_1 : Int).toNat * 4 + 1, none⟩ = false := hfr10 1; have hf10_2 : w11.frozen? ⟨go10, (x4_1 : Int).toNat * 4 + 2, none⟩ = false := hfr10 2; have hf10_3 : w11.frozen? ⟨go10, (x4_1 : Int).toNat * 4 + 3, none⟩ = false := hfr10 3; clear hcl10 hcc10 hfr10 hM10; replace p10 := eq_true p10; replace q10 := eq_true q10; have HX12 := A_ (show Kd.R k104 104 w11 w.heap.size (fun _ => True) (.slice (some ⟨go10, 0, none⟩) x3_1.length co10) x3_1 from (oR HO_3)); obtain ⟨ce12, hcl12, hM12, hcc12, hfr12⟩ := Kd.R_elem HX12.out z104 (x4_1 : Int) (oD) (by have h_ : (x4_1 : Int) < ((x3_1.length : Int) : Int) := oD; first | exact h_ | (have e_ := (Kd.R_reads' HO_3.out).1; omega) | simpa using h_); obtain rfl := k104_openM hM12; have HP12 := Kd.R_seg HX12.out (x4_1 : Int) (oD) (by have h_ : (x4_1 : Int) < ((x3_1.length : Int) : Int) := oD; first | exact h_ | (have e_ := (Kd.R_reads' HO_3.out).1; omega) | simpa using h_) (seg := [.int .i64 t571, .int .i64 t572, .int .i64 t573, .int .i64 t574]) (j := 0) hcl12 hcc12 (show 4 ≤ 4 from by decide) (x' := (⟨(⟨t571, t572⟩ : S74), t573, t574⟩ : S104)) (k104_mkM _ _ _ (⟨(⟨t571, t572⟩ : S74), t573, t574⟩ : S104) ) (fun _ hk => hk); have hx12_0 := hcc12 0 _ rfl; (try simp only [show (k104).sz = 4 from rfl, Nat.mul_one, Nat.add_zero] at hx12_0); have hf12_0 := hfr12 0; (try simp only [show (k104).sz = 4 from rfl, Nat.mul_one, Nat.add_zero] at hf12_0); have hx12_1 := hcc12 1 _ rfl; (try simp only [show (k104).sz = 4 from rfl, Nat.mul_one, Nat.add_zero] at hx12_1); have hf12_1 := hfr12 1; (try simp only [show (k104).sz = 4 from rfl, Nat.mul_one, Nat.add_zero] at hf12_1); have hx12_2 := hcc12 2 _ rfl; (try simp only [show (k104).sz = 4 from rfl, Nat.mul_one, Nat.add_zero] at hx12_2); have hf12_2 := hfr12 2; (try simp only [show (k104).sz = 4 from rfl, Nat.mul_one, Nat.add_zero] at hf12_2); have hx12_3 := hcc12 3 _ rfl; (try simp only [show (k104).sz = 4 from rfl, Nat.mul_one, Nat.add_zero] at hx12_3); have hf12_3 := hfr12 3; (try simp only [show (k104).sz = 4 from rfl, Nat.mul_one, Nat.add_zero] at hf12_3); clear hcl12 hcc12 hfr12 hM12) | ((with_reducible refine gate_store (t := 104) (p := 21) rfl ?_); refine store_event (t := 104) (p := 21) (v := ?vo_w13) (w1 := ((((w11.setCell ⟨go10, (x4_1 : Int).toNat * 4, none⟩ (.int .i64 t571)).setCell ⟨go10, (x4_1 : Int).toNat * 4 + 1, none⟩ (.int .i64 t572)).setCell ⟨go10, (x4_1 : Int).toNat * 4 + 2, none⟩ (.int .i64 t573)).setCell ⟨go10, (x4_1 : Int).toNat * 4 + 3, none⟩ (.int .i64 t574))) ?hg ?ho ?hn ?hr ?_; (case ho => rfl); (case hg => rfl); (case hn => rfl); (case hr => first | (go_simp; done) | (go_simp; rfl)); intro w13 hw; have hg : w11.grownBy w13 (some go10) := (by rw [hw]; exact HP12.2); have hp_ : Kd.R k104 104 w13 w.heap.size (fun _ => True) (.slice (some ⟨go10, 0, none⟩) x3_1.length co10) y575 := (by rw [hw, Ny575.out]; exact HP12.1); clear HP12; have n0_ := A_ (hp_); have n1_ := A_ ((by rw [hw]; exact below_set (below_set (below_set (below_set (HB.out) GB10.out) GB10.out) GB10.out) GB10.out : Below w.heap.size w w13)); clear HO_3; clear HB; have HO_3 := n0_; have HB := n1_; clear n0_ n1_; clear hg hw hp_))
        go_roundg k1
        case measure => have := HK1.out; omega
        case rel => exact ⟨(y575), (wrap64 (x4_1 + 1)), eS, H', ⟨by have := HK1.out; omega⟩, ⟨oR HO_3⟩, ⟨oB HB⟩⟩
       ·rw [if_neg c9] at H
        exact absurd H (by simp)
      ·rw [if_neg c7] at H
       exact absurd H (by simp)
     ·rw [if_neg c6] at H
      have c6b0 : decide (x4_1 < (l0.length : Int)) = false := decide_eq_false c6
      clear c6
      obtain rfl := Option.some.inj H
      go_wp2
      go_ret
      exact ⟨_, eR, oR HO_3, oB HB⟩
  ·rw [if_neg c3] at H
   exact absurd H (by simp)
 ·rw [if_neg c2] at H
  exact absurd H (by simp)
def laws_eqStepS.l0 : Nat → List (S112) → List (S112) → Int → Option (Bool)
 | 0, _, _, _ => none
 | k + 1, x0, x1, x5 => if x5 < (x0.length : Int) then (if 0 ≤ x5 then (if x5 < (x1.length : Int) then ((laws_eqStep.f ((rd_T112 x0 x5).f0) ((rd_T112 x0 x5).f1) ((rd_T112 x0 x5).f2) ((rd_T112 x0 x5).f3) ((rd_T112 x1 x5).f0) ((rd_T112 x1 x5).f1) ((rd_T112 x1 x5).f2) ((rd_T112 x1 x5).f3)).bind fun t1021 => (if t1021 = true then (laws_eqStepS.l0 k x0 x1 (wrap64 (x5 + 1))) else (some false))) else (none)) else (none)) else (some true)
def laws_eqStepS.f (k : Nat) (l0 : List (S112)) (l1 : List (S112)) : Option (Bool) := if (l0.length : Int) = (l1.length : Int) then (laws_eqStepS.l0 k l0 l1 0) else (some false)
def laws_eqStepS.T6 : Bool × List (List Nat × List Nat) := (true, [([], []), ([], []), ([0, 1], [0, 1]), ([2], [2]), ([], []), ([], []), ([4, 5], [4, 5]), ([6], [6]), ([3, 7], [3, 7]), ([8], [8])])
def laws_eqStepS.B6 : List Nat := [0, 0, 3, 7, 0, 0, 48, 112, 255, 511]
theorem laws_eqStepS.tab6 : rtab .any (opsOf Tryz.f111 6) = laws_eqStepS.T6 := by kernel_rfl
theorem laws_eqStepS.bits6 : waitsOk laws_eqStepS.T6.2 laws_eqStepS.B6 = true := by kernel_rfl
theorem laws_eqStepS.calls (k : Nat) (A0 : Option Addr) (c0 : Nat) (l0 : List (S112)) (A1 : Option Addr) (c1 : Nat) (l1 : List (S112)) (r : Bool) (w : World) (hr0 : Kd.C k112 w A0 l0.length l0) (hc0 : l0.length ≤ c0) (hr1 : Kd.C k112 w A1 l1.length l1) (hc1 : l1.length ≤ c1) (h : laws_eqStepS.f k l0 l1 = some r) :
  Calls Tryz.prog 111 #[.slice A0 l0.length c0, .slice A1 l1.length c1] w fun e w' => e = .returned (.bool r) ∧ Below w.heap.size w w' := by
 have hu112 := Tryz.underlying112
 have HR0 := A_ hr0
 have HC0 := A_ hc0
 clear hr0 hc0
 have HR1 := A_ hr1
 have HC1 := A_ hc1
 clear hr1 hc1
 have HB := A_ (Below.refl w.heap.size w)
 have H : (if (l0.length : Int) = (l1.length : Int) then (laws_eqStepS.l0 k l0 l1 0) else (some false)) = some r := h
 clear h
 by_cases c3 : (l0.length : Int) = (l1.length : Int)
 ·rw [if_pos c3] at H
  have c3b0 : ((l0.length : Int) == (l1.length : Int)) = true := beq_iff_eq.mpr c3
  have c3b1 : ((l0.length : Int) != (l1.length : Int)) = false := bne_eq_false_iff_eq.mpr c3
  have c3b2 : (l0.length == l1.length) = true := by first | simpa using c3 | (simp at c3 ⊢; omega)
  clear c3
  have H' := A_ H
  clear H
  go_enter Tryz.func111, Tryz.ntmps111
  go_wp2
  go_loopg [5] k (fun kq v5 w' => ∃ (x5_1 : Int), v5 = .int .i64 x5_1 ∧ Aside0 (laws_eqStepS.l0 kq l0 l1 x5_1 = some r) ∧ Aside0 (kq ≤ k) ∧ Aside0 (Below w.heap.size w w'))
  case atStart => exact ⟨(0), eS, H', ⟨Nat.le_refl _⟩, ⟨oB HB⟩⟩
  case round =>
   clear H'
   try clear c1
   try clear p2
   try clear c3
   try clear c3b0
   try clear c3b1
   try clear c3b2
   obtain ⟨x5_1, rfl, HA, HK1, HB⟩ := hrel
   cases gk with
   | zero => exact absurd HA.out (by simp [laws_eqStepS.l0])
   | succ k1 =>
    have H := HA.out
    clear HA
    simp only [laws_eqStepS.l0] at H
    by_cases c4 : x5_1 < (l0.length : Int)
    ·rw [if_pos c4] at H
     have c4b0 : decide (x5_1 < (l0.length : Int)) = true := decide_eq_true c4
     clear c4
     by_cases c5 : 0 ≤ x5_1
     ·rw [if_pos c5] at H
      have c5b0 : decide (0 ≤ x5_1) = true := decide_eq_true c5
      clear c5
      by_cases c6 : x5_1 < (l1.length : Int)
      ·rw [if_pos c6] at H
       have c6b0 : decide (x5_1 < (l1.length : Int)) = true := decide_eq_true c6
       clear c6
       replace H := Option.bind_eq_some_iff.mp H
       obtain ⟨t1021, A70, H⟩ := H
       (try dsimp only at H)
       have A7 := A_ A70
       clear A70
       by_cases c8 : t1021 = true
       ·subst c8
        rw [if_pos rfl] at H
        have H' := A_ H
        clear H
        try go_wp2
        have n0_ := A_ (below_drew1 HB.out)
        clear HB
        have HB := n0_
        clear n0_
        have p1019 : 0 ≤ (x5_1 : Int) := oD
        have q1019 : x5_1 < (l0.length : Int) := oD
        obtain ⟨ad1019, e1019, hx1019_0, hx1019_1, hx1019_2, hx1019_3⟩ := at_T112 HR0.out x5_1 p1019 q1019
        have hw1019_3 := hx1019_3
        have hw1019_2 := hx1019_2
        have hw1019_1 := hx1019_1
        have hw1019_0 := hx1019_0
        cases e1019
        replace hx1019_0 := hW HB hx1019_0
        replace hx1019_1 := hW HB hx1019_1
        replace hx1019_2 := hW HB hx1019_2
        replace hx1019_3 := hW HB hx1019_3
        replace p1019 := eq_true p1019
        replace q1019 := eq_true q1019
        have p1020 : 0 ≤ (x5_1 : Int) := oD
        have q1020 : x5_1 < (l1.length : Int) := oD
        obtain ⟨ad1020, e1020, hx1020_0, hx1020_1, hx1020_2, hx1020_3⟩ := at_T112 HR1.out x5_1 p1020 q1020
        have hw1020_3 := hx1020_3
        have hw1020_2 := hx1020_2
        have hw1020_1 := hx1020_1
        have hw1020_0 := hx1020_0
        cases e1020
        replace hx1020_0 := hW HB hx1020_0
        replace hx1020_1 := hW HB hx1020_1
        replace hx1020_2 := hW HB hx1020_2
        replace hx1020_3 := hW HB hx1020_3
        replace p1020 := eq_true p1020
        replace q1020 := eq_true q1020
        refine start_ (n := 10) (S := fun w' => w'.cell? (ad1019.add ((x5_1).toNat * 4)) = some (.int .i64 ((rd_T112 l0 x5_1).f0)) ∧ w'.cell? ⟨(ad1019.add ((x5_1).toNat * 4)).block, (ad1019.add ((x5_1).toNat * 4)).off + 1, none⟩ = some (.int .i64 ((rd_T112 l0 x5_1).f1)) ∧ w'.cell? ⟨(ad1019.add ((x5_1).toNat * 4)).block, (ad1019.add ((x5_1).toNat * 4)).off + 2, none⟩ = some (.int .i64 ((rd_T112 l0 x5_1).f2)) ∧ w'.cell? ⟨(ad1019.add ((x5_1).toNat * 4)).block, (ad1019.add ((x5_1).toNat * 4)).off + 3, none⟩ = some (.int .i64 ((rd_T112 l0 x5_1).f3)) ∧ w'.cell? (ad1020.add ((x5_1).toNat * 4)) = some (.int .i64 ((rd_T112 l1 x5_1).f0)) ∧ w'.cell? ⟨(ad1020.add ((x5_1).toNat * 4)).block, (ad1020.add ((x5_1).toNat * 4)).off + 1, none⟩ = some (.int .i64 ((rd_T112 l1 x5_1).f1)) ∧ w'.cell? ⟨(ad1020.add ((x5_1).toNat * 4)).block, (ad1020.add ((x5_1).toNat * 4)).off + 2, none⟩ = some (.int .i64 ((rd_T112 l1 x5_1).f2)) ∧ w'.cell? ⟨(ad1020.add ((x5_1).toNat * 4)).block, (ad1020.add ((x5_1).toNat * 4)).off + 3, none⟩ = some (.int .i64 ((rd_T112 l1 x5_1).f3))) (ds := []) #[false, false, false, false, false, false, false, false, false, false] (by kernel_rfl) rfl rfl ⟨(hW HB hw1019_0), (hW HB hw1019_1), (hW HB hw1019_2), (hW HB hw1019_3), (hW HB hw1020_0), (hW HB hw1020_1), (hW HB hw1020_2), (hW HB hw1020_3)⟩ (fun hHeld => ?_); refine with_tabW laws_eqStepS.tab6 laws_eqStepS.bits6 (fun HT_ HW_ => ?_)
        generalize wr.drew = w9 at HB hx1019_0 hx1019_1 hx1019_2 hx1019_3 hx1020_0 hx1020_1 hx1020_2 hx1020_3 hHeld ⊢
        refine pA 0 (some 17) HT_.out ?_
        refine pA 1 (some 18) HT_.out ?_
        refine pA 2 (some 19) HT_.out ?_
        refine pA 4 (some 21) HT_.out ?_
        refine pA 5 (some 22) HT_.out ?_
        refine pA 6 (some 23) HT_.out ?_
        refine pT 3 (some 20) HT_.out HW_.out hHeld ?_
        refine pT 7 (some 24) HT_.out HW_.out hHeld ?_
        refine one_ (i := 8) (N := some 25) #[true, true, true, true, true, true, true, true, true, false] rfl rfl (one_of HT_.out (by kernel_rfl)) (by decide) (fun K hK => ?_)
        refine goes_ Tryz.func133 (by kernel_rfl) rfl #[.agg #[.int .i64 ((rd_T112 l0 x5_1).f0), .int .i64 ((rd_T112 l0 x5_1).f1), .int .i64 ((rd_T112 l0 x5_1).f2), .int .i64 ((rd_T112 l0 x5_1).f3)], .agg #[.int .i64 ((rd_T112 l1 x5_1).f0), .int .i64 ((rd_T112 l1 x5_1).f1), .int .i64 ((rd_T112 l1 x5_1).f2), .int .i64 ((rd_T112 l1 x5_1).f3)]] (by rfl) rfl rfl (by (try simp only [List.map_toArray, List.map_cons, List.map_nil]); first | done | rfl | (simp only [List.length_drop, List.length_take]; rfl)) ?_
        with_reducible refine (laws_eqStep.calls ((rd_T112 l0 x5_1).f0) ((rd_T112 l0 x5_1).f1) ((rd_T112 l0 x5_1).f2) ((rd_T112 l0 x5_1).f3) ((rd_T112 l1 x5_1).f0) ((rd_T112 l1 x5_1).f1) ((rd_T112 l1 x5_1).f2) ((rd_T112 l1 x5_1).f3) true _ A7.out).mono ?_
        rintro e w10 ⟨rfl, hb⟩
        refine ⟨_, rfl, ?_⟩
        have n0_ := A_ (below_step (oB HB) hb)
        clear HB
        have HB := n0_
        clear n0_
        (try clear hb)
        (try clear hb2)
        (try clear hk)
        (try clear hi)
        refine hK.out _ _ ⟨(hW HB hw1019_0), (hW HB hw1019_1), (hW HB hw1019_2), (hW HB hw1019_3), (hW HB hw1020_0), (hW HB hw1020_1), (hW HB hw1020_2), (hW HB hw1020_3)⟩ (fun hHeld => ?_)
        clear hK K
        refine norm_ (a' := ?_) ?_ ?_
        rotate_left
        ·show Act.put _ (some 25) _ = _
         simp only [Act.put, List.setIfInBounds_toArray, List.set_cons_zero, List.set_cons_succ, i64_w, i32_w]
         rfl
        refine pA 9 (some 26) HT_.out ?_
        refine done_ (done_of HT_.out (by kernel_rfl)) ?_
        try go_wp2
        go_roundg k1
        case measure => have := HK1.out; omega
        case rel => exact ⟨(wrap64 (x5_1 + 1)), eS, H', ⟨by have := HK1.out; omega⟩, ⟨oB HB⟩⟩
       ·replace c8 := Bool.eq_false_iff.mpr c8
        subst c8
        rw [if_neg (show ¬ (false = true) by decide)] at H
        obtain rfl := Option.some.inj H
        try go_wp2
        have n0_ := A_ (below_drew1 HB.out)
        clear HB
        have HB := n0_
        clear n0_
        have p1019 : 0 ≤ (x5_1 : Int) := oD
        have q1019 : x5_1 < (l0.length : Int) := oD
        obtain ⟨ad1019, e1019, hx1019_0, hx1019_1, hx1019_2, hx1019_3⟩ := at_T112 HR0.out x5_1 p1019 q1019
        have hw1019_3 := hx1019_3
        have hw1019_2 := hx1019_2
        have hw1019_1 := hx1019_1
        have hw1019_0 := hx1019_0
        cases e1019
        replace hx1019_0 := hW HB hx1019_0
        replace hx1019_1 := hW HB hx1019_1
        replace hx1019_2 := hW HB hx1019_2
        replace hx1019_3 := hW HB hx1019_3
        replace p1019 := eq_true p1019
        replace q1019 := eq_true q1019
        have p1020 : 0 ≤ (x5_1 : Int) := oD
        have q1020 : x5_1 < (l1.length : Int) := oD
        obtain ⟨ad1020, e1020, hx1020_0, hx1020_1, hx1020_2, hx1020_3⟩ := at_T112 HR1.out x5_1 p1020 q1020
        have hw1020_3 := hx1020_3
        have hw1020_2 := hx1020_2
        have hw1020_1 := hx1020_1
        have hw1020_0 := hx1020_0
        cases e1020
        replace hx1020_0 := hW HB hx1020_0
        replace hx1020_1 := hW HB hx1020_1
        replace hx1020_2 := hW HB hx1020_2
        replace hx1020_3 := hW HB hx1020_3
        replace p1020 := eq_true p1020
        replace q1020 := eq_true q1020
        refine start_ (n := 10) (S := fun w' => w'.cell? (ad1019.add ((x5_1).toNat * 4)) = some (.int .i64 ((rd_T112 l0 x5_1).f0)) ∧ w'.cell? ⟨(ad1019.add ((x5_1).toNat * 4)).block, (ad1019.add ((x5_1).toNat * 4)).off + 1, none⟩ = some (.int .i64 ((rd_T112 l0 x5_1).f1)) ∧ w'.cell? ⟨(ad1019.add ((x5_1).toNat * 4)).block, (ad1019.add ((x5_1).toNat * 4)).off + 2, none⟩ = some (.int .i64 ((rd_T112 l0 x5_1).f2)) ∧ w'.cell? ⟨(ad1019.add ((x5_1).toNat * 4)).block, (ad1019.add ((x5_1).toNat * 4)).off + 3, none⟩ = some (.int .i64 ((rd_T112 l0 x5_1).f3)) ∧ w'.cell? (ad1020.add ((x5_1).toNat * 4)) = some (.int .i64 ((rd_T112 l1 x5_1).f0)) ∧ w'.cell? ⟨(ad1020.add ((x5_1).toNat * 4)).block, (ad1020.add ((x5_1).toNat * 4)).off + 1, none⟩ = some (.int .i64 ((rd_T112 l1 x5_1).f1)) ∧ w'.cell? ⟨(ad1020.add ((x5_1).toNat * 4)).block, (ad1020.add ((x5_1).toNat * 4)).off + 2, none⟩ = some (.int .i64 ((rd_T112 l1 x5_1).f2)) ∧ w'.cell? ⟨(ad1020.add ((x5_1).toNat * 4)).block, (ad1020.add ((x5_1).toNat * 4)).off + 3, none⟩ = some (.int .i64 ((rd_T112 l1 x5_1).f3))) (ds := []) #[false, false, false, false, false, false, false, false, false, false] (by kernel_rfl) rfl rfl ⟨(hW HB hw1019_0), (hW HB hw1019_1), (hW HB hw1019_2), (hW HB hw1019_3), (hW HB hw1020_0), (hW HB hw1020_1), (hW HB hw1020_2), (hW HB hw1020_3)⟩ (fun hHeld => ?_); refine with_tabW laws_eqStepS.tab6 laws_eqStepS.bits6 (fun HT_ HW_ => ?_)
        generalize wr.drew = w11 at HB hx1019_0 hx1019_1 hx1019_2 hx1019_3 hx1020_0 hx1020_1 hx1020_2 hx1020_3 hHeld ⊢
        refine pA 0 (some 17) HT_.out ?_
        refine pA 1 (some 18) HT_.out ?_
        refine pA 2 (some 19) HT_.out ?_
        refine pA 4 (some 21) HT_.out ?_
        refine pA 5 (some 22) HT_.out ?_
        refine pA 6 (some 23) HT_.out ?_
        refine pT 3 (some 20) HT_.out HW_.out hHeld ?_
        refine pT 7 (some 24) HT_.out HW_.out hHeld ?_
        refine one_ (i := 8) (N := some 25) #[true, true, true, true, true, true, true, true, true, false] rfl rfl (one_of HT_.out (by kernel_rfl)) (by decide) (fun K hK => ?_)
        refine goes_ Tryz.func133 (by kernel_rfl) rfl #[.agg #[.int .i64 ((rd_T112 l0 x5_1).f0), .int .i64 ((rd_T112 l0 x5_1).f1), .int .i64 ((rd_T112 l0 x5_1).f2), .int .i64 ((rd_T112 l0 x5_1).f3)], .agg #[.int .i64 ((rd_T112 l1 x5_1).f0), .int .i64 ((rd_T112 l1 x5_1).f1), .int .i64 ((rd_T112 l1 x5_1).f2), .int .i64 ((rd_T112 l1 x5_1).f3)]] (by rfl) rfl rfl (by (try simp only [List.map_toArray, List.map_cons, List.map_nil]); first | done | rfl | (simp only [List.length_drop, List.length_take]; rfl)) ?_
        with_reducible refine (laws_eqStep.calls ((rd_T112 l0 x5_1).f0) ((rd_T112 l0 x5_1).f1) ((rd_T112 l0 x5_1).f2) ((rd_T112 l0 x5_1).f3) ((rd_T112 l1 x5_1).f0) ((rd_T112 l1 x5_1).f1) ((rd_T112 l1 x5_1).f2) ((rd_T112 l1 x5_1).f3) false _ A7.out).mono ?_
        rintro e w12 ⟨rfl, hb⟩
        refine ⟨_, rfl, ?_⟩
        have n0_ := A_ (below_step (oB HB) hb)
        clear HB
        have HB := n0_
        clear n0_
        (try clear hb)
        (try clear hb2)
        (try clear hk)
        (try clear hi)
        refine hK.out _ _ ⟨(hW HB hw1019_0), (hW HB hw1019_1), (hW HB hw1019_2), (hW HB hw1019_3), (hW HB hw1020_0), (hW HB hw1020_1), (hW HB hw1020_2), (hW HB hw1020_3)⟩ (fun hHeld => ?_)
        clear hK K
        refine norm_ (a' := ?_) ?_ ?_
        rotate_left
        ·show Act.put _ (some 25) _ = _
         simp only [Act.put, List.setIfInBounds_toArray, List.set_cons_zero, List.set_cons_succ, i64_w, i32_w]
         rfl
        refine pA 9 (some 26) HT_.out ?_
        refine done_ (done_of HT_.out (by kernel_rfl)) ?_
        try go_wp2
        go_ret
        exact ⟨eR, oB HB⟩
      ·rw [if_neg c6] at H
       exact absurd H (by simp)
     ·rw [if_neg c5] at H
      exact absurd H (by simp)
    ·rw [if_neg c4] at H
     have c4b0 : decide (x5_1 < (l0.length : Int)) = false := decide_eq_false c4
     clear c4
     obtain rfl := Option.some.inj H
     go_wp2
     go_ret
     exact ⟨eR, oB HB⟩
 ·rw [if_neg c3] at H
  have c3b0 : ((l0.length : Int) == (l1.length : Int)) = false := beq_eq_false_iff_ne.mpr c3
  have c3b1 : ((l0.length : Int) != (l1.length : Int)) = true := bne_iff_ne.mpr c3
  have c3b2 : (l0.length == l1.length) = false := by first | simpa using c3 | (simp at c3 ⊢; omega)
  obtain rfl := Option.some.inj H
  go_enter Tryz.func111, Tryz.ntmps111
  go_wp2
  go_ret
  exact ⟨eR, oB HB⟩
def laws_eqEntryS.l0 : Nat → List (S104) → List (S104) → Int → Option (Bool)
 | 0, _, _, _ => none
 | k + 1, x0, x1, x5 => if x5 < (x0.length : Int) then (if 0 ≤ x5 then (if x5 < (x1.length : Int) then ((laws_eqEntry.f ((rd_T104 x0 x5).f0.f0) ((rd_T104 x0 x5).f0.f1) ((rd_T104 x0 x5).f1) ((rd_T104 x0 x5).f2) ((rd_T104 x1 x5).f0.f0) ((rd_T104 x1 x5).f0.f1) ((rd_T104 x1 x5).f1) ((rd_T104 x1 x5).f2)).bind fun t1033 => (if t1033 = true then (laws_eqEntryS.l0 k x0 x1 (wrap64 (x5 + 1))) else (some false))) else (none)) else (none)) else (some true)
def laws_eqEntryS.f (k : Nat) (l0 : List (S104)) (l1 : List (S104)) : Option (Bool) := if (l0.length : Int) = (l1.length : Int) then (laws_eqEntryS.l0 k l0 l1 0) else (some false)
def laws_eqEntryS.T6 : Bool × List (List Nat × List Nat) := (true, [([], []), ([], []), ([0, 1], [0, 1]), ([2], [2]), ([], []), ([], []), ([4, 5], [4, 5]), ([6], [6]), ([3, 7], [3, 7]), ([8], [8])])
def laws_eqEntryS.B6 : List Nat := [0, 0, 3, 7, 0, 0, 48, 112, 255, 511]
theorem laws_eqEntryS.tab6 : rtab .any (opsOf Tryz.f64 6) = laws_eqEntryS.T6 := by kernel_rfl
theorem laws_eqEntryS.bits6 : waitsOk laws_eqEntryS.T6.2 laws_eqEntryS.B6 = true := by kernel_rfl
theorem laws_eqEntryS.calls (k : Nat) (A0 : Option Addr) (c0 : Nat) (l0 : List (S104)) (A1 : Option Addr) (c1 : Nat) (l1 : List (S104)) (r : Bool) (w : World) (hr0 : Kd.C k104 w A0 l0.length l0) (hc0 : l0.length ≤ c0) (hr1 : Kd.C k104 w A1 l1.length l1) (hc1 : l1.length ≤ c1) (h : laws_eqEntryS.f k l0 l1 = some r) :
  Calls Tryz.prog 64 #[.slice A0 l0.length c0, .slice A1 l1.length c1] w fun e w' => e = .returned (.bool r) ∧ Below w.heap.size w w' := by
 have hu104 := Tryz.underlying104
 have HR0 := A_ hr0
 have HC0 := A_ hc0
 clear hr0 hc0
 have HR1 := A_ hr1
 have HC1 := A_ hc1
 clear hr1 hc1
 have HB := A_ (Below.refl w.heap.size w)
 have H : (if (l0.length : Int) = (l1.length : Int) then (laws_eqEntryS.l0 k l0 l1 0) else (some false)) = some r := h
 clear h
 by_cases c3 : (l0.length : Int) = (l1.length : Int)
 ·rw [if_pos c3] at H
  have c3b0 : ((l0.length : Int) == (l1.length : Int)) = true := beq_iff_eq.mpr c3
  have c3b1 : ((l0.length : Int) != (l1.length : Int)) = false := bne_eq_false_iff_eq.mpr c3
  have c3b2 : (l0.length == l1.length) = true := by first | simpa using c3 | (simp at c3 ⊢; omega)
  clear c3
  have H' := A_ H
  clear H
  go_enter Tryz.func64, Tryz.ntmps64
  go_wp2
  go_loopg [5] k (fun kq v5 w' => ∃ (x5_1 : Int), v5 = .int .i64 x5_1 ∧ Aside0 (laws_eqEntryS.l0 kq l0 l1 x5_1 = some r) ∧ Aside0 (kq ≤ k) ∧ Aside0 (Below w.heap.size w w'))
  case atStart => exact ⟨(0), eS, H', ⟨Nat.le_refl _⟩, ⟨oB HB⟩⟩
  case round =>
   clear H'
   try clear c1
   try clear p2
   try clear c3
   try clear c3b0
   try clear c3b1
   try clear c3b2
   obtain ⟨x5_1, rfl, HA, HK1, HB⟩ := hrel
   cases gk with
   | zero => exact absurd HA.out (by simp [laws_eqEntryS.l0])
   | succ k1 =>
    have H := HA.out
    clear HA
    simp only [laws_eqEntryS.l0] at H
    by_cases c4 : x5_1 < (l0.length : Int)
    ·rw [if_pos c4] at H
     have c4b0 : decide (x5_1 < (l0.length : Int)) = true := decide_eq_true c4
     clear c4
     by_cases c5 : 0 ≤ x5_1
     ·rw [if_pos c5] at H
      have c5b0 : decide (0 ≤ x5_1) = true := decide_eq_true c5
      clear c5
      by_cases c6 : x5_1 < (l1.length : Int)
      ·rw [if_pos c6] at H
       have c6b0 : decide (x5_1 < (l1.length : Int)) = true := decide_eq_true c6
       clear c6
       replace H := Option.bind_eq_some_iff.mp H
       obtain ⟨t1033, A70, H⟩ := H
       (try dsimp only at H)
       have A7 := A_ A70
       clear A70
       by_cases c8 : t1033 = true
       ·subst c8
        rw [if_pos rfl] at H
        have H' := A_ H
        clear H
        try go_wp2
        have n0_ := A_ (below_drew1 HB.out)
        clear HB
        have HB := n0_
        clear n0_
        have p1031 : 0 ≤ (x5_1 : Int) := oD
        have q1031 : x5_1 < (l0.length : Int) := oD
        obtain ⟨ad1031, e1031, hx1031_0, hx1031_1, hx1031_2, hx1031_3⟩ := at_T104 HR0.out x5_1 p1031 q1031
        have hw1031_3 := hx1031_3
        have hw1031_2 := hx1031_2
        have hw1031_1 := hx1031_1
        have hw1031_0 := hx1031_0
        cases e1031
        replace hx1031_0 := hW HB hx1031_0
        replace hx1031_1 := hW HB hx1031_1
        replace hx1031_2 := hW HB hx1031_2
        replace hx1031_3 := hW HB hx1031_3
        replace p1031 := eq_true p1031
        replace q1031 := eq_true q1031
        have p1032 : 0 ≤ (x5_1 : Int) := oD
        have q1032 : x5_1 < (l1.length : Int) := oD
        obtain ⟨ad1032, e1032, hx1032_0, hx1032_1, hx1032_2, hx1032_3⟩ := at_T104 HR1.out x5_1 p1032 q1032
        have hw1032_3 := hx1032_3
        have hw1032_2 := hx1032_2
        have hw1032_1 := hx1032_1
        have hw1032_0 := hx1032_0
        cases e1032
        replace hx1032_0 := hW HB hx1032_0
        replace hx1032_1 := hW HB hx1032_1
        replace hx1032_2 := hW HB hx1032_2
        replace hx1032_3 := hW HB hx1032_3
        replace p1032 := eq_true p1032
        replace q1032 := eq_true q1032
        refine start_ (n := 10) (S := fun w' => w'.cell? (ad1031.add ((x5_1).toNat * 4)) = some (.int .i64 ((rd_T104 l0 x5_1).f0.f0)) ∧ w'.cell? ⟨(ad1031.add ((x5_1).toNat * 4)).block, (ad1031.add ((x5_1).toNat * 4)).off + 1, none⟩ = some (.int .i64 ((rd_T104 l0 x5_1).f0.f1)) ∧ w'.cell? ⟨(ad1031.add ((x5_1).toNat * 4)).block, (ad1031.add ((x5_1).toNat * 4)).off + 2, none⟩ = some (.int .i64 ((rd_T104 l0 x5_1).f1)) ∧ w'.cell? ⟨(ad1031.add ((x5_1).toNat * 4)).block, (ad1031.add ((x5_1).toNat * 4)).off + 3, none⟩ = some (.int .i64 ((rd_T104 l0 x5_1).f2)) ∧ w'.cell? (ad1032.add ((x5_1).toNat * 4)) = some (.int .i64 ((rd_T104 l1 x5_1).f0.f0)) ∧ w'.cell? ⟨(ad1032.add ((x5_1).toNat * 4)).block, (ad1032.add ((x5_1).toNat * 4)).off + 1, none⟩ = some (.int .i64 ((rd_T104 l1 x5_1).f0.f1)) ∧ w'.cell? ⟨(ad1032.add ((x5_1).toNat * 4)).block, (ad1032.add ((x5_1).toNat * 4)).off + 2, none⟩ = some (.int .i64 ((rd_T104 l1 x5_1).f1)) ∧ w'.cell? ⟨(ad1032.add ((x5_1).toNat * 4)).block, (ad1032.add ((x5_1).toNat * 4)).off + 3, none⟩ = some (.int .i64 ((rd_T104 l1 x5_1).f2))) (ds := []) #[false, false, false, false, false, false, false, false, false, false] (by kernel_rfl) rfl rfl ⟨(hW HB hw1031_0), (hW HB hw1031_1), (hW HB hw1031_2), (hW HB hw1031_3), (hW HB hw1032_0), (hW HB hw1032_1), (hW HB hw1032_2), (hW HB hw1032_3)⟩ (fun hHeld => ?_); refine with_tabW laws_eqEntryS.tab6 laws_eqEntryS.bits6 (fun HT_ HW_ => ?_)
        generalize wr.drew = w9 at HB hx1031_0 hx1031_1 hx1031_2 hx1031_3 hx1032_0 hx1032_1 hx1032_2 hx1032_3 hHeld ⊢
        refine pA 0 (some 17) HT_.out ?_
        refine pA 1 (some 18) HT_.out ?_
        refine pA 2 (some 19) HT_.out ?_
        refine pA 4 (some 21) HT_.out ?_
        refine pA 5 (some 22) HT_.out ?_
        refine pA 6 (some 23) HT_.out ?_
        refine pT 3 (some 20) HT_.out HW_.out hHeld ?_
        refine pT 7 (some 24) HT_.out HW_.out hHeld ?_
        refine one_ (i := 8) (N := some 25) #[true, true, true, true, true, true, true, true, true, false] rfl rfl (one_of HT_.out (by kernel_rfl)) (by decide) (fun K hK => ?_)
        refine goes_ Tryz.func112 (by kernel_rfl) rfl #[.agg #[.int .i64 ((rd_T104 l0 x5_1).f0.f0), .int .i64 ((rd_T104 l0 x5_1).f0.f1), .int .i64 ((rd_T104 l0 x5_1).f1), .int .i64 ((rd_T104 l0 x5_1).f2)], .agg #[.int .i64 ((rd_T104 l1 x5_1).f0.f0), .int .i64 ((rd_T104 l1 x5_1).f0.f1), .int .i64 ((rd_T104 l1 x5_1).f1), .int .i64 ((rd_T104 l1 x5_1).f2)]] (by rfl) rfl rfl (by (try simp only [List.map_toArray, List.map_cons, List.map_nil]); first | done | rfl | (simp only [List.length_drop, List.length_take]; rfl)) ?_
        with_reducible refine (laws_eqEntry.calls ((rd_T104 l0 x5_1).f0.f0) ((rd_T104 l0 x5_1).f0.f1) ((rd_T104 l0 x5_1).f1) ((rd_T104 l0 x5_1).f2) ((rd_T104 l1 x5_1).f0.f0) ((rd_T104 l1 x5_1).f0.f1) ((rd_T104 l1 x5_1).f1) ((rd_T104 l1 x5_1).f2) true _ A7.out).mono ?_
        rintro e w10 ⟨rfl, hb⟩
        refine ⟨_, rfl, ?_⟩
        have n0_ := A_ (below_step (oB HB) hb)
        clear HB
        have HB := n0_
        clear n0_
        (try clear hb)
        (try clear hb2)
        (try clear hk)
        (try clear hi)
        refine hK.out _ _ ⟨(hW HB hw1031_0), (hW HB hw1031_1), (hW HB hw1031_2), (hW HB hw1031_3), (hW HB hw1032_0), (hW HB hw1032_1), (hW HB hw1032_2), (hW HB hw1032_3)⟩ (fun hHeld => ?_)
        clear hK K
        refine norm_ (a' := ?_) ?_ ?_
        rotate_left
        ·show Act.put _ (some 25) _ = _
         simp only [Act.put, List.setIfInBounds_toArray, List.set_cons_zero, List.set_cons_succ, i64_w, i32_w]
         rfl
        refine pA 9 (some 26) HT_.out ?_
        refine done_ (done_of HT_.out (by kernel_rfl)) ?_
        try go_wp2
        go_roundg k1
        case measure => have := HK1.out; omega
        case rel => exact ⟨(wrap64 (x5_1 + 1)), eS, H', ⟨by have := HK1.out; omega⟩, ⟨oB HB⟩⟩
       ·replace c8 := Bool.eq_false_iff.mpr c8
        subst c8
        rw [if_neg (show ¬ (false = true) by decide)] at H
        obtain rfl := Option.some.inj H
        try go_wp2
        have n0_ := A_ (below_drew1 HB.out)
        clear HB
        have HB := n0_
        clear n0_
        have p1031 : 0 ≤ (x5_1 : Int) := oD
        have q1031 : x5_1 < (l0.length : Int) := oD
        obtain ⟨ad1031, e1031, hx1031_0, hx1031_1, hx1031_2, hx1031_3⟩ := at_T104 HR0.out x5_1 p1031 q1031
        have hw1031_3 := hx1031_3
        have hw1031_2 := hx1031_2
        have hw1031_1 := hx1031_1
        have hw1031_0 := hx1031_0
        cases e1031
        replace hx1031_0 := hW HB hx1031_0
        replace hx1031_1 := hW HB hx1031_1
        replace hx1031_2 := hW HB hx1031_2
        replace hx1031_3 := hW HB hx1031_3
        replace p1031 := eq_true p1031
        replace q1031 := eq_true q1031
        have p1032 : 0 ≤ (x5_1 : Int) := oD
        have q1032 : x5_1 < (l1.length : Int) := oD
        obtain ⟨ad1032, e1032, hx1032_0, hx1032_1, hx1032_2, hx1032_3⟩ := at_T104 HR1.out x5_1 p1032 q1032
        have hw1032_3 := hx1032_3
        have hw1032_2 := hx1032_2
        have hw1032_1 := hx1032_1
        have hw1032_0 := hx1032_0
        cases e1032
        replace hx1032_0 := hW HB hx1032_0
        replace hx1032_1 := hW HB hx1032_1
        replace hx1032_2 := hW HB hx1032_2
        replace hx1032_3 := hW HB hx1032_3
        replace p1032 := eq_true p1032
        replace q1032 := eq_true q1032
        refine start_ (n := 10) (S := fun w' => w'.cell? (ad1031.add ((x5_1).toNat * 4)) = some (.int .i64 ((rd_T104 l0 x5_1).f0.f0)) ∧ w'.cell? ⟨(ad1031.add ((x5_1).toNat * 4)).block, (ad1031.add ((x5_1).toNat * 4)).off + 1, none⟩ = some (.int .i64 ((rd_T104 l0 x5_1).f0.f1)) ∧ w'.cell? ⟨(ad1031.add ((x5_1).toNat * 4)).block, (ad1031.add ((x5_1).toNat * 4)).off + 2, none⟩ = some (.int .i64 ((rd_T104 l0 x5_1).f1)) ∧ w'.cell? ⟨(ad1031.add ((x5_1).toNat * 4)).block, (ad1031.add ((x5_1).toNat * 4)).off + 3, none⟩ = some (.int .i64 ((rd_T104 l0 x5_1).f2)) ∧ w'.cell? (ad1032.add ((x5_1).toNat * 4)) = some (.int .i64 ((rd_T104 l1 x5_1).f0.f0)) ∧ w'.cell? ⟨(ad1032.add ((x5_1).toNat * 4)).block, (ad1032.add ((x5_1).toNat * 4)).off + 1, none⟩ = some (.int .i64 ((rd_T104 l1 x5_1).f0.f1)) ∧ w'.cell? ⟨(ad1032.add ((x5_1).toNat * 4)).block, (ad1032.add ((x5_1).toNat * 4)).off + 2, none⟩ = some (.int .i64 ((rd_T104 l1 x5_1).f1)) ∧ w'.cell? ⟨(ad1032.add ((x5_1).toNat * 4)).block, (ad1032.add ((x5_1).toNat * 4)).off + 3, none⟩ = some (.int .i64 ((rd_T104 l1 x5_1).f2))) (ds := []) #[false, false, false, false, false, false, false, false, false, false] (by kernel_rfl) rfl rfl ⟨(hW HB hw1031_0), (hW HB hw1031_1), (hW HB hw1031_2), (hW HB hw1031_3), (hW HB hw1032_0), (hW HB hw1032_1), (hW HB hw1032_2), (hW HB hw1032_3)⟩ (fun hHeld => ?_); refine with_tabW laws_eqEntryS.tab6 laws_eqEntryS.bits6 (fun HT_ HW_ => ?_)
        generalize wr.drew = w11 at HB hx1031_0 hx1031_1 hx1031_2 hx1031_3 hx1032_0 hx1032_1 hx1032_2 hx1032_3 hHeld ⊢
        refine pA 0 (some 17) HT_.out ?_
        refine pA 1 (some 18) HT_.out ?_
        refine pA 2 (some 19) HT_.out ?_
        refine pA 4 (some 21) HT_.out ?_
        refine pA 5 (some 22) HT_.out ?_
        refine pA 6 (some 23) HT_.out ?_
        refine pT 3 (some 20) HT_.out HW_.out hHeld ?_
        refine pT 7 (some 24) HT_.out HW_.out hHeld ?_
        refine one_ (i := 8) (N := some 25) #[true, true, true, true, true, true, true, true, true, false] rfl rfl (one_of HT_.out (by kernel_rfl)) (by decide) (fun K hK => ?_)
        refine goes_ Tryz.func112 (by kernel_rfl) rfl #[.agg #[.int .i64 ((rd_T104 l0 x5_1).f0.f0), .int .i64 ((rd_T104 l0 x5_1).f0.f1), .int .i64 ((rd_T104 l0 x5_1).f1), .int .i64 ((rd_T104 l0 x5_1).f2)], .agg #[.int .i64 ((rd_T104 l1 x5_1).f0.f0), .int .i64 ((rd_T104 l1 x5_1).f0.f1), .int .i64 ((rd_T104 l1 x5_1).f1), .int .i64 ((rd_T104 l1 x5_1).f2)]] (by rfl) rfl rfl (by (try simp only [List.map_toArray, List.map_cons, List.map_nil]); first | done | rfl | (simp only [List.length_drop, List.length_take]; rfl)) ?_
        with_reducible refine (laws_eqEntry.calls ((rd_T104 l0 x5_1).f0.f0) ((rd_T104 l0 x5_1).f0.f1) ((rd_T104 l0 x5_1).f1) ((rd_T104 l0 x5_1).f2) ((rd_T104 l1 x5_1).f0.f0) ((rd_T104 l1 x5_1).f0.f1) ((rd_T104 l1 x5_1).f1) ((rd_T104 l1 x5_1).f2) false _ A7.out).mono ?_
        rintro e w12 ⟨rfl, hb⟩
        refine ⟨_, rfl, ?_⟩
        have n0_ := A_ (below_step (oB HB) hb)
        clear HB
        have HB := n0_
        clear n0_
        (try clear hb)
        (try clear hb2)
        (try clear hk)
        (try clear hi)
        refine hK.out _ _ ⟨(hW HB hw1031_0), (hW HB hw1031_1), (hW HB hw1031_2), (hW HB hw1031_3), (hW HB hw1032_0), (hW HB hw1032_1), (hW HB hw1032_2), (hW HB hw1032_3)⟩ (fun hHeld => ?_)
        clear hK K
        refine norm_ (a' := ?_) ?_ ?_
        rotate_left
        ·show Act.put _ (some 25) _ = _
         simp only [Act.put, List.setIfInBounds_toArray, List.set_cons_zero, List.set_cons_succ, i64_w, i32_w]
         rfl
        refine pA 9 (some 26) HT_.out ?_
        refine done_ (done_of HT_.out (by kernel_rfl)) ?_
        try go_wp2
        go_ret
        exact ⟨eR, oB HB⟩
      ·rw [if_neg c6] at H
       exact absurd H (by simp)
     ·rw [if_neg c5] at H
      exact absurd H (by simp)
    ·rw [if_neg c4] at H
     have c4b0 : decide (x5_1 < (l0.length : Int)) = false := decide_eq_false c4
     clear c4
     obtain rfl := Option.some.inj H
     go_wp2
     go_ret
     exact ⟨eR, oB HB⟩
 ·rw [if_neg c3] at H
  have c3b0 : ((l0.length : Int) == (l1.length : Int)) = false := beq_eq_false_iff_ne.mpr c3
  have c3b1 : ((l0.length : Int) != (l1.length : Int)) = true := bne_iff_ne.mpr c3
  have c3b2 : (l0.length == l1.length) = false := by first | simpa using c3 | (simp at c3 ⊢; omega)
  obtain rfl := Option.some.inj H
  go_enter Tryz.func64, Tryz.ntmps64
  go_wp2
  go_ret
  exact ⟨eR, oB HB⟩
def laws_toActS.l0 : Nat → List (S30) → List (S41) → Int → Option ((List (S41)))
 | 0, _, _, _ => none
 | k + 1, x0, x3, x4 => if x4 < (x0.length : Int) then (if 0 ≤ x4 then ((laws_toAct.f ((rd_T30 x0 x4).f0) ((rd_T30 x0 x4).f1) ((rd_T30 x0 x4).f2) ((rd_T30 x0 x4).f3)).bind fun bt1234 => (if x4 < (x3.length : Int) then (laws_toActS.l0 k x0 (x3.set (x4 : Int).toNat (⟨bt1234.1, bt1234.2.1, bt1234.2.2.1, bt1234.2.2.2⟩ : S41)) (wrap64 (x4 + 1))) else (none))) else (none)) else (some x3)
def laws_toActS.f (k : Nat) (l0 : List (S30)) : Option ((List (S41))) := if 0 ≤ (l0.length : Int) then (if ((l0.length : Int) : Int).toNat ≤ 8796093022208 then (laws_toActS.l0 k l0 (List.replicate ((l0.length : Int) : Int).toNat z41) 0) else (none)) else (none)
theorem laws_toActS.calls (k : Nat) (A0 : Option Addr) (c0 : Nat) (l0 : List (S30)) (r : List (S41)) (w : World) (hr0 : Kd.C k30 w A0 l0.length l0) (hc0 : l0.length ≤ c0) (h : laws_toActS.f k l0 = some r) :
  Calls Tryz.prog 19 #[.slice A0 l0.length c0] w fun e w' => ∃ v0_ : Value, e = .returned (v0_) ∧ Kd.R k41 41 w' w.heap.size (fun _ => True) v0_ r ∧ Below w.heap.size w w' := by
 have hu30 := Tryz.underlying30
 have hu41 := Tryz.underlying41
 have HR0 := A_ hr0
 have HC0 := A_ hc0
 clear hr0 hc0
 have HB := A_ (Below.refl w.heap.size w)
 have H : (if 0 ≤ (l0.length : Int) then (if ((l0.length : Int) : Int).toNat ≤ 8796093022208 then (laws_toActS.l0 k l0 (List.replicate ((l0.length : Int) : Int).toNat z41) 0) else (none)) else (none)) = some r := h
 clear h
 by_cases c2 : 0 ≤ (l0.length : Int)
 ·rw [if_pos c2] at H
  have c2b0 := eq_true c2
  have c2b1 : decide (0 ≤ (l0.length : Int)) = true := decide_eq_true c2
  clear c2
  by_cases c3 : ((l0.length : Int) : Int).toNat ≤ 8796093022208
  ·rw [if_pos c3] at H
   have c3b0 := eq_true c3
   have c3b1 : decide (((l0.length : Int) : Int).toNat ≤ 8796093022208) = true := decide_eq_true c3
   clear c3
   obtain ⟨y1230, hy1230⟩ : ∃ y_ : List (S41), y_ = (List.replicate ((l0.length : Int) : Int).toNat z41) := ⟨_, rfl⟩
   replace H : (laws_toActS.l0 k l0 y1230 0) = some r := by first | (rw [hy1230]; with_reducible exact H) | (have H2_ := (Option.bind_some _ _).symm.trans H; rw [hy1230]; with_reducible exact H2_) | (have H2_ := (Option.bind_some _ _).symm.trans H; with_reducible exact H2_) | with_reducible exact H | (rw [hy1230]; exact H) | exact H
   have Ny1230 := A_ hy1230
   clear hy1230
   have H' := A_ H
   clear H
   go_enter Tryz.func19, Tryz.ntmps19
   go_wp2_with (first | ((with_reducible refine gate_dst (N := 7) rfl ?_); refine Kd.R_make k41 _ 41 rfl (N := 7) rfl 50 _ _ rfl (l0.length : Int) rfl rfl Tryz.underlying50 (.agg #[(.int .i64 0), (.int .i64 0), (.int .i64 0), (.int .i64 0)]) 32 info41 rfl (by decide) (by omega) z41 (ok := fun _ => True) (okp := fun _ => True) (k41_mkM _ _ _ z41 ) (fun _ hk => hk) trivial (oD) (Nat.le_trans (Nat.mul_le_mul_right _ (oD : (l0.length : Int).toNat ≤ 8796093022208)) (by omega)) (Below.refl _ _) (Nat.le_refl _) ?_; intro v1231 w4 ho5 hb hg_ hnew_; clear hg_ hnew_; (first | rw [← Ny1230.out] at ho5 | (simp only [Int.reduceToNat] at ho5; rw [← Ny1230.out] at ho5)); have n0_ := A_ (Kd.R_lower ho5 (below_size (oB HB))); have n1_ := A_ (below_step (oB HB) hb); clear HB; have HO1232 := n0_; have HB := n1_; clear n0_ n1_; clear hb ho5))
   go_loopg [4] k (fun kq v4 w' => ∃ (x3_1 : List (S41)) (x4_1 : Int), v4 = .int .i64 x4_1 ∧ Aside0 (laws_toActS.l0 kq l0 x3_1 x4_1 = some r) ∧ Aside0 (kq ≤ k) ∧ Aside0 (Kd.R k41 41 w' w.heap.size (fun _ => True) v1231 x3_1) ∧ Aside0 (Below w.heap.size w w'))
   case atStart => exact ⟨(y1230), (0), eS, H', ⟨Nat.le_refl _⟩, ⟨oR HO1232⟩, ⟨oB HB⟩⟩
   case round =>
    clear H'
    try clear c1
    try clear c2
    try clear c2b0
    try clear c2b1
    try clear p2
    try clear c3
    try clear c3b0
    try clear c3b1
    obtain ⟨x3_1, x4_1, rfl, HA, HK1, HO_3, HB⟩ := hrel
    cases gk with
    | zero => exact absurd HA.out (by simp [laws_toActS.l0])
    | succ k1 =>
     have H := HA.out
     clear HA
     simp only [laws_toActS.l0] at H
     by_cases c6 : x4_1 < (l0.length : Int)
     ·rw [if_pos c6] at H
      have c6b0 : decide (x4_1 < (l0.length : Int)) = true := decide_eq_true c6
      clear c6
      by_cases c7 : 0 ≤ x4_1
      ·rw [if_pos c7] at H
       have c7b0 : decide (0 ≤ x4_1) = true := decide_eq_true c7
       clear c7
       replace H := Option.bind_eq_some_iff.mp H
       obtain ⟨⟨t1234, t1235, t1236, t1237⟩, A80, H⟩ := H
       (try dsimp only at H)
       have A8 := A_ A80
       clear A80
       by_cases c9 : x4_1 < (x3_1.length : Int)
       ·rw [if_pos c9] at H
        have c9b0 : decide (x4_1 < (x3_1.length : Int)) = true := decide_eq_true c9
        clear c9
        obtain ⟨y1238, hy1238⟩ : ∃ y_ : List (S41), y_ = (x3_1.set (x4_1 : Int).toNat (⟨t1234, t1235, t1236, t1237⟩ : S41)) := ⟨_, rfl⟩
        replace H : (laws_toActS.l0 k1 l0 y1238 (wrap64 (x4_1 + 1))) = some r := by first | (rw [hy1238]; with_reducible exact H) | (have H2_ := (Option.bind_some _ _).symm.trans H; rw [hy1238]; with_reducible exact H2_) | (have H2_ := (Option.bind_some _ _).symm.trans H; with_reducible exact H2_) | with_reducible exact H | (rw [hy1238]; exact H) | exact H
        have Ny1238 := A_ hy1238
        clear hy1238
        have H' := A_ H
        clear H
        have p1233 : 0 ≤ (x4_1 : Int) := oD
        have q1233 : x4_1 < (l0.length : Int) := oD
        obtain ⟨ad1233, e1233, hx1233_0, hx1233_1, hx1233_2, hx1233_3⟩ := at_T30 HR0.out x4_1 p1233 q1233
        cases e1233
        replace hx1233_0 := hW HB hx1233_0
        replace hx1233_1 := hW HB hx1233_1
        replace hx1233_2 := hW HB hx1233_2
        replace hx1233_3 := hW HB hx1233_3
        replace p1233 := eq_true p1233
        replace q1233 := eq_true q1233
        go_wp2_with (first | ((with_reducible refine gate_callee (f := 12) rfl ?_); refine gL (some 20) Tryz.func12 #[.agg #[.int .i64 ((rd_T30 l0 x4_1).f0), .int .i64 ((rd_T30 l0 x4_1).f1), .int .i64 ((rd_T30 l0 x4_1).f2), .int .i64 ((rd_T30 l0 x4_1).f3)]] ?_; (with_reducible refine (laws_toAct.calls ((rd_T30 l0 x4_1).f0) ((rd_T30 l0 x4_1).f1) ((rd_T30 l0 x4_1).f2) ((rd_T30 l0 x4_1).f3) t1234 t1235 t1236 t1237 _ A8.out).mono ?_); rintro e w11 ⟨rfl, hb⟩; refine ⟨_, rfl, ?_⟩; have n0_ := A_ (Kd.R_below (oR HO_3) hb); have n1_ := A_ (below_step (oB HB) hb); clear HO_3; clear HB; have HO_3 := n0_; have HB := n1_; clear n0_ n1_; (try clear hb); (try clear hb2); (try clear hk); (try clear hi); have p10 : 0 ≤ (x4_1 : Int) := oD; have q10 : (x4_1 : Int) < ((x3_1.length : Int) : Int) := oD; obtain ⟨go10, co10, eo10, gb10, gl10, cl10, HG10⟩ := Kd.R_form HO_3.out (by omega); (first | cases eo10 | (injection eo10 with ea_ en_ ec_; (first | subst ea_ | (injection ea_ with ea_; subst ea_)); subst ec_; clear en_)); have GB10 := A_ gb10; have GG10 := A_ HG10; clear gb10 gl10 HG10; obtain ⟨ce10, hcl10, hM10, hcc10, hfr10⟩ := Kd.R_elem HO_3.out z41 (x4_1 : Int) p10 q10; obtain rfl := k41_openM hM10; have hx10_0 : w11.cell? ⟨go10, (x4_1 : Int).toNat * 4, none⟩ = some (.int .i64 ((rd_T41 x3_1 x4_1).f0)) := hcc10 0 _ rfl; have hx10_1 : w11.cell? ⟨go10, (x4_1 : Int).toNat * 4 + 1, none⟩ = some (.int .i64 ((rd_T41 x3_1 x4_1).f1)) := hcc10 1 _ rfl; have hx10_2 : w11.cell? ⟨go10, (x4_1 : Int).toNat * 4 + 2, none⟩ = some (.int .i64 ((rd_T41 x3_1 x4_1).f2)) := hcc10 2 _ rfl; have hx10_3 : w11.cell? ⟨go10, (x4_1 : Int).toNat * 4 + 3, none⟩ = some (.int .i64 ((rd_T41 x3_1 x4_1).f3)) := hcc10 3 _ rfl; have hf10_0 : w11.frozen? ⟨go10, (x4_1 : Int).toNat * 4, none⟩ = false := hfr10 0; have hf10_1 : w11.frozen? ⟨go10, (x4_1 : Int).toNat * 4 + 1, none⟩ = false := hfr10 1; have hf10_2 : w11.frozen? ⟨go10, (x4_1 : Int).toNat * 4 + 2, none⟩ = false := hfr10 2; have hf10_3 : w11.frozen? ⟨go10, (x4_1 : Int).toNat * 4 + 3, none⟩ = false := hfr10 3; clear hcl10 hcc10 hfr10 hM10; replace p10 := eq_true p10; replace q10 := eq_true q10; have HX12 := A_ (show Kd.R k41 41 w11 w.heap.size (fun _ => True) (.slice (some ⟨go10, 0, none⟩) x3_1.length co10) x3_1 from (oR HO_3)); obtain ⟨ce12, hcl12, hM12, hcc12, hfr12⟩ := Kd.R_elem HX12.out z41 (x4_1 : Int) (oD) (by have h_ : (x4_1 : Int) < ((x3_1.length : Int) : Int) := oD; first | exact h_ | (have e_ := (Kd.R_reads' HO_3.out).1; omega) | simpa using h_); obtain rfl := k41_openM hM12; have HP12 := Kd.R_seg HX12.out (x4_1 : Int) (oD) (by have h_ : (x4_1 : Int) < ((x3_1.length : Int) : Int) := oD; first | exact h_ | (have e_ := (Kd.R_reads' HO_3.out).1; omega) | simpa using h_) (seg := [.int .i64 t1234, .int .i64 t1235, .int .i64 t1236, .int .i64 t1237]) (j := 0) hcl12 hcc12 (show 4 ≤ 4 from by decide) (x' := (⟨t1234, t1235, t1236, t1237⟩ : S41)) (k41_mkM _ _ _ (⟨t1234, t1235, t1236, t1237⟩ : S41) ) (fun _ hk => hk); have hx12_0 := hcc12 0 _ rfl; (try simp only [show (k41).sz = 4 from rfl, Nat.mul_one, Nat.add_zero] at hx12_0); have hf12_0 := hfr12 0; (try simp only [show (k41).sz = 4 from rfl, Nat.mul_one, Nat.add_zero] at hf12_0); have hx12_1 := hcc12 1 _ rfl; (try simp only [show (k41).sz = 4 from rfl, Nat.mul_one, Nat.add_zero] at hx12_1); have hf12_1 := hfr12 1; (try simp only [show (k41).sz = 4 from rfl, Nat.mul_one, Nat.add_zero] at hf12_1); have hx12_2 := hcc12 2 _ rfl; (try simp only [show (k41).sz = 4 from rfl, Nat.mul_one, Nat.add_zero] at hx12_2); have hf12_2 := hfr12 2; (try simp only [show (k41).sz = 4 from rfl, Nat.mul_one, Nat.add_zero] at hf12_2); have hx12_3 := hcc12 3 _ rfl; (try simp only [show (k41).sz = 4 from rfl, Nat.mul_one, Nat.add_zero] at hx12_3); have hf12_3 := hfr12 3; (try simp only [show (k41).sz = 4 from rfl, Nat.mul_one, Nat.add_zero] at hf12_3); clear hcl12 hcc12 hfr12 hM12) | ((with_reducible refine gate_store (t := 41) (p := 21) rfl ?_); refine store_event (t := 41) (p := 21) (v := ?vo_w13) (w1 := ((((w11.setCell ⟨go10, (x4_1 : Int).toNat * 4, none⟩ (.int .i64 t1234)).setCell ⟨go10, (x4_1 : Int).toNat * 4 + 1, none⟩ (.int .i64 t1235)).setCell ⟨go10, (x4_1 : Int).toNat * 4 + 2, none⟩ (.int .i64 t1236)).setCell ⟨go10, (x4_1 : Int).toNat * 4 + 3, none⟩ (.int .i64 t1237))) ?hg ?ho ?hn ?hr ?_; (case ho => rfl); (case hg => rfl); (case hn => rfl); (case hr => first | (go_simp; done) | (go_simp; rfl)); intro w13 hw; have hg : w11.grownBy w13 (some go10) := (by rw [hw]; exact HP12.2); have hp_ : Kd.R k41 41 w13 w.heap.size (fun _ => True) (.slice (some ⟨go10, 0, none⟩) x3_1.length co10) y1238 := (by rw [hw, Ny1238.out]; exact HP12.1); clear HP12; have n0_ := A_ (hp_); have n1_ := A_ ((by rw [hw]; exact below_set (below_set (below_set (below_set (HB.out) GB10.out) GB10.out) GB10.out) GB10.out : Below w.heap.size w w13)); clear HO_3; clear HB; have HO_3 := n0_; have HB := n1_; clear n0_ n1_; clear hg hw hp_))
        go_roundg k1
        case measure => have := HK1.out; omega
        case rel => exact ⟨(y1238), (wrap64 (x4_1 + 1)), eS, H', ⟨by have := HK1.out; omega⟩, ⟨oR HO_3⟩, ⟨oB HB⟩⟩
       ·rw [if_neg c9] at H
        exact absurd H (by simp)
      ·rw [if_neg c7] at H
       exact absurd H (by simp)
     ·rw [if_neg c6] at H
      have c6b0 : decide (x4_1 < (l0.length : Int)) = false := decide_eq_false c6
      clear c6
      obtain rfl := Option.some.inj H
      go_wp2
      go_ret
      exact ⟨_, eR, oR HO_3, oB HB⟩
  ·rw [if_neg c3] at H
   exact absurd H (by simp)
 ·rw [if_neg c2] at H
  exact absurd H (by simp)
def laws_eqActS.l0 : Nat → List (S41) → List (S41) → Int → Option (Bool)
 | 0, _, _, _ => none
 | k + 1, x0, x1, x5 => if x5 < (x0.length : Int) then (if 0 ≤ x5 then (if x5 < (x1.length : Int) then ((laws_eqAct.f ((rd_T41 x0 x5).f0) ((rd_T41 x0 x5).f1) ((rd_T41 x0 x5).f2) ((rd_T41 x0 x5).f3) ((rd_T41 x1 x5).f0) ((rd_T41 x1 x5).f1) ((rd_T41 x1 x5).f2) ((rd_T41 x1 x5).f3)).bind fun t1281 => (if t1281 = true then (laws_eqActS.l0 k x0 x1 (wrap64 (x5 + 1))) else (some false))) else (none)) else (none)) else (some true)
def laws_eqActS.f (k : Nat) (l0 : List (S41)) (l1 : List (S41)) : Option (Bool) := if (l0.length : Int) = (l1.length : Int) then (laws_eqActS.l0 k l0 l1 0) else (some false)
def laws_eqActS.T6 : Bool × List (List Nat × List Nat) := (true, [([], []), ([], []), ([0, 1], [0, 1]), ([2], [2]), ([], []), ([], []), ([4, 5], [4, 5]), ([6], [6]), ([3, 7], [3, 7]), ([8], [8])])
def laws_eqActS.B6 : List Nat := [0, 0, 3, 7, 0, 0, 48, 112, 255, 511]
theorem laws_eqActS.tab6 : rtab .any (opsOf Tryz.f22 6) = laws_eqActS.T6 := by kernel_rfl
theorem laws_eqActS.bits6 : waitsOk laws_eqActS.T6.2 laws_eqActS.B6 = true := by kernel_rfl
theorem laws_eqActS.calls (k : Nat) (A0 : Option Addr) (c0 : Nat) (l0 : List (S41)) (A1 : Option Addr) (c1 : Nat) (l1 : List (S41)) (r : Bool) (w : World) (hr0 : Kd.C k41 w A0 l0.length l0) (hc0 : l0.length ≤ c0) (hr1 : Kd.C k41 w A1 l1.length l1) (hc1 : l1.length ≤ c1) (h : laws_eqActS.f k l0 l1 = some r) :
  Calls Tryz.prog 22 #[.slice A0 l0.length c0, .slice A1 l1.length c1] w fun e w' => e = .returned (.bool r) ∧ Below w.heap.size w w' := by
 have hu41 := Tryz.underlying41
 have HR0 := A_ hr0
 have HC0 := A_ hc0
 clear hr0 hc0
 have HR1 := A_ hr1
 have HC1 := A_ hc1
 clear hr1 hc1
 have HB := A_ (Below.refl w.heap.size w)
 have H : (if (l0.length : Int) = (l1.length : Int) then (laws_eqActS.l0 k l0 l1 0) else (some false)) = some r := h
 clear h
 by_cases c3 : (l0.length : Int) = (l1.length : Int)
 ·rw [if_pos c3] at H
  have c3b0 : ((l0.length : Int) == (l1.length : Int)) = true := beq_iff_eq.mpr c3
  have c3b1 : ((l0.length : Int) != (l1.length : Int)) = false := bne_eq_false_iff_eq.mpr c3
  have c3b2 : (l0.length == l1.length) = true := by first | simpa using c3 | (simp at c3 ⊢; omega)
  clear c3
  have H' := A_ H
  clear H
  go_enter Tryz.func22, Tryz.ntmps22
  go_wp2
  go_loopg [5] k (fun kq v5 w' => ∃ (x5_1 : Int), v5 = .int .i64 x5_1 ∧ Aside0 (laws_eqActS.l0 kq l0 l1 x5_1 = some r) ∧ Aside0 (kq ≤ k) ∧ Aside0 (Below w.heap.size w w'))
  case atStart => exact ⟨(0), eS, H', ⟨Nat.le_refl _⟩, ⟨oB HB⟩⟩
  case round =>
   clear H'
   try clear c1
   try clear c2
   try clear p2
   try clear c3
   try clear c3b0
   try clear c3b1
   try clear c3b2
   obtain ⟨x5_1, rfl, HA, HK1, HB⟩ := hrel
   cases gk with
   | zero => exact absurd HA.out (by simp [laws_eqActS.l0])
   | succ k1 =>
    have H := HA.out
    clear HA
    simp only [laws_eqActS.l0] at H
    by_cases c4 : x5_1 < (l0.length : Int)
    ·rw [if_pos c4] at H
     have c4b0 : decide (x5_1 < (l0.length : Int)) = true := decide_eq_true c4
     clear c4
     by_cases c5 : 0 ≤ x5_1
     ·rw [if_pos c5] at H
      have c5b0 : decide (0 ≤ x5_1) = true := decide_eq_true c5
      clear c5
      by_cases c6 : x5_1 < (l1.length : Int)
      ·rw [if_pos c6] at H
       have c6b0 : decide (x5_1 < (l1.length : Int)) = true := decide_eq_true c6
       clear c6
       replace H := Option.bind_eq_some_iff.mp H
       obtain ⟨t1281, A70, H⟩ := H
       (try dsimp only at H)
       have A7 := A_ A70
       clear A70
       by_cases c8 : t1281 = true
       ·subst c8
        rw [if_pos rfl] at H
        have H' := A_ H
        clear H
        try go_wp2
        have n0_ := A_ (below_drew1 HB.out)
        clear HB
        have HB := n0_
        clear n0_
        have p1279 : 0 ≤ (x5_1 : Int) := oD
        have q1279 : x5_1 < (l0.length : Int) := oD
        obtain ⟨ad1279, e1279, hx1279_0, hx1279_1, hx1279_2, hx1279_3⟩ := at_T41 HR0.out x5_1 p1279 q1279
        have hw1279_3 := hx1279_3
        have hw1279_2 := hx1279_2
        have hw1279_1 := hx1279_1
        have hw1279_0 := hx1279_0
        cases e1279
        replace hx1279_0 := hW HB hx1279_0
        replace hx1279_1 := hW HB hx1279_1
        replace hx1279_2 := hW HB hx1279_2
        replace hx1279_3 := hW HB hx1279_3
        replace p1279 := eq_true p1279
        replace q1279 := eq_true q1279
        have p1280 : 0 ≤ (x5_1 : Int) := oD
        have q1280 : x5_1 < (l1.length : Int) := oD
        obtain ⟨ad1280, e1280, hx1280_0, hx1280_1, hx1280_2, hx1280_3⟩ := at_T41 HR1.out x5_1 p1280 q1280
        have hw1280_3 := hx1280_3
        have hw1280_2 := hx1280_2
        have hw1280_1 := hx1280_1
        have hw1280_0 := hx1280_0
        cases e1280
        replace hx1280_0 := hW HB hx1280_0
        replace hx1280_1 := hW HB hx1280_1
        replace hx1280_2 := hW HB hx1280_2
        replace hx1280_3 := hW HB hx1280_3
        replace p1280 := eq_true p1280
        replace q1280 := eq_true q1280
        refine start_ (n := 10) (S := fun w' => w'.cell? (ad1279.add ((x5_1).toNat * 4)) = some (.int .i64 ((rd_T41 l0 x5_1).f0)) ∧ w'.cell? ⟨(ad1279.add ((x5_1).toNat * 4)).block, (ad1279.add ((x5_1).toNat * 4)).off + 1, none⟩ = some (.int .i64 ((rd_T41 l0 x5_1).f1)) ∧ w'.cell? ⟨(ad1279.add ((x5_1).toNat * 4)).block, (ad1279.add ((x5_1).toNat * 4)).off + 2, none⟩ = some (.int .i64 ((rd_T41 l0 x5_1).f2)) ∧ w'.cell? ⟨(ad1279.add ((x5_1).toNat * 4)).block, (ad1279.add ((x5_1).toNat * 4)).off + 3, none⟩ = some (.int .i64 ((rd_T41 l0 x5_1).f3)) ∧ w'.cell? (ad1280.add ((x5_1).toNat * 4)) = some (.int .i64 ((rd_T41 l1 x5_1).f0)) ∧ w'.cell? ⟨(ad1280.add ((x5_1).toNat * 4)).block, (ad1280.add ((x5_1).toNat * 4)).off + 1, none⟩ = some (.int .i64 ((rd_T41 l1 x5_1).f1)) ∧ w'.cell? ⟨(ad1280.add ((x5_1).toNat * 4)).block, (ad1280.add ((x5_1).toNat * 4)).off + 2, none⟩ = some (.int .i64 ((rd_T41 l1 x5_1).f2)) ∧ w'.cell? ⟨(ad1280.add ((x5_1).toNat * 4)).block, (ad1280.add ((x5_1).toNat * 4)).off + 3, none⟩ = some (.int .i64 ((rd_T41 l1 x5_1).f3))) (ds := []) #[false, false, false, false, false, false, false, false, false, false] (by kernel_rfl) rfl rfl ⟨(hW HB hw1279_0), (hW HB hw1279_1), (hW HB hw1279_2), (hW HB hw1279_3), (hW HB hw1280_0), (hW HB hw1280_1), (hW HB hw1280_2), (hW HB hw1280_3)⟩ (fun hHeld => ?_); refine with_tabW laws_eqActS.tab6 laws_eqActS.bits6 (fun HT_ HW_ => ?_)
        generalize wr.drew = w9 at HB hx1279_0 hx1279_1 hx1279_2 hx1279_3 hx1280_0 hx1280_1 hx1280_2 hx1280_3 hHeld ⊢
        refine pA 0 (some 17) HT_.out ?_
        refine pA 1 (some 18) HT_.out ?_
        refine pA 2 (some 19) HT_.out ?_
        refine pA 4 (some 21) HT_.out ?_
        refine pA 5 (some 22) HT_.out ?_
        refine pA 6 (some 23) HT_.out ?_
        refine pT 3 (some 20) HT_.out HW_.out hHeld ?_
        refine pT 7 (some 24) HT_.out HW_.out hHeld ?_
        refine one_ (i := 8) (N := some 25) #[true, true, true, true, true, true, true, true, true, false] rfl rfl (one_of HT_.out (by kernel_rfl)) (by decide) (fun K hK => ?_)
        refine goes_ Tryz.func69 (by kernel_rfl) rfl #[.agg #[.int .i64 ((rd_T41 l0 x5_1).f0), .int .i64 ((rd_T41 l0 x5_1).f1), .int .i64 ((rd_T41 l0 x5_1).f2), .int .i64 ((rd_T41 l0 x5_1).f3)], .agg #[.int .i64 ((rd_T41 l1 x5_1).f0), .int .i64 ((rd_T41 l1 x5_1).f1), .int .i64 ((rd_T41 l1 x5_1).f2), .int .i64 ((rd_T41 l1 x5_1).f3)]] (by rfl) rfl rfl (by (try simp only [List.map_toArray, List.map_cons, List.map_nil]); first | done | rfl | (simp only [List.length_drop, List.length_take]; rfl)) ?_
        with_reducible refine (laws_eqAct.calls ((rd_T41 l0 x5_1).f0) ((rd_T41 l0 x5_1).f1) ((rd_T41 l0 x5_1).f2) ((rd_T41 l0 x5_1).f3) ((rd_T41 l1 x5_1).f0) ((rd_T41 l1 x5_1).f1) ((rd_T41 l1 x5_1).f2) ((rd_T41 l1 x5_1).f3) true _ A7.out).mono ?_
        rintro e w10 ⟨rfl, hb⟩
        refine ⟨_, rfl, ?_⟩
        have n0_ := A_ (below_step (oB HB) hb)
        clear HB
        have HB := n0_
        clear n0_
        (try clear hb)
        (try clear hb2)
        (try clear hk)
        (try clear hi)
        refine hK.out _ _ ⟨(hW HB hw1279_0), (hW HB hw1279_1), (hW HB hw1279_2), (hW HB hw1279_3), (hW HB hw1280_0), (hW HB hw1280_1), (hW HB hw1280_2), (hW HB hw1280_3)⟩ (fun hHeld => ?_)
        clear hK K
        refine norm_ (a' := ?_) ?_ ?_
        rotate_left
        ·show Act.put _ (some 25) _ = _
         simp only [Act.put, List.setIfInBounds_toArray, List.set_cons_zero, List.set_cons_succ, i64_w, i32_w]
         rfl
        refine pA 9 (some 26) HT_.out ?_
        refine done_ (done_of HT_.out (by kernel_rfl)) ?_
        try go_wp2
        go_roundg k1
        case measure => have := HK1.out; omega
        case rel => exact ⟨(wrap64 (x5_1 + 1)), eS, H', ⟨by have := HK1.out; omega⟩, ⟨oB HB⟩⟩
       ·replace c8 := Bool.eq_false_iff.mpr c8
        subst c8
        rw [if_neg (show ¬ (false = true) by decide)] at H
        obtain rfl := Option.some.inj H
        try go_wp2
        have n0_ := A_ (below_drew1 HB.out)
        clear HB
        have HB := n0_
        clear n0_
        have p1279 : 0 ≤ (x5_1 : Int) := oD
        have q1279 : x5_1 < (l0.length : Int) := oD
        obtain ⟨ad1279, e1279, hx1279_0, hx1279_1, hx1279_2, hx1279_3⟩ := at_T41 HR0.out x5_1 p1279 q1279
        have hw1279_3 := hx1279_3
        have hw1279_2 := hx1279_2
        have hw1279_1 := hx1279_1
        have hw1279_0 := hx1279_0
        cases e1279
        replace hx1279_0 := hW HB hx1279_0
        replace hx1279_1 := hW HB hx1279_1
        replace hx1279_2 := hW HB hx1279_2
        replace hx1279_3 := hW HB hx1279_3
        replace p1279 := eq_true p1279
        replace q1279 := eq_true q1279
        have p1280 : 0 ≤ (x5_1 : Int) := oD
        have q1280 : x5_1 < (l1.length : Int) := oD
        obtain ⟨ad1280, e1280, hx1280_0, hx1280_1, hx1280_2, hx1280_3⟩ := at_T41 HR1.out x5_1 p1280 q1280
        have hw1280_3 := hx1280_3
        have hw1280_2 := hx1280_2
        have hw1280_1 := hx1280_1
        have hw1280_0 := hx1280_0
        cases e1280
        replace hx1280_0 := hW HB hx1280_0
        replace hx1280_1 := hW HB hx1280_1
        replace hx1280_2 := hW HB hx1280_2
        replace hx1280_3 := hW HB hx1280_3
        replace p1280 := eq_true p1280
        replace q1280 := eq_true q1280
        refine start_ (n := 10) (S := fun w' => w'.cell? (ad1279.add ((x5_1).toNat * 4)) = some (.int .i64 ((rd_T41 l0 x5_1).f0)) ∧ w'.cell? ⟨(ad1279.add ((x5_1).toNat * 4)).block, (ad1279.add ((x5_1).toNat * 4)).off + 1, none⟩ = some (.int .i64 ((rd_T41 l0 x5_1).f1)) ∧ w'.cell? ⟨(ad1279.add ((x5_1).toNat * 4)).block, (ad1279.add ((x5_1).toNat * 4)).off + 2, none⟩ = some (.int .i64 ((rd_T41 l0 x5_1).f2)) ∧ w'.cell? ⟨(ad1279.add ((x5_1).toNat * 4)).block, (ad1279.add ((x5_1).toNat * 4)).off + 3, none⟩ = some (.int .i64 ((rd_T41 l0 x5_1).f3)) ∧ w'.cell? (ad1280.add ((x5_1).toNat * 4)) = some (.int .i64 ((rd_T41 l1 x5_1).f0)) ∧ w'.cell? ⟨(ad1280.add ((x5_1).toNat * 4)).block, (ad1280.add ((x5_1).toNat * 4)).off + 1, none⟩ = some (.int .i64 ((rd_T41 l1 x5_1).f1)) ∧ w'.cell? ⟨(ad1280.add ((x5_1).toNat * 4)).block, (ad1280.add ((x5_1).toNat * 4)).off + 2, none⟩ = some (.int .i64 ((rd_T41 l1 x5_1).f2)) ∧ w'.cell? ⟨(ad1280.add ((x5_1).toNat * 4)).block, (ad1280.add ((x5_1).toNat * 4)).off + 3, none⟩ = some (.int .i64 ((rd_T41 l1 x5_1).f3))) (ds := []) #[false, false, false, false, false, false, false, false, false, false] (by kernel_rfl) rfl rfl ⟨(hW HB hw1279_0), (hW HB hw1279_1), (hW HB hw1279_2), (hW HB hw1279_3), (hW HB hw1280_0), (hW HB hw1280_1), (hW HB hw1280_2), (hW HB hw1280_3)⟩ (fun hHeld => ?_); refine with_tabW laws_eqActS.tab6 laws_eqActS.bits6 (fun HT_ HW_ => ?_)
        generalize wr.drew = w11 at HB hx1279_0 hx1279_1 hx1279_2 hx1279_3 hx1280_0 hx1280_1 hx1280_2 hx1280_3 hHeld ⊢
        refine pA 0 (some 17) HT_.out ?_
        refine pA 1 (some 18) HT_.out ?_
        refine pA 2 (some 19) HT_.out ?_
        refine pA 4 (some 21) HT_.out ?_
        refine pA 5 (some 22) HT_.out ?_
        refine pA 6 (some 23) HT_.out ?_
        refine pT 3 (some 20) HT_.out HW_.out hHeld ?_
        refine pT 7 (some 24) HT_.out HW_.out hHeld ?_
        refine one_ (i := 8) (N := some 25) #[true, true, true, true, true, true, true, true, true, false] rfl rfl (one_of HT_.out (by kernel_rfl)) (by decide) (fun K hK => ?_)
        refine goes_ Tryz.func69 (by kernel_rfl) rfl #[.agg #[.int .i64 ((rd_T41 l0 x5_1).f0), .int .i64 ((rd_T41 l0 x5_1).f1), .int .i64 ((rd_T41 l0 x5_1).f2), .int .i64 ((rd_T41 l0 x5_1).f3)], .agg #[.int .i64 ((rd_T41 l1 x5_1).f0), .int .i64 ((rd_T41 l1 x5_1).f1), .int .i64 ((rd_T41 l1 x5_1).f2), .int .i64 ((rd_T41 l1 x5_1).f3)]] (by rfl) rfl rfl (by (try simp only [List.map_toArray, List.map_cons, List.map_nil]); first | done | rfl | (simp only [List.length_drop, List.length_take]; rfl)) ?_
        with_reducible refine (laws_eqAct.calls ((rd_T41 l0 x5_1).f0) ((rd_T41 l0 x5_1).f1) ((rd_T41 l0 x5_1).f2) ((rd_T41 l0 x5_1).f3) ((rd_T41 l1 x5_1).f0) ((rd_T41 l1 x5_1).f1) ((rd_T41 l1 x5_1).f2) ((rd_T41 l1 x5_1).f3) false _ A7.out).mono ?_
        rintro e w12 ⟨rfl, hb⟩
        refine ⟨_, rfl, ?_⟩
        have n0_ := A_ (below_step (oB HB) hb)
        clear HB
        have HB := n0_
        clear n0_
        (try clear hb)
        (try clear hb2)
        (try clear hk)
        (try clear hi)
        refine hK.out _ _ ⟨(hW HB hw1279_0), (hW HB hw1279_1), (hW HB hw1279_2), (hW HB hw1279_3), (hW HB hw1280_0), (hW HB hw1280_1), (hW HB hw1280_2), (hW HB hw1280_3)⟩ (fun hHeld => ?_)
        clear hK K
        refine norm_ (a' := ?_) ?_ ?_
        rotate_left
        ·show Act.put _ (some 25) _ = _
         simp only [Act.put, List.setIfInBounds_toArray, List.set_cons_zero, List.set_cons_succ, i64_w, i32_w]
         rfl
        refine pA 9 (some 26) HT_.out ?_
        refine done_ (done_of HT_.out (by kernel_rfl)) ?_
        try go_wp2
        go_ret
        exact ⟨eR, oB HB⟩
      ·rw [if_neg c6] at H
       exact absurd H (by simp)
     ·rw [if_neg c5] at H
      exact absurd H (by simp)
    ·rw [if_neg c4] at H
     have c4b0 : decide (x5_1 < (l0.length : Int)) = false := decide_eq_false c4
     clear c4
     obtain rfl := Option.some.inj H
     go_wp2
     go_ret
     exact ⟨eR, oB HB⟩
 ·rw [if_neg c3] at H
  have c3b0 : ((l0.length : Int) == (l1.length : Int)) = false := beq_eq_false_iff_ne.mpr c3
  have c3b1 : ((l0.length : Int) != (l1.length : Int)) = true := bne_iff_ne.mpr c3
  have c3b2 : (l0.length == l1.length) = false := by first | simpa using c3 | (simp at c3 ⊢; omega)
  obtain rfl := Option.some.inj H
  go_enter Tryz.func22, Tryz.ntmps22
  go_wp2
  go_ret
  exact ⟨eR, oB HB⟩
end Go.Proofs.YtanhnhkcpbdfmaaGreat.P
namespace Go.Proofs.YtanhnhkcpbdfmaaGreat.Q
open Go.RowKit Go.Proofs.YtanhnhkcpbdfmaaGreat.P Go.Proofs.YtanhnhkcpbdfmaaGreatW.PrintWords Go.Proofs.YtanhnhkcpbdfmaaGreatW.PrintMore
def cEntry (x : S127) : S104 := ⟨⟨x.f0.f0, x.f0.f1⟩, x.f1, x.f2⟩
theorem rdE (l : List S104) (i : Nat) (h : i < l.length) : rd_T104 l (i : Int) = l[i] := by
  unfold rd_T104; simp [List.getD_eq_getElem?_getD, h]
theorem rdLE (l : List S127) (i : Nat) (h : i < l.length) : rd_T127 l (i : Int) = l[i] := by
  unfold rd_T127; simp [List.getD_eq_getElem?_getD, h]
theorem toEntryS_ev (l : List S127) (hl : l.length ≤ 1048576) : Ev (fun k => laws_toEntryS.f k l) (l.map cEntry) := by
  have key : ∀ i, i ≤ l.length → ∀ acc : List S104, acc.length = l.length → Ev (fun k => laws_toEntryS.l0 k l acc (i : Int)) (acc.take i ++ (l.drop i).map cEntry) := by
    refine down (n := l.length) ?_ ?_
    · intro acc ha
      refine Ev.step (fun k => by rw [laws_toEntryS.l0]) (evn (by omega) (evs ?_))
      rw [drop_end, List.map_nil, List.append_nil, List.take_of_length_le (by omega)]
    · intro i hi ih acc ha
      refine Ev.step (fun k => by rw [laws_toEntryS.l0]) (evp (by omega) (evp (by omega) ?_))
      rw [rdLE l i hi]
      refine evb (a := (l[i].f0.f0, l[i].f0.f1, l[i].f1, l[i].f2)) rfl (evp (by omega) ?_)
      rw [w64 (by omega) (by omega), Int.toNat_natCast]
      have := ih (acc.set i (cEntry l[i])) (by simpa using ha)
      rw [set_take _ _ _ (by omega), List.append_assoc] at this
      rw [drop_cons l i hi, List.map_cons]
      exact this
  have := key 0 (Nat.zero_le _) (List.replicate l.length z104) (by simp)
  unfold laws_toEntryS.f
  refine evp (by omega) (evp (by omega) ?_)
  simpa using this
theorem eqPipe_self (a b : Int) : laws_eqPipe.f a b a b = some true := by unfold laws_eqPipe.f; simp
theorem eqEntry_self (a b c d : Int) : laws_eqEntry.f a b c d a b c d = some true := by unfold laws_eqEntry.f; simp [eqPipe_self]
theorem eqEntryS_ev (l : List S104) (hl : l.length ≤ 9000000000000000000) : Ev (fun k => laws_eqEntryS.f k l l) true := by
  have key : ∀ i, i ≤ l.length → Ev (fun k => laws_eqEntryS.l0 k l l (i : Int)) true := by
    refine down (n := l.length) ?_ ?_
    · refine Ev.step (fun k => by rw [laws_eqEntryS.l0]) (evn (by omega) ?_)
      exact Ev.now _
    · intro i hi ih
      refine Ev.step (fun k => by rw [laws_eqEntryS.l0]) (evp (by omega) (evp (by omega) (evp (by omega) ?_)))
      refine evb (eqEntry_self _ _ _ _) (evp rfl ?_)
      rw [w64 (by omega) (by omega)]
      exact ih
  unfold laws_eqEntryS.f
  refine evp rfl ?_
  exact key 0 (Nat.zero_le _)
theorem szEntryS_eq (l : List S127) (m : Int) (h0 : 0 ≤ m) (hm : m ≤ 1048576) (hl : l.length ≤ 9223372036854775807) : laws_szEntryS.f l m = some (if m < l.length then -1 else m - l.length) := by
  unfold laws_szEntryS.f
  rw [w64 (by omega) (by omega)]
  by_cases h : m < l.length
  · rw [if_pos (by omega), if_pos h]
  · rw [if_neg (by omega), if_neg h]
def cStep (x : S140) : S112 := ⟨x.f0, x.f1, x.f2, x.f3⟩
theorem rdS (l : List S112) (i : Nat) (h : i < l.length) : rd_T112 l (i : Int) = l[i] := by
  unfold rd_T112; simp [List.getD_eq_getElem?_getD, h]
theorem rdLS (l : List S140) (i : Nat) (h : i < l.length) : rd_T140 l (i : Int) = l[i] := by
  unfold rd_T140; simp [List.getD_eq_getElem?_getD, h]
theorem toStepS_ev (l : List S140) (hl : l.length ≤ 1048576) : Ev (fun k => laws_toStepS.f k l) (l.map cStep) := by
  have key : ∀ i, i ≤ l.length → ∀ acc : List S112, acc.length = l.length → Ev (fun k => laws_toStepS.l0 k l acc (i : Int)) (acc.take i ++ (l.drop i).map cStep) := by
    refine down (n := l.length) ?_ ?_
    · intro acc ha
      refine Ev.step (fun k => by rw [laws_toStepS.l0]) (evn (by omega) (evs ?_))
      rw [drop_end, List.map_nil, List.append_nil, List.take_of_length_le (by omega)]
    · intro i hi ih acc ha
      refine Ev.step (fun k => by rw [laws_toStepS.l0]) (evp (by omega) (evp (by omega) ?_))
      rw [rdLS l i hi]
      refine evb (a := (l[i].f0, l[i].f1, l[i].f2, l[i].f3)) rfl (evp (by omega) ?_)
      rw [w64 (by omega) (by omega), Int.toNat_natCast]
      have := ih (acc.set i (cStep l[i])) (by simpa using ha)
      rw [set_take _ _ _ (by omega), List.append_assoc] at this
      rw [drop_cons l i hi, List.map_cons]
      exact this
  have := key 0 (Nat.zero_le _) (List.replicate l.length z112) (by simp)
  unfold laws_toStepS.f
  refine evp (by omega) (evp (by omega) ?_)
  simpa using this
theorem eqStep_self (a b c d : Int) : laws_eqStep.f a b c d a b c d = some true := by unfold laws_eqStep.f; simp
theorem eqStepS_ev (l : List S112) (hl : l.length ≤ 9000000000000000000) : Ev (fun k => laws_eqStepS.f k l l) true := by
  have key : ∀ i, i ≤ l.length → Ev (fun k => laws_eqStepS.l0 k l l (i : Int)) true := by
    refine down (n := l.length) ?_ ?_
    · refine Ev.step (fun k => by rw [laws_eqStepS.l0]) (evn (by omega) ?_)
      exact Ev.now _
    · intro i hi ih
      refine Ev.step (fun k => by rw [laws_eqStepS.l0]) (evp (by omega) (evp (by omega) (evp (by omega) ?_)))
      refine evb (eqStep_self _ _ _ _) (evp rfl ?_)
      rw [w64 (by omega) (by omega)]
      exact ih
  unfold laws_eqStepS.f
  refine evp rfl ?_
  exact key 0 (Nat.zero_le _)
theorem szStepS_eq (l : List S140) (m : Int) (h0 : 0 ≤ m) (hm : m ≤ 1048576) (hl : l.length ≤ 9223372036854775807) : laws_szStepS.f l m = some (if m < l.length then -1 else m - l.length) := by
  unfold laws_szStepS.f
  rw [w64 (by omega) (by omega)]
  by_cases h : m < l.length
  · rw [if_pos (by omega), if_pos h]
  · rw [if_neg (by omega), if_neg h]
def runsS (m : Int) (n : Nat) : List S112 := (List.range n).map (fun (j : Nat) => ⟨m + 4 * j, m + 4 * j + 1, m + 4 * j + 2, m + 4 * j + 3⟩)
theorem runsS_len (m : Int) (n : Nat) : (runsS m n).length = n := by simp [runsS]
theorem rd_set_self (l : List S112) (i : Nat) (v : S112) (h : i < l.length) : rd_T112 (l.set i v) (i : Int) = v := by
  rw [rdS _ _ (by simpa using h)]; simp
theorem markStepS_ev (l : List S112) (m : Int) (h0 : 0 ≤ m) (hm : m + 4 * l.length ≤ 4000000000000000000) : Ev (fun k => laws_markStepS.f k l m) (m + 4 * l.length, runsS m l.length) := by
  have key : ∀ i, i ≤ l.length → ∀ acc : List S112, acc.length = l.length → acc.take i = runsS m i → Ev (fun k => laws_markStepS.l0 k acc (m + 4 * i) (i : Int)) (m + 4 * l.length, runsS m l.length) := by
    refine down (n := l.length) ?_ ?_
    · intro acc ha ht
      refine Ev.step (fun k => by rw [laws_markStepS.l0]) (evn (by omega) (evs ?_))
      rw [← ht, List.take_of_length_le (by omega)]
    · intro i hi ih acc ha ht
      refine Ev.step (fun k => by rw [laws_markStepS.l0]) ?_
      refine evp (by omega) (evp (by omega) ?_)
      simp only [Option.bind_some]
      rw [w64 (n := m + 4 * i + 1) (by omega) (by omega), w64 (n := m + 4 * i + 1 + 1) (by omega) (by omega), w64 (n := m + 4 * i + 1 + 1 + 1) (by omega) (by omega), w64 (n := m + 4 * i + 1 + 1 + 1 + 1) (by omega) (by omega), w64 (n := (i : Int) + 1) (by omega) (by omega), Int.toNat_natCast]
      have := ih (acc.set i ⟨m + 4 * i, m + 4 * i + 1, m + 4 * i + 2, m + 4 * i + 3⟩) (by simpa using ha) (by
        rw [set_take _ _ _ (by omega), ht]
        simp [runsS, List.range_succ])
      have rs : ∀ (L : List S112) (v : S112), L.length = l.length → rd_T112 (L.set i v) (i : Int) = v := fun L v hL => rd_set_self L i v (by omega)
      simp only [rs _ _ ha, List.set_set]
      rw [show m + 4 * (i : Int) + 1 + 1 = m + 4 * i + 2 by omega, show m + 4 * (i : Int) + 2 + 1 = m + 4 * i + 3 by omega, show m + 4 * (i : Int) + 3 + 1 = m + 4 * ((i + 1 : Nat) : Int) by omega]
      exact this
  have := key 0 (Nat.zero_le _) l rfl (by simp [runsS])
  unfold laws_markStepS.f
  simpa using this
theorem heldStepS_ev (n : Nat) (m : Int) (h0 : 0 ≤ m) (hm : m + 4 * n ≤ 4000000000000000000) : Ev (fun k => laws_heldStepS.f k (runsS m n) m) (m + 4 * n) := by
  have key : ∀ i, i ≤ n → Ev (fun k => laws_heldStepS.l0 k (runsS m n) (m + 4 * i) (i : Int)) (m + 4 * n) := by
    refine down (n := n) ?_ ?_
    · exact Ev.step (fun k => by rw [laws_heldStepS.l0]) (evn (by rw [runsS_len]; omega) (evs rfl))
    · intro i hi ih
      refine Ev.step (fun k => by rw [laws_heldStepS.l0]) (evp (by rw [runsS_len]; omega) (evp (by omega) ?_))
      rw [rdS _ _ (by rw [runsS_len]; exact hi), show (runsS m n)[i]'(by rw [runsS_len]; exact hi) = ⟨m + 4 * i, m + 4 * i + 1, m + 4 * i + 2, m + 4 * i + 3⟩ by simp [runsS]]
      rw [w64 (n := m + 4 * i + 1) (by omega) (by omega), w64 (n := m + 4 * i + 1 + 1) (by omega) (by omega), w64 (n := m + 4 * i + 1 + 1 + 1) (by omega) (by omega), w64 (n := m + 4 * i + 1 + 1 + 1 + 1) (by omega) (by omega), w64 (n := (i : Int) + 1) (by omega) (by omega)]
      refine evp rfl (evp rfl (evp ?_ (evp ?_ ?_)))
      · show m + 4 * (i : Int) + 2 = _; omega
      · show m + 4 * (i : Int) + 3 = _; omega
      rw [show m + 4 * (i : Int) + 1 + 1 + 1 + 1 = m + 4 * ((i + 1 : Nat) : Int) by omega]
      exact ih
  have := key 0 (Nat.zero_le _)
  unfold laws_heldStepS.f
  simpa using this
theorem planGoS_eq (l : List S112) (t : List Bool) : planGoS l t = planGo l t := by
  induction l generalizing t with
  | nil => rfl
  | cons x r ih => simp only [planGoS, planGo, ih]; rfl
theorem planSpec_eq (l : List S112) : spec_PlanOk.f l = some (planOk l) := by
  show some (planOkS l) = some (planOk l)
  unfold planOkS planOk
  rw [planGoS_eq, Bool.and_comm]; rfl
def inKeys (x : S112) : Prop := 0 ≤ x.f0 ∧ x.f0 ≤ 11 ∧ 0 ≤ x.f1 ∧ x.f1 ≤ 11 ∧ x.f1 = (x.f0 + 1) % 12
theorem stepOk_in {x : S112} {t : List Bool} (h : stepOk x t = true) : inKeys x := by
  simp [stepOk] at h; unfold inKeys; omega
theorem planGo_in {l : List S112} {t : List Bool} (h : planGo l t = true) : ∀ x ∈ l, inKeys x := by
  induction l generalizing t with
  | nil => simp
  | cons y r ih =>
    simp only [planGo, Bool.and_eq_true] at h
    intro x hx
    rcases List.mem_cons.1 hx with rfl | hx
    · exact stepOk_in h.1
    · exact ih h.2 x hx
theorem planOk_in {l : List S112} (h : planOk l = true) : ∀ x ∈ l, inKeys x := by
  simp only [planOk, Bool.and_eq_true] at h; exact planGo_in h.2
theorem planOk_len {l : List S112} (h : planOk l = true) : l.length ≤ 11 := by
  simp only [planOk, Bool.and_eq_true, decide_eq_true_eq] at h; exact h.1
theorem rd_get (l : List Int) (i : Int) : rd l i = l.getD i.toNat 0 := rfl
end Go.Proofs.YtanhnhkcpbdfmaaGreat.Q
