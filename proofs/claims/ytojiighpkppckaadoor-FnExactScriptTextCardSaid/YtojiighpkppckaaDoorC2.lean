/- What functions of the program come to (f), that their calls come to just this (calls), and the plain laws over lists and numbers, and the law FnExactScriptText: for every argument it answers true. No condition but those of the given row. -/
import Derived.Test.YtojiighpkppckaaDoorRows
import Derived.Test.YtojiighpkppckaaDoorC1
import Derived.Lib.ItoaLen
import Derived.Deep.Slices
import Derived.ChangeArms
import Derived.ChangeSame
import Derived.KernelRfl
import Derived.WalkKit
import Derived.ProofKit
import Derived.OpenShut
import Derived.ShutString
import Derived.ChangeOld
import Derived.Below
import Derived.SizedLaws
import Derived.Test.YtojiighpkppckaaDoorTie
import Derived.Test.YtojiighpkppckaaDoorCards
import Derived.SevenTiedAt
import Derived.Stop.Joined
import Derived.Stop.LaidErr
import Derived.LaidLaws
import Derived.LaidMore
import Derived.LaidHandle
import Derived.MakeChecks
namespace Go.Proofs.YtojiighpkppckaaDoor.P
open Go.RowKit Go.Proofs.YtojiighpkppckaaDoorW.PrintWords Go.Proofs.YtojiighpkppckaaDoorW.PrintLast Go.Proofs.YtojiighpkppckaaDoorW.PrintMore Go.Proofs.YtojiighpkppckaaDoor.V
attribute [local go_sem] cell_b frozen_b
attribute [local go_sem] max2_int min2_int max_two min_two max_three min_three max_four min_four
set_option linter.unusedVariables false
set_option linter.unusedSimpArgs false
def laws_FnExactScriptText.j0 : Nat → List (S23) → List (S26) → Bool → Option (Bool)
  | 0, _, _, _ => none
  | k + 1, x0, x6, x34 => if x34 = true then (some false) else ((laws_toActS.f k x0).bind fun t237 => ((laws_eqActS.f k x6 t237).bind fun t240 => (if t240 = true then (some true) else (some false))))
def laws_FnExactScriptText.f (k : Nat) (l0 : List (S23)) : Option (Bool) := (laws_szActS.f l0 1048576).bind fun t226 => (if t226 < 0 then (some true) else ((laws_toActS.f k l0).bind fun t227 => ((spec_ScriptText.f k t227).bind fun bt230 => ((laws_toActS.f k l0).bind fun t232 => ((impl_ScriptText.f k t232).bind fun bt235 => (if bt235.1.toList = bt230.1.toList then (laws_FnExactScriptText.j0 k l0 t232 (bt235.2 != bt230.2)) else (laws_FnExactScriptText.j0 k l0 t232 true)))))))
set_option maxHeartbeats 8000000 in
set_option maxRecDepth 100000 in
theorem laws_FnExactScriptText.calls (k : Nat) (A0 : Option Addr) (c0 : Nat) (l0 : List (S23)) (r : Bool) (w : World) (hr0 : Kd.C k23 w A0 l0.length l0) (hc0 : l0.length ≤ c0) (h : laws_FnExactScriptText.f k l0 = some r) (hrt_ : Aside0 (r = true)) (ht_ : Aside0 (Tab w)) :
    Calls Tryd.prog 4 #[.slice A0 l0.length c0] w fun e w' => e = .returned (.bool r) ∧ Below w.heap.size w w' := by
  have HR0 := Aside0.mk hr0
  have HC0 := Aside0.mk hc0
  clear hr0 hc0
  have HB := Aside0.mk (Below.refl w.heap.size w)
  have H : ((laws_szActS.f l0 1048576).bind fun t226 => (if t226 < 0 then (some true) else ((laws_toActS.f k l0).bind fun t227 => ((spec_ScriptText.f k t227).bind fun bt230 => ((laws_toActS.f k l0).bind fun t232 => ((impl_ScriptText.f k t232).bind fun bt235 => (if bt235.1.toList = bt230.1.toList then (laws_FnExactScriptText.j0 k l0 t232 (bt235.2 != bt230.2)) else (laws_FnExactScriptText.j0 k l0 t232 true)))))))) = some r := h
  clear h
  replace H := Option.bind_eq_some_iff.mp H
  obtain ⟨t226, A20, H⟩ := H
  (try dsimp only at H)
  have A2 := Aside0.mk A20
  clear A20
  by_cases c3 : t226 < 0
  · rw [if_pos c3] at H
    have c3b0 : decide (t226 < 0) = true := decide_eq_true c3
    clear c3
    obtain rfl := Option.some.inj H
    go_enter Tryd.func4, Tryd.ntmps4
    go_wp2_with (first | ((with_reducible refine gate_callee (f := 11) rfl ?_); refine goesL_ (some 11) rfl rfl Tryd.func11 (by kernel_rfl) rfl #[.slice A0 l0.length c0, .int .i64 1048576] rfl (by (try simp only [List.map_toArray, List.map_cons, List.map_nil]); first | done | rfl | (simp only [List.length_drop, List.length_take]; rfl)) ?_; (with_reducible refine (laws_szActS.calls _ _ l0 1048576 t226 _ ?side1 ?side2 A2.out).mono ?_); (case side1 => repeat (first | exact HR0.out | (with_reducible refine Kd.C_alloc ?_ _) | (with_reducible refine Kd.C_drewN ?_ _) | (with_reducible refine Kd.C_drew ?_))); (case side2 => exact HC0.out); rintro e w' ⟨rfl, ⟨nd, rfl⟩⟩; refine ⟨_, rfl, ?_⟩))
    go_ret
    exact ⟨by first | rfl | (simp [errW_none, errW_some] <;> rfl) | (simp [*, errW_none, errW_some] <;> rfl), oB HB⟩
  · rw [if_neg c3] at H
    have c3b0 : decide (t226 < 0) = false := decide_eq_false c3
    clear c3
    replace H := Option.bind_eq_some_iff.mp H
    obtain ⟨t227, A40, H⟩ := H
    (try dsimp only at H)
    have A4 := Aside0.mk A40
    clear A40
    replace H := Option.bind_eq_some_iff.mp H
    obtain ⟨⟨t230, t231⟩, A50, H⟩ := H
    (try dsimp only at H)
    have A5 := Aside0.mk A50
    clear A50
    replace H := Option.bind_eq_some_iff.mp H
    obtain ⟨t232, A60, H⟩ := H
    (try dsimp only at H)
    have A6 := Aside0.mk A60
    clear A60
    replace H := Option.bind_eq_some_iff.mp H
    obtain ⟨⟨t235, t236⟩, A70, H⟩ := H
    (try dsimp only at H)
    have A7 := Aside0.mk A70
    clear A70
    have HC8 := Aside0.mk H
    clear H
    go_enter Tryd.func4, Tryd.ntmps4
    go_upto_region 8 with (first | ((with_reducible refine gate_callee (f := 11) rfl ?_); refine goesL_ (some 11) rfl rfl Tryd.func11 (by kernel_rfl) rfl #[.slice A0 l0.length c0, .int .i64 1048576] rfl (by (try simp only [List.map_toArray, List.map_cons, List.map_nil]); first | done | rfl | (simp only [List.length_drop, List.length_take]; rfl)) ?_; (with_reducible refine (laws_szActS.calls _ _ l0 1048576 t226 _ ?side1 ?side2 A2.out).mono ?_); (case side1 => repeat (first | exact HR0.out | (with_reducible refine Kd.C_alloc ?_ _) | (with_reducible refine Kd.C_drewN ?_ _) | (with_reducible refine Kd.C_drew ?_))); (case side2 => exact HC0.out); rintro e w' ⟨rfl, ⟨nd, rfl⟩⟩; refine ⟨_, rfl, ?_⟩) | ((with_reducible refine gate_callee (f := 13) rfl ?_); refine goesL_ (some 16) rfl rfl Tryd.func13 (by kernel_rfl) rfl #[.slice A0 l0.length c0] rfl (by (try simp only [List.map_toArray, List.map_cons, List.map_nil]); first | done | rfl | (simp only [List.length_drop, List.length_take]; rfl)) ?_; (with_reducible refine (laws_toActS.calls k _ _ l0 t227 _ ?side1 ?side2 A4.out).mono ?_); (case side1 => repeat (first | exact HR0.out | (with_reducible refine Kd.C_alloc ?_ _) | (with_reducible refine Kd.C_drewN ?_ _) | (with_reducible refine Kd.C_drew ?_))); (case side2 => exact HC0.out); rintro e w9 ⟨v228, rfl, ho0, hb⟩; refine ⟨_, rfl, ?_⟩; have n0_ := Aside0.mk (Kd.R_lower ho0 (below_size (oB HB))); have n1_ := Aside0.mk (below_step (oB HB) hb); clear HB; have HO229 := n0_; have HB := n1_; clear n0_ n1_; (try clear hb); (try clear hb2); (try clear hk); (try clear hi); (try clear ho0); obtain ⟨Ao10, co10, eo10⟩ := Kd.R_slice HO229.out; subst eo10) | ((with_reducible refine gate_callee (f := 12) rfl ?_); refine goesL_ (some 17) rfl rfl Tryd.func12 (by kernel_rfl) rfl #[.slice Ao10 t227.length co10] rfl (by (try simp only [List.map_toArray, List.map_cons, List.map_nil]); first | done | rfl | (simp only [List.length_drop, List.length_take]; rfl)) ?_; (with_reducible refine (spec_ScriptText.calls k _ _ t227 t230 t231 _ ?side1 ?side2 A5.out).mono ?_); (case side1 => repeat (first | exact (Kd.R_reads' HO229.out).2.2 | (with_reducible refine Kd.C_alloc ?_ _) | (with_reducible refine Kd.C_drewN ?_ _) | (with_reducible refine Kd.C_drew ?_))); (case side2 => exact (Kd.R_reads' HO229.out).2.1); rintro e w11 ⟨rfl, hb⟩; refine ⟨_, rfl, ?_⟩; have n0_ := Aside0.mk (Kd.R_below (oR HO229) hb); have n1_ := Aside0.mk (below_step (oB HB) hb); clear HO229; clear HB; have HO229 := n0_; have HB := n1_; clear n0_ n1_; (try clear hb); (try clear hb2); (try clear hk); (try clear hi)) | ((with_reducible refine gate_callee (f := 13) rfl ?_); refine goesL_ (some 21) rfl rfl Tryd.func13 (by kernel_rfl) rfl #[.slice A0 l0.length c0] rfl (by (try simp only [List.map_toArray, List.map_cons, List.map_nil]); first | done | rfl | (simp only [List.length_drop, List.length_take]; rfl)) ?_; (with_reducible refine (laws_toActS.calls k _ _ l0 t232 _ ?side1 ?side2 A6.out).mono ?_); (case side1 => exact oc_ HR0.out); (case side2 => exact HC0.out); rintro e w12 ⟨v233, rfl, ho0, hb⟩; refine ⟨_, rfl, ?_⟩; have n0_ := Aside0.mk (Kd.R_elder' (oR HO229) (Kd.R_base ho0) hb); have n1_ := Aside0.mk (Kd.R_lower (Kd.R_new' ho0 (Kd.R_lt (oR HO229))) (below_size (oB HB))); have n2_ := Aside0.mk (below_step (oB HB) hb); clear HO229; clear HB; have HO229 := n0_; have HO234 := n1_; have HB := n2_; clear n0_ n1_ n2_; (try clear hb); (try clear hb2); (try clear hk); (try clear hi); (try clear ho0); obtain ⟨Ao13, co13, eo13⟩ := Kd.R_slice HO234.out; subst eo13) | ((with_reducible refine gate_callee (f := 14) rfl ?_); refine goesL_ (some 24) rfl rfl Tryd.func14 (by kernel_rfl) rfl #[.slice Ao13 t232.length co13] rfl (by (try simp only [List.map_toArray, List.map_cons, List.map_nil]); first | done | rfl | (simp only [List.length_drop, List.length_take]; rfl)) ?_; (with_reducible refine (impl_ScriptText.calls k _ _ t232 t235 t236 _ ?side1 ?side2 A7.out ?sideT).mono ?_); (case sideT => exact ⟨tab_on ht_.out (oB HB)⟩); (case side1 => repeat (first | exact (Kd.R_reads' HO234.out).2.2 | (with_reducible refine Kd.C_alloc ?_ _) | (with_reducible refine Kd.C_drewN ?_ _) | (with_reducible refine Kd.C_drew ?_))); (case side2 => exact (Kd.R_reads' HO234.out).2.1); rintro e w14 ⟨rfl, hb⟩; refine ⟨_, rfl, ?_⟩; have n0_ := Aside0.mk (Kd.R_below (oR HO229) hb); have n1_ := Aside0.mk (Kd.R_below (oR HO234) hb); have n2_ := Aside0.mk (below_step (oB HB) hb); clear HO229; clear HO234; clear HB; have HO229 := n0_; have HO234 := n1_; have HB := n2_; clear n0_ n1_ n2_; (try clear hb); (try clear hb2); (try clear hk); (try clear hi)))
    (try simp only [Act.put, List.setIfInBounds_toArray, List.set_cons_zero, List.set_cons_succ])
    go_cut [34] (fun v34 wc => ∃ (kq : Nat) (x34_7 : Bool), v34 = .bool x34_7 ∧ Aside0 (laws_FnExactScriptText.j0 kq l0 t232 x34_7 = some r) ∧ Aside0 (kq ≤ k) ∧ Aside0 (Kd.R k26 26 wc w.heap.size (fun _ => True) (.slice Ao13 t232.length co13) t232) ∧ Aside0 (Below w.heap.size w wc))
    case first =>
      have H := HC8.out
      clear HC8
      by_cases c15 : t235.toList = t230.toList
      · rw [if_pos c15] at H
        have c15b0 : (t235.toList == t230.toList) = true := beq_iff_eq.mpr c15
        have c15b1 : (t235.toList != t230.toList) = false := bne_eq_false_iff_eq.mpr c15
        clear c15
        (first | rw [c15b0] | (simp only [i64_w, i32_w]; rw [c15b0]) | skip)
        have H' := Aside0.mk H
        clear H
        go_wp2
        go_meet
        case rel => exact ⟨_, ((t236 != t231)), (by first | rfl | (simp; done) | (simp [*]; done)), H', ⟨by first | omega | exact Nat.le_refl _⟩, ⟨by (with_reducible repeat (first | apply Kd.R_alloc | apply Kd.R_drewN | apply Kd.R_drew)); exact Kd.R_mono HO234.out (fun _ hk => trivial)⟩, ⟨oB HB⟩⟩
      · rw [if_neg c15] at H
        have c15b0 : (t235.toList == t230.toList) = false := beq_eq_false_iff_ne.mpr c15
        have c15b1 : (t235.toList != t230.toList) = true := bne_iff_ne.mpr c15
        (first | rw [c15b0] | (simp only [i64_w, i32_w]; rw [c15b0]) | skip)
        have H' := Aside0.mk H
        clear H
        go_wp2
        go_meet
        case rel => exact ⟨_, (true), (by first | rfl | (simp; done) | (simp [*]; done)), H', ⟨by first | omega | exact Nat.le_refl _⟩, ⟨by (with_reducible repeat (first | apply Kd.R_alloc | apply Kd.R_drewN | apply Kd.R_drew)); exact Kd.R_mono HO234.out (fun _ hk => trivial)⟩, ⟨oB HB⟩⟩
    case rest =>
      clear HC8
      try clear c1
      try clear p2
      try clear c3
      try clear c3b0
      try clear c4
      try clear c11
      try clear c12
      try clear c13
      try clear c14
      try clear c15
      try clear c15b0
      try clear c15b1
      obtain ⟨kq, x34_7, rfl, HA, HJ7, HO_6, HB⟩ := hcut
      cases kq with
      | zero => exact absurd HA.out (by simp [laws_FnExactScriptText.j0])
      | succ kj7 =>
        have H := HA.out
        clear HA
        simp only [laws_FnExactScriptText.j0] at H
        by_cases c16 : x34_7 = true
        · subst c16
          rw [if_pos rfl] at H
          exact absurd ((Option.some.inj H).trans hrt_.out) (by decide)
        · replace c16 := Bool.eq_false_iff.mpr c16
          subst c16
          rw [if_neg (show ¬ (false = true) by decide)] at H
          replace H := Option.bind_eq_some_iff.mp H
          obtain ⟨t237, A170, H⟩ := H
          (try dsimp only at H)
          have A17 := Aside0.mk A170
          clear A170
          replace H := Option.bind_eq_some_iff.mp H
          obtain ⟨t240, A180, H⟩ := H
          (try dsimp only at H)
          have A18 := Aside0.mk A180
          clear A180
          by_cases c19 : t240 = true
          · subst c19
            rw [if_pos rfl] at H
            obtain rfl := Option.some.inj H
            go_wp2_with (first | ((with_reducible refine gate_callee (f := 13) rfl ?_); refine goesL_ (some 37) rfl rfl Tryd.func13 (by kernel_rfl) rfl #[.slice A0 l0.length c0] rfl (by (try simp only [List.map_toArray, List.map_cons, List.map_nil]); first | done | rfl | (simp only [List.length_drop, List.length_take]; rfl)) ?_; (with_reducible refine (laws_toActS.calls kj7 _ _ l0 t237 _ ?side1 ?side2 A17.out).mono ?_); (case side1 => exact oc_ HR0.out); (case side2 => exact HC0.out); rintro e w20 ⟨v238, rfl, ho0, hb⟩; refine ⟨_, rfl, ?_⟩; have n0_ := Aside0.mk (Kd.R_elder' (oR HO_6) (Kd.R_base ho0) hb); have n1_ := Aside0.mk (Kd.R_lower (Kd.R_new' ho0 (Kd.R_lt (oR HO_6))) (below_size (oB HB))); have n2_ := Aside0.mk (below_step (oB HB) hb); clear HO_6; clear HB; have HO_6 := n0_; have HO239 := n1_; have HB := n2_; clear n0_ n1_ n2_; (try clear hb); (try clear hb2); (try clear hk); (try clear hi); (try clear ho0); obtain ⟨Ao21, co21, eo21⟩ := Kd.R_slice HO239.out; subst eo21) | ((with_reducible refine gate_callee (f := 15) rfl ?_); refine goesL_ (some 38) rfl rfl Tryd.func15 (by kernel_rfl) rfl #[.slice Ao13 t232.length co13, .slice Ao21 t237.length co21] rfl (by (try simp only [List.map_toArray, List.map_cons, List.map_nil]); first | done | rfl | (simp only [List.length_drop, List.length_take]; rfl)) ?_; (with_reducible refine (laws_eqActS.calls kj7 _ _ t232 _ _ t237 true _ ?side1 ?side2 ?side3 ?side4 A18.out).mono ?_); (case side1 => repeat (first | exact (Kd.R_reads' HO_6.out).2.2 | (with_reducible refine Kd.C_alloc ?_ _) | (with_reducible refine Kd.C_drewN ?_ _) | (with_reducible refine Kd.C_drew ?_))); (case side2 => exact (Kd.R_reads' HO_6.out).2.1); (case side3 => repeat (first | exact (Kd.R_reads' HO239.out).2.2 | (with_reducible refine Kd.C_alloc ?_ _) | (with_reducible refine Kd.C_drewN ?_ _) | (with_reducible refine Kd.C_drew ?_))); (case side4 => exact (Kd.R_reads' HO239.out).2.1); rintro e w22 ⟨rfl, hb⟩; refine ⟨_, rfl, ?_⟩; have n0_ := Aside0.mk (Kd.R_below (oR HO_6) hb); have n1_ := Aside0.mk (Kd.R_below (oR HO239) hb); have n2_ := Aside0.mk (below_step (oB HB) hb); clear HO_6; clear HO239; clear HB; have HO_6 := n0_; have HO239 := n1_; have HB := n2_; clear n0_ n1_ n2_; (try clear hb); (try clear hb2); (try clear hk); (try clear hi)))
            go_ret
            exact ⟨by first | rfl | (simp [errW_none, errW_some] <;> rfl) | (simp [*, errW_none, errW_some] <;> rfl), oB HB⟩
          · replace c19 := Bool.eq_false_iff.mpr c19
            subst c19
            rw [if_neg (show ¬ (false = true) by decide)] at H
            exact absurd ((Option.some.inj H).trans hrt_.out) (by decide)
end Go.Proofs.YtojiighpkppckaaDoor.P


namespace Go.Proofs.YtojiighpkppckaaDoor.Q
set_option linter.unusedVariables false
set_option linter.unusedSimpArgs false
open Go.RowKit Go.Proofs.YtojiighpkppckaaDoorW.PrintWords
theorem evp {α : Type} {c : Prop} [Decidable c] (h : c) {f g : Nat → Option α} {r : α} (k : Ev f r) : Ev (fun n => if c then f n else g n) r := by
  simp only [if_pos h]; exact k
theorem evn {α : Type} {c : Prop} [Decidable c] (h : ¬ c) {f g : Nat → Option α} {r : α} (k : Ev g r) : Ev (fun n => if c then f n else g n) r := by
  simp only [if_neg h]; exact k
theorem evi {α : Type} {c : Prop} [Decidable c] {f g : Nat → Option α} {r : α} (k1 : c → Ev f r) (k2 : ¬ c → Ev g r) : Ev (fun n => if c then f n else g n) r := by
  by_cases h : c
  · exact evp h (k1 h)
  · exact evn h (k2 h)
theorem evb {α β : Type} {x : Option α} {f : Nat → α → Option β} {a : α} {r : β} (h : x = some a) (k : Ev (fun n => f n a) r) : Ev (fun n => x.bind (f n)) r := by
  simp only [h, Option.bind_some]; exact k
theorem evs {α : Type} {a b : α} (h : a = b) : Ev (fun _ => some a) b := h ▸ Ev.now a
theorem evr {α : Type} {g : Nat → Option α} {a b : α} (h : Ev g a) (e : a = b) : Ev g b := e ▸ h
theorem down {P : Nat → Prop} {n : Nat} (he : P n) (hs : ∀ i, i < n → P (i + 1) → P i) (i : Nat) (h : i ≤ n) : P i := by
  obtain ⟨d, rfl⟩ : ∃ d, n = i + d := ⟨n - i, by omega⟩
  clear h
  induction d generalizing i with
  | zero => exact he
  | succ d ih =>
    refine hs i (by omega) (ih (i + 1) ?_ ?_)
    · rw [show i + 1 + d = i + (d + 1) by omega]; exact he
    · intro j hj; exact hs j (by omega)
theorem w64 {n : Int} (h1 : -9223372036854775808 ≤ n) (h2 : n ≤ 9223372036854775807) : wrap64 n = n := by unfold wrap64; omega
theorem wf64 {n : Int} (h : (Lit.int .i64 n).wf = true) : -9223372036854775808 ≤ n ∧ n ≤ 9223372036854775807 := by
  simp [Lit.wf, IntKind.min, IntKind.max, IntKind.signed, IntKind.bits] at h
  omega
theorem rd_nat (l : List Int) (i : Nat) (h : i < l.length) : rd l (i : Int) = l[i] := by
  unfold rd; simp [List.getD_eq_getElem?_getD, h]
theorem drop_cons {α : Type} (l : List α) (i : Nat) (h : i < l.length) : l.drop i = l[i] :: l.drop (i + 1) := List.drop_eq_getElem_cons h
theorem drop_end {α : Type} (l : List α) : l.drop l.length = [] := List.drop_eq_nil_of_le (Nat.le_refl _)
theorem set_take {α : Type} (l : List α) (i : Nat) (v : α) (h : i < l.length) : (l.set i v).take (i + 1) = l.take i ++ [v] := by
  rw [List.take_set, List.take_succ_eq_append_getElem h, List.set_append_right _ _ (by simp; omega)]
  simp [Nat.min_eq_left (Nat.le_of_lt h)]
end Go.Proofs.YtojiighpkppckaaDoor.Q


namespace Go.Proofs.YtojiighpkppckaaDoor.Q
set_option linter.unusedVariables false
set_option linter.unusedSimpArgs false
open Go.RowKit Go.Proofs.YtojiighpkppckaaDoor.P Go.Proofs.YtojiighpkppckaaDoorW.PrintWords
theorem within_eq (a b c : Int) : impl_within.f a b c = some (decide (b ≤ a ∧ a ≤ c)) := by
  unfold impl_within.f; by_cases h : b ≤ a <;> simp [h]
theorem l01In_eq (a b c : Int) : spec_l01In.f a b c = some (decide (b ≤ a ∧ a ≤ c)) := by
  unfold spec_l01In.f; by_cases h : a ≥ b
  · rw [if_pos h]; simp [show b ≤ a from h]
  · rw [if_neg h]; simp [show ¬ b ≤ a from h]
end Go.Proofs.YtojiighpkppckaaDoor.Q


namespace Go.Proofs.YtojiighpkppckaaDoor.Q
set_option linter.unusedVariables false
set_option linter.unusedSimpArgs false
open Go.RowKit Go.Proofs.YtojiighpkppckaaDoor.P Go.Proofs.YtojiighpkppckaaDoorW.PrintWords
def txt (l : List UInt8) : ByteArray := ⟨l.toArray⟩
theorem txt_app (a b : List UInt8) : txt a ++ txt b = txt (a ++ b) := by
  apply ByteArray.ext
  simp [txt]
theorem txt_size (a : List UInt8) : (txt a).size = a.length := by simp [txt, ByteArray.size]
theorem txt_data (a : List UInt8) : (txt a).data.toList = a := by simp [txt]
theorem nums_txt (t : Int) : strOfNums [t] = txt [UInt8.ofNat t.toNat] := rfl
def dd (u : Nat) : List UInt8 := if u = 0 then [] else Go.Lib.decDigits u
theorem dd_step (u : Nat) (h : u ≠ 0) : dd u = dd (u / 10) ++ [UInt8.ofNat (48 + u % 10)] := by
  unfold dd
  rw [if_neg h]
  by_cases h1 : u < 10
  · rw [Go.Lib.decDigits, dif_pos h1, if_pos (by omega), show u % 10 = u by omega]; rfl
  · rw [Go.Lib.decDigits, dif_neg h1, if_neg (by omega)]
theorem figure_eq {a : Int} (h0 : 0 ≤ a) (h1 : a < 10) : spec_l01Figure.f a = some (48 + a) := by
  unfold spec_l01Figure.f
  rw [if_pos h1, w64 (by omega) (by omega)]
  congr 1
  omega
theorem fmt_l0 (neg : Bool) : ∀ (m : Nat) (x : Int) (s : List UInt8), x.natAbs < 10 ^ m → -9223372036854775808 ≤ x → x ≤ 9223372036854775807 → s.length + m ≤ 1000 →
    Ev (fun k => spec_FormatInt.l0 k x neg (txt s)) (txt ((if neg = true then [45] else []) ++ (dd x.natAbs ++ s))) := by
  intro m
  induction m with
  | zero =>
    intro x s h h1 h2 hs
    obtain rfl : x = 0 := by simp at h; omega
    refine Ev.step (fun k => by rw [spec_FormatInt.l0]) (evp rfl ?_)
    cases neg with
    | true => exact evp rfl (evp (by rw [txt_size]; omega) (evs (by rw [show (⟨#[45]⟩ : ByteArray) = txt [45] from rfl, txt_app]; rfl)))
    | false => exact evn (by decide) (evs rfl)
  | succ m ih =>
    intro x s h h1 h2 hs
    by_cases hx : x = 0
    · subst hx
      refine Ev.step (fun k => by rw [spec_FormatInt.l0]) (evp rfl ?_)
      cases neg with
      | true => exact evp rfl (evp (by rw [txt_size]; omega) (evs (by rw [show (⟨#[45]⟩ : ByteArray) = txt [45] from rfl, txt_app]; rfl)))
      | false => exact evn (by decide) (evs rfl)
    · have hn : x.natAbs ≠ 0 := by omega
      have e1 : (x.tdiv 10).natAbs = x.natAbs / 10 := by rw [Int.natAbs_tdiv]; rfl
      have e2 : (x.tmod 10).natAbs = x.natAbs % 10 := by rw [Int.natAbs_tmod]; rfl
      have hb : -9223372036854775808 ≤ x.tdiv 10 ∧ x.tdiv 10 ≤ 9223372036854775807 := by omega
      have hlt : (x.tdiv 10).natAbs < 10 ^ m := by
        rw [e1]
        rw [Nat.pow_succ] at h
        omega
      have key : ∀ t : Int, 0 ≤ t → t < 10 → t.natAbs = x.natAbs % 10 → Ev (fun k => (spec_l01Figure.f t).bind fun t109 => ((some (([t109] : List Int) : List Int)).bind fun y110 => (if (strOfNums y110).size + (txt s).size ≤ 9223372036854775807 then (spec_FormatInt.l0 k (wrap64 (Int.tdiv x 10)) neg ((strOfNums y110) ++ (txt s))) else (none)))) (txt ((if neg = true then [45] else []) ++ (dd x.natAbs ++ s))) := by
        intro t ht0 ht1 ht
        refine evb (figure_eq ht0 ht1) (evb rfl (evp (by rw [strOfNums_size, txt_size]; simp only [List.length_singleton]; omega) ?_))
        have := ih (x.tdiv 10) (UInt8.ofNat (48 + x.natAbs % 10) :: s) hlt hb.1 hb.2 (by simp only [List.length_cons]; omega)
        rw [e1] at this
        rw [w64 hb.1 hb.2, nums_txt, txt_app, show (48 + t).toNat = 48 + x.natAbs % 10 by omega, dd_step x.natAbs hn]
        simpa using this
      refine Ev.step (fun k => by rw [spec_FormatInt.l0]) (evn hx ?_)
      by_cases hneg : x.tmod 10 < 0
      · have hw : wrap64 (-(x.tmod 10)) = -(x.tmod 10) := w64 (by omega) (by omega)
        refine evp hneg ?_
        rw [hw]
        exact key _ (by omega) (by omega) (by omega)
      · exact evn hneg (key _ (by omega) (by omega) (by omega))
def num (n : Int) : List UInt8 := Go.Lib.itoa n
theorem fmt_spec (n : Int) (h1 : -9223372036854775808 ≤ n) (h2 : n ≤ 9223372036854775807) : Ev (fun k => spec_FormatInt.f k n) (txt (num n)) := by
  unfold spec_FormatInt.f
  refine evi (fun h => evs ?_) (fun h => ?_)
  · subst h
    rw [show num 0 = [48] from by unfold num Go.Lib.itoa; rw [if_neg (by omega), Go.Lib.decDigits]; rfl]; rfl
  · refine evr (fmt_l0 _ 19 n [] (by have : (10 : Nat) ^ 19 = 10000000000000000000 := by decide
                                     omega) h1 h2 (by decide)) ?_
    unfold num Go.Lib.itoa dd
    rw [if_neg (show n.natAbs ≠ 0 by omega)]
    by_cases hn : n < 0
    · simp [hn]
    · simp [hn, show n.toNat = n.natAbs by omega]
theorem fmt_impl (n : Int) (h1 : -9223372036854775808 ≤ n) (h2 : n ≤ 9223372036854775807) : impl_FormatInt.f n = some (txt (num n)) := by
  unfold impl_FormatInt.f
  rw [if_pos ⟨h1, h2⟩]; rfl
theorem num_len (n : Int) (h1 : -9223372036854775808 ≤ n) (h2 : n ≤ 9223372036854775807) : (num n).length ≤ 21 := Go.Lib.itoa_length_le n h1 h2
def tail_ (l : List Int) : List UInt8 := l.flatMap fun n => 32 :: num n
theorem tail_len (l : List Int) (h : ∀ n ∈ l, -9223372036854775808 ≤ n ∧ n ≤ 9223372036854775807) : (tail_ l).length ≤ 22 * l.length := by
  induction l with
  | nil => simp [tail_]
  | cons a r ih =>
    have h1 := num_len a (h a (by simp)).1 (h a (by simp)).2
    have h2 := ih (fun n hn => h n (by simp [hn]))
    simp only [tail_, List.flatMap_cons, List.length_append, List.length_cons] at h2 ⊢
    omega
def line (l : List Int) : List UInt8 := Go.Lib.join (l.map num) [32]
theorem line_cons (a : Int) (r : List Int) : line (a :: r) = num a ++ tail_ r := by
  unfold line
  rw [List.map_cons, Go.Lib.join_cons]
  congr 1
  induction r with
  | nil => rfl
  | cons b r ih =>
    simp only [Go.Lib.joinTail, List.map_cons, List.flatten_cons, tail_, List.flatMap_cons] at ih ⊢
    rw [ih]; rfl
theorem line_len (l : List Int) (h : ∀ n ∈ l, -9223372036854775808 ≤ n ∧ n ≤ 9223372036854775807) : (line l).length ≤ 22 * l.length := by
  cases l with
  | nil => simp [line, Go.Lib.join_nil]
  | cons a r =>
    rw [line_cons]
    have h1 := num_len a (h a (by simp)).1 (h a (by simp)).2
    have h2 := tail_len r (fun n hn => h n (by simp [hn]))
    simp only [List.length_append, List.length_cons]
    omega
theorem words_l0 (l : List Int) (h : ∀ n ∈ l, -9223372036854775808 ≤ n ∧ n ≤ 9223372036854775807) (hl : l.length ≤ 1000000) : ∀ (d i : Nat), i + d = l.length →
    Ev (fun k => impl_words.l0 k ((l.take i).map fun n => txt (num n)) l (l.length : Int) (i : Int)) (txt (line l)) := by
  intro d
  induction d with
  | zero =>
    intro i hi
    obtain rfl : i = l.length := by omega
    refine Ev.step (fun k => by rw [impl_words.l0]) (evn (by omega) ?_)
    refine evb (a := txt (line l)) ?_ (evs rfl)
    unfold strings_Join.f
    rw [List.take_length]
    have e : ((l.map fun n => txt (num n)).map fun x => x.data.toList) = l.map num := by
      rw [List.map_map]
      exact List.map_congr_left (fun n _ => txt_data _)
    rw [e]
    have h3 := line_len l h
    rw [if_pos ⟨by simp; omega, by unfold line at h3; show (Go.Lib.join (l.map num) [32]).length ≤ _; omega⟩]
    rfl
  | succ d ih =>
    intro i hi
    have hlt : i < l.length := by omega
    have hm := h l[i] (List.getElem_mem hlt)
    refine Ev.step (fun k => by rw [impl_words.l0]) (evp (by omega) (evp (by omega) (evp (by omega) ?_)))
    rw [rd_nat l i hlt]
    refine evb (fmt_impl _ hm.1 hm.2) (evp (by simp; omega) ?_)
    have := ih (i + 1) (by omega)
    rw [List.take_succ_eq_append_getElem hlt, List.map_append] at this
    rw [w64 (by omega) (by omega)]
    exact this
theorem words_eq (l : List Int) (h : ∀ n ∈ l, -9223372036854775808 ≤ n ∧ n ≤ 9223372036854775807) (hl : l.length ≤ 1000000) : Ev (fun k => impl_words.f k l) (txt (line l)) := by
  unfold impl_words.f
  exact words_l0 l h hl l.length 0 (by omega)
end Go.Proofs.YtojiighpkppckaaDoor.Q


namespace Go.Proofs.YtojiighpkppckaaDoor.Q
set_option linter.unusedVariables false
set_option linter.unusedSimpArgs false
open Go.RowKit Go.Proofs.YtojiighpkppckaaDoor.P Go.Proofs.YtojiighpkppckaaDoorW.PrintWords Go.Proofs.YtojiighpkppckaaDoorW.PrintMore
theorem isWarmth_eq (a : Int) : impl_isWarmth.f a = some (decide (-10 ≤ a ∧ a ≤ 40)) := by
  unfold impl_isWarmth.f; rw [within_eq]; rfl
def actOk (n a b c : Int) : Bool :=
  if n = 1 ∨ n = 5 ∨ n = 6 then decide (a = 0 ∧ b = 0 ∧ c = 0)
  else if n = 2 then decide ((-10 ≤ a ∧ a ≤ 40) ∧ b = 0 ∧ c = 0)
  else if n = 3 then decide ((0 ≤ a ∧ a ≤ 3) ∧ (0 ≤ b ∧ b ≤ 39) ∧ (0 ≤ c ∧ c ≤ 2))
  else if n = 4 then decide ((0 ≤ a ∧ a ≤ 11) ∧ (-100000 ≤ b ∧ b ≤ 100000) ∧ c = 0)
  else if n = 7 then decide ((0 ≤ a ∧ a ≤ 11) ∧ b = 0 ∧ c = 0) else false
theorem actOk_impl (n a b c : Int) : Ev (fun k => impl_ActOk.f k n a b c) (actOk n a b c) := by
  have J : ∀ x : Bool, x = decide (n = 1 ∨ n = 5 ∨ n = 6) → Ev (fun k => impl_ActOk.j0 k n x n a b c) (actOk n a b c) := by
    intro x hx
    refine Ev.step (fun k => by rw [impl_ActOk.j0]) ?_
    unfold actOk
    by_cases h : n = 1 ∨ n = 5 ∨ n = 6
    · refine evp (by simp [hx, h]) (evs ?_)
      rw [if_pos h, Bool.eq_iff_iff]; simp
    rw [if_neg h]
    refine evn (by simp [hx, h]) ?_
    by_cases h2 : n = 2
    · refine evp h2 ?_
      rw [if_pos h2]
      by_cases hz : b = 0 ∧ c = 0
      · refine evp (by simp [hz]) (evb (isWarmth_eq _) (evs ?_))
        simp [hz]
      · refine evn (by simpa using hz) (evs ?_)
        rw [Bool.eq_iff_iff]; simp; intros; omega
    refine evn h2 ?_
    rw [if_neg h2]
    by_cases h3 : n = 3
    · refine evp h3 ?_
      rw [if_pos h3]
      refine evb (within_eq _ _ _) ?_
      by_cases p1 : 0 ≤ a ∧ a ≤ 3
      rotate_left
      · exact evn (by simpa using p1) (evs (by simp [p1]))
      refine evp (by simpa using p1) (evb (within_eq _ _ _) ?_)
      by_cases p2 : 0 ≤ b ∧ b ≤ 39
      rotate_left
      · exact evn (by simpa using p2) (evs (by simp [p2]))
      refine evp (by simpa using p2) (evb (within_eq _ _ _) (evs ?_))
      simp [p1, p2]
    refine evn h3 ?_
    rw [if_neg h3]
    by_cases h4 : n = 4
    · refine evp h4 ?_
      rw [if_pos h4]
      by_cases p0 : c = 0
      rotate_left
      · exact evn (by simpa using p0) (evs (by simp [p0]))
      refine evp (by simpa using p0) (evb (within_eq _ _ _) ?_)
      by_cases p1 : 0 ≤ a ∧ a ≤ 11
      rotate_left
      · exact evn (by simpa using p1) (evs (by simp [p1]))
      refine evp (by simpa using p1) (evb (within_eq _ _ _) (evs ?_))
      simp [p0, p1]
    refine evn h4 ?_
    rw [if_neg h4]
    by_cases h7 : n = 7
    · refine evp h7 ?_
      rw [if_pos h7]
      by_cases hz : b = 0 ∧ c = 0
      · refine evp (by simp [hz]) (evb (within_eq _ _ _) (evs ?_))
        simp [hz]
      · refine evn (by simpa using hz) (evs ?_)
        rw [Bool.eq_iff_iff]; simp; intros; omega
    refine evn h7 ?_
    rw [if_neg h7]
    exact Ev.now _
  unfold impl_ActOk.f
  refine evi (fun h => J _ (by simp [h])) (fun h => evi (fun h5 => J _ (by simp [h5])) (fun h5 => J _ ?_))
  rw [Bool.eq_iff_iff]; simp [h, h5]
theorem actOk_spec (n a b c : Int) : Ev (fun k => spec_ActOk.f k n a b c) (actOk n a b c) := by
  have Z : ∀ (p : Prop) [Decidable p], p → Ev (fun _ => if b = 0 then some (c == 0) else some false) (decide (p ∧ b = 0 ∧ c = 0)) := by
    intro p _ hp
    by_cases hb : b = 0
    · refine evp hb (evs ?_); rw [Bool.eq_iff_iff]; simp [hp, hb]
    · refine evn hb (evs ?_); simp [hb]
  have J : ∀ x : Bool, x = decide (n = 1 ∨ n = 5 ∨ n = 6) → Ev (fun k => spec_ActOk.j0 k n x n a b c) (actOk n a b c) := by
    intro x hx
    refine Ev.step (fun k => by rw [spec_ActOk.j0]) ?_
    unfold actOk
    by_cases h : n = 1 ∨ n = 5 ∨ n = 6
    · rw [if_pos h]
      refine evp (by simp [hx, h]) ?_
      by_cases ha : a = 0
      · exact evp ha (Z (a = 0) ha)
      · exact evn ha (evs (by simp [ha]))
    rw [if_neg h]
    refine evn (by simp [hx, h]) ?_
    by_cases h2 : n = 2
    · refine evp h2 ?_
      rw [if_pos h2]
      refine evb (l01In_eq _ _ _) ?_
      by_cases p1 : -10 ≤ a ∧ a ≤ 40
      · exact evp (by simpa using p1) (Z _ p1)
      · exact evn (by simpa using p1) (evs (by simp [p1]))
    refine evn h2 ?_
    rw [if_neg h2]
    by_cases h3 : n = 3
    · refine evp h3 ?_
      rw [if_pos h3]
      refine evb (l01In_eq _ _ _) ?_
      by_cases p1 : 0 ≤ a ∧ a ≤ 3
      rotate_left
      · exact evn (by simpa using p1) (evs (by simp [p1]))
      refine evp (by simpa using p1) (evb (l01In_eq _ _ _) ?_)
      by_cases p2 : 0 ≤ b ∧ b ≤ 39
      rotate_left
      · exact evn (by simpa using p2) (evs (by simp [p2]))
      refine evp (by simpa using p2) (evb (l01In_eq _ _ _) (evs ?_))
      simp [p1, p2]
    refine evn h3 ?_
    rw [if_neg h3]
    by_cases h4 : n = 4
    · refine evp h4 ?_
      rw [if_pos h4]
      refine evb (l01In_eq _ _ _) ?_
      by_cases p1 : 0 ≤ a ∧ a ≤ 11
      rotate_left
      · exact evn (by simpa using p1) (evs (by simp [p1]))
      refine evp (by simpa using p1) (evb (l01In_eq _ _ _) ?_)
      by_cases p2 : -100000 ≤ b ∧ b ≤ 100000
      · refine evp (by simpa using p2) (evs ?_); rw [Bool.eq_iff_iff]; simp [p1, p2]
      · refine evn (by simpa using p2) (evs ?_); simp [p2]
    refine evn h4 ?_
    rw [if_neg h4]
    by_cases h7 : n = 7
    · refine evp h7 ?_
      rw [if_pos h7]
      refine evb (l01In_eq _ _ _) ?_
      by_cases p1 : 0 ≤ a ∧ a ≤ 11
      · exact evp (by simpa using p1) (Z _ p1)
      · exact evn (by simpa using p1) (evs (by simp [p1]))
    refine evn h7 ?_
    rw [if_neg h7]
    exact Ev.now _
  unfold spec_ActOk.f
  refine evi (fun h => J _ (by simp [h])) (fun h => evi (fun h5 => J _ (by simp [h5])) (fun h5 => J _ ?_))
  rw [Bool.eq_iff_iff]; simp [h, h5]
end Go.Proofs.YtojiighpkppckaaDoor.Q


namespace Go.Proofs.YtojiighpkppckaaDoor.Q
set_option linter.unusedVariables false
set_option linter.unusedSimpArgs false
open Go.RowKit Go.Proofs.YtojiighpkppckaaDoor.P Go.Proofs.YtojiighpkppckaaDoorW.PrintWords
def in64 (n : Int) : Prop := -9223372036854775808 ≤ n ∧ n ≤ 9223372036854775807
def actName (n : Int) : List UInt8 :=
  if n = 1 then [116, 117, 110, 101] else if n = 2 then [119, 97, 114, 109] else if n = 3 then [102, 97, 117, 108, 116] else if n = 4 then [107, 110, 111, 99, 107]
  else if n = 5 then [114, 101, 112, 97, 105, 114] else if n = 6 then [108, 101, 102, 116] else [104, 101, 97, 114, 100]
def actNums (n a b c : Int) : List Int := if n = 2 ∨ n = 7 then [a] else if n = 3 then [a, b, c] else if n = 4 then [a, b] else []
def actText (n a b c : Int) : List UInt8 := if actOk n a b c = true then actName n ++ tail_ (actNums n a b c) else []
theorem actOk_kind {n a b c : Int} (h : actOk n a b c = true) : 1 ≤ n ∧ n ≤ 7 := by
  unfold actOk at h
  by_cases h1 : n = 1 ∨ n = 5 ∨ n = 6
  · omega
  rw [if_neg h1] at h
  by_cases h2 : n = 2
  · omega
  rw [if_neg h2] at h
  by_cases h3 : n = 3
  · omega
  rw [if_neg h3] at h
  by_cases h4 : n = 4
  · omega
  rw [if_neg h4] at h
  by_cases h7 : n = 7
  · omega
  rw [if_neg h7] at h
  cases h
theorem tail_line (a : Int) (r : List Int) : [32] ++ line (a :: r) = tail_ (a :: r) := by
  rw [line_cons]; simp [tail_]
theorem fmtAct_l0 (name : List UInt8) (l : List Int) (m : Nat) (hm : m ≤ l.length) (h : ∀ n ∈ l, in64 n) (hl : l.length ≤ 10) (hn : name.length ≤ 100) : ∀ (d i : Nat), i + d = m →
    Ev (fun k => spec_FormatAct.l0 k (txt (name ++ tail_ (l.take i))) (m : Int) l (i : Int)) (txt (name ++ tail_ (l.take m)), true) := by
  intro d
  induction d with
  | zero =>
    intro i hi
    obtain rfl : i = m := by omega
    exact Ev.step (fun k => by rw [spec_FormatAct.l0]) (evn (by omega) (Ev.now _))
  | succ d ih =>
    intro i hi
    have hlt : i < l.length := by omega
    have hq := h l[i] (List.getElem_mem hlt)
    have ht := tail_len (l.take i) (fun n hn => h n (List.mem_of_mem_take hn))
    have hti : (l.take i).length ≤ 10 := by rw [List.length_take]; omega
    have hs : (name ++ tail_ (l.take i)).length ≤ 400 := by rw [List.length_append]; omega
    have hnl := num_len _ hq.1 hq.2
    refine Ev.step (fun k => by rw [spec_FormatAct.l0]) (evp (by omega) (evp (by rw [txt_size]; omega) (evp (by omega) (evp (by omega) ?_))))
    rw [rd_nat l i hlt]
    refine Ev.bind (fmt_spec _ hq.1 hq.2) (evp ?_ ?_)
    · rw [show (⟨#[32]⟩ : ByteArray) = txt [32] from rfl, txt_app, txt_size, txt_size, List.length_append]
      simp only [List.length_singleton]
      omega
    · rw [show (⟨#[32]⟩ : ByteArray) = txt [32] from rfl, txt_app, txt_app, w64 (by omega) (by omega)]
      have := ih (i + 1) (by omega)
      rw [show tail_ (l.take (i + 1)) = tail_ (l.take i) ++ (32 :: num l[i]) from by rw [List.take_succ_eq_append_getElem hlt]; simp only [tail_, List.flatMap_append, List.flatMap_cons, List.flatMap_nil, List.append_nil]] at this
      rw [show (name ++ tail_ (l.take i) ++ [32] ++ num l[i]) = name ++ (tail_ (l.take i) ++ (32 :: num l[i])) from by simp [List.append_assoc]]
      exact this
theorem fmtAct_spec (n a b c : Int) (ha : in64 a) (hb : in64 b) (hc : in64 c) : Ev (fun k => spec_FormatAct.f k n a b c) (txt (actText n a b c), actOk n a b c) := by
  unfold spec_FormatAct.f
  refine Ev.bind (actOk_spec n a b c) ?_
  by_cases hok : actOk n a b c = true
  rotate_left
  · refine evn hok (evs ?_)
    unfold actText
    rw [if_neg hok, Bool.eq_false_iff.mpr hok]; rfl
  have hk := actOk_kind hok
  refine evp hok (evb rfl (evp (by omega) (evp (by simp only [List.length_cons, List.length_nil]; omega) (evb rfl (evp (by simp only [List.length_cons, List.length_nil]; omega) ?_)))))
  have hall : ∀ m ∈ [a, b, c], in64 m := by intro m hm; simp at hm; rcases hm with rfl | rfl | rfl <;> assumption
  have go : ∀ (nm : List UInt8) (m : Nat), m ≤ 3 → nm.length ≤ 100 → rdOf ByteArray.empty [(⟨#[]⟩ : ByteArray), (⟨#[116, 117, 110, 101]⟩ : ByteArray), (⟨#[119, 97, 114, 109]⟩ : ByteArray), (⟨#[102, 97, 117, 108, 116]⟩ : ByteArray), (⟨#[107, 110, 111, 99, 107]⟩ : ByteArray), (⟨#[114, 101, 112, 97, 105, 114]⟩ : ByteArray), (⟨#[108, 101, 102, 116]⟩ : ByteArray), (⟨#[104, 101, 97, 114, 100]⟩ : ByteArray)] n = txt nm → rd [0, 0, 1, 3, 2, 0, 0, 1] n = (m : Int) → nm = actName n → [a, b, c].take m = actNums n a b c →
      Ev (fun k => spec_FormatAct.l0 k (rdOf ByteArray.empty [(⟨#[]⟩ : ByteArray), (⟨#[116, 117, 110, 101]⟩ : ByteArray), (⟨#[119, 97, 114, 109]⟩ : ByteArray), (⟨#[102, 97, 117, 108, 116]⟩ : ByteArray), (⟨#[107, 110, 111, 99, 107]⟩ : ByteArray), (⟨#[114, 101, 112, 97, 105, 114]⟩ : ByteArray), (⟨#[108, 101, 102, 116]⟩ : ByteArray), (⟨#[104, 101, 97, 114, 100]⟩ : ByteArray)] n) (rd [0, 0, 1, 3, 2, 0, 0, 1] n) [a, b, c] 0) (txt (actText n a b c), actOk n a b c) := by
    intro nm m hm hl e1 e2 e3 e4
    rw [e1, e2]
    have := fmtAct_l0 nm [a, b, c] m hm hall (by simp) hl m 0 (by omega)
    rw [e4] at this
    rw [show tail_ (List.take 0 [a, b, c]) = [] from rfl, List.append_nil] at this
    unfold actText
    rw [if_pos hok, hok, ← e3]
    exact this
  rcases (show n = 1 ∨ n = 2 ∨ n = 3 ∨ n = 4 ∨ n = 5 ∨ n = 6 ∨ n = 7 by omega) with rfl | rfl | rfl | rfl | rfl | rfl | rfl
  · exact go _ 0 (by decide) (by decide) rfl rfl rfl rfl
  · exact go [119, 97, 114, 109] 1 (by decide) (by decide) rfl rfl rfl rfl
  · exact go [102, 97, 117, 108, 116] 3 (by decide) (by decide) rfl rfl rfl rfl
  · exact go [107, 110, 111, 99, 107] 2 (by decide) (by decide) rfl rfl rfl rfl
  · exact go [114, 101, 112, 97, 105, 114] 0 (by decide) (by decide) rfl rfl rfl rfl
  · exact go [108, 101, 102, 116] 0 (by decide) (by decide) rfl rfl rfl rfl
  · exact go [104, 101, 97, 114, 100] 1 (by decide) (by decide) rfl rfl rfl rfl
theorem fmtAct_impl (n a b c : Int) (ha : in64 a) (hb : in64 b) (hc : in64 c) : Ev (fun k => impl_FormatAct.f k n a b c) (txt (actText n a b c), actOk n a b c) := by
  unfold impl_FormatAct.f
  refine Ev.bind (actOk_impl n a b c) ?_
  by_cases hok : actOk n a b c = true
  rotate_left
  · refine evn hok (evs ?_)
    unfold actText
    rw [if_neg hok, Bool.eq_false_iff.mpr hok]; rfl
  have hk := actOk_kind hok
  have W : ∀ (nm : List UInt8) (x : Int) (r : List Int) (q : Nat), (nm ++ [32]).length = q → q ≤ 100 → (x :: r).length ≤ 3 → (∀ m ∈ x :: r, in64 m) → nm = actName n → x :: r = actNums n a b c →
      Ev (fun k => (impl_words.f k (x :: r)).bind fun t => (if q + t.size ≤ 9223372036854775807 then (some (txt (nm ++ [32]) ++ t, true)) else (none))) (txt (actText n a b c), actOk n a b c) := by
    intro nm x r q hq hq1 hl hm e1 e2
    refine Ev.bind (words_eq (x :: r) hm (by omega)) (evp ?_ (evs ?_))
    · have := line_len (x :: r) hm
      rw [txt_size]
      omega
    · rw [txt_app, List.append_assoc, tail_line, hok]
      unfold actText
      rw [if_pos hok, ← e1, ← e2]
  have N : ∀ (nm : List UInt8), nm = actName n → actNums n a b c = [] → Ev (fun _ => some (txt nm, true)) (txt (actText n a b c), actOk n a b c) := by
    intro nm e1 e2
    refine evs ?_
    unfold actText
    rw [if_pos hok, hok, e2, e1]
    simp [tail_]
  refine evp hok ?_
  rcases (show n = 1 ∨ n = 2 ∨ n = 3 ∨ n = 4 ∨ n = 5 ∨ n = 6 ∨ n = 7 by omega) with rfl | rfl | rfl | rfl | rfl | rfl | rfl
  · exact evp rfl (N _ rfl rfl)
  · exact evn (by decide) (evp rfl (W [119, 97, 114, 109] a [] 5 rfl (by decide) (by simp) (by simpa using ha) rfl rfl))
  · exact evn (by decide) (evn (by decide) (evp rfl (W [102, 97, 117, 108, 116] a [b, c] 6 rfl (by decide) (by simp) (by simp; exact ⟨ha, hb, hc⟩) rfl rfl)))
  · exact evn (by decide) (evn (by decide) (evn (by decide) (evp rfl (W [107, 110, 111, 99, 107] a [b] 6 rfl (by decide) (by simp) (by simp; exact ⟨ha, hb⟩) rfl rfl))))
  · exact evn (by decide) (evn (by decide) (evn (by decide) (evn (by decide) (evp rfl (N _ rfl rfl)))))
  · exact evn (by decide) (evn (by decide) (evn (by decide) (evn (by decide) (evn (by decide) (evp rfl (N _ rfl rfl))))))
  · exact evn (by decide) (evn (by decide) (evn (by decide) (evn (by decide) (evn (by decide) (evn (by decide) (W [104, 101, 97, 114, 100] a [] 6 rfl (by decide) (by simp) (by simpa using ha) rfl rfl))))))
end Go.Proofs.YtojiighpkppckaaDoor.Q


namespace Go.Proofs.YtojiighpkppckaaDoor.Q
set_option linter.unusedVariables false
set_option linter.unusedSimpArgs false
open Go.RowKit Go.Proofs.YtojiighpkppckaaDoor.P Go.Proofs.YtojiighpkppckaaDoorW.PrintWords Go.Proofs.YtojiighpkppckaaDoorW.PrintMore
def cAct (x : S23) : S26 := ⟨x.f0, x.f1, x.f2, x.f3⟩
theorem rdA (l : List S26) (i : Nat) (h : i < l.length) : rd_T26 l (i : Int) = l[i] := by
  unfold rd_T26; simp [List.getD_eq_getElem?_getD, h]
theorem rdLA (l : List S23) (i : Nat) (h : i < l.length) : rd_T23 l (i : Int) = l[i] := by
  unfold rd_T23; simp [List.getD_eq_getElem?_getD, h]
theorem toActS_ev (l : List S23) (hl : l.length ≤ 1048576) : Ev (fun k => laws_toActS.f k l) (l.map cAct) := by
  have key : ∀ i, i ≤ l.length → ∀ acc : List S26, acc.length = l.length → Ev (fun k => laws_toActS.l0 k l acc (i : Int)) (acc.take i ++ (l.drop i).map cAct) := by
    refine down (n := l.length) ?_ ?_
    · intro acc ha
      refine Ev.step (fun k => by rw [laws_toActS.l0]) (evn (by omega) (evs ?_))
      rw [drop_end, List.map_nil, List.append_nil, List.take_of_length_le (by omega)]
    · intro i hi ih acc ha
      refine Ev.step (fun k => by rw [laws_toActS.l0]) (evp (by omega) (evp (by omega) ?_))
      rw [rdLA l i hi]
      refine evb (a := (l[i].f0, l[i].f1, l[i].f2, l[i].f3)) rfl (evp (by omega) ?_)
      rw [w64 (by omega) (by omega), Int.toNat_natCast]
      have := ih (acc.set i (cAct l[i])) (by simpa using ha)
      rw [set_take _ _ _ (by omega), List.append_assoc] at this
      rw [drop_cons l i hi, List.map_cons]
      exact this
  have := key 0 (Nat.zero_le _) (List.replicate l.length z26) (by simp)
  unfold laws_toActS.f
  refine evp (by omega) (evp (by omega) ?_)
  simpa using this
theorem eqAct_self (a b c d : Int) : laws_eqAct.f a b c d a b c d = some true := by unfold laws_eqAct.f; simp
theorem eqActS_ev (l : List S26) (hl : l.length ≤ 9000000000000000000) : Ev (fun k => laws_eqActS.f k l l) true := by
  have key : ∀ i, i ≤ l.length → Ev (fun k => laws_eqActS.l0 k l l (i : Int)) true := by
    refine down (n := l.length) ?_ ?_
    · refine Ev.step (fun k => by rw [laws_eqActS.l0]) (evn (by omega) ?_)
      exact Ev.now _
    · intro i hi ih
      refine Ev.step (fun k => by rw [laws_eqActS.l0]) (evp (by omega) (evp (by omega) (evp (by omega) ?_)))
      refine evb (eqAct_self _ _ _ _) (evp rfl ?_)
      rw [w64 (by omega) (by omega)]
      exact ih
  unfold laws_eqActS.f
  refine evp rfl ?_
  exact key 0 (Nat.zero_le _)
theorem szActS_eq (l : List S23) (m : Int) (h0 : 0 ≤ m) (hm : m ≤ 1048576) (hl : l.length ≤ 9223372036854775807) : laws_szActS.f l m = some (if m < l.length then -1 else m - l.length) := by
  unfold laws_szActS.f
  rw [w64 (by omega) (by omega)]
  by_cases h : m < l.length
  · rw [if_pos (by omega), if_pos h]
  · rw [if_neg (by omega), if_neg h]
end Go.Proofs.YtojiighpkppckaaDoor.Q


namespace Go.Proofs.YtojiighpkppckaaDoor.Q
set_option linter.unusedVariables false
set_option linter.unusedSimpArgs false
open Go.RowKit Go.Proofs.YtojiighpkppckaaDoor.P Go.Proofs.YtojiighpkppckaaDoorW.PrintWords
def ofAct (x : S26) : List UInt8 := actText x.f0 x.f1 x.f2 x.f3
def okAct (x : S26) : Bool := actOk x.f0 x.f1 x.f2 x.f3
def inAct (x : S26) : Prop := in64 x.f1 ∧ in64 x.f2 ∧ in64 x.f3
def scrGo : List S26 → List UInt8 → ByteArray × Bool
  | [], bs => (txt bs, true)
  | a :: r, bs => if okAct a = true then scrGo r (bs ++ (ofAct a ++ [10])) else (txt [], false)
def scr (l : List S26) : ByteArray × Bool := if l.length > 40 then (txt [], false) else scrGo l []
def bi (l : List UInt8) : List Int := l.map fun b => (b.toNat : Int)
theorem bytesOf_txt (l : List UInt8) : bytesOf (txt l) = bi l := by simp [bytesOf, txt, bi]
theorem nums_bi (l : List UInt8) : strOfNums (bi l) = txt l := by
  unfold strOfNums bi txt
  congr 1
  rw [List.map_map]
  have : ((fun n : Int => UInt8.ofNat n.toNat) ∘ fun b : UInt8 => (b.toNat : Int)) = id := by funext b; simp
  rw [this, List.map_id]
theorem ofAct_len (x : S26) (h : inAct x) : (ofAct x).length ≤ 100 := by
  unfold ofAct actText
  by_cases hk : actOk x.f0 x.f1 x.f2 x.f3 = true
  · rw [if_pos hk]
    have h1 : (actName x.f0).length ≤ 6 := by unfold actName; (repeat' split) <;> simp
    have h2 : ∀ n ∈ actNums x.f0 x.f1 x.f2 x.f3, in64 n := by
      unfold actNums
      intro n hn
      obtain ⟨h3, h4, h5⟩ := h
      repeat' split at hn
      all_goals simp at hn
      · subst hn; exact h3
      · rcases hn with rfl | rfl | rfl <;> assumption
      · rcases hn with rfl | rfl <;> assumption
    have h3 : (actNums x.f0 x.f1 x.f2 x.f3).length ≤ 3 := by unfold actNums; (repeat' split) <;> simp
    have h4 := tail_len _ h2
    simp only [List.length_append]
    omega
  · rw [if_neg hk]; simp
theorem scr_l0 (l : List S26) (hl : l.length ≤ 40) (h : ∀ x ∈ l, inAct x) : ∀ i, i ≤ l.length → ∀ bs : List UInt8, bs.length ≤ 101 * i → Ev (fun k => spec_ScriptText.l0 k l (bi bs) (i : Int)) (scrGo (l.drop i) bs) := by
  refine down (n := l.length) ?_ ?_
  · intro bs hb
    refine Ev.step (fun k => by rw [spec_ScriptText.l0]) (evn (by omega) (evs ?_))
    rw [drop_end, nums_bi]; rfl
  · intro i hi ih bs hb
    have hx := h l[i] (List.getElem_mem hi)
    refine Ev.step (fun k => by rw [spec_ScriptText.l0]) (evp (by omega) (evp (by omega) ?_))
    rw [rdA l i hi, drop_cons l i hi]
    refine Ev.bind (fmtAct_spec _ _ _ _ hx.1 hx.2.1 hx.2.2) ?_
    have hlen := ofAct_len l[i] hx
    unfold scrGo
    by_cases hk : okAct l[i] = true
    · rw [if_pos hk]
      refine evp hk (evn (by omega) ?_)
      rw [show (⟨#[10]⟩ : ByteArray) = txt [10] from rfl, txt_app]
      refine evp (by rw [txt_size]; have : (actText l[i].f0 l[i].f1 l[i].f2 l[i].f3).length ≤ 100 := hlen; omega) (evp ?_ ?_)
      · have : (actText l[i].f0 l[i].f1 l[i].f2 l[i].f3).length ≤ 100 := hlen
        rw [txt_size]
        simp only [bi, List.length_map, List.length_append, List.length_singleton]
        omega
      · rw [bytesOf_txt, w64 (by omega) (by omega)]
        have := ih (bs ++ (ofAct l[i] ++ [10])) (by simp only [List.length_append, List.length_singleton]; omega)
        rw [show bi bs ++ bi (actText l[i].f0 l[i].f1 l[i].f2 l[i].f3 ++ [10]) = bi (bs ++ (ofAct l[i] ++ [10])) from by simp [bi, ofAct]]
        exact this
    · rw [if_neg hk]
      exact evn hk (Ev.now _)
theorem scr_long (l : List S26) (hl : 40 < l.length) (h : ∀ x ∈ l, inAct x) : Ev (fun k => spec_ScriptText.f k l) (txt [], false) := by
  unfold spec_ScriptText.f
  have hi : 0 < l.length := by omega
  have hx := h l[0] (List.getElem_mem hi)
  refine Ev.step (fun k => by rw [spec_ScriptText.l0]) (evp (by omega) (evp (by omega) ?_))
  rw [show rd_T26 l 0 = l[0] from rdA l 0 hi]
  refine Ev.bind (fmtAct_spec _ _ _ _ hx.1 hx.2.1 hx.2.2) ?_
  by_cases hk : actOk l[0].f0 l[0].f1 l[0].f2 l[0].f3 = true
  · exact evp hk (evp (by omega) (Ev.now _))
  · exact evn hk (Ev.now _)
theorem scr_spec (l : List S26) (h : ∀ x ∈ l, inAct x) : Ev (fun k => spec_ScriptText.f k l) (scr l) := by
  by_cases hl : l.length > 40
  · unfold scr; rw [if_pos hl]; exact scr_long l hl h
  · unfold scr; rw [if_neg hl]
    exact scr_l0 l (by omega) h 0 (Nat.zero_le _) [] (by simp)
theorem scrI (l : List S26) : (∀ x ∈ l, inAct x) → ∀ bs : List UInt8, bs.length + 101 * l.length ≤ 100000 → Ev (fun k => impl_ScriptText.l0 k l bs) (scrGo l bs) := by
  induction l with
  | nil => exact fun _ bs _ => evs rfl
  | cons a r ih =>
    intro h bs hb
    have hx := h a (by simp)
    have hlen := ofAct_len a hx
    simp only [List.length_cons] at hb
    show Ev (fun k => (impl_FormatAct.f k a.f0 a.f1 a.f2 a.f3).bind fun t => if t.2 = true then (if bs.length + t.1.size + 1 ≤ 140737488355328 then impl_ScriptText.l0 k r (bs ++ (t.1.data.toList ++ [10])) else none) else some (⟨#[]⟩, false)) (if okAct a = true then scrGo r (bs ++ (ofAct a ++ [10])) else (txt [], false))
    refine Ev.bind (fmtAct_impl _ _ _ _ hx.1 hx.2.1 hx.2.2) ?_
    by_cases hk : okAct a = true
    · rw [if_pos hk]
      refine evp hk (evp ?_ ?_)
      · rw [txt_size]
        have : (actText a.f0 a.f1 a.f2 a.f3).length ≤ 100 := hlen
        omega
      · rw [txt_data]
        have : (actText a.f0 a.f1 a.f2 a.f3).length ≤ 100 := hlen
        exact ih (fun x hx => h x (by simp [hx])) _ (by simp only [List.length_append, List.length_singleton]; omega)
    · rw [if_neg hk]
      exact evn hk (Ev.now _)
theorem scr_impl (l : List S26) (h : ∀ x ∈ l, inAct x) : Ev (fun k => impl_ScriptText.f k l) (scr l) := by
  unfold impl_ScriptText.f scr
  by_cases hl : l.length > 40
  · rw [if_pos hl]; exact evp (by omega) (Ev.now _)
  · rw [if_neg hl]; exact evn (by omega) (scrI l h [] (by simp; omega))
end Go.Proofs.YtojiighpkppckaaDoor.Q


namespace Go.Proofs.YtojiighpkppckaaDoor.Q
set_option linter.unusedVariables false
set_option linter.unusedSimpArgs false
open Go.RowKit Go.Deep Go.ChangeShapes Go.WideShapes Go.Proofs.YtojiighpkppckaaDoorW.PrintWords
def Opens {α : Type} (P : Program) (w : World) (d : Kd α) (T : TypeId) (G : α → Prop) : Prop :=
  ∀ (H : Type) (enc : TypeId × Value → H) (base : Nat) (spare : Nat → Bool) (held : Bool) (fuel : Nat) (cs : List Value) (x : DataW H × List MemPlace),
    DataW.trod enc P w base spare held fuel T cs = some x → ∃ v, d.K w v cs ∧ G v
def OpensFs {α : Type} (P : Program) (w : World) (d : Kd α) (off : Nat) (fs : Array Field) (i : Nat) (G : α → Prop) : Prop :=
  ∀ (H : Type) (enc : TypeId × Value → H) (base : Nat) (spare : Nat → Bool) (held : Bool) (fuel : Nat) (cs : List Value), cs.length = off + d.sz →
    (∀ j f, i ≤ j → fs[j]? = some f → ∃ y : DataW H × List MemPlace, DataW.trod enc P w base spare held fuel f.type ((cs.drop f.offset).take (P.cellsOf f.type)) = some y) → ∃ v, d.K w v (cs.drop off) ∧ G v
section
variable {P : Program} {w : World}
theorem Opens.int {k : IntKind} {T : TypeId} (ht : P.underlying T = some (.int k)) : Opens P w (Kd.int k) T (fun n => (Lit.int k n).wf = true) := by
  intro H enc base spare held fuel cs x hx
  obtain ⟨n, rfl, _, hw⟩ := DataW.trod_int ht hx
  exact ⟨n, rfl, hw⟩
theorem Opens.slice {α : Type} (z : α) {d : Kd α} {E T : TypeId} {G : α → Prop} (ht : P.underlying T = some (.slice E)) (hC : P.cellsOf E = d.sz) (h : Opens P w d E G) :
    Opens P w (Kd.slice E d) T (fun l => l.length ≤ 9223372036854775807 ∧ ∀ x ∈ l, G x) := by
  haveI : Inhabited α := ⟨z⟩
  intro H enc base spare held fuel cs x hx
  rcases open_slice ht hx with ⟨rfl, _⟩ | ⟨a, len, cap, m, n, D, Pl, rfl, hb, hl, hm, hmm, _, hi⟩
  · exact ⟨[], ⟨none, 0, rfl, Nat.le_refl _, rfl, by simp, fun h => absurd h (by simp)⟩, by simp, by simp⟩
  · have hlm : len ≤ m := by rw [hmm]; split <;> omega
    obtain ⟨V, hV⟩ := choose_lt (α := α) (n := len) (p := fun i v => G v ∧ ∃ c, c.length = d.sz ∧ d.K w v c ∧ ∀ j u, c[j]? = some u → w.cell? (a.add (i * d.sz + j)) = some u) (fun i hil => by
      obtain ⟨cs', h1, h2⟩ := hi i (by omega)
      obtain ⟨v, hv, g⟩ := h H enc base spare held n cs' _ h2
      obtain ⟨_, hcl, hat⟩ := World.cells?_some h1
      refine ⟨v, g, cs', by rw [hcl, hC], hv, fun j u hu => ?_⟩
      have hj : j < P.cellsOf E := by rw [← hcl]; exact (List.getElem?_eq_some_iff.1 hu).1
      have := hat j hj
      rw [hC, Go.Deep.add_add] at this
      rw [this, hu])
    refine ⟨(List.range len).map V, ⟨some a, cap, by simp, by simpa using hl, by simp, by have := hm; unfold maxLen at this; simp; omega, fun _ => ⟨a, rfl, fun j p hj => ?_⟩⟩, ?_⟩
    · have hj' : j < len := by have := (List.getElem?_eq_some_iff.1 hj).1; simpa using this
      obtain rfl : V j = p := by simpa [hj'] using hj
      exact (hV j hj').2
    · refine ⟨by have := hm; unfold maxLen at this; simp; omega, fun x hx => ?_⟩
      obtain ⟨i, hi, rfl⟩ := List.mem_map.1 hx
      exact (hV i (List.mem_range.1 hi)).1
theorem OpensFs.one {α : Type} {d : Kd α} {off i : Nat} {fs : Array Field} {f : Field} {G : α → Prop} (hf : fs[i]? = some f) (h : Opens P w d f.type G) (ho : f.offset = off) (hc : P.cellsOf f.type = d.sz) : OpensFs P w d off fs i G := by
  intro H enc base spare held fuel cs hlen hfs
  obtain ⟨y, hy⟩ := hfs i f (Nat.le_refl _) hf
  rw [ho, hc, List.take_of_length_le (by simp [hlen])] at hy
  exact h H enc base spare held fuel _ _ hy
theorem OpensFs.more {α β : Type} {d : Kd α} {d2 : Kd β} {off i : Nat} {fs : Array Field} {f : Field} {G : α → Prop} {G2 : β → Prop} (hf : fs[i]? = some f) (h : Opens P w d f.type G) (ho : f.offset = off) (hc : P.cellsOf f.type = d.sz)
    (h2 : OpensFs P w d2 (off + d.sz) fs (i + 1) G2) : OpensFs P w (Kd.pair d d2) off fs i (fun x => G x.1 ∧ G2 x.2) := by
  intro H enc base spare held fuel cs hlen hfs
  have hlen' : cs.length = off + (d.sz + d2.sz) := hlen
  obtain ⟨y, hy⟩ := hfs i f (Nat.le_refl _) hf
  rw [ho, hc] at hy
  obtain ⟨v, hv, g⟩ := h H enc base spare held fuel _ _ hy
  obtain ⟨v2, hv2, g2⟩ := h2 H enc base spare held fuel cs (by omega) (fun j f' hj hf' => hfs j f' (by omega) hf')
  refine ⟨(v, v2), ⟨_, _, ?_, hv, hv2⟩, g, g2⟩
  rw [← List.drop_drop, List.take_append_drop]
theorem Opens.pairs {α : Type} {d : Kd α} {T : TypeId} {fs : Array Field} {G : α → Prop} (ht : P.underlying T = some (.struct fs)) (hC : P.cellsOf T = d.sz) (h : OpensFs P w d 0 fs 0 G) : Opens P w d T G := by
  intro H enc base spare held fuel cs x hx
  obtain ⟨xs, n, _, _, hlen, hxl, hat⟩ := DataW.trod_struct ht hx
  exact h H enc base spare held n cs (by rw [hlen, hC, Nat.zero_add]) (fun j f' _ hf' => by
    have hi' : j < fs.size := (Array.getElem?_eq_some_iff.1 hf').1
    have e := hat j f' hf'
    rw [List.getElem?_eq_getElem (by omega)] at e
    exact ⟨_, e⟩)
theorem Opens.struct {α β : Type} {d : Kd α} {T : TypeId} {fs : Array Field} {f : β → α} {G0 : α → Prop} {G : β → Prop} (g : α → β) (ht : P.underlying T = some (.struct fs)) (hC : P.cellsOf T = d.sz) (hfg : ∀ x, f (g x) = x)
    (h : OpensFs P w d 0 fs 0 G0) (hg : ∀ x, G0 x → G (g x)) : Opens P w (Kd.iso d f) T G := by
  intro H enc base spare held fuel cs x hx
  obtain ⟨v, hv, g0⟩ := Opens.pairs ht hC h H enc base spare held fuel cs x hx
  refine ⟨g v, ?_, hg v g0⟩
  show d.K w (f (g v)) cs
  rw [hfg]
  exact hv
theorem Opens.string {T : TypeId} (ht : P.underlying T = some .string) : Opens P w Kd.string T (fun s => s.size ≤ maxLen) := by
  intro H enc base spare held fuel cs x hx
  obtain ⟨s, rfl, _, hs⟩ := DataW.trod_string ht hx
  exact ⟨s, rfl, hs⟩
end
end Go.Proofs.YtojiighpkppckaaDoor.Q


namespace Go.Proofs.YtojiighpkppckaaDoor.Q
open Go.RowKit Go.Proofs.YtojiighpkppckaaDoor.P Go.Proofs.YtojiighpkppckaaDoorW.PrintWords
def good23 (x : S23) : Prop := ((Lit.int .i64 x.f0).wf = true ∧ (Lit.int .i64 x.f1).wf = true ∧ (Lit.int .i64 x.f2).wf = true ∧ (Lit.int .i64 x.f3).wf = true)
theorem op23 {w : World} : Opens Tryd.prog w k23 23 good23 := (Opens.struct (fun x => (⟨x.1, x.2.1, x.2.2.1, x.2.2.2⟩ : S23)) (G := good23) Tryd.underlying23 (by kernel_rfl) (fun _ => rfl) (OpensFs.more rfl (Opens.int Tryd.underlying3) rfl (by kernel_rfl) (OpensFs.more rfl (Opens.int Tryd.underlying3) rfl (by kernel_rfl) (OpensFs.more rfl (Opens.int Tryd.underlying3) rfl (by kernel_rfl) (OpensFs.one rfl (Opens.int Tryd.underlying3) rfl (by kernel_rfl))))) (fun _ h => h))
end Go.Proofs.YtojiighpkppckaaDoor.Q


namespace Go.Proofs.YtojiighpkppckaaDoor.Pure
set_option linter.unusedVariables false
set_option linter.unusedSimpArgs false
open Go.RowKit Go.Proofs.YtojiighpkppckaaDoor.P Go.Proofs.YtojiighpkppckaaDoor.Q Go.Proofs.YtojiighpkppckaaDoorW.PrintWords Go.Proofs.YtojiighpkppckaaDoorW.PrintLast
theorem FnExactScriptText (l : List S23) (h0 : l.length ≤ 9223372036854775807 ∧ ∀ y ∈ l, good23 y) : ∃ k, laws_FnExactScriptText.f k l = some true := by
  refine Ev.rounds ?_
  unfold laws_FnExactScriptText.f
  refine evb (szActS_eq l 1048576 (by omega) (by omega) h0.1) ?_
  by_cases h : (1048576 : Int) < l.length
  · rw [if_pos h]; exact evp (by omega) (Ev.now _)
  rw [if_neg h]
  refine evn (by omega) ?_
  have T := toActS_ev l (by omega)
  have E := eqActS_ev (l.map cAct) (by simp; omega)
  have hin : ∀ x ∈ l.map cAct, inAct x := by
    intro x hx
    obtain ⟨y, hy, rfl⟩ := List.mem_map.1 hx
    have g := h0.2 y hy
    exact ⟨wf64 g.2.1, wf64 g.2.2.1, wf64 g.2.2.2⟩
  refine Ev.bind T (Ev.bind (scr_spec _ hin) (Ev.bind T (Ev.bind (scr_impl _ hin) (evp rfl ?_))))
  refine Ev.step (fun k => by rw [laws_FnExactScriptText.j0]) (evn (by simp) (Ev.bind T (Ev.bind E (evp rfl (Ev.now _)))))
end Go.Proofs.YtojiighpkppckaaDoor.Pure


namespace Go.Proofs.YtojiighpkppckaaDoor.fnExactScriptText
open Go.ChangeShapes Go.WideShapes Go.ChangeAt Go.RowKit Go.Proofs.YtojiighpkppckaaDoor.P Go.Proofs.YtojiighpkppckaaDoor.Q Go.Proofs.YtojiighpkppckaaDoorW.PrintWords
open Go.ChangeMaps (open_string shut_string)
set_option linter.unusedVariables false
set_option linter.unusedSimpArgs false
theorem own : ownKnob Tryd.prog.godebug = none := by kernel_rfl
theorem laidOut : laidOutB Tryd.prog = true := by kernel_rfl
def laidX : List (String × DataW Unit) := [("math/bits.deBruijn32tab", Rows.laid_math_bits_deBruijn32tab), ("math/bits.deBruijn64tab", Rows.laid_math_bits_deBruijn64tab), ("internal/strconv.uint64pow10", Rows.laid_internal_strconv_uint64pow10)]
theorem door_met (os : Os) (args : Array Value) : laidMetH Tryd.prog laidX ((World.doorLaid Tryd.prog 400 os).forCall (fun _ _ => 0) ⟨#[], args, []⟩).memory :=
  laidMetH_of_parts3 (fuel := 8) (laidMet_of_run' 8 (by kernel_rfl) (by kernel_rfl)) (by kernel_rfl) (by kernel_rfl)
theorem tab_met {W : World} (h : laidMetH Tryd.prog laidX W) : Tab W := by
  rw [MakeChecks.laidMetH_plain _ _ _ (by kernel_rfl)] at h
  exact Go.Lib.tabIs_of_head (g := 2) (by kernel_rfl) (by kernel_rfl) Tryd.underlying192 Tryd.underlying169 (by kernel_rfl) (by kernel_rfl) h.tail.tail
set_option maxRecDepth 100000 in
theorem lifted (os : Os) (started : os.Started) (H : Type) (enc : TypeId × Value → H) :
    ReturnsInHanded {} Tryd.checked os 4 .any (fun w args => (Rows.fnExactScriptTextSpec.pre enc Tryd.prog Tryd.f4 [] false w args ∧ laidMetH Tryd.prog laidX w) ∧ sizedMet enc Tryd.prog Tryd.f4 (OpenSpec.ofChange Rows.fnExactScriptTextSpec) false w args) (Rows.fnExactScriptTextSpec.post enc Tryd.prog Tryd.f4 false true false false) := by
  refine returnsInHanded_of_change_and (C := Tryd.checked) (X := fun w _ => laidMetH Tryd.prog laidX w) (fun _ _ _ hh h => h.of_heap hh) own started (by kernel_rfl) Tryd.func4
    (ChangeSpec.witness_shaped (enc := enc) (C := Tryd.checked) (os := os) (X := fun w _ => laidMetH Tryd.prog laidX w) false (World.doorLaid Tryd.prog 400 os) #[.slice none 0 0] 8 rfl (World.shaped_of_RefB (by kernel_rfl) (by kernel_rfl)) (by kernel_rfl) (by kernel_rfl) (by kernel_rfl) (door_met os _)) ?_
  intro W base args ds gs before hval0 hW hcnd hsz0 hL _
  have htab := tab_met hL
  have hval : ∀ (j : Nat) t v, Tryd.f4.params[j]? = some t → args[j]? = some v → Value.okWide Tryd.prog W .any base t v := hval0
  have hW' := hW
  obtain ⟨p, q, hA0, hV, rfl, hfz, hnd⟩ := hW
  have hA : DataW.TrodAll enc Tryd.prog W 0 (fun _ => true) true Tryd.f4.params.toList args.toList ds p := hA0
  rw [Tryd.params4] at hA hval
  obtain ⟨v0, vs0, d0, ds0, p0, q0, hargs, rfl, rfl, h0, r0⟩ := trodAll_cons hA
  obtain ⟨rfl, rfl, rfl⟩ := trodAll_nil r0
  obtain rfl : args = #[v0] := by cases args; simp_all
  obtain ⟨rfl, rfl⟩ := trodVars_none hV
  have k0 := h0
  have lt0 : ∀ x ∈ p0, x.block < W.heap.size := by obtain ⟨m, hm⟩ := k0; exact DataW.trod_lt m _ _ _ hm
  obtain ⟨fuel0, f0⟩ := h0
  obtain ⟨x0, K0, G0⟩ := (show Opens Tryd.prog W (Kd.slice 23 k23) 29 _ from Opens.slice z23 Tryd.underlying29 (by kernel_rfl) op23) H enc 0 _ _ fuel0 _ _ f0
  obtain ⟨len0, cap0, adr0, rfl⟩ : ∃ l c a, v0 = .slice a l c := by obtain ⟨a, l, c, e⟩ := okWide_slice Tryd.underlying29 (hval 0 29 v0 rfl rfl); exact ⟨l, c, a, e⟩
  obtain ⟨A0, c0, e0, hc0, hr0⟩ := K0
  simp [Value.cells] at e0
  obtain ⟨rfl, rfl, rfl⟩ := e0
  obtain ⟨k, hP⟩ := Pure.FnExactScriptText x0 G0
  refine (P.laws_FnExactScriptText.calls k _ _ x0 true W hr0 hc0 hP ⟨rfl⟩ ⟨htab⟩).mono fun e W' ⟨he, bel0⟩ => ?_
  have bel : Below W.heap.size W W' := bel0
  subst he
  exact ⟨_, rfl, _, _, _, [], _, [], hW', trodAll_mk1 (shut_bool Tryd.underlying4 _), (trodAll_cons_mk (Below.trod laidOut (by kernel_rfl) (of_decide_eq_true (by kernel_rfl)) k0 bel lt0) trodAll_mk0), rfl, bel.frame _, fun h => by cases h⟩
theorem over : Rows.fnExactScriptTextRow.holds Tryd.pinned (OpenSpec.ofChange Rows.fnExactScriptTextSpec) :=
  OpenClaim.holds_of_wide 4 Tryd.f4 rfl rfl rfl rfl rfl rfl rfl ⟨rfl, rfl, rfl, rfl, rfl⟩ rfl rfl rfl rfl rfl (by kernel_rfl) Tryd.func4 (by kernel_rfl)
    (of_decide_eq_true (by kernel_rfl)) (by unfold Func.isWrapper; first | (rw [if_pos (by decide +kernel)]; kernel_rfl) | (rw [if_neg (by decide +kernel)]; exact ⟨rfl, rfl⟩))
    (fun os started H enc _ => lifted os started H enc)
theorem proved : Rows.FnExactScriptTextCardSaid :=
  Claim7.holds_tied_plain_at .later [] [.data, .data, .data] true (true, "945ce9a059cba3a6b1cb180f52f852ce1e51cd91454f1ca8874738d61f1647a2") true
    over (fun _ h => by cases h) (by kernel_rfl) (fun _ h => by cases h) fnExactScriptText_row_tie rfl ⟨rfl, rfl⟩ (by kernel_rfl) rfl
    (fun f fn hf hfn => by
      obtain rfl : f = 4 := Option.some.inj ((show Tryd.prog.funcNamed "loop.example/g00989/laws.FnExactScriptText" = some 4 by kernel_rfl).symm.trans hf) |>.symm
      obtain rfl : fn = Tryd.f4 := (Option.some.inj (Tryd.func4.symm.trans hfn)).symm
      exact ⟨by kernel_rfl, fun j t ht => by
        rw [Tryd.params4] at ht
        have hm : t ∈ ([29] : List Nat) := by simpa using Array.mem_of_getElem? ht
        have hall : (([29] : List Nat).all fun u => !Tryd.prog.wantsStandIn u) = true := by kernel_rfl
        exact (show Tryd.prog.wantsStandIn t = false by simpa using List.all_eq_true.1 hall t hm)⟩)
    (by kernel_rfl)
#print axioms proved
end Go.Proofs.YtojiighpkppckaaDoor.fnExactScriptText
namespace Go.Proofs.YtojiighpkppckaaDoor
theorem fnExactScriptText_holds : Rows.FnExactScriptTextCardSaid := fnExactScriptText.proved
end Go.Proofs.YtojiighpkppckaaDoor

