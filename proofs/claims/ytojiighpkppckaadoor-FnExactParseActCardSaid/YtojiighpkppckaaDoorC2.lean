/- What functions of the program come to (f), that their calls come to just this (calls), and the plain laws over lists and numbers, and the law FnExactParseAct: for every argument it answers true. No condition but those of the given row. -/
import Derived.Test.YtojiighpkppckaaDoorRows
import Derived.Test.YtojiighpkppckaaDoorC1
import Derived.Shelf.Strings.Split
import Derived.Lib.ItoaLen
import Derived.Lib.SplitLaws
import Derived.Lib.Bytealg
import Derived.Lib.AtoiTie
import Derived.Deep.Slices
import Derived.ChangeArms
import Derived.ChangeSame
import Derived.Stop.LaidErr
import Derived.WalkKit
import Derived.ProofKit
import Derived.OpenShut
import Derived.ShutString
import Derived.ChangeOld
import Derived.Below
import Derived.SizedLaws
import Derived.Test.YtojiighpkppckaaDoorTie
import Derived.Test.YtojiighpkppckaaDoorCards
import GoSem.PinnedTables
import Derived.SevenTiedAt
import Derived.Stop.Joined
import Derived.LaidLaws
import Derived.LaidMore
import Derived.LaidHandle
import Derived.MakeChecks
namespace Go.Proofs.YtojiighpkppckaaDoor.P
open Go.RowKit Go.Proofs.YtojiighpkppckaaDoorW.PrintWords Go.Proofs.YtojiighpkppckaaDoorW.PrintLast Go.Proofs.YtojiighpkppckaaDoorW.PrintMore Go.Proofs.YtojiighpkppckaaDoor.V
attribute [local go_sem] cell_b frozen_b
attribute [local go_sem] max2_int min2_int max_two min_two max_three min_three max_four min_four
set_option linter.unusedVariables false
set_option linter.unusedSimpArgs false
def impl_FormatAct.f (k : Nat) (a0_0 : Int) (a0_1 : Int) (a0_2 : Int) (a0_3 : Int) : Option (ByteArray × Bool) := (impl_ActOk.f k a0_0 a0_1 a0_2 a0_3).bind fun t173 => (if t173 = true then (if a0_0 = 1 then (some ((⟨#[116, 117, 110, 101]⟩ : ByteArray), true)) else (if a0_0 = 2 then ((impl_words.f k (([a0_1] : List Int))).bind fun t177 => (if 5 + t177.size ≤ 9223372036854775807 then (some ((⟨#[119, 97, 114, 109, 32]⟩ : ByteArray) ++ t177, true)) else (none))) else (if a0_0 = 3 then ((impl_words.f k (([a0_1, a0_2, a0_3] : List Int))).bind fun t181 => (if 6 + t181.size ≤ 9223372036854775807 then (some ((⟨#[102, 97, 117, 108, 116, 32]⟩ : ByteArray) ++ t181, true)) else (none))) else (if a0_0 = 4 then ((impl_words.f k (([a0_1, a0_2] : List Int))).bind fun t185 => (if 6 + t185.size ≤ 9223372036854775807 then (some ((⟨#[107, 110, 111, 99, 107, 32]⟩ : ByteArray) ++ t185, true)) else (none))) else (if a0_0 = 5 then (some ((⟨#[114, 101, 112, 97, 105, 114]⟩ : ByteArray), true)) else (if a0_0 = 6 then (some ((⟨#[108, 101, 102, 116]⟩ : ByteArray), true)) else ((impl_words.f k (([a0_1] : List Int))).bind fun t189 => (if 6 + t189.size ≤ 9223372036854775807 then (some ((⟨#[104, 101, 97, 114, 100, 32]⟩ : ByteArray) ++ t189, true)) else (none))))))))) else (some ((⟨#[]⟩ : ByteArray), false)))
set_option maxHeartbeats 8000000 in
set_option maxRecDepth 100000 in
theorem impl_FormatAct.calls (k : Nat) (a0_0 : Int) (a0_1 : Int) (a0_2 : Int) (a0_3 : Int) (r1 : ByteArray) (r2 : Bool) (w : World) (h : impl_FormatAct.f k a0_0 a0_1 a0_2 a0_3 = some (r1, r2)) (ht_ : Aside0 (Tab w)) :
    Calls Tryd.prog 10 #[.agg #[.int .i64 a0_0, .int .i64 a0_1, .int .i64 a0_2, .int .i64 a0_3]] w fun e w' => e = .returned (.tuple #[.string r1, .bool r2]) ∧ Below w.heap.size w w' := by
  have hu26 := Tryd.underlying26
  have HB := A_ (Below.refl w.heap.size w)
  have H : ((impl_ActOk.f k a0_0 a0_1 a0_2 a0_3).bind fun t173 => (if t173 = true then (if a0_0 = 1 then (some ((⟨#[116, 117, 110, 101]⟩ : ByteArray), true)) else (if a0_0 = 2 then ((impl_words.f k (([a0_1] : List Int))).bind fun t177 => (if 5 + t177.size ≤ 9223372036854775807 then (some ((⟨#[119, 97, 114, 109, 32]⟩ : ByteArray) ++ t177, true)) else (none))) else (if a0_0 = 3 then ((impl_words.f k (([a0_1, a0_2, a0_3] : List Int))).bind fun t181 => (if 6 + t181.size ≤ 9223372036854775807 then (some ((⟨#[102, 97, 117, 108, 116, 32]⟩ : ByteArray) ++ t181, true)) else (none))) else (if a0_0 = 4 then ((impl_words.f k (([a0_1, a0_2] : List Int))).bind fun t185 => (if 6 + t185.size ≤ 9223372036854775807 then (some ((⟨#[107, 110, 111, 99, 107, 32]⟩ : ByteArray) ++ t185, true)) else (none))) else (if a0_0 = 5 then (some ((⟨#[114, 101, 112, 97, 105, 114]⟩ : ByteArray), true)) else (if a0_0 = 6 then (some ((⟨#[108, 101, 102, 116]⟩ : ByteArray), true)) else ((impl_words.f k (([a0_1] : List Int))).bind fun t189 => (if 6 + t189.size ≤ 9223372036854775807 then (some ((⟨#[104, 101, 97, 114, 100, 32]⟩ : ByteArray) ++ t189, true)) else (none))))))))) else (some ((⟨#[]⟩ : ByteArray), false)))) = some (r1, r2) := h
  clear h
  replace H := Option.bind_eq_some_iff.mp H
  obtain ⟨t173, A20, H⟩ := H
  (try dsimp only at H)
  have A2 := A_ A20
  clear A20
  by_cases c3 : t173 = true
  · subst c3
    rw [if_pos rfl] at H
    by_cases c4 : a0_0 = 1
    · rw [if_pos c4] at H
      have c4b0 : (a0_0 == 1) = true := beq_iff_eq.mpr c4
      have c4b1 : (a0_0 != 1) = false := bne_eq_false_iff_eq.mpr c4
      clear c4
      simp only [Option.some.injEq, Prod.mk.injEq] at H
      obtain ⟨rfl, rfl⟩ := H
      go_enter Tryd.func10, Tryd.ntmps10
      go_wp2_with (first | ((with_reducible refine gate_dst (N := 1) rfl ?_); refine bX (N := 1) (cs := #[.int .i64 a0_0, .int .i64 a0_1, .int .i64 a0_2, .int .i64 a0_3]) (t := 26) ?_; intro gb172 hg w5 hbox hb; have n0_ := A_ (below_step (oB HB) hb); have n1_ := A_ (hbox); have n2_ := A_ ((by rw [hg]; exact (below_size (oB HB)) : w.heap.size ≤ gb172)); have n3_ := A_ ((by rw [hg]; exact (below_size (oB HB)) : w.heap.size ≤ gb172)); clear HB; have HB := n0_; have BK172 := n1_; have GW172 := n2_; have GE172 := n3_; clear n0_ n1_ n2_ n3_; clear hb hbox hg; have hcz6_0 := cz BK172 0; have hcz6_1 := cz BK172 1; have hcz6_2 := cz BK172 2; have hcz6_3 := cz BK172 3; have hfz6_0 := blk_frozen BK172.out 0; have hfz6_1 := blk_frozen BK172.out 1; have hfz6_2 := blk_frozen BK172.out 2; have hfz6_3 := blk_frozen BK172.out 3) | ((with_reducible refine gate_callee (f := 33) rfl ?_); refine gL (some 5) Tryd.func33 #[.agg #[.int .i64 a0_0, .int .i64 a0_1, .int .i64 a0_2, .int .i64 a0_3]] ?_; (with_reducible refine (impl_ActOk.calls k a0_0 a0_1 a0_2 a0_3 true _ A2.out).mono ?_); rintro e w7 ⟨rfl, hb⟩; refine ⟨_, rfl, ?_⟩; have n0_ := A_ (bb BK172 hb); have n1_ := A_ (below_step (oB HB) hb); clear BK172; clear HB; have BK172 := n0_; have HB := n1_; clear n0_ n1_; (try clear hb); (try clear hb2); (try clear hk); (try clear hi); have hcz8_0 := cz BK172 0; have hcz8_1 := cz BK172 1; have hcz8_2 := cz BK172 2; have hcz8_3 := cz BK172 3; have hfz8_0 := blk_frozen BK172.out 0; have hfz8_1 := blk_frozen BK172.out 1; have hfz8_2 := blk_frozen BK172.out 2; have hfz8_3 := blk_frozen BK172.out 3))
      go_ret2
      exact ⟨eR, oB HB⟩
    · rw [if_neg c4] at H
      have c4b0 : (a0_0 == 1) = false := beq_eq_false_iff_ne.mpr c4
      have c4b1 : (a0_0 != 1) = true := bne_iff_ne.mpr c4
      by_cases c9 : a0_0 = 2
      · rw [if_pos c9] at H
        have c9b0 : (a0_0 == 2) = true := beq_iff_eq.mpr c9
        have c9b1 : (a0_0 != 2) = false := bne_eq_false_iff_eq.mpr c9
        clear c9
        obtain ⟨y174, hy174⟩ : ∃ y_ : List Int, y_ = (([a0_1] : List Int)) := ⟨_, rfl⟩
        replace H : ((impl_words.f k y174).bind fun t177 => (if 5 + t177.size ≤ 9223372036854775807 then (some ((⟨#[119, 97, 114, 109, 32]⟩ : ByteArray) ++ t177, true)) else (none))) = some (r1, r2) := by first | (rw [hy174]; with_reducible exact H) | (have H2_ := (Option.bind_some _ _).symm.trans H; rw [hy174]; with_reducible exact H2_) | (have H2_ := (Option.bind_some _ _).symm.trans H; with_reducible exact H2_) | with_reducible exact H | (rw [hy174]; exact H) | exact H
        have Ny174 := A_ hy174
        clear hy174
        replace H := Option.bind_eq_some_iff.mp H
        obtain ⟨t177, A100, H⟩ := H
        (try dsimp only at H)
        have A10 := A_ A100
        clear A100
        by_cases c11 : 5 + t177.size ≤ 9223372036854775807
        · rw [if_pos c11] at H
          have c11b0 := eq_true c11
          have c11b1 : decide (5 + t177.size ≤ 9223372036854775807) = true := decide_eq_true c11
          try have c11b2 : (9223372036854775807 < 5 + t177.size) = False := eq_false (Nat.not_lt.2 c11)
          simp only [Option.some.injEq, Prod.mk.injEq] at H
          obtain ⟨rfl, rfl⟩ := H
          go_enter Tryd.func10, Tryd.ntmps10
          go_wp2_with (first | ((with_reducible refine gate_dst (N := 1) rfl ?_); refine bX (N := 1) (cs := #[.int .i64 a0_0, .int .i64 a0_1, .int .i64 a0_2, .int .i64 a0_3]) (t := 26) ?_; intro gb172 hg w12 hbox hb; have n0_ := A_ (below_step (oB HB) hb); have n1_ := A_ (hbox); have n2_ := A_ ((by rw [hg]; exact (below_size (oB HB)) : w.heap.size ≤ gb172)); have n3_ := A_ ((by rw [hg]; exact (below_size (oB HB)) : w.heap.size ≤ gb172)); clear HB; have HB := n0_; have BK172 := n1_; have GW172 := n2_; have GE172 := n3_; clear n0_ n1_ n2_ n3_; clear hb hbox hg; have hcz13_0 := cz BK172 0; have hcz13_1 := cz BK172 1; have hcz13_2 := cz BK172 2; have hcz13_3 := cz BK172 3; have hfz13_0 := blk_frozen BK172.out 0; have hfz13_1 := blk_frozen BK172.out 1; have hfz13_2 := blk_frozen BK172.out 2; have hfz13_3 := blk_frozen BK172.out 3) | ((with_reducible refine gate_callee (f := 33) rfl ?_); refine gL (some 5) Tryd.func33 #[.agg #[.int .i64 a0_0, .int .i64 a0_1, .int .i64 a0_2, .int .i64 a0_3]] ?_; (with_reducible refine (impl_ActOk.calls k a0_0 a0_1 a0_2 a0_3 true _ A2.out).mono ?_); rintro e w14 ⟨rfl, hb⟩; refine ⟨_, rfl, ?_⟩; have n0_ := A_ (bb BK172 hb); have n1_ := A_ (below_step (oB HB) hb); clear BK172; clear HB; have BK172 := n0_; have HB := n1_; clear n0_ n1_; (try clear hb); (try clear hb2); (try clear hk); (try clear hi); have hcz15_0 := cz BK172 0; have hcz15_1 := cz BK172 1; have hcz15_2 := cz BK172 2; have hcz15_3 := cz BK172 3; have hfz15_0 := blk_frozen BK172.out 0; have hfz15_1 := blk_frozen BK172.out 1; have hfz15_2 := blk_frozen BK172.out 2; have hfz15_3 := blk_frozen BK172.out 3) | ((with_reducible refine gate_dst (N := 15) rfl ?_); refine Kd.R_lit (Kd.int .i64) _ 3 ?hg (N := 15) ?hd (xs := ([a0_1] : List Int)) (inner := [.int .i64 a0_1]) (ok := fun _ => True) (okp := fun _ => True) ?hr ?hp (fun _ hk => hk) trivial (Below.refl _ _) (Nat.le_refl _) (by simp) ?_; (case hd => rfl); (case hg => rfl); (case hr => first | (go_simp; done) | (go_simp; rfl)); (case hp => exact (Reps.one (show Kd.M (Kd.int .i64) _ _ _ a0_1 [.int .i64 a0_1] from rfl) (Reps.none _ _))); intro v175 w16 ho17 hb hg_ hnew_; clear hg_ hnew_; (first | rw [← Ny174.out] at ho17 | (simp only [Int.reduceToNat] at ho17; rw [← Ny174.out] at ho17)); have n0_ := A_ (Kd.R_lower ho17 (below_size (oB HB))); have n1_ := A_ (bb BK172 hb); have n2_ := A_ (below_step (oB HB) hb); clear BK172; clear HB; have HO176 := n0_; have BK172 := n1_; have HB := n2_; clear n0_ n1_ n2_; clear hb ho17; obtain ⟨Ao18, co18, eo18⟩ := Kd.R_slice HO176.out; subst eo18) | ((with_reducible refine gate_callee (f := 34) rfl ?_); refine gL (some 16) Tryd.func34 #[.slice Ao18 y174.length co18] ?_; (with_reducible refine (impl_words.calls k _ _ y174 t177 _ ?side1 ?side2 A10.out ?sideT).mono ?_); (case sideT => exact ⟨tab_on ht_.out (oB HB)⟩); (case side1 => repeat (first | exact (Kd.R_reads' HO176.out).2.2 | (with_reducible refine Kd.C_alloc ?_ _) | (with_reducible refine Kd.C_drewN ?_ _) | (with_reducible refine Kd.C_drew ?_))); (case side2 => exact (Kd.R_reads' HO176.out).2.1); rintro e w19 ⟨rfl, hb⟩; refine ⟨_, rfl, ?_⟩; have n0_ := A_ (Kd.R_below (oR HO176) hb); have n1_ := A_ (bb BK172 hb); have n2_ := A_ (below_step (oB HB) hb); clear HO176; clear BK172; clear HB; have HO176 := n0_; have BK172 := n1_; have HB := n2_; clear n0_ n1_ n2_; (try clear hb); (try clear hb2); (try clear hk); (try clear hi)))
          go_ret2
          exact ⟨eR, oB HB⟩
        · rw [if_neg c11] at H
          exact absurd H (by simp)
      · rw [if_neg c9] at H
        have c9b0 : (a0_0 == 2) = false := beq_eq_false_iff_ne.mpr c9
        have c9b1 : (a0_0 != 2) = true := bne_iff_ne.mpr c9
        by_cases c20 : a0_0 = 3
        · rw [if_pos c20] at H
          have c20b0 : (a0_0 == 3) = true := beq_iff_eq.mpr c20
          have c20b1 : (a0_0 != 3) = false := bne_eq_false_iff_eq.mpr c20
          clear c20
          obtain ⟨y178, hy178⟩ : ∃ y_ : List Int, y_ = (([a0_1, a0_2, a0_3] : List Int)) := ⟨_, rfl⟩
          replace H : ((impl_words.f k y178).bind fun t181 => (if 6 + t181.size ≤ 9223372036854775807 then (some ((⟨#[102, 97, 117, 108, 116, 32]⟩ : ByteArray) ++ t181, true)) else (none))) = some (r1, r2) := by first | (rw [hy178]; with_reducible exact H) | (have H2_ := (Option.bind_some _ _).symm.trans H; rw [hy178]; with_reducible exact H2_) | (have H2_ := (Option.bind_some _ _).symm.trans H; with_reducible exact H2_) | with_reducible exact H | (rw [hy178]; exact H) | exact H
          have Ny178 := A_ hy178
          clear hy178
          replace H := Option.bind_eq_some_iff.mp H
          obtain ⟨t181, A210, H⟩ := H
          (try dsimp only at H)
          have A21 := A_ A210
          clear A210
          by_cases c22 : 6 + t181.size ≤ 9223372036854775807
          · rw [if_pos c22] at H
            have c22b0 := eq_true c22
            have c22b1 : decide (6 + t181.size ≤ 9223372036854775807) = true := decide_eq_true c22
            try have c22b2 : (9223372036854775807 < 6 + t181.size) = False := eq_false (Nat.not_lt.2 c22)
            simp only [Option.some.injEq, Prod.mk.injEq] at H
            obtain ⟨rfl, rfl⟩ := H
            go_enter Tryd.func10, Tryd.ntmps10
            go_wp2_with (first | ((with_reducible refine gate_dst (N := 1) rfl ?_); refine bX (N := 1) (cs := #[.int .i64 a0_0, .int .i64 a0_1, .int .i64 a0_2, .int .i64 a0_3]) (t := 26) ?_; intro gb172 hg w23 hbox hb; have n0_ := A_ (below_step (oB HB) hb); have n1_ := A_ (hbox); have n2_ := A_ ((by rw [hg]; exact (below_size (oB HB)) : w.heap.size ≤ gb172)); have n3_ := A_ ((by rw [hg]; exact (below_size (oB HB)) : w.heap.size ≤ gb172)); clear HB; have HB := n0_; have BK172 := n1_; have GW172 := n2_; have GE172 := n3_; clear n0_ n1_ n2_ n3_; clear hb hbox hg; have hcz24_0 := cz BK172 0; have hcz24_1 := cz BK172 1; have hcz24_2 := cz BK172 2; have hcz24_3 := cz BK172 3; have hfz24_0 := blk_frozen BK172.out 0; have hfz24_1 := blk_frozen BK172.out 1; have hfz24_2 := blk_frozen BK172.out 2; have hfz24_3 := blk_frozen BK172.out 3) | ((with_reducible refine gate_callee (f := 33) rfl ?_); refine gL (some 5) Tryd.func33 #[.agg #[.int .i64 a0_0, .int .i64 a0_1, .int .i64 a0_2, .int .i64 a0_3]] ?_; (with_reducible refine (impl_ActOk.calls k a0_0 a0_1 a0_2 a0_3 true _ A2.out).mono ?_); rintro e w25 ⟨rfl, hb⟩; refine ⟨_, rfl, ?_⟩; have n0_ := A_ (bb BK172 hb); have n1_ := A_ (below_step (oB HB) hb); clear BK172; clear HB; have BK172 := n0_; have HB := n1_; clear n0_ n1_; (try clear hb); (try clear hb2); (try clear hk); (try clear hi); have hcz26_0 := cz BK172 0; have hcz26_1 := cz BK172 1; have hcz26_2 := cz BK172 2; have hcz26_3 := cz BK172 3; have hfz26_0 := blk_frozen BK172.out 0; have hfz26_1 := blk_frozen BK172.out 1; have hfz26_2 := blk_frozen BK172.out 2; have hfz26_3 := blk_frozen BK172.out 3) | ((with_reducible refine gate_dst (N := 26) rfl ?_); refine Kd.R_lit (Kd.int .i64) _ 3 ?hg (N := 26) ?hd (xs := ([a0_1, a0_2, a0_3] : List Int)) (inner := [.int .i64 a0_1, .int .i64 a0_2, .int .i64 a0_3]) (ok := fun _ => True) (okp := fun _ => True) ?hr ?hp (fun _ hk => hk) trivial (Below.refl _ _) (Nat.le_refl _) (by simp) ?_; (case hd => rfl); (case hg => rfl); (case hr => first | (go_simp; done) | (go_simp; rfl)); (case hp => exact (Reps.one (show Kd.M (Kd.int .i64) _ _ _ a0_1 [.int .i64 a0_1] from rfl) (Reps.one (show Kd.M (Kd.int .i64) _ _ _ a0_2 [.int .i64 a0_2] from rfl) (Reps.one (show Kd.M (Kd.int .i64) _ _ _ a0_3 [.int .i64 a0_3] from rfl) (Reps.none _ _))))); intro v179 w27 ho28 hb hg_ hnew_; clear hg_ hnew_; (first | rw [← Ny178.out] at ho28 | (simp only [Int.reduceToNat] at ho28; rw [← Ny178.out] at ho28)); have n0_ := A_ (Kd.R_lower ho28 (below_size (oB HB))); have n1_ := A_ (bb BK172 hb); have n2_ := A_ (below_step (oB HB) hb); clear BK172; clear HB; have HO180 := n0_; have BK172 := n1_; have HB := n2_; clear n0_ n1_ n2_; clear hb ho28; obtain ⟨Ao29, co29, eo29⟩ := Kd.R_slice HO180.out; subst eo29) | ((with_reducible refine gate_callee (f := 34) rfl ?_); refine gL (some 27) Tryd.func34 #[.slice Ao29 y178.length co29] ?_; (with_reducible refine (impl_words.calls k _ _ y178 t181 _ ?side1 ?side2 A21.out ?sideT).mono ?_); (case sideT => exact ⟨tab_on ht_.out (oB HB)⟩); (case side1 => repeat (first | exact (Kd.R_reads' HO180.out).2.2 | (with_reducible refine Kd.C_alloc ?_ _) | (with_reducible refine Kd.C_drewN ?_ _) | (with_reducible refine Kd.C_drew ?_))); (case side2 => exact (Kd.R_reads' HO180.out).2.1); rintro e w30 ⟨rfl, hb⟩; refine ⟨_, rfl, ?_⟩; have n0_ := A_ (Kd.R_below (oR HO180) hb); have n1_ := A_ (bb BK172 hb); have n2_ := A_ (below_step (oB HB) hb); clear HO180; clear BK172; clear HB; have HO180 := n0_; have BK172 := n1_; have HB := n2_; clear n0_ n1_ n2_; (try clear hb); (try clear hb2); (try clear hk); (try clear hi)))
            go_ret2
            exact ⟨eR, oB HB⟩
          · rw [if_neg c22] at H
            exact absurd H (by simp)
        · rw [if_neg c20] at H
          have c20b0 : (a0_0 == 3) = false := beq_eq_false_iff_ne.mpr c20
          have c20b1 : (a0_0 != 3) = true := bne_iff_ne.mpr c20
          by_cases c31 : a0_0 = 4
          · rw [if_pos c31] at H
            have c31b0 : (a0_0 == 4) = true := beq_iff_eq.mpr c31
            have c31b1 : (a0_0 != 4) = false := bne_eq_false_iff_eq.mpr c31
            clear c31
            obtain ⟨y182, hy182⟩ : ∃ y_ : List Int, y_ = (([a0_1, a0_2] : List Int)) := ⟨_, rfl⟩
            replace H : ((impl_words.f k y182).bind fun t185 => (if 6 + t185.size ≤ 9223372036854775807 then (some ((⟨#[107, 110, 111, 99, 107, 32]⟩ : ByteArray) ++ t185, true)) else (none))) = some (r1, r2) := by first | (rw [hy182]; with_reducible exact H) | (have H2_ := (Option.bind_some _ _).symm.trans H; rw [hy182]; with_reducible exact H2_) | (have H2_ := (Option.bind_some _ _).symm.trans H; with_reducible exact H2_) | with_reducible exact H | (rw [hy182]; exact H) | exact H
            have Ny182 := A_ hy182
            clear hy182
            replace H := Option.bind_eq_some_iff.mp H
            obtain ⟨t185, A320, H⟩ := H
            (try dsimp only at H)
            have A32 := A_ A320
            clear A320
            by_cases c33 : 6 + t185.size ≤ 9223372036854775807
            · rw [if_pos c33] at H
              have c33b0 := eq_true c33
              have c33b1 : decide (6 + t185.size ≤ 9223372036854775807) = true := decide_eq_true c33
              try have c33b2 : (9223372036854775807 < 6 + t185.size) = False := eq_false (Nat.not_lt.2 c33)
              simp only [Option.some.injEq, Prod.mk.injEq] at H
              obtain ⟨rfl, rfl⟩ := H
              go_enter Tryd.func10, Tryd.ntmps10
              go_wp2_with (first | ((with_reducible refine gate_dst (N := 1) rfl ?_); refine bX (N := 1) (cs := #[.int .i64 a0_0, .int .i64 a0_1, .int .i64 a0_2, .int .i64 a0_3]) (t := 26) ?_; intro gb172 hg w34 hbox hb; have n0_ := A_ (below_step (oB HB) hb); have n1_ := A_ (hbox); have n2_ := A_ ((by rw [hg]; exact (below_size (oB HB)) : w.heap.size ≤ gb172)); have n3_ := A_ ((by rw [hg]; exact (below_size (oB HB)) : w.heap.size ≤ gb172)); clear HB; have HB := n0_; have BK172 := n1_; have GW172 := n2_; have GE172 := n3_; clear n0_ n1_ n2_ n3_; clear hb hbox hg; have hcz35_0 := cz BK172 0; have hcz35_1 := cz BK172 1; have hcz35_2 := cz BK172 2; have hcz35_3 := cz BK172 3; have hfz35_0 := blk_frozen BK172.out 0; have hfz35_1 := blk_frozen BK172.out 1; have hfz35_2 := blk_frozen BK172.out 2; have hfz35_3 := blk_frozen BK172.out 3) | ((with_reducible refine gate_callee (f := 33) rfl ?_); refine gL (some 5) Tryd.func33 #[.agg #[.int .i64 a0_0, .int .i64 a0_1, .int .i64 a0_2, .int .i64 a0_3]] ?_; (with_reducible refine (impl_ActOk.calls k a0_0 a0_1 a0_2 a0_3 true _ A2.out).mono ?_); rintro e w36 ⟨rfl, hb⟩; refine ⟨_, rfl, ?_⟩; have n0_ := A_ (bb BK172 hb); have n1_ := A_ (below_step (oB HB) hb); clear BK172; clear HB; have BK172 := n0_; have HB := n1_; clear n0_ n1_; (try clear hb); (try clear hb2); (try clear hk); (try clear hi); have hcz37_0 := cz BK172 0; have hcz37_1 := cz BK172 1; have hcz37_2 := cz BK172 2; have hcz37_3 := cz BK172 3; have hfz37_0 := blk_frozen BK172.out 0; have hfz37_1 := blk_frozen BK172.out 1; have hfz37_2 := blk_frozen BK172.out 2; have hfz37_3 := blk_frozen BK172.out 3) | ((with_reducible refine gate_dst (N := 35) rfl ?_); refine Kd.R_lit (Kd.int .i64) _ 3 ?hg (N := 35) ?hd (xs := ([a0_1, a0_2] : List Int)) (inner := [.int .i64 a0_1, .int .i64 a0_2]) (ok := fun _ => True) (okp := fun _ => True) ?hr ?hp (fun _ hk => hk) trivial (Below.refl _ _) (Nat.le_refl _) (by simp) ?_; (case hd => rfl); (case hg => rfl); (case hr => first | (go_simp; done) | (go_simp; rfl)); (case hp => exact (Reps.one (show Kd.M (Kd.int .i64) _ _ _ a0_1 [.int .i64 a0_1] from rfl) (Reps.one (show Kd.M (Kd.int .i64) _ _ _ a0_2 [.int .i64 a0_2] from rfl) (Reps.none _ _)))); intro v183 w38 ho39 hb hg_ hnew_; clear hg_ hnew_; (first | rw [← Ny182.out] at ho39 | (simp only [Int.reduceToNat] at ho39; rw [← Ny182.out] at ho39)); have n0_ := A_ (Kd.R_lower ho39 (below_size (oB HB))); have n1_ := A_ (bb BK172 hb); have n2_ := A_ (below_step (oB HB) hb); clear BK172; clear HB; have HO184 := n0_; have BK172 := n1_; have HB := n2_; clear n0_ n1_ n2_; clear hb ho39; obtain ⟨Ao40, co40, eo40⟩ := Kd.R_slice HO184.out; subst eo40) | ((with_reducible refine gate_callee (f := 34) rfl ?_); refine gL (some 36) Tryd.func34 #[.slice Ao40 y182.length co40] ?_; (with_reducible refine (impl_words.calls k _ _ y182 t185 _ ?side1 ?side2 A32.out ?sideT).mono ?_); (case sideT => exact ⟨tab_on ht_.out (oB HB)⟩); (case side1 => repeat (first | exact (Kd.R_reads' HO184.out).2.2 | (with_reducible refine Kd.C_alloc ?_ _) | (with_reducible refine Kd.C_drewN ?_ _) | (with_reducible refine Kd.C_drew ?_))); (case side2 => exact (Kd.R_reads' HO184.out).2.1); rintro e w41 ⟨rfl, hb⟩; refine ⟨_, rfl, ?_⟩; have n0_ := A_ (Kd.R_below (oR HO184) hb); have n1_ := A_ (bb BK172 hb); have n2_ := A_ (below_step (oB HB) hb); clear HO184; clear BK172; clear HB; have HO184 := n0_; have BK172 := n1_; have HB := n2_; clear n0_ n1_ n2_; (try clear hb); (try clear hb2); (try clear hk); (try clear hi)))
              go_ret2
              exact ⟨eR, oB HB⟩
            · rw [if_neg c33] at H
              exact absurd H (by simp)
          · rw [if_neg c31] at H
            have c31b0 : (a0_0 == 4) = false := beq_eq_false_iff_ne.mpr c31
            have c31b1 : (a0_0 != 4) = true := bne_iff_ne.mpr c31
            by_cases c42 : a0_0 = 5
            · rw [if_pos c42] at H
              have c42b0 : (a0_0 == 5) = true := beq_iff_eq.mpr c42
              have c42b1 : (a0_0 != 5) = false := bne_eq_false_iff_eq.mpr c42
              clear c42
              simp only [Option.some.injEq, Prod.mk.injEq] at H
              obtain ⟨rfl, rfl⟩ := H
              go_enter Tryd.func10, Tryd.ntmps10
              go_wp2_with (first | ((with_reducible refine gate_dst (N := 1) rfl ?_); refine bX (N := 1) (cs := #[.int .i64 a0_0, .int .i64 a0_1, .int .i64 a0_2, .int .i64 a0_3]) (t := 26) ?_; intro gb172 hg w43 hbox hb; have n0_ := A_ (below_step (oB HB) hb); have n1_ := A_ (hbox); have n2_ := A_ ((by rw [hg]; exact (below_size (oB HB)) : w.heap.size ≤ gb172)); have n3_ := A_ ((by rw [hg]; exact (below_size (oB HB)) : w.heap.size ≤ gb172)); clear HB; have HB := n0_; have BK172 := n1_; have GW172 := n2_; have GE172 := n3_; clear n0_ n1_ n2_ n3_; clear hb hbox hg; have hcz44_0 := cz BK172 0; have hcz44_1 := cz BK172 1; have hcz44_2 := cz BK172 2; have hcz44_3 := cz BK172 3; have hfz44_0 := blk_frozen BK172.out 0; have hfz44_1 := blk_frozen BK172.out 1; have hfz44_2 := blk_frozen BK172.out 2; have hfz44_3 := blk_frozen BK172.out 3) | ((with_reducible refine gate_callee (f := 33) rfl ?_); refine gL (some 5) Tryd.func33 #[.agg #[.int .i64 a0_0, .int .i64 a0_1, .int .i64 a0_2, .int .i64 a0_3]] ?_; (with_reducible refine (impl_ActOk.calls k a0_0 a0_1 a0_2 a0_3 true _ A2.out).mono ?_); rintro e w45 ⟨rfl, hb⟩; refine ⟨_, rfl, ?_⟩; have n0_ := A_ (bb BK172 hb); have n1_ := A_ (below_step (oB HB) hb); clear BK172; clear HB; have BK172 := n0_; have HB := n1_; clear n0_ n1_; (try clear hb); (try clear hb2); (try clear hk); (try clear hi); have hcz46_0 := cz BK172 0; have hcz46_1 := cz BK172 1; have hcz46_2 := cz BK172 2; have hcz46_3 := cz BK172 3; have hfz46_0 := blk_frozen BK172.out 0; have hfz46_1 := blk_frozen BK172.out 1; have hfz46_2 := blk_frozen BK172.out 2; have hfz46_3 := blk_frozen BK172.out 3))
              go_ret2
              exact ⟨eR, oB HB⟩
            · rw [if_neg c42] at H
              have c42b0 : (a0_0 == 5) = false := beq_eq_false_iff_ne.mpr c42
              have c42b1 : (a0_0 != 5) = true := bne_iff_ne.mpr c42
              by_cases c47 : a0_0 = 6
              · rw [if_pos c47] at H
                have c47b0 : (a0_0 == 6) = true := beq_iff_eq.mpr c47
                have c47b1 : (a0_0 != 6) = false := bne_eq_false_iff_eq.mpr c47
                clear c47
                simp only [Option.some.injEq, Prod.mk.injEq] at H
                obtain ⟨rfl, rfl⟩ := H
                go_enter Tryd.func10, Tryd.ntmps10
                go_wp2_with (first | ((with_reducible refine gate_dst (N := 1) rfl ?_); refine bX (N := 1) (cs := #[.int .i64 a0_0, .int .i64 a0_1, .int .i64 a0_2, .int .i64 a0_3]) (t := 26) ?_; intro gb172 hg w48 hbox hb; have n0_ := A_ (below_step (oB HB) hb); have n1_ := A_ (hbox); have n2_ := A_ ((by rw [hg]; exact (below_size (oB HB)) : w.heap.size ≤ gb172)); have n3_ := A_ ((by rw [hg]; exact (below_size (oB HB)) : w.heap.size ≤ gb172)); clear HB; have HB := n0_; have BK172 := n1_; have GW172 := n2_; have GE172 := n3_; clear n0_ n1_ n2_ n3_; clear hb hbox hg; have hcz49_0 := cz BK172 0; have hcz49_1 := cz BK172 1; have hcz49_2 := cz BK172 2; have hcz49_3 := cz BK172 3; have hfz49_0 := blk_frozen BK172.out 0; have hfz49_1 := blk_frozen BK172.out 1; have hfz49_2 := blk_frozen BK172.out 2; have hfz49_3 := blk_frozen BK172.out 3) | ((with_reducible refine gate_callee (f := 33) rfl ?_); refine gL (some 5) Tryd.func33 #[.agg #[.int .i64 a0_0, .int .i64 a0_1, .int .i64 a0_2, .int .i64 a0_3]] ?_; (with_reducible refine (impl_ActOk.calls k a0_0 a0_1 a0_2 a0_3 true _ A2.out).mono ?_); rintro e w50 ⟨rfl, hb⟩; refine ⟨_, rfl, ?_⟩; have n0_ := A_ (bb BK172 hb); have n1_ := A_ (below_step (oB HB) hb); clear BK172; clear HB; have BK172 := n0_; have HB := n1_; clear n0_ n1_; (try clear hb); (try clear hb2); (try clear hk); (try clear hi); have hcz51_0 := cz BK172 0; have hcz51_1 := cz BK172 1; have hcz51_2 := cz BK172 2; have hcz51_3 := cz BK172 3; have hfz51_0 := blk_frozen BK172.out 0; have hfz51_1 := blk_frozen BK172.out 1; have hfz51_2 := blk_frozen BK172.out 2; have hfz51_3 := blk_frozen BK172.out 3))
                go_ret2
                exact ⟨eR, oB HB⟩
              · rw [if_neg c47] at H
                have c47b0 : (a0_0 == 6) = false := beq_eq_false_iff_ne.mpr c47
                have c47b1 : (a0_0 != 6) = true := bne_iff_ne.mpr c47
                obtain ⟨y186, hy186⟩ : ∃ y_ : List Int, y_ = (([a0_1] : List Int)) := ⟨_, rfl⟩
                replace H : ((impl_words.f k y186).bind fun t189 => (if 6 + t189.size ≤ 9223372036854775807 then (some ((⟨#[104, 101, 97, 114, 100, 32]⟩ : ByteArray) ++ t189, true)) else (none))) = some (r1, r2) := by first | (rw [hy186]; with_reducible exact H) | (have H2_ := (Option.bind_some _ _).symm.trans H; rw [hy186]; with_reducible exact H2_) | (have H2_ := (Option.bind_some _ _).symm.trans H; with_reducible exact H2_) | with_reducible exact H | (rw [hy186]; exact H) | exact H
                have Ny186 := A_ hy186
                clear hy186
                replace H := Option.bind_eq_some_iff.mp H
                obtain ⟨t189, A520, H⟩ := H
                (try dsimp only at H)
                have A52 := A_ A520
                clear A520
                by_cases c53 : 6 + t189.size ≤ 9223372036854775807
                · rw [if_pos c53] at H
                  have c53b0 := eq_true c53
                  have c53b1 : decide (6 + t189.size ≤ 9223372036854775807) = true := decide_eq_true c53
                  try have c53b2 : (9223372036854775807 < 6 + t189.size) = False := eq_false (Nat.not_lt.2 c53)
                  simp only [Option.some.injEq, Prod.mk.injEq] at H
                  obtain ⟨rfl, rfl⟩ := H
                  go_enter Tryd.func10, Tryd.ntmps10
                  go_wp2_with (first | ((with_reducible refine gate_dst (N := 1) rfl ?_); refine bX (N := 1) (cs := #[.int .i64 a0_0, .int .i64 a0_1, .int .i64 a0_2, .int .i64 a0_3]) (t := 26) ?_; intro gb172 hg w54 hbox hb; have n0_ := A_ (below_step (oB HB) hb); have n1_ := A_ (hbox); have n2_ := A_ ((by rw [hg]; exact (below_size (oB HB)) : w.heap.size ≤ gb172)); have n3_ := A_ ((by rw [hg]; exact (below_size (oB HB)) : w.heap.size ≤ gb172)); clear HB; have HB := n0_; have BK172 := n1_; have GW172 := n2_; have GE172 := n3_; clear n0_ n1_ n2_ n3_; clear hb hbox hg; have hcz55_0 := cz BK172 0; have hcz55_1 := cz BK172 1; have hcz55_2 := cz BK172 2; have hcz55_3 := cz BK172 3; have hfz55_0 := blk_frozen BK172.out 0; have hfz55_1 := blk_frozen BK172.out 1; have hfz55_2 := blk_frozen BK172.out 2; have hfz55_3 := blk_frozen BK172.out 3) | ((with_reducible refine gate_callee (f := 33) rfl ?_); refine gL (some 5) Tryd.func33 #[.agg #[.int .i64 a0_0, .int .i64 a0_1, .int .i64 a0_2, .int .i64 a0_3]] ?_; (with_reducible refine (impl_ActOk.calls k a0_0 a0_1 a0_2 a0_3 true _ A2.out).mono ?_); rintro e w56 ⟨rfl, hb⟩; refine ⟨_, rfl, ?_⟩; have n0_ := A_ (bb BK172 hb); have n1_ := A_ (below_step (oB HB) hb); clear BK172; clear HB; have BK172 := n0_; have HB := n1_; clear n0_ n1_; (try clear hb); (try clear hb2); (try clear hk); (try clear hi); have hcz57_0 := cz BK172 0; have hcz57_1 := cz BK172 1; have hcz57_2 := cz BK172 2; have hcz57_3 := cz BK172 3; have hfz57_0 := blk_frozen BK172.out 0; have hfz57_1 := blk_frozen BK172.out 1; have hfz57_2 := blk_frozen BK172.out 2; have hfz57_3 := blk_frozen BK172.out 3) | ((with_reducible refine gate_dst (N := 44) rfl ?_); refine Kd.R_lit (Kd.int .i64) _ 3 ?hg (N := 44) ?hd (xs := ([a0_1] : List Int)) (inner := [.int .i64 a0_1]) (ok := fun _ => True) (okp := fun _ => True) ?hr ?hp (fun _ hk => hk) trivial (Below.refl _ _) (Nat.le_refl _) (by simp) ?_; (case hd => rfl); (case hg => rfl); (case hr => first | (go_simp; done) | (go_simp; rfl)); (case hp => exact (Reps.one (show Kd.M (Kd.int .i64) _ _ _ a0_1 [.int .i64 a0_1] from rfl) (Reps.none _ _))); intro v187 w58 ho59 hb hg_ hnew_; clear hg_ hnew_; (first | rw [← Ny186.out] at ho59 | (simp only [Int.reduceToNat] at ho59; rw [← Ny186.out] at ho59)); have n0_ := A_ (Kd.R_lower ho59 (below_size (oB HB))); have n1_ := A_ (bb BK172 hb); have n2_ := A_ (below_step (oB HB) hb); clear BK172; clear HB; have HO188 := n0_; have BK172 := n1_; have HB := n2_; clear n0_ n1_ n2_; clear hb ho59; obtain ⟨Ao60, co60, eo60⟩ := Kd.R_slice HO188.out; subst eo60) | ((with_reducible refine gate_callee (f := 34) rfl ?_); refine gL (some 45) Tryd.func34 #[.slice Ao60 y186.length co60] ?_; (with_reducible refine (impl_words.calls k _ _ y186 t189 _ ?side1 ?side2 A52.out ?sideT).mono ?_); (case sideT => exact ⟨tab_on ht_.out (oB HB)⟩); (case side1 => repeat (first | exact (Kd.R_reads' HO188.out).2.2 | (with_reducible refine Kd.C_alloc ?_ _) | (with_reducible refine Kd.C_drewN ?_ _) | (with_reducible refine Kd.C_drew ?_))); (case side2 => exact (Kd.R_reads' HO188.out).2.1); rintro e w61 ⟨rfl, hb⟩; refine ⟨_, rfl, ?_⟩; have n0_ := A_ (Kd.R_below (oR HO188) hb); have n1_ := A_ (bb BK172 hb); have n2_ := A_ (below_step (oB HB) hb); clear HO188; clear BK172; clear HB; have HO188 := n0_; have BK172 := n1_; have HB := n2_; clear n0_ n1_ n2_; (try clear hb); (try clear hb2); (try clear hk); (try clear hi)))
                  go_ret2
                  exact ⟨eR, oB HB⟩
                · rw [if_neg c53] at H
                  exact absurd H (by simp)
  · replace c3 := Bool.eq_false_iff.mpr c3
    subst c3
    rw [if_neg (show ¬ (false = true) by decide)] at H
    simp only [Option.some.injEq, Prod.mk.injEq] at H
    obtain ⟨rfl, rfl⟩ := H
    go_enter Tryd.func10, Tryd.ntmps10
    go_wp2_with (first | ((with_reducible refine gate_dst (N := 1) rfl ?_); refine bX (N := 1) (cs := #[.int .i64 a0_0, .int .i64 a0_1, .int .i64 a0_2, .int .i64 a0_3]) (t := 26) ?_; intro gb172 hg w62 hbox hb; have n0_ := A_ (below_step (oB HB) hb); have n1_ := A_ (hbox); have n2_ := A_ ((by rw [hg]; exact (below_size (oB HB)) : w.heap.size ≤ gb172)); have n3_ := A_ ((by rw [hg]; exact (below_size (oB HB)) : w.heap.size ≤ gb172)); clear HB; have HB := n0_; have BK172 := n1_; have GW172 := n2_; have GE172 := n3_; clear n0_ n1_ n2_ n3_; clear hb hbox hg; have hcz63_0 := cz BK172 0; have hcz63_1 := cz BK172 1; have hcz63_2 := cz BK172 2; have hcz63_3 := cz BK172 3; have hfz63_0 := blk_frozen BK172.out 0; have hfz63_1 := blk_frozen BK172.out 1; have hfz63_2 := blk_frozen BK172.out 2; have hfz63_3 := blk_frozen BK172.out 3) | ((with_reducible refine gate_callee (f := 33) rfl ?_); refine gL (some 5) Tryd.func33 #[.agg #[.int .i64 a0_0, .int .i64 a0_1, .int .i64 a0_2, .int .i64 a0_3]] ?_; (with_reducible refine (impl_ActOk.calls k a0_0 a0_1 a0_2 a0_3 false _ A2.out).mono ?_); rintro e w64 ⟨rfl, hb⟩; refine ⟨_, rfl, ?_⟩; have n0_ := A_ (bb BK172 hb); have n1_ := A_ (below_step (oB HB) hb); clear BK172; clear HB; have BK172 := n0_; have HB := n1_; clear n0_ n1_; (try clear hb); (try clear hb2); (try clear hk); (try clear hi)))
    go_ret2
    exact ⟨eR, oB HB⟩
end Go.Proofs.YtojiighpkppckaaDoor.P


namespace Go.Proofs.YtojiighpkppckaaDoor.P
open Go.Shelf Go.RowKit Go.Lib Go.Proofs.YtojiighpkppckaaDoorW.PrintWords
theorem index_one_ (c : UInt8) : ∀ l : List UInt8, Go.Lib.index l [c] = Go.Lib.indexByte l c
  | [] => rfl
  | b :: l => by
    rw [Go.Lib.index, Go.Lib.indexByte, index_one_ c l]
    have e : [c].isPrefixOf (b :: l) = (b == c) := by
      show (c == b && true) = _
      rw [Bool.and_true, Bool.eq_iff_iff, beq_iff_eq, beq_iff_eq]
      exact eq_comm
    rw [e]
set_option maxHeartbeats 1000000 in
theorem split_any {P : Program} {ρ : Ren} (L : Lays.n146 P ρ) (hi9 : (P.info? (ρ.t 9)).map (fun i => (i.zero, i.size, i.bytes)) = some (some (.string ByteArray.empty), 1, 16)) (s : ByteArray) (b : UInt8) (w : World) (hs : s.size < 4294967281) :
    Calls P (ρ.f 146) #[.string s, .string ⟨#[b]⟩] w fun e w' =>
      e = .returned (.slice (some ⟨w.heap.size, 0, none⟩) (Go.Lib.countB s ⟨#[b]⟩ + 1) (Go.Lib.countB s ⟨#[b]⟩ + 1)) ∧ w' = w.alloc (.cells ((Go.Lib.splitB ⟨#[b]⟩ 0 (Go.Lib.countB s ⟨#[b]⟩) s).map Value.string).toArray (ρ.t 9)) := by
  have h1 : 1 ≤ (⟨#[b]⟩ : ByteArray).size := Nat.le_refl 1
  have hle := Go.Lib.countB_le ⟨#[b]⟩ h1 s.size s (Nat.le_refl _)
  have hlen := Go.Lib.splitB_all ⟨#[b]⟩ h1 0 _ s rfl
  have cI : ∀ (x : ByteArray) (c : Array Value), x.size ≤ s.size → Calls P (ρ.f 143) #[.string x, .string ⟨#[b]⟩] (w.alloc (.cells c (ρ.t 9))) fun e w' => e = .returned (.int .i64 (Go.Lib.indexB x ⟨#[b]⟩)) ∧ w' = w.alloc (.cells c (ρ.t 9)) := fun x c _ =>
    (Any.strings_Index_one { L with } x b _).mono fun e w' ⟨he, hw⟩ => ⟨by rw [he, ← index_one_], hw⟩
  have cC : Calls P (ρ.f 138) #[.string s, .string ⟨#[b]⟩] w fun e w' => e = .returned (.int .i64 (Go.Lib.countB s ⟨#[b]⟩)) ∧ w' = w := by
    refine (Any.strings_Count_one { L with } s b w).mono fun e w' ⟨he, hw⟩ => ⟨?_, hw⟩
    rw [he]
    show _ = Ending.returned (Value.int .i64 ((Go.Lib.count s.data.toList [b] : Nat) : Int))
    rw [Go.Lib.count_one]
    rfl
  have c := Any.strings_genSplit_core { L with } hi9 s ⟨#[b]⟩ 0 (-1) (Go.Lib.countB s ⟨#[b]⟩ + 1) w hs h1 (Nat.zero_le _) cI cC (by decide) (by decide) (by rw [if_pos (by decide)]; omega)
  rw [Nat.add_sub_cancel, hlen] at c
  have e2 : Go.Lib.cellsOf (Go.Lib.splitB ⟨#[b]⟩ 0 (Go.Lib.countB s ⟨#[b]⟩) s) (Go.Lib.countB s ⟨#[b]⟩ + 1) = ((Go.Lib.splitB ⟨#[b]⟩ 0 (Go.Lib.countB s ⟨#[b]⟩) s).map Value.string).toArray := by rw [← hlen]; exact Go.Lib.cellsOf_full _
  rw [e2] at c
  have t3 := L.t3; have t9 := L.t9; have t31 := L.t31
  have a3 := L.a3; have a9 := L.a9; have a31 := L.a31
  have z3 := L.z3; have v3 := L.v3; have z9 := L.z9; have v9 := L.v9; have z31 := L.z31; have v31 := L.v31
  have e221 : ∀ args w, (callFunc (ρ.f 221) args).run P w = .ok (.enter (ρ.f 221) args) w := enters_of L.f221 (by kernel_rfl) rfl
  go_enter L.f146, Body.n146_ntmps ρ
  go_wp2_with (go_at_fn (ρ.f 221); refine c.mono ?_; rintro e w' ⟨rfl, hw⟩; rw [hw])
  go_ret
  exact ⟨rfl, rfl⟩
theorem st146l_ : Lays.n146 Tryd.prog st146_ren := { st146 with }
theorem split_ (s : ByteArray) (b : UInt8) (w : World) (hs : s.size < 4294967281) :
    Calls Tryd.prog 84 #[.string s, .string ⟨#[b]⟩] w fun e w' => ∃ v0_ : Value, e = .returned v0_ ∧ Kd.R Kd.string 9 w' w.heap.size (fun _ => True) v0_ (Go.Lib.splitB ⟨#[b]⟩ 0 (Go.Lib.countB s ⟨#[b]⟩) s) ∧ Below w.heap.size w w' := by
  refine (split_any st146l_ st146.i9 s b w hs).mono ?_
  rintro e w' ⟨rfl, rfl⟩
  have hlen := Go.Lib.splitB_all ⟨#[b]⟩ (Nat.le_refl 1) 0 _ s rfl
  have hle := Go.Lib.countB_le ⟨#[b]⟩ (Nat.le_refl 1) s.size s (Nat.le_refl _)
  refine ⟨_, rfl, Kd.R_of_own ⟨by simp [encs], .inr ⟨w.heap.size, _, _, by rw [hlen], Nat.le_refl _, heap_alloc_new _ _, by omega, ?_, ?_, ?_⟩⟩ (fun _ _ => trivial), below_alloc (Below.refl _ _) _⟩
  · have : maxLen = 9223372036854775807 := by decide
    omega
  · simp [hlen]
  · rw [Nat.mul_one, List.take_of_length_le (by simp [hlen])]
    rfl
end Go.Proofs.YtojiighpkppckaaDoor.P


namespace Go.Proofs.YtojiighpkppckaaDoor.P
open Go.RowKit Go.Proofs.YtojiighpkppckaaDoorW.PrintWords Go.Proofs.YtojiighpkppckaaDoorW.PrintLast Go.Proofs.YtojiighpkppckaaDoorW.PrintMore Go.Proofs.YtojiighpkppckaaDoor.V
attribute [local go_sem] cell_b frozen_b
attribute [local go_sem] max2_int min2_int max_two min_two max_three min_three max_four min_four
set_option linter.unusedVariables false
set_option linter.unusedSimpArgs false
def strings_Split.f (a0 : ByteArray) (a1 : ByteArray) : Option ((List ByteArray)) := if a1.size = 1 ∧ a0.size < 4294967281 then some (Go.Lib.splitB a1 0 (Go.Lib.countB a0 a1) a0) else none
theorem strings_Split.calls (a0 : ByteArray) (a1 : ByteArray) (r : List ByteArray) (w : World) (h : strings_Split.f a0 a1 = some r) :
    Calls Tryd.prog 84 #[.string a0, .string a1] w fun e w' => ∃ v0_ : Value, e = .returned (v0_) ∧ Kd.R Kd.string 9 w' w.heap.size (fun _ => True) v0_ r ∧ Below w.heap.size w w' := by
  unfold strings_Split.f at h
  by_cases hc : a1.size = 1 ∧ a0.size < 4294967281
  rotate_left
  · rw [if_neg hc] at h; cases h
  rw [if_pos hc] at h
  obtain rfl := Option.some.inj h
  obtain ⟨b, rfl⟩ := Go.Lib.one_byte a1 hc.1
  exact split_ a0 b w hc.2
end Go.Proofs.YtojiighpkppckaaDoor.P


namespace Go.Proofs.YtojiighpkppckaaDoor.P
open Go.RowKit Go.Proofs.YtojiighpkppckaaDoorW.PrintWords Go.Proofs.YtojiighpkppckaaDoorW.PrintLast Go.Proofs.YtojiighpkppckaaDoorW.PrintMore
attribute [local go_sem] max2_int min2_int max_two min_two max_three min_three max_four min_four
set_option linter.unusedVariables false
set_option linter.unusedSimpArgs false
mutual
def impl_SplitFields.l0 : Nat → ByteArray → Int → Option (List ByteArray × Bool)
  | 0, _, _ => none
  | k + 1, x0, x4 => if x4 < (x0.size : Int) then (if 0 ≤ x4 then (if (bt x0 x4) < 32 then (some (([] : List ByteArray), false)) else (if (bt x0 x4) > 126 then (some (([] : List ByteArray), false)) else (impl_SplitFields.l0 k x0 (wrap64 (x4 + 1))))) else (none)) else ((strings_Split.f x0 (⟨#[32]⟩ : ByteArray)).bind fun t1163 => (impl_SplitFields.l1 k (([] : List ByteArray)) t1163 (t1163.length : Int) 0))
def impl_SplitFields.l1 : Nat → List ByteArray → List ByteArray → Int → Int → Option (List ByteArray × Bool)
  | 0, _, _, _, _ => none
  | k + 1, x5, x29, x30, x31 => if x31 < x30 then (if 0 ≤ x31 then (if x31 < (x29.length : Int) then (if (rdOf ByteArray.empty x29 x31).toList = ([] : List UInt8) then (impl_SplitFields.l1 k x5 x29 x30 (wrap64 (x31 + 1))) else (if x5.length < 8796093022208 then (impl_SplitFields.l1 k (x5 ++ [rdOf ByteArray.empty x29 x31]) x29 x30 (wrap64 (x31 + 1))) else (none))) else (none)) else (none)) else (if (x5.length : Int) > 24 then (some (([] : List ByteArray), false)) else (some (x5, true)))
end
def impl_SplitFields.f (k : Nat) (a0 : ByteArray) : Option (List ByteArray × Bool) := if (a0.size : Int) > 600 then (some (([] : List ByteArray), false)) else (impl_SplitFields.l0 k a0 0)
set_option maxHeartbeats 8000000 in
set_option maxRecDepth 100000 in
theorem impl_SplitFields.calls (k : Nat) (a0 : ByteArray) (r1 : List ByteArray) (r2 : Bool) (w : World) (h : impl_SplitFields.f k a0 = some (r1, r2)) :
    Calls Tryd.prog 56 #[.string a0] w fun e w' => ∃ v0_ : Value, e = .returned (.tuple #[v0_, .bool r2]) ∧ Kd.R Kd.string 9 w' w.heap.size (fun _ => True) v0_ r1 ∧ Below w.heap.size w w' := by
  have HB := A_ (Below.refl w.heap.size w)
  have H : (if (a0.size : Int) > 600 then (some (([] : List ByteArray), false)) else (impl_SplitFields.l0 k a0 0)) = some (r1, r2) := h
  clear h
  by_cases c2 : (a0.size : Int) > 600
  · rw [if_pos c2] at H
    have c2b0 : decide (600 < (a0.size : Int)) = true := decide_eq_true c2
    have c2b1 : decide (600 < a0.size) = true := decide_eq_true (by omega)
    clear c2
    simp only [Option.some.injEq, Prod.mk.injEq] at H
    obtain ⟨rfl, rfl⟩ := H
    go_enter Tryd.func56, Tryd.ntmps56
    go_wp2
    go_ret2
    exact ⟨_, eR, by first | exact Kd.R_nil _ _ _ _ _ | exact Kd.N_nil _ _ _ _ _ | exact Kd.V_nil _ _ _ _ _ | exact Kd.Q_nil _ _ _ _ _ | exact Kd.S_nil _ _ _ _ _, oB HB⟩
  · rw [if_neg c2] at H
    have c2b0 : decide (600 < (a0.size : Int)) = false := decide_eq_false c2
    have c2b1 : decide (600 < a0.size) = false := decide_eq_false (by omega)
    clear c2
    have H' := A_ H
    clear H
    go_enter Tryd.func56, Tryd.ntmps56
    go_wp2
    go_loopg [4] k (fun kq v4 w' => ∃ (x4_1 : Int), v4 = .int .i64 x4_1 ∧ Aside0 (impl_SplitFields.l0 kq a0 x4_1 = some (r1, r2)) ∧ Aside0 (kq ≤ k) ∧ Aside0 (Below w.heap.size w w'))
    case atStart => exact ⟨(0), (by first | rfl | (simp; done) | (simp [*]; done)), H', ⟨Nat.le_refl _⟩, ⟨oB HB⟩⟩
    case round =>
      clear H'
      try clear c2
      try clear c2b0
      try clear c2b1
      try clear p2
      obtain ⟨x4_1, rfl, HA, HK1, HB⟩ := hrel
      cases gk with
      | zero => exact absurd HA.out (by simp [impl_SplitFields.l0])
      | succ k1 =>
        have H := HA.out
        clear HA
        simp only [impl_SplitFields.l0] at H
        by_cases c3 : x4_1 < (a0.size : Int)
        · rw [if_pos c3] at H
          have c3b0 : decide (x4_1 < (a0.size : Int)) = true := decide_eq_true c3
          clear c3
          by_cases c4 : 0 ≤ x4_1
          · rw [if_pos c4] at H
            have c4b0 : decide (0 ≤ x4_1) = true := decide_eq_true c4
            clear c4
            by_cases c6 : (bt a0 x4_1) < 32
            · rw [if_pos c6] at H
              have c6b0 : decide ((bt a0 x4_1) < 32) = true := decide_eq_true c6
              clear c6
              simp only [Option.some.injEq, Prod.mk.injEq] at H
              obtain ⟨rfl, rfl⟩ := H
              have p5 : 0 ≤ (x4_1 : Int) := of_decide_eq_true (by first | (with_reducible assumption) | assumption)
              have q5 : x4_1 < (a0.size : Int) := of_decide_eq_true (by first | (with_reducible assumption) | assumption)
              have hx5 := bt_at a0 x4_1
              replace p5 := eq_true p5
              replace q5 := eq_true q5
              go_wp2
              go_ret2
              exact ⟨_, eR, by first | exact Kd.R_nil _ _ _ _ _ | exact Kd.N_nil _ _ _ _ _ | exact Kd.V_nil _ _ _ _ _ | exact Kd.Q_nil _ _ _ _ _ | exact Kd.S_nil _ _ _ _ _, oB HB⟩
            · rw [if_neg c6] at H
              have c6b0 : decide ((bt a0 x4_1) < 32) = false := decide_eq_false c6
              clear c6
              by_cases c8 : (bt a0 x4_1) > 126
              · rw [if_pos c8] at H
                have c8b0 : decide (126 < (bt a0 x4_1)) = true := decide_eq_true c8
                clear c8
                simp only [Option.some.injEq, Prod.mk.injEq] at H
                obtain ⟨rfl, rfl⟩ := H
                have p5 : 0 ≤ (x4_1 : Int) := of_decide_eq_true (by first | (with_reducible assumption) | assumption)
                have q5 : x4_1 < (a0.size : Int) := of_decide_eq_true (by first | (with_reducible assumption) | assumption)
                have hx5 := bt_at a0 x4_1
                replace p5 := eq_true p5
                replace q5 := eq_true q5
                have p7 : 0 ≤ (x4_1 : Int) := of_decide_eq_true (by first | (with_reducible assumption) | assumption)
                have q7 : x4_1 < (a0.size : Int) := of_decide_eq_true (by first | (with_reducible assumption) | assumption)
                have hx7 := bt_at a0 x4_1
                replace p7 := eq_true p7
                replace q7 := eq_true q7
                go_wp2
                go_ret2
                exact ⟨_, eR, by first | exact Kd.R_nil _ _ _ _ _ | exact Kd.N_nil _ _ _ _ _ | exact Kd.V_nil _ _ _ _ _ | exact Kd.Q_nil _ _ _ _ _ | exact Kd.S_nil _ _ _ _ _, oB HB⟩
              · rw [if_neg c8] at H
                have c8b0 : decide (126 < (bt a0 x4_1)) = false := decide_eq_false c8
                clear c8
                have H' := A_ H
                clear H
                have p5 : 0 ≤ (x4_1 : Int) := of_decide_eq_true (by first | (with_reducible assumption) | assumption)
                have q5 : x4_1 < (a0.size : Int) := of_decide_eq_true (by first | (with_reducible assumption) | assumption)
                have hx5 := bt_at a0 x4_1
                replace p5 := eq_true p5
                replace q5 := eq_true q5
                have p7 : 0 ≤ (x4_1 : Int) := of_decide_eq_true (by first | (with_reducible assumption) | assumption)
                have q7 : x4_1 < (a0.size : Int) := of_decide_eq_true (by first | (with_reducible assumption) | assumption)
                have hx7 := bt_at a0 x4_1
                replace p7 := eq_true p7
                replace q7 := eq_true q7
                go_wp2
                go_roundg k1
                case measure => have := HK1.out; omega
                case rel => exact ⟨(wrap64 (x4_1 + 1)), (by first | rfl | (simp; done) | (simp [*]; done)), H', ⟨by have := HK1.out; omega⟩, ⟨oB HB⟩⟩
          · rw [if_neg c4] at H
            exact absurd H (by simp)
        · rw [if_neg c3] at H
          have c3b0 : decide (x4_1 < (a0.size : Int)) = false := decide_eq_false c3
          clear c3
          obtain ⟨y1160, hy1160⟩ : ∃ y_ : List ByteArray, y_ = (([] : List ByteArray)) := ⟨_, rfl⟩
          replace H : ((strings_Split.f a0 (⟨#[32]⟩ : ByteArray)).bind fun t1163 => (impl_SplitFields.l1 k1 y1160 t1163 (t1163.length : Int) 0)) = some (r1, r2) := by first | (rw [hy1160]; with_reducible exact H) | (have H2_ := (Option.bind_some _ _).symm.trans H; rw [hy1160]; with_reducible exact H2_) | (have H2_ := (Option.bind_some _ _).symm.trans H; with_reducible exact H2_) | with_reducible exact H | (rw [hy1160]; exact H) | exact H
          have Ny1160 := A_ hy1160
          clear hy1160
          replace H := Option.bind_eq_some_iff.mp H
          obtain ⟨t1163, A90, H⟩ := H
          (try dsimp only at H)
          have A9 := A_ A90
          clear A90
          have H' := A_ H
          clear H
          go_wp2_with (first | ((with_reducible refine gate_dst (N := 27) rfl ?_); refine Kd.R_lit Kd.string _ 9 ?hg (N := 27) ?hd (xs := ([] : List ByteArray)) (inner := []) (ok := fun _ => True) (okp := fun _ => True) ?hr ?hp (fun _ hk => hk) trivial (Below.refl _ _) (Nat.le_refl _) (by simp) ?_; (case hd => rfl); (case hg => rfl); (case hr => first | (go_simp; done) | (go_simp; rfl)); (case hp => exact (Reps.none _ _)); intro v1161 w10 ho11 hb hg_ hnew_; clear hg_ hnew_; (first | rw [← Ny1160.out] at ho11 | (simp only [Int.reduceToNat] at ho11; rw [← Ny1160.out] at ho11)); have n0_ := A_ (Kd.R_lower ho11 (below_size (oB HB))); have n1_ := A_ (below_step (oB HB) hb); clear HB; have HO1162 := n0_; have HB := n1_; clear n0_ n1_; clear hb ho11) | ((with_reducible refine gate_callee (f := 84) rfl ?_); refine gL (some 29) Tryd.func84 #[.string a0, .string (⟨#[32]⟩ : ByteArray)] ?_; (with_reducible refine (strings_Split.calls a0 (⟨#[32]⟩ : ByteArray) t1163 _ A9.out).mono ?_); rintro e w12 ⟨v1164, rfl, ho0, hb⟩; refine ⟨_, rfl, ?_⟩; have n0_ := A_ (Kd.R_elder' (oR HO1162) (Kd.R_base ho0) hb); have n1_ := A_ (Kd.R_lower (Kd.R_new' ho0 (Kd.R_lt (oR HO1162))) (below_size (oB HB))); have n2_ := A_ (below_step (oB HB) hb); clear HO1162; clear HB; have HO1162 := n0_; have HO1165 := n1_; have HB := n2_; clear n0_ n1_ n2_; (try clear hb); (try clear hb2); (try clear hk); (try clear hi); (try clear ho0); obtain ⟨Ao13, co13, eo13⟩ := Kd.R_slice HO1165.out; subst eo13))
          go_loopg [5, 31] k1 (fun kq v5 v31 w' => ∃ (x5_2 : List ByteArray) (x31_2 : Int), v31 = .int .i64 x31_2 ∧ Aside0 (impl_SplitFields.l1 kq x5_2 t1163 (t1163.length : Int) x31_2 = some (r1, r2)) ∧ Aside0 (kq ≤ k1) ∧ Aside0 (Kd.R Kd.string 9 w' w.heap.size (fun k_ => some k_ ≠ ((.slice Ao13 t1163.length co13) : Value).ownBlock) v5 x5_2) ∧ Aside0 (Kd.R Kd.string 9 w' w.heap.size (fun k_ => some k_ ≠ (v5 : Value).ownBlock) (.slice Ao13 t1163.length co13) t1163) ∧ Aside0 (Below w.heap.size w w'))
          case atStart => exact ⟨(y1160), (0), (by first | rfl | (simp; done) | (simp [*]; done)), H', ⟨Nat.le_refl _⟩, ⟨by (with_reducible repeat (first | apply Kd.R_alloc | apply Kd.R_drewN | apply Kd.R_drew)); exact Kd.R_mono HO1162.out (fun _ hk => hk.2)⟩, ⟨by (with_reducible repeat (first | apply Kd.R_alloc | apply Kd.R_drewN | apply Kd.R_drew)); exact Kd.R_mono HO1165.out (fun _ hk => hk.2)⟩, ⟨oB HB⟩⟩
          case round =>
            clear H'
            try clear c2
            try clear c2b0
            try clear c2b1
            try clear p2
            try clear c3
            try clear c3b0
            try clear c4
            try clear c4b0
            try clear c5
            try clear p5
            try clear q5
            try clear hx5
            try clear c6
            try clear c6b0
            try clear p6
            try clear p7
            try clear q7
            try clear hx7
            try clear c8
            try clear c8b0
            try clear p2
            try clear p5
            try clear p7
            try clear q5
            try clear q7
            obtain ⟨x5_2, x31_2, rfl, HA, HK2, HO_5, HO_29, HB⟩ := hrel
            cases gk with
            | zero => exact absurd HA.out (by simp [impl_SplitFields.l1])
            | succ k2 =>
              have H := HA.out
              clear HA
              simp only [impl_SplitFields.l1] at H
              by_cases c14 : x31_2 < (t1163.length : Int)
              · rw [if_pos c14] at H
                have c14b0 : decide (x31_2 < (t1163.length : Int)) = true := decide_eq_true c14
                clear c14
                by_cases c15 : 0 ≤ x31_2
                · rw [if_pos c15] at H
                  have c15b0 : decide (0 ≤ x31_2) = true := decide_eq_true c15
                  clear c15
                  by_cases c16 : x31_2 < (t1163.length : Int)
                  · rw [if_pos c16] at H
                    have c16b0 : decide (x31_2 < (t1163.length : Int)) = true := decide_eq_true c16
                    clear c16
                    by_cases c17 : (rdOf ByteArray.empty t1163 x31_2).toList = ([] : List UInt8)
                    · rw [if_pos c17] at H
                      have c17b0 : ((rdOf ByteArray.empty t1163 x31_2).toList == ([] : List UInt8)) = true := beq_iff_eq.mpr c17
                      have c17b1 : ((rdOf ByteArray.empty t1163 x31_2).toList != ([] : List UInt8)) = false := bne_eq_false_iff_eq.mpr c17
                      clear c17
                      have H' := A_ H
                      clear H
                      have p1166 : 0 ≤ (x31_2 : Int) := of_decide_eq_true (by first | (with_reducible assumption) | assumption)
                      have q1166 : x31_2 < (t1163.length : Int) := of_decide_eq_true (by first | (with_reducible assumption) | assumption)
                      obtain ⟨ad1166, e1166, hx1166_0⟩ := Kd.at_string (Kd.R_reads' HO_29.out).2.2 x31_2 p1166 q1166
                      cases e1166
                      replace p1166 := eq_true p1166
                      replace q1166 := eq_true q1166
                      go_wp2
                      go_roundg k2
                      case measure => have := HK1.out; have := HK2.out; omega
                      case rel => exact ⟨(x5_2), (wrap64 (x31_2 + 1)), (by first | rfl | (simp; done) | (simp [*]; done)), H', ⟨by have := HK1.out; have := HK2.out; omega⟩, ⟨oR HO_5⟩, ⟨oR HO_29⟩, ⟨oB HB⟩⟩
                    · rw [if_neg c17] at H
                      have c17b0 : ((rdOf ByteArray.empty t1163 x31_2).toList == ([] : List UInt8)) = false := beq_eq_false_iff_ne.mpr c17
                      have c17b1 : ((rdOf ByteArray.empty t1163 x31_2).toList != ([] : List UInt8)) = true := bne_iff_ne.mpr c17
                      by_cases c18 : x5_2.length < 8796093022208
                      · rw [if_pos c18] at H
                        have LMc18 := A_ c18
                        clear c18
                        obtain ⟨y1167, hy1167⟩ : ∃ y_ : List ByteArray, y_ = (x5_2 ++ [rdOf ByteArray.empty t1163 x31_2]) := ⟨_, rfl⟩
                        replace H : (impl_SplitFields.l1 k2 y1167 t1163 (t1163.length : Int) (wrap64 (x31_2 + 1))) = some (r1, r2) := by first | (rw [hy1167]; with_reducible exact H) | (have H2_ := (Option.bind_some _ _).symm.trans H; rw [hy1167]; with_reducible exact H2_) | (have H2_ := (Option.bind_some _ _).symm.trans H; with_reducible exact H2_) | with_reducible exact H | (rw [hy1167]; exact H) | exact H
                        have Ny1167 := A_ hy1167
                        clear hy1167
                        have H' := A_ H
                        clear H
                        have p1166 : 0 ≤ (x31_2 : Int) := of_decide_eq_true (by first | (with_reducible assumption) | assumption)
                        have q1166 : x31_2 < (t1163.length : Int) := of_decide_eq_true (by first | (with_reducible assumption) | assumption)
                        obtain ⟨ad1166, e1166, hx1166_0⟩ := Kd.at_string (Kd.R_reads' HO_29.out).2.2 x31_2 p1166 q1166
                        cases e1166
                        replace p1166 := eq_true p1166
                        replace q1166 := eq_true q1166
                        go_wp2_with (first | ((with_reducible refine gate_builtin (b := .append) (xs := #[.tmp 37, .tmp 39]) rfl ?_); at_builtin; refine Kd.R_append Kd.string (w0 := w) w.heap.size rfl (.tmp 37) (.tmp 39) 47 9 (.string ⟨#[]⟩) 16 rfl Tryd.underlying47 info9 rfl (by decide) (by omega) u5 x5_2 (rdOf ByteArray.empty t1163 x31_2) [.string (rdOf ByteArray.empty t1163 x31_2)] (fun k_ => some k_ ≠ (.slice (some ad1166) t1163.length co13 : Value).ownBlock) (fun _ => False) rfl rfl ?aP (fun _ hk => hk.elim) ?aF ?aO ?aB ?aS ?aL ?_; (case aP => exact rfl); (case aB => exact (oB HB)); (case aF => exact (fun k_ hk => Kd.fresh' (Kd.R_lt (oR HO_29)) k_ hk)); (case aO => exact (oR HO_5)); (case aS => exact (below_size (oB HB))); (case aL => have := LMc18.out; omega); intro v1168 w19 ho hb hg hat; rw [← Ny1167.out] at ho; have n0_ := A_ (Kd.R_after (ok := (fun _ => True)) (by (with_reducible repeat (first | apply Kd.R_alloc | apply Kd.R_drewN | apply Kd.R_drew)); exact Kd.R_mono HO_29.out (fun _ hk => ⟨trivial, hk⟩)) hg hat); have n1_ := A_ (hb); have n2_ := A_ (ho); clear HO_29; clear HB; clear HO_5; have HO_29 := n0_; have HB := n1_; have HO1169 := n2_; clear n0_ n1_ n2_; clear ho hb hg hat))
                        go_roundg k2
                        case measure => have := HK1.out; have := HK2.out; omega
                        case rel => exact ⟨(y1167), (wrap64 (x31_2 + 1)), (by first | rfl | (simp; done) | (simp [*]; done)), H', ⟨by have := HK1.out; have := HK2.out; omega⟩, ⟨oR HO1169⟩, ⟨by (with_reducible repeat (first | apply Kd.R_alloc | apply Kd.R_drewN | apply Kd.R_drew)); exact Kd.R_mono HO_29.out (fun _ hk => hk.2)⟩, ⟨oB HB⟩⟩
                      · rw [if_neg c18] at H
                        exact absurd H (by simp)
                  · rw [if_neg c16] at H
                    exact absurd H (by simp)
                · rw [if_neg c15] at H
                  exact absurd H (by simp)
              · rw [if_neg c14] at H
                have c14b0 : decide (x31_2 < (t1163.length : Int)) = false := decide_eq_false c14
                clear c14
                by_cases c20 : (x5_2.length : Int) > 24
                · rw [if_pos c20] at H
                  have c20b0 : decide (24 < (x5_2.length : Int)) = true := decide_eq_true c20
                  have c20b1 : decide (24 < x5_2.length) = true := decide_eq_true (by omega)
                  clear c20
                  simp only [Option.some.injEq, Prod.mk.injEq] at H
                  obtain ⟨rfl, rfl⟩ := H
                  obtain ⟨Ao21, co21, eo21⟩ := Kd.R_slice HO_5.out
                  subst eo21
                  go_wp2
                  go_ret2
                  exact ⟨_, eR, by first | exact Kd.R_nil _ _ _ _ _ | exact Kd.N_nil _ _ _ _ _ | exact Kd.V_nil _ _ _ _ _ | exact Kd.Q_nil _ _ _ _ _ | exact Kd.S_nil _ _ _ _ _, oB HB⟩
                · rw [if_neg c20] at H
                  have c20b0 : decide (24 < (x5_2.length : Int)) = false := decide_eq_false c20
                  have c20b1 : decide (24 < x5_2.length) = false := decide_eq_false (by omega)
                  clear c20
                  simp only [Option.some.injEq, Prod.mk.injEq] at H
                  obtain ⟨rfl, rfl⟩ := H
                  obtain ⟨Ao22, co22, eo22⟩ := Kd.R_slice HO_5.out
                  subst eo22
                  go_wp2
                  go_ret2
                  exact ⟨_, eR, by (with_reducible repeat (first | apply Kd.R_alloc | apply Kd.R_drewN | apply Kd.R_drew)); exact Kd.R_mono HO_5.out (fun _ hk => trivial), oB HB⟩
end Go.Proofs.YtojiighpkppckaaDoor.P


namespace Go.Proofs.YtojiighpkppckaaDoor.P
open Go.RowKit Go.Proofs.YtojiighpkppckaaDoorW.PrintWords Go.Proofs.YtojiighpkppckaaDoorW.PrintLast Go.Proofs.YtojiighpkppckaaDoorW.PrintMore Go.Proofs.YtojiighpkppckaaDoor.V
attribute [local go_sem] cell_b frozen_b
attribute [local go_sem] max2_int min2_int max_two min_two max_three min_three max_four min_four
set_option linter.unusedVariables false
set_option linter.unusedSimpArgs false
def impl_ParseAct.nums : Nat → List ByteArray → Int → Int → Int → Option (Int × Int × Int)
  | _, [], A, B, C => some (A, B, C)
  | i, s :: r, A, B, C => (atoi? s).bind fun n => impl_ParseAct.nums (i + 1) r (if i = 0 then n else A) (if i = 1 then n else B) (if i = 2 then n else C)
def impl_ParseAct.last (k : Nat) (L : List ByteArray) (K : Int) : Option (Int × Int × Int) → Option (Int × Int × Int × Int × Bool)
  | none => some (0, 0, 0, 0, false)
  | some (A, B, C) => (impl_FormatAct.f k K A B C).bind fun u => if u.2 = true then (strings_Join.f L ⟨#[32]⟩).bind fun j => some (if u.1 = j then (K, A, B, C, true) else (0, 0, 0, 0, false)) else some (0, 0, 0, 0, false)
def impl_ParseAct.rest (k : Nat) : List ByteArray → Option (Int × Int × Int × Int × Bool)
  | [] => some (0, 0, 0, 0, false)
  | s :: r => if ∀ x ∈ s :: r, x.size ≤ 1000 then impl_ParseAct.last k (s :: r) (kindW s.data.toList) (impl_ParseAct.nums 0 r 0 0 0) else none
def impl_ParseAct.f (k : Nat) (a0 : ByteArray) : Option (Int × Int × Int × Int × Bool) := (impl_SplitFields.f k a0).bind fun t => if t.2 = true then impl_ParseAct.rest k t.1 else some (0, 0, 0, 0, false)
theorem tail_event {ops : Array Oper} {rest : List Oper} {o : Oper} {a : Act} {Q : Exit → Act → World → Prop} {w : World} {x : Operand} {ad : Addr} {n c : Nat} (m : Nat) (hm : n = m + 1) (hg : o.guard = none) (hop : o.op = Op.slice 47 x (some (.const (.int .i64 1))) none none) (hx : a.eval x = .slice (some ad) n c)
    (h : ∀ ad', (c ≠ 1 → ad' = ⟨ad.block, ad.off + 1, none⟩) → wpList Tryd.prog ops Q rest (a.put o.dst (.slice (some ad') m (c - 1))) w) : wpList Tryd.prog ops Q (o :: rest) a w := by
  have e1 : a.eval (.const (.int .i64 1)) = .int .i64 1 := rfl
  have hu := Tryd.underlying47
  have h2 : (1 : Int) ≤ n := by omega
  have h1 : 1 ≤ n := by omega
  have h3 : n - 1 = m := by omega
  refine Kd.event_run hg (v := .slice (some (if c = 1 then ad else ⟨ad.block, ad.off + 1, none⟩)) (n - 1) (c - 1)) ?_ (h3 ▸ h _ (fun hc => if_neg hc))
  clear hm h3
  simp only [execOp, hop, Option.map, hx, e1]
  go_simp
  split <;> rfl
attribute [local go_sem] cellR_c
set_option maxHeartbeats 8000000 in
set_option maxRecDepth 100000 in
set_option synthInstance.maxHeartbeats 400000 in
set_option synthInstance.maxSize 100000 in
theorem impl_ParseAct.calls (k : Nat) (a0 : ByteArray) (r1 : Int) (r2 : Int) (r3 : Int) (r4 : Int) (r5 : Bool) (w : World) (h : impl_ParseAct.f k a0 = some (r1, r2, r3, r4, r5)) (ht_ : Aside0 (TabE w)) :
    Calls Tryd.prog 29 #[.string a0] w fun e w' => e = .returned (.tuple #[.agg #[.int .i64 r1, .int .i64 r2, .int .i64 r3, .int .i64 r4], .bool r5]) ∧ Below w.heap.size w w' := by
  unfold impl_ParseAct.f at h
  replace h := Option.bind_eq_some_iff.mp h
  obtain ⟨⟨L, ok⟩, hA, h⟩ := h
  dsimp only at h
  have A := A_ hA
  clear hA
  have hu := Tryd.underlying26
  cases ok with
  | false =>
    rw [if_neg (by decide)] at h
    simp only [Option.some.injEq, Prod.mk.injEq] at h
    obtain ⟨rfl, rfl, rfl, rfl, rfl⟩ := h
    go_enter Tryd.func29, Tryd.ntmps29
    go_wp2_with (first
      | ((with_reducible refine gate_dst (N := 2) rfl ?_); refine box_event rfl (N := 2) rfl (cs := #[.int .i64 0, .int .i64 0, .int .i64 0, .int .i64 0]) (t := 26) (by first | (go_simp; done) | (go_simp; rfl)) ?_; intro g2 hg w1 hk hb; have j1 := Born.mk hg; have j2 := Bel.mk hb; have j3 := Blk.mk hk; clear hg hb hk)
      | (go_at_call 56; refine (impl_SplitFields.calls k _ _ _ _ A.out).mono ?_; rintro e w2 ⟨v0, rfl, hr, hb⟩; obtain ⟨B0, b0, rfl⟩ := Kd.R_slice hr; have jr := RowE.mk hr; have jl := LeI.mk (rowLe jr); have jb := Bel.mk hb; clear hr hb))
    refine bodyPost_ret (results_ct rfl _ _ g2 26 #[.int .i64 0, .int .i64 0, .int .i64 0, .int .i64 0] (0, 0) _ rfl (by exact Blk.out) hu rfl (by kernel_rfl)) rfl ?_
    exact ⟨rfl, From.out⟩
  | true =>
    rw [if_pos rfl] at h
    cases L with
    | nil =>
      simp only [impl_ParseAct.rest, Option.some.injEq, Prod.mk.injEq] at h
      obtain ⟨rfl, rfl, rfl, rfl, rfl⟩ := h
      go_enter Tryd.func29, Tryd.ntmps29
      go_wp2_with (first
        | ((with_reducible refine gate_dst (N := 2) rfl ?_); refine box_event rfl (N := 2) rfl (cs := #[.int .i64 0, .int .i64 0, .int .i64 0, .int .i64 0]) (t := 26) (by first | (go_simp; done) | (go_simp; rfl)) ?_; intro g2 hg w1 hk hb; have j1 := Born.mk hg; have j2 := Bel.mk hb; have j3 := Blk.mk hk; clear hg hb hk)
        | (go_at_call 56; refine (impl_SplitFields.calls k _ _ _ _ A.out).mono ?_; rintro e w2 ⟨v0, rfl, hr, hb⟩; obtain ⟨B0, b0, rfl⟩ := Kd.R_slice hr; have jr := RowE.mk hr; have jl := LeI.mk (rowLe jr); have jb := Bel.mk hb; clear hr hb))
      refine bodyPost_ret (results_ct rfl _ _ g2 26 #[.int .i64 0, .int .i64 0, .int .i64 0, .int .i64 0] (0, 0) _ rfl (by exact Blk.out) hu rfl (by kernel_rfl)) rfl ?_
      exact ⟨rfl, From.out⟩
    | cons s r =>
      rw [impl_ParseAct.rest] at h
      by_cases hz : ∀ x ∈ s :: r, x.size ≤ 1000
      rotate_left
      · rw [if_neg hz] at h; cases h
      rw [if_pos hz] at h
      have HZ := A_ hz
      have H := A_ h
      obtain ⟨L, hL⟩ : ∃ L, s :: r = L := ⟨_, rfl⟩
      have hn : L.length = r.length + 1 := by rw [← hL]; rfl
      have h0 : (rdOf ByteArray.empty L 0) = s := by rw [← hL]; rfl
      rw [hL] at A H HZ
      have HS : Aside0 (s.size ≤ maxLen) := ⟨Nat.le_trans (hz s (by simp)) (by decide)⟩
      have HL := A_ hL
      have HN := A_ hn
      have H0 := A_ h0
      have b1 : decide ((L.length : Int) = 0) = false := decide_eq_false (by omega)
      have b2 : decide (L.length = 0) = false := decide_eq_false (by omega)
      have b3 : (L.length == 0) = false := by simpa using b2
      have b4 : ((L.length : Int) == 0) = false := beq_eq_false_iff_ne.mpr (by omega)
      have b5 : (L = []) = False := by rw [← hL]; simp
      have b6 : decide ((0 : Int) < (L.length : Int)) = true := decide_eq_true (by omega)
      have b7 : decide (0 < L.length) = true := decide_eq_true (by omega)
      have b8 : decide (1 ≤ L.length) = true := decide_eq_true (by omega)
      have b9 : (0 < L.length) = True := eq_true (by omega)
      clear h hz hL hn h0
      go_enter Tryd.func29, Tryd.ntmps29
      go_wp2_with (first
        | ((with_reducible refine gate_dst (N := 2) rfl ?_); refine box_event rfl (N := 2) rfl (cs := #[.int .i64 0, .int .i64 0, .int .i64 0, .int .i64 0]) (t := 26) (by first | (go_simp; done) | (go_simp; rfl)) ?_; intro g2 hg w1 hk hb; have j1 := Born.mk hg; have j2 := Bel.mk hb; have j3 := Blk.mk hk; clear hg hb hk)
        | (go_at_call 56; refine (impl_SplitFields.calls k _ _ _ _ A.out).mono ?_; rintro e w2 ⟨v0, rfl, hr, hb⟩; obtain ⟨B0, b0, rfl⟩ := Kd.R_slice hr; obtain ⟨ad, hq1, hq2⟩ := Kd.at_string (Kd.R_reads' hr).2.2 0 (by omega) (by have := HN.out; omega); have jr := RowE.mk hr; have jl := LeI.mk (rowLe jr); have jb := Bel.mk hb; cases hq1; rw [H0.out] at hq2; have jc : CelR w2 ad (.string s) := ⟨by simpa [Addr.add] using hq2⟩; clear hr hb hq2)
        | ((with_reducible refine gate_dst (N := 27) rfl ?_); refine kinds_ ?_ (fun _ => rfl) rfl rfl rfl rfl rfl rfl rfl rfl rfl rfl rfl rfl rfl rfl rfl rfl rfl rfl rfl rfl rfl rfl rfl; intro mb w3 hb HM; have HK := kind_look HM.out s HS.out; have j4 := Bel.mk hb; clear hb)
        | ((with_reducible refine gate_dst (N := 36) rfl ?_); refine tail_event (ad := ad) (n := L.length) (c := b0) r.length HN.out rfl rfl rfl ?_; intro ad1 hq; have HD := A_ hq; clear hq)
        | ((with_reducible refine gate_dst (N := 7) rfl ?_); refine box_event rfl (N := 7) rfl (cs := #[.int .i64 0, .int .i64 0, .int .i64 0, .int .i64 0]) (t := 26) (by first | (go_simp; done) | (go_simp; rfl)) ?_; intro g7 hg w4 hk hb; have j5 := Born.mk hg; have j6 := Bel.mk hb; have j7 := Blk.mk hk; clear hg hb hk))
      have ht1 : Aside0 (Tab w) := ⟨ht_.out.1⟩
      clear A
      go_loopg [38] (r.length + 1) (fun kq v38 w' => ∃ (i : Nat) (X Y Z : Int), v38 = .int .i64 (i : Int) ∧ Aside0 (i + kq = r.length + 1) ∧ Aside0 (i ≤ r.length) ∧ Aside0 (impl_ParseAct.last k L (kindW s.data.toList) (impl_ParseAct.nums i (r.drop i) X Y Z) = some (r1, r2, r3, r4, r5)) ∧ Aside0 (Below w.heap.size w w') ∧ Aside0 (w'.heap[g2]? = some (.cells #[.int .i64 0, .int .i64 0, .int .i64 0, .int .i64 0] 26 (0, 0))) ∧ Aside0 (w'.heap[g7]? = some (.cells #[.int .i64 (kindW s.data.toList), .int .i64 X, .int .i64 Y, .int .i64 Z] 26 (0, 0))) ∧ Aside0 (∀ j, w1.heap.size ≤ j → j < w2.heap.size → w'.heap[j]? = w2.heap[j]?))
      case atStart => exact ⟨0, 0, 0, 0, rfl, ⟨by omega⟩, ⟨by omega⟩, H, ⟨From.out⟩, ⟨Blk.out⟩, ⟨Blk.out⟩, ⟨Keep.out⟩⟩
      case round =>
        obtain ⟨i, X, Y, Z, rfl, HI1, HI2, HQ, HB, HG2, HG7, HKp⟩ := hrel
        clear H jc
        have jf : From w wr := ⟨HB.out⟩
        have js : Sz w wr := ⟨HB.out.size⟩
        have jk2 : Blk wr g2 _ _ := ⟨HG2.out⟩
        have jk7 : Blk wr g7 _ _ := ⟨HG7.out⟩
        have jkp : Keep w1 w2 wr := ⟨HKp.out⟩
        clear HG2 HG7 HKp
        have hmx : L.length ≤ 9223372036854775807 := Kd.C_max (rowRd (w1 := w1) (w2 := w2) (W := wr) (A := some ad) (c := b0) (xs := L) (d := Kd.string) (e := 9))
        have hmr : r.length + 1 ≤ 9223372036854775807 := by have := HN.out; omega
        by_cases hlt : i < r.length
        · obtain ⟨ad0, hq1, hq2⟩ := Kd.at_string (rowRd (w1 := w1) (w2 := w2) (W := wr) (A := some ad) (c := b0) (xs := L) (d := Kd.string) (e := 9)) ((i : Int) + 1) (by omega) (by have := HN.out; omega)
          cases hq1
          have hb0 : b0 ≠ 1 := by have := HN.out; have := jl.out; omega
          obtain rfl := HD.out hb0
          have e1 : rdOf ByteArray.empty L ((i : Int) + 1) = r[i] := by
            rw [← HL.out]
            have : ((i : Int) + 1).toNat = i + 1 := by omega
            simp [rdOf, this, List.getD_eq_getElem?_getD, hlt]
          obtain ⟨x, hx⟩ : ∃ x, r[i] = x := ⟨_, rfl⟩
          have hxs : x.size ≤ 1000 := HZ.out x (by rw [← HL.out, ← hx]; exact List.mem_cons_of_mem _ (List.getElem_mem hlt))
          rw [e1, hx] at hq2
          have jcg : wr.cell? ⟨ad.block, ad.off + 1 + i, none⟩ = some (.string x) := by
            have e2 : ((i : Int) + 1).toNat = 1 + i := by omega
            rw [e2] at hq2
            rw [← hq2]
            simp [Addr.add, Nat.add_assoc]
          have hq := HQ.out
          rw [List.drop_eq_getElem_cons hlt, hx, impl_ParseAct.nums] at hq
          have hb3 : decide ((i : Int) < (r.length : Int)) = true := decide_eq_true (by omega)
          have hb4 : decide (i < r.length) = true := decide_eq_true (by omega)
          have hb5 : (i < r.length) = True := eq_true hlt
          clear hq2 e1 HQ
          cases hat : atoi? x with
          | none =>
            rw [hat] at hq
            simp only [Option.bind_none, impl_ParseAct.last, Option.some.injEq, Prod.mk.injEq] at hq
            obtain ⟨rfl, rfl, rfl, rfl, rfl⟩ := hq
            have HAT := A_ hat
            clear hat
            by_cases hi0 : i = 0
            · subst hi0
              have jcx : CelR wr ⟨ad.block, ad.off + 1, none⟩ (.string x) := ⟨jcg⟩
              clear jcg
              go_wp2_with (first
                | (go_at_call 57; refine (atoi_bad x _ (by omega) HAT.out (errV_on ht_.out.2 From.out)).mono ?_; rintro e w5 ⟨n5, t5, p5, rfl, hb⟩; have jb5 := Bel.mk hb; clear hb))
              refine bodyPost_ret (results_ct rfl _ _ g2 26 #[.int .i64 0, .int .i64 0, .int .i64 0, .int .i64 0] (0, 0) _ rfl (by exact Blk.out) hu rfl (by kernel_rfl)) rfl ?_
              exact ⟨rfl, From.out⟩
            · have hi1 : (i = 0) = False := eq_false hi0
              have jcx : CelR wr ⟨ad.block, ad.off + 1 + i, none⟩ (.string x) := ⟨jcg⟩
              clear jcg
              go_wp2_with (first
                | (go_at_call 57; refine (atoi_bad x _ (by omega) HAT.out (errV_on ht_.out.2 From.out)).mono ?_; rintro e w5 ⟨n5, t5, p5, rfl, hb⟩; have jb5 := Bel.mk hb; clear hb))
              refine bodyPost_ret (results_ct rfl _ _ g2 26 #[.int .i64 0, .int .i64 0, .int .i64 0, .int .i64 0] (0, 0) _ rfl (by exact Blk.out) hu rfl (by kernel_rfl)) rfl ?_
              exact ⟨rfl, From.out⟩
          | some n =>
            rw [hat] at hq
            simp only [Option.bind_some] at hq
            have HAT := A_ hat
            clear hat
            by_cases hi0 : i = 0
            · subst hi0
              have HQ : Aside0 (impl_ParseAct.last k L (kindW s.data.toList) (impl_ParseAct.nums (0 + 1) (r.drop (0 + 1)) n Y Z) = some (r1, r2, r3, r4, r5)) := ⟨hq⟩
              clear hq
              have jcx : CelR wr ⟨ad.block, ad.off + 1, none⟩ (.string x) := ⟨jcg⟩
              clear jcg
              go_wp2_with (first
                | (go_at_call 57; refine (atoi_ok x n _ (by omega) HAT.out).mono ?_; rintro e w5 ⟨rfl, hb⟩; have jb5 := Bel.mk hb; clear hb))
              go_roundg (r.length - 0)
              case measure => have := HI1.out; omega
              case rel => exact ⟨0 + 1, n, Y, Z, by go_num, ⟨by have := HI1.out; omega⟩, ⟨by omega⟩, HQ, ⟨From.out⟩, ⟨Blk.out⟩, ⟨Blk.out⟩, ⟨Keep.out⟩⟩
            by_cases hi1 : i = 1
            · subst hi1
              have HQ : Aside0 (impl_ParseAct.last k L (kindW s.data.toList) (impl_ParseAct.nums (1 + 1) (r.drop (1 + 1)) X n Z) = some (r1, r2, r3, r4, r5)) := ⟨hq⟩
              clear hq
              have jcx : CelR wr ⟨ad.block, ad.off + 1 + 1, none⟩ (.string x) := ⟨jcg⟩
              clear jcg
              go_wp2_with (first
                | (go_at_call 57; refine (atoi_ok x n _ (by omega) HAT.out).mono ?_; rintro e w5 ⟨rfl, hb⟩; have jb5 := Bel.mk hb; clear hb))
              go_roundg (r.length - 1)
              case measure => have := HI1.out; omega
              case rel => exact ⟨1 + 1, X, n, Z, by go_num, ⟨by have := HI1.out; omega⟩, ⟨by omega⟩, HQ, ⟨From.out⟩, ⟨Blk.out⟩, ⟨Blk.out⟩, ⟨Keep.out⟩⟩
            by_cases hi2 : i = 2
            · subst hi2
              have HQ : Aside0 (impl_ParseAct.last k L (kindW s.data.toList) (impl_ParseAct.nums (2 + 1) (r.drop (2 + 1)) X Y n) = some (r1, r2, r3, r4, r5)) := ⟨hq⟩
              clear hq
              have jcx : CelR wr ⟨ad.block, ad.off + 1 + 2, none⟩ (.string x) := ⟨jcg⟩
              clear jcg
              go_wp2_with (first
                | (go_at_call 57; refine (atoi_ok x n _ (by omega) HAT.out).mono ?_; rintro e w5 ⟨rfl, hb⟩; have jb5 := Bel.mk hb; clear hb))
              go_roundg (r.length - 2)
              case measure => have := HI1.out; omega
              case rel => exact ⟨2 + 1, X, Y, n, by go_num, ⟨by have := HI1.out; omega⟩, ⟨by omega⟩, HQ, ⟨From.out⟩, ⟨Blk.out⟩, ⟨Blk.out⟩, ⟨Keep.out⟩⟩
            · rw [if_neg hi0, if_neg hi1, if_neg hi2] at hq
              have HQ := A_ hq
              clear hq
              have z0 : (i = 0) = False := eq_false hi0
              have z1 : (i = 1) = False := eq_false hi1
              have z2 : (i = 2) = False := eq_false hi2
              have z3 : decide ((i : Int) = 0) = false := decide_eq_false (by omega)
              have z4 : decide ((i : Int) = 1) = false := decide_eq_false (by omega)
              have z5 : decide ((i : Int) = 2) = false := decide_eq_false (by omega)
              have jcx : CelR wr ⟨ad.block, ad.off + 1 + i, none⟩ (.string x) := ⟨jcg⟩
              clear jcg
              go_wp2_with (first
                | (go_at_call 57; refine (atoi_ok x n _ (by omega) HAT.out).mono ?_; rintro e w5 ⟨rfl, hb⟩; have jb5 := Bel.mk hb; clear hb))
              have hw64 : wrap64 ((i : Int) + 1) = (i : Int) + 1 := by unfold wrap64; omega
              go_roundg (r.length - i)
              case measure => have := HI1.out; omega
              case rel => exact ⟨i + 1, X, Y, Z, by go_num, ⟨by have := HI1.out; omega⟩, ⟨by omega⟩, HQ, ⟨From.out⟩, ⟨Blk.out⟩, ⟨Blk.out⟩, ⟨Keep.out⟩⟩
        · have hb3 : decide ((i : Int) < (r.length : Int)) = false := decide_eq_false (by omega)
          have hb4 : decide (i < r.length) = false := decide_eq_false (by omega)
          have hb5 : (i < r.length) = False := eq_false hlt
          obtain rfl : i = r.length := by have := HI2.out; omega
          have hq := HQ.out
          rw [List.drop_eq_nil_of_le (Nat.le_refl _), impl_ParseAct.nums, impl_ParseAct.last] at hq
          replace hq := Option.bind_eq_some_iff.mp hq
          obtain ⟨⟨t1, t2⟩, hA, hq⟩ := hq
          dsimp only at hq
          have A5 := A_ hA
          clear hA HQ
          cases t2 with
          | false =>
            rw [if_neg (by decide)] at hq
            simp only [Option.some.injEq, Prod.mk.injEq] at hq
            obtain ⟨rfl, rfl, rfl, rfl, rfl⟩ := hq
            go_wp2_with (first
              | (go_at_call 10; refine (impl_FormatAct.calls k _ _ _ _ _ _ _ A5.out ⟨tab_f ht1⟩).mono ?_; rintro e w5 ⟨rfl, hb⟩; have jb5 := Bel.mk hb; clear hb))
            refine bodyPost_ret (results_ct rfl _ _ g2 26 #[.int .i64 0, .int .i64 0, .int .i64 0, .int .i64 0] (0, 0) _ rfl (by exact Blk.out) hu rfl (by kernel_rfl)) rfl ?_
            exact ⟨rfl, From.out⟩
          | true =>
            rw [if_pos rfl] at hq
            replace hq := Option.bind_eq_some_iff.mp hq
            obtain ⟨j, hJ, hq⟩ := hq
            have A6 := A_ hJ
            clear hJ
            by_cases he : t1 = j
            · rw [if_pos he] at hq
              simp only [Option.some.injEq, Prod.mk.injEq] at hq
              obtain ⟨rfl, rfl, rfl, rfl, rfl⟩ := hq
              subst he
              go_wp2_with (first
                | (go_at_call 10; refine (impl_FormatAct.calls k _ _ _ _ _ _ _ A5.out ⟨tab_f ht1⟩).mono ?_; rintro e w5 ⟨rfl, hb⟩; have jb5 := Bel.mk hb; clear hb)
                | (go_at_call 58; refine (strings_Join.calls (some ad) b0 L _ _ _ (Rd.out (d := Kd.string)) LeI.out A6.out).mono ?_; rintro e w6 ⟨rfl, hb⟩; have jb6 := Bel.mk hb; clear hb))
              refine bodyPost_ret (results_ct rfl _ _ g2 26 #[.int .i64 (kindW s.data.toList), .int .i64 X, .int .i64 Y, .int .i64 Z] (0, 0) _ rfl (by exact Blk.out) hu rfl (by kernel_rfl)) rfl ?_
              exact ⟨rfl, From.out⟩
            · rw [if_neg he] at hq
              simp only [Option.some.injEq, Prod.mk.injEq] at hq
              obtain ⟨rfl, rfl, rfl, rfl, rfl⟩ := hq
              have he1 : (t1.toList == j.toList) = false := by
                rw [Go.Lib.toList_data, Go.Lib.toList_data, beq_eq_false_iff_ne]
                exact fun e => he (ByteArray.ext (Array.toList_inj.mp e))
              go_wp2_with (first
                | (go_at_call 10; refine (impl_FormatAct.calls k _ _ _ _ _ _ _ A5.out ⟨tab_f ht1⟩).mono ?_; rintro e w5 ⟨rfl, hb⟩; have jb5 := Bel.mk hb; clear hb)
                | (go_at_call 58; refine (strings_Join.calls (some ad) b0 L _ _ _ (Rd.out (d := Kd.string)) LeI.out A6.out).mono ?_; rintro e w6 ⟨rfl, hb⟩; have jb6 := Bel.mk hb; clear hb))
              refine bodyPost_ret (results_ct rfl _ _ g2 26 #[.int .i64 0, .int .i64 0, .int .i64 0, .int .i64 0] (0, 0) _ rfl (by exact Blk.out) hu rfl (by kernel_rfl)) rfl ?_
              exact ⟨rfl, From.out⟩
end Go.Proofs.YtojiighpkppckaaDoor.P


namespace Go.Proofs.YtojiighpkppckaaDoor.P
open Go.RowKit Go.Proofs.YtojiighpkppckaaDoorW.PrintWords Go.Proofs.YtojiighpkppckaaDoorW.PrintLast Go.Proofs.YtojiighpkppckaaDoorW.PrintMore Go.Proofs.YtojiighpkppckaaDoor.V
attribute [local go_sem] cell_b frozen_b
attribute [local go_sem] max2_int min2_int max_two min_two max_three min_three max_four min_four
set_option linter.unusedVariables false
set_option linter.unusedSimpArgs false
def laws_FnExactParseAct.f (k : Nat) (a0 : ByteArray) : Option (Bool) := if (a0.size : Int) > 1048576 then (some true) else ((spec_ParseAct.f k a0).bind fun bt1185 => ((impl_ParseAct.f k a0).bind fun bt1191 => ((laws_eqAct.f bt1191.1 bt1191.2.1 bt1191.2.2.1 bt1191.2.2.2.1 bt1185.1 bt1185.2.1 bt1185.2.2.1 bt1185.2.2.2.1).bind fun t1197 => (if t1197 = true then (if (bt1191.2.2.2.2 != bt1185.2.2.2.2) = true then (some false) else (some true)) else (some false)))))
set_option maxHeartbeats 8000000 in
set_option maxRecDepth 100000 in
theorem laws_FnExactParseAct.calls (k : Nat) (a0 : ByteArray) (r : Bool) (w : World) (h : laws_FnExactParseAct.f k a0 = some r) (hrt_ : Aside0 (r = true)) (ht_ : Aside0 (TabE w)) :
    Calls Tryd.prog 7 #[.string a0] w fun e w' => e = .returned (.bool r) ∧ Below w.heap.size w w' := by
  have hu26 := Tryd.underlying26
  have HB := A_ (Below.refl w.heap.size w)
  have H : (if (a0.size : Int) > 1048576 then (some true) else ((spec_ParseAct.f k a0).bind fun bt1185 => ((impl_ParseAct.f k a0).bind fun bt1191 => ((laws_eqAct.f bt1191.1 bt1191.2.1 bt1191.2.2.1 bt1191.2.2.2.1 bt1185.1 bt1185.2.1 bt1185.2.2.1 bt1185.2.2.2.1).bind fun t1197 => (if t1197 = true then (if (bt1191.2.2.2.2 != bt1185.2.2.2.2) = true then (some false) else (some true)) else (some false)))))) = some r := h
  clear h
  by_cases c2 : (a0.size : Int) > 1048576
  · rw [if_pos c2] at H
    have c2b0 : decide (1048576 < (a0.size : Int)) = true := decide_eq_true c2
    have c2b1 : decide (1048576 < a0.size) = true := decide_eq_true (by omega)
    clear c2
    obtain rfl := Option.some.inj H
    go_enter Tryd.func7, Tryd.ntmps7
    go_wp2
    go_ret
    exact ⟨eR, oB HB⟩
  · rw [if_neg c2] at H
    have c2b0 : decide (1048576 < (a0.size : Int)) = false := decide_eq_false c2
    have c2b1 : decide (1048576 < a0.size) = false := decide_eq_false (by omega)
    clear c2
    replace H := Option.bind_eq_some_iff.mp H
    obtain ⟨⟨t1185, t1186, t1187, t1188, t1189⟩, A30, H⟩ := H
    (try dsimp only at H)
    have A3 := A_ A30
    clear A30
    replace H := Option.bind_eq_some_iff.mp H
    obtain ⟨⟨t1191, t1192, t1193, t1194, t1195⟩, A40, H⟩ := H
    (try dsimp only at H)
    have A4 := A_ A40
    clear A40
    replace H := Option.bind_eq_some_iff.mp H
    obtain ⟨t1197, A50, H⟩ := H
    (try dsimp only at H)
    have A5 := A_ A50
    clear A50
    by_cases c6 : t1197 = true
    · subst c6
      rw [if_pos rfl] at H
      by_cases c7 : (t1195 != t1189) = true
      · rw [if_pos c7] at H
        have c7b0 : (t1195 != t1189) = true := c7
        (try (have c7b1 : decide (t1195 = t1189) = false := by simpa using c7))
        (try (have c7b2 : (t1195 == t1189) = false := by simpa using c7))
        (try (have c7b3 : ¬ (t1195 = t1189) := by simpa using c7))
        clear c7
        exact absurd ((Option.some.inj H).trans hrt_.out) (by decide)
      · rw [if_neg c7] at H
        have c7b0 : (t1195 != t1189) = false := by simpa using c7
        (try (have c7b1 : decide (t1195 = t1189) = true := by simpa using c7))
        (try (have c7b2 : (t1195 == t1189) = true := by simpa using c7))
        clear c7
        obtain rfl := Option.some.inj H
        go_enter Tryd.func7, Tryd.ntmps7
        go_wp2_with (first | ((with_reducible refine gate_callee (f := 28) rfl ?_); refine gL (some 12) Tryd.func28 #[.string a0] ?_; (with_reducible refine (spec_ParseAct.calls k a0 t1185 t1186 t1187 t1188 t1189 _ A3.out).mono ?_); rintro e w8 ⟨rfl, hb⟩; refine ⟨_, rfl, ?_⟩; have n0_ := A_ (below_step (oB HB) hb); clear HB; have HB := n0_; clear n0_; (try clear hb); (try clear hb2); (try clear hk); (try clear hi)) | ((with_reducible refine gate_dst (N := 3) rfl ?_); refine bX (N := 3) (cs := #[.int .i64 0, .int .i64 0, .int .i64 0, .int .i64 0]) (t := 26) ?_; intro gb1190 hg w9 hbox hb; have n0_ := A_ (below_step (oB HB) hb); have n1_ := A_ (hbox); have n2_ := A_ ((by rw [hg]; exact (below_size (oB HB)) : w.heap.size ≤ gb1190)); have n3_ := A_ ((by rw [hg]; exact (below_size (oB HB)) : w.heap.size ≤ gb1190)); clear HB; have HB := n0_; have BK1190 := n1_; have GW1190 := n2_; have GE1190 := n3_; clear n0_ n1_ n2_ n3_; clear hb hbox hg; have hcz10_0 := cz BK1190 0; have hcz10_1 := cz BK1190 1; have hcz10_2 := cz BK1190 2; have hcz10_3 := cz BK1190 3; have hfz10_0 := blk_frozen BK1190.out 0; have hfz10_1 := blk_frozen BK1190.out 1; have hfz10_2 := blk_frozen BK1190.out 2; have hfz10_3 := blk_frozen BK1190.out 3) | ((with_reducible refine gate_callee (f := 29) rfl ?_); refine gL (some 17) Tryd.func29 #[.string a0] ?_; (with_reducible refine (impl_ParseAct.calls k a0 t1191 t1192 t1193 t1194 t1195 _ A4.out ?sideT).mono ?_); (case sideT => exact ⟨tabE_on ht_.out (oB HB)⟩); rintro e w11 ⟨rfl, hb⟩; refine ⟨_, rfl, ?_⟩; have n0_ := A_ (blk_below (g := gb1190) (o := .cells #[.int .i64 t1185, .int .i64 t1186, .int .i64 t1187, .int .i64 t1188] 26 (0, 0)) (by (with_reducible repeat (first | refine blk_drewN ?_ _ | refine blk_drew ?_ | refine blk_alloc ?_ _)); refine blk_put (cs := #[.int .i64 t1185, .int .i64 t1186, .int .i64 t1187, .int .i64 0]) ?_ 3 _ rfl; (with_reducible repeat (first | refine blk_drewN ?_ _ | refine blk_drew ?_ | refine blk_alloc ?_ _)); refine blk_put (cs := #[.int .i64 t1185, .int .i64 t1186, .int .i64 0, .int .i64 0]) ?_ 2 _ rfl; (with_reducible repeat (first | refine blk_drewN ?_ _ | refine blk_drew ?_ | refine blk_alloc ?_ _)); refine blk_put (cs := #[.int .i64 t1185, .int .i64 0, .int .i64 0, .int .i64 0]) ?_ 1 _ rfl; (with_reducible repeat (first | refine blk_drewN ?_ _ | refine blk_drew ?_ | refine blk_alloc ?_ _)); refine blk_put (cs := #[.int .i64 0, .int .i64 0, .int .i64 0, .int .i64 0]) ?_ 0 _ rfl; (with_reducible repeat (first | refine blk_drewN ?_ _ | refine blk_drew ?_ | refine blk_alloc ?_ _)); exact BK1190.out) hb); have n1_ := A_ (below_step (oB HB) hb); clear BK1190; clear HB; have BK1190 := n0_; have HB := n1_; clear n0_ n1_; (try clear hb); (try clear hb2); (try clear hk); (try clear hi)) | ((with_reducible refine gate_dst (N := 5) rfl ?_); refine bX (N := 5) (cs := #[.int .i64 0, .int .i64 0, .int .i64 0, .int .i64 0]) (t := 26) ?_; intro gb1196 hg w12 hbox hb; have n0_ := A_ (bb BK1190 hb); have n1_ := A_ (below_step (oB HB) hb); have n2_ := A_ (hbox); have n3_ := A_ ((by rw [hg]; exact (below_size (oB HB)) : w.heap.size ≤ gb1196)); have n4_ := A_ ((by rw [hg]; exact (below_size (oB HB)) : w.heap.size ≤ gb1196)); have n5_ := A_ (nL BK1190 hg); have n6_ := A_ (nG BK1190 hg); clear BK1190; clear HB; have BK1190 := n0_; have HB := n1_; have BK1196 := n2_; have GW1196 := n3_; have GE1196 := n4_; have NB1190_1196 := n5_; have NB1196_1190 := n6_; clear n0_ n1_ n2_ n3_ n4_ n5_ n6_; clear hb hbox hg; have hnb13 := NB1196_1190.out; have hnc13 := NB1190_1196.out; have hcz14_0 := cz BK1196 0; have hcz14_1 := cz BK1196 1; have hcz14_2 := cz BK1196 2; have hcz14_3 := cz BK1196 3; have hfz14_0 := blk_frozen BK1196.out 0; have hfz14_1 := blk_frozen BK1196.out 1; have hfz14_2 := blk_frozen BK1196.out 2; have hfz14_3 := blk_frozen BK1196.out 3; have hcz15_0 := cz BK1190 0; have hcz15_1 := cz BK1190 1; have hcz15_2 := cz BK1190 2; have hcz15_3 := cz BK1190 3; have hfz15_0 := blk_frozen BK1190.out 0; have hfz15_1 := blk_frozen BK1190.out 1; have hfz15_2 := blk_frozen BK1190.out 2; have hfz15_3 := blk_frozen BK1190.out 3) | ((with_reducible refine gate_callee (f := 30) rfl ?_); refine gL (some 22) Tryd.func30 #[.agg #[.int .i64 t1191, .int .i64 t1192, .int .i64 t1193, .int .i64 t1194], .agg #[.int .i64 t1185, .int .i64 t1186, .int .i64 t1187, .int .i64 t1188]] ?_; (with_reducible refine (laws_eqAct.calls t1191 t1192 t1193 t1194 t1185 t1186 t1187 t1188 true _ A5.out).mono ?_); rintro e w16 ⟨rfl, hb⟩; refine ⟨_, rfl, ?_⟩; have n0_ := A_ (blk_below (g := gb1190) (o := .cells #[.int .i64 t1185, .int .i64 t1186, .int .i64 t1187, .int .i64 t1188] 26 (0, 0)) (by (with_reducible repeat (first | refine blk_drewN ?_ _ | refine blk_drew ?_ | refine blk_alloc ?_ _)); refine blk_far ?_ NB1190_1196.out _; (with_reducible repeat (first | refine blk_drewN ?_ _ | refine blk_drew ?_ | refine blk_alloc ?_ _)); refine blk_far ?_ NB1190_1196.out _; (with_reducible repeat (first | refine blk_drewN ?_ _ | refine blk_drew ?_ | refine blk_alloc ?_ _)); refine blk_far ?_ NB1190_1196.out _; (with_reducible repeat (first | refine blk_drewN ?_ _ | refine blk_drew ?_ | refine blk_alloc ?_ _)); refine blk_far ?_ NB1190_1196.out _; (with_reducible repeat (first | refine blk_drewN ?_ _ | refine blk_drew ?_ | refine blk_alloc ?_ _)); exact BK1190.out) hb); have n1_ := A_ (blk_below (g := gb1196) (o := .cells #[.int .i64 t1191, .int .i64 t1192, .int .i64 t1193, .int .i64 t1194] 26 (0, 0)) (by (with_reducible repeat (first | refine blk_drewN ?_ _ | refine blk_drew ?_ | refine blk_alloc ?_ _)); refine blk_put (cs := #[.int .i64 t1191, .int .i64 t1192, .int .i64 t1193, .int .i64 0]) ?_ 3 _ rfl; (with_reducible repeat (first | refine blk_drewN ?_ _ | refine blk_drew ?_ | refine blk_alloc ?_ _)); refine blk_put (cs := #[.int .i64 t1191, .int .i64 t1192, .int .i64 0, .int .i64 0]) ?_ 2 _ rfl; (with_reducible repeat (first | refine blk_drewN ?_ _ | refine blk_drew ?_ | refine blk_alloc ?_ _)); refine blk_put (cs := #[.int .i64 t1191, .int .i64 0, .int .i64 0, .int .i64 0]) ?_ 1 _ rfl; (with_reducible repeat (first | refine blk_drewN ?_ _ | refine blk_drew ?_ | refine blk_alloc ?_ _)); refine blk_put (cs := #[.int .i64 0, .int .i64 0, .int .i64 0, .int .i64 0]) ?_ 0 _ rfl; (with_reducible repeat (first | refine blk_drewN ?_ _ | refine blk_drew ?_ | refine blk_alloc ?_ _)); exact BK1196.out) hb); have n2_ := A_ (below_step (oB HB) hb); clear BK1190; clear BK1196; clear HB; have BK1190 := n0_; have BK1196 := n1_; have HB := n2_; clear n0_ n1_ n2_; (try clear hb); (try clear hb2); (try clear hk); (try clear hi)))
        go_ret
        exact ⟨eR, oB HB⟩
    · replace c6 := Bool.eq_false_iff.mpr c6
      subst c6
      rw [if_neg (show ¬ (false = true) by decide)] at H
      exact absurd ((Option.some.inj H).trans hrt_.out) (by decide)
end Go.Proofs.YtojiighpkppckaaDoor.P


namespace Go.Proofs.YtojiighpkppckaaDoor.Q
set_option linter.unusedVariables false
set_option linter.unusedSimpArgs false
open Go.RowKit Go.Proofs.YtojiighpkppckaaDoorW.PrintWords
theorem evp {α : Type} {c : Prop} [Decidable c] (h : c) {f g : Nat → Option α} {r : α} (k : Ev f r) : Ev (fun n => if c then f n else g n) r := by
  simp only [if_pos h]; exact k
theorem evn {α : Type} {c : Prop} [Decidable c] (h : ¬ c) {f g : Nat → Option α} {r : α} (k : Ev g r) : Ev (fun n => if c then f n else g n) r := by
  simp only [if_neg h]; exact k
theorem evi {α : Type} {c : Prop} [Decidable c] {f g : Nat → Option α} {r : α} (k1 : c → Ev f r) (k2 : ¬ c → Ev g r) : Ev (fun n => if c then f n else g n) r := by
  by_cases h : c
  · exact evp h (k1 h)
  · exact evn h (k2 h)
theorem evb {α β : Type} {x : Option α} {f : Nat → α → Option β} {a : α} {r : β} (h : x = some a) (k : Ev (fun n => f n a) r) : Ev (fun n => x.bind (f n)) r := by
  simp only [h, Option.bind_some]; exact k
theorem evs {α : Type} {a b : α} (h : a = b) : Ev (fun _ => some a) b := h ▸ Ev.now a
theorem evr {α : Type} {g : Nat → Option α} {a b : α} (h : Ev g a) (e : a = b) : Ev g b := e ▸ h
theorem rpos {α : Type} {c : Prop} [Decidable c] (h : c) {f : Nat → Option α} {r s : α} (k : Ev f r) : Ev f (if c then r else s) := by rw [if_pos h]; exact k
theorem rneg {α : Type} {c : Prop} [Decidable c] (h : ¬ c) {f : Nat → Option α} {r s : α} (k : Ev f s) : Ev f (if c then r else s) := by rw [if_neg h]; exact k
theorem w64 {n : Int} (h1 : -9223372036854775808 ≤ n) (h2 : n ≤ 9223372036854775807) : wrap64 n = n := by unfold wrap64; omega
theorem rd_nat (l : List Int) (i : Nat) (h : i < l.length) : rd l (i : Int) = l[i] := by
  unfold rd; simp [List.getD_eq_getElem?_getD, h]
end Go.Proofs.YtojiighpkppckaaDoor.Q


namespace Go.Proofs.YtojiighpkppckaaDoor.Q
set_option linter.unusedVariables false
set_option linter.unusedSimpArgs false
open Go.RowKit Go.Proofs.YtojiighpkppckaaDoor.P Go.Proofs.YtojiighpkppckaaDoorW.PrintWords
theorem within_eq (a b c : Int) : impl_within.f a b c = some (decide (b ≤ a ∧ a ≤ c)) := by
  unfold impl_within.f; by_cases h : b ≤ a <;> simp [h]
theorem l01In_eq (a b c : Int) : spec_l01In.f a b c = some (decide (b ≤ a ∧ a ≤ c)) := by
  unfold spec_l01In.f; by_cases h : a ≥ b
  · rw [if_pos h]; simp [show b ≤ a from h]
  · rw [if_neg h]; simp [show ¬ b ≤ a from h]
end Go.Proofs.YtojiighpkppckaaDoor.Q


namespace Go.Proofs.YtojiighpkppckaaDoor.Q
set_option linter.unusedVariables false
set_option linter.unusedSimpArgs false
open Go.RowKit Go.Proofs.YtojiighpkppckaaDoor.P Go.Proofs.YtojiighpkppckaaDoorW.PrintWords
def txt (l : List UInt8) : ByteArray := ⟨l.toArray⟩
theorem txt_app (a b : List UInt8) : txt a ++ txt b = txt (a ++ b) := by
  apply ByteArray.ext
  simp [txt]
theorem txt_size (a : List UInt8) : (txt a).size = a.length := by simp [txt, ByteArray.size]
theorem txt_data (a : List UInt8) : (txt a).data.toList = a := by simp [txt]
theorem txt_inj {a b : List UInt8} (h : txt a = txt b) : a = b := by have := congrArg (fun s => s.data.toList) h; simpa [txt] using this
theorem nums_txt (t : Int) : strOfNums [t] = txt [UInt8.ofNat t.toNat] := rfl
def dd (u : Nat) : List UInt8 := if u = 0 then [] else Go.Lib.decDigits u
theorem dd_step (u : Nat) (h : u ≠ 0) : dd u = dd (u / 10) ++ [UInt8.ofNat (48 + u % 10)] := by
  unfold dd
  rw [if_neg h]
  by_cases h1 : u < 10
  · rw [Go.Lib.decDigits, dif_pos h1, if_pos (by omega), show u % 10 = u by omega]; rfl
  · rw [Go.Lib.decDigits, dif_neg h1, if_neg (by omega)]
theorem figure_eq {a : Int} (h0 : 0 ≤ a) (h1 : a < 10) : spec_l01Figure.f a = some (48 + a) := by
  unfold spec_l01Figure.f
  rw [if_pos h1, w64 (by omega) (by omega)]
  congr 1
  omega
theorem fmt_l0 (neg : Bool) : ∀ (m : Nat) (x : Int) (s : List UInt8), x.natAbs < 10 ^ m → -9223372036854775808 ≤ x → x ≤ 9223372036854775807 → s.length + m ≤ 1000 →
    Ev (fun k => spec_FormatInt.l0 k x neg (txt s)) (txt ((if neg = true then [45] else []) ++ (dd x.natAbs ++ s))) := by
  intro m
  induction m with
  | zero =>
    intro x s h h1 h2 hs
    obtain rfl : x = 0 := by simp at h; omega
    refine Ev.step (fun k => by rw [spec_FormatInt.l0]) (evp rfl ?_)
    cases neg with
    | true => exact evp rfl (evp (by rw [txt_size]; omega) (evs (by rw [show (⟨#[45]⟩ : ByteArray) = txt [45] from rfl, txt_app]; rfl)))
    | false => exact evn (by decide) (evs rfl)
  | succ m ih =>
    intro x s h h1 h2 hs
    by_cases hx : x = 0
    · subst hx
      refine Ev.step (fun k => by rw [spec_FormatInt.l0]) (evp rfl ?_)
      cases neg with
      | true => exact evp rfl (evp (by rw [txt_size]; omega) (evs (by rw [show (⟨#[45]⟩ : ByteArray) = txt [45] from rfl, txt_app]; rfl)))
      | false => exact evn (by decide) (evs rfl)
    · have hn : x.natAbs ≠ 0 := by omega
      have e1 : (x.tdiv 10).natAbs = x.natAbs / 10 := by rw [Int.natAbs_tdiv]; rfl
      have e2 : (x.tmod 10).natAbs = x.natAbs % 10 := by rw [Int.natAbs_tmod]; rfl
      have hb : -9223372036854775808 ≤ x.tdiv 10 ∧ x.tdiv 10 ≤ 9223372036854775807 := by omega
      have hlt : (x.tdiv 10).natAbs < 10 ^ m := by
        rw [e1]
        rw [Nat.pow_succ] at h
        omega
      have key : ∀ t : Int, 0 ≤ t → t < 10 → t.natAbs = x.natAbs % 10 → Ev (fun k => (spec_l01Figure.f t).bind fun t109 => ((some (([t109] : List Int) : List Int)).bind fun y110 => (if (strOfNums y110).size + (txt s).size ≤ 9223372036854775807 then (spec_FormatInt.l0 k (wrap64 (Int.tdiv x 10)) neg ((strOfNums y110) ++ (txt s))) else (none)))) (txt ((if neg = true then [45] else []) ++ (dd x.natAbs ++ s))) := by
        intro t ht0 ht1 ht
        refine evb (figure_eq ht0 ht1) (evb rfl (evp (by rw [strOfNums_size, txt_size]; simp only [List.length_singleton]; omega) ?_))
        have := ih (x.tdiv 10) (UInt8.ofNat (48 + x.natAbs % 10) :: s) hlt hb.1 hb.2 (by simp only [List.length_cons]; omega)
        rw [e1] at this
        rw [w64 hb.1 hb.2, nums_txt, txt_app, show (48 + t).toNat = 48 + x.natAbs % 10 by omega, dd_step x.natAbs hn]
        simpa using this
      refine Ev.step (fun k => by rw [spec_FormatInt.l0]) (evn hx ?_)
      by_cases hneg : x.tmod 10 < 0
      · have hw : wrap64 (-(x.tmod 10)) = -(x.tmod 10) := w64 (by omega) (by omega)
        refine evp hneg ?_
        rw [hw]
        exact key _ (by omega) (by omega) (by omega)
      · exact evn hneg (key _ (by omega) (by omega) (by omega))
def num (n : Int) : List UInt8 := Go.Lib.itoa n
theorem fmt_spec (n : Int) (h1 : -9223372036854775808 ≤ n) (h2 : n ≤ 9223372036854775807) : Ev (fun k => spec_FormatInt.f k n) (txt (num n)) := by
  unfold spec_FormatInt.f
  refine evi (fun h => evs ?_) (fun h => ?_)
  · subst h
    rw [show num 0 = [48] from by unfold num Go.Lib.itoa; rw [if_neg (by omega), Go.Lib.decDigits]; rfl]; rfl
  · refine evr (fmt_l0 _ 19 n [] (by have : (10 : Nat) ^ 19 = 10000000000000000000 := by decide
                                     omega) h1 h2 (by decide)) ?_
    unfold num Go.Lib.itoa dd
    rw [if_neg (show n.natAbs ≠ 0 by omega)]
    by_cases hn : n < 0
    · simp [hn]
    · simp [hn, show n.toNat = n.natAbs by omega]
theorem fmt_impl (n : Int) (h1 : -9223372036854775808 ≤ n) (h2 : n ≤ 9223372036854775807) : impl_FormatInt.f n = some (txt (num n)) := by
  unfold impl_FormatInt.f
  rw [if_pos ⟨h1, h2⟩]; rfl
theorem num_len (n : Int) (h1 : -9223372036854775808 ≤ n) (h2 : n ≤ 9223372036854775807) : (num n).length ≤ 21 := Go.Lib.itoa_length_le n h1 h2
def tail_ (l : List Int) : List UInt8 := l.flatMap fun n => 32 :: num n
theorem tail_len (l : List Int) (h : ∀ n ∈ l, -9223372036854775808 ≤ n ∧ n ≤ 9223372036854775807) : (tail_ l).length ≤ 22 * l.length := by
  induction l with
  | nil => simp [tail_]
  | cons a r ih =>
    have h1 := num_len a (h a (by simp)).1 (h a (by simp)).2
    have h2 := ih (fun n hn => h n (by simp [hn]))
    simp only [tail_, List.flatMap_cons, List.length_append, List.length_cons] at h2 ⊢
    omega
def line (l : List Int) : List UInt8 := Go.Lib.join (l.map num) [32]
theorem line_cons (a : Int) (r : List Int) : line (a :: r) = num a ++ tail_ r := by
  unfold line
  rw [List.map_cons, Go.Lib.join_cons]
  congr 1
  induction r with
  | nil => rfl
  | cons b r ih =>
    simp only [Go.Lib.joinTail, List.map_cons, List.flatten_cons, tail_, List.flatMap_cons] at ih ⊢
    rw [ih]; rfl
theorem line_len (l : List Int) (h : ∀ n ∈ l, -9223372036854775808 ≤ n ∧ n ≤ 9223372036854775807) : (line l).length ≤ 22 * l.length := by
  cases l with
  | nil => simp [line, Go.Lib.join_nil]
  | cons a r =>
    rw [line_cons]
    have h1 := num_len a (h a (by simp)).1 (h a (by simp)).2
    have h2 := tail_len r (fun n hn => h n (by simp [hn]))
    simp only [List.length_append, List.length_cons]
    omega
theorem words_l0 (l : List Int) (h : ∀ n ∈ l, -9223372036854775808 ≤ n ∧ n ≤ 9223372036854775807) (hl : l.length ≤ 1048576) : ∀ (d i : Nat), i + d = l.length →
    Ev (fun k => impl_words.l0 k ((l.take i).map fun n => txt (num n)) l (l.length : Int) (i : Int)) (txt (line l)) := by
  intro d
  induction d with
  | zero =>
    intro i hi
    obtain rfl : i = l.length := by omega
    refine Ev.step (fun k => by rw [impl_words.l0]) (evn (by omega) ?_)
    refine evb (a := txt (line l)) ?_ (evs rfl)
    unfold strings_Join.f
    rw [List.take_length]
    have e : ((l.map fun n => txt (num n)).map fun x => x.data.toList) = l.map num := by
      rw [List.map_map]
      exact List.map_congr_left (fun n _ => txt_data _)
    rw [e]
    have h3 := line_len l h
    rw [if_pos ⟨by simp; omega, by unfold line at h3; show (Go.Lib.join (l.map num) [32]).length ≤ _; omega⟩]
    rfl
  | succ d ih =>
    intro i hi
    have hlt : i < l.length := by omega
    have hm := h l[i] (List.getElem_mem hlt)
    refine Ev.step (fun k => by rw [impl_words.l0]) (evp (by omega) (evp (by omega) (evp (by omega) ?_)))
    rw [rd_nat l i hlt]
    refine evb (fmt_impl _ hm.1 hm.2) (evp (by simp; omega) ?_)
    have := ih (i + 1) (by omega)
    rw [List.take_succ_eq_append_getElem hlt, List.map_append] at this
    rw [w64 (by omega) (by omega)]
    exact this
theorem words_eq (l : List Int) (h : ∀ n ∈ l, -9223372036854775808 ≤ n ∧ n ≤ 9223372036854775807) (hl : l.length ≤ 1048576) : Ev (fun k => impl_words.f k l) (txt (line l)) := by
  unfold impl_words.f
  exact words_l0 l h hl l.length 0 (by omega)
end Go.Proofs.YtojiighpkppckaaDoor.Q


namespace Go.Proofs.YtojiighpkppckaaDoor.Q
set_option linter.unusedVariables false
set_option linter.unusedSimpArgs false
open Go.RowKit Go.Proofs.YtojiighpkppckaaDoor.P Go.Proofs.YtojiighpkppckaaDoorW.PrintWords Go.Proofs.YtojiighpkppckaaDoorW.PrintMore
theorem isWarmthA_eq (a : Int) : impl_isWarmth.f a = some (decide (-10 ≤ a ∧ a ≤ 40)) := by
  unfold impl_isWarmth.f; rw [within_eq]; rfl
def actOk (n a b c : Int) : Bool :=
  if n = 1 ∨ n = 5 ∨ n = 6 then decide (a = 0 ∧ b = 0 ∧ c = 0)
  else if n = 2 then decide ((-10 ≤ a ∧ a ≤ 40) ∧ b = 0 ∧ c = 0)
  else if n = 3 then decide ((0 ≤ a ∧ a ≤ 3) ∧ (0 ≤ b ∧ b ≤ 39) ∧ (0 ≤ c ∧ c ≤ 2))
  else if n = 4 then decide ((0 ≤ a ∧ a ≤ 11) ∧ (-100000 ≤ b ∧ b ≤ 100000) ∧ c = 0)
  else if n = 7 then decide ((0 ≤ a ∧ a ≤ 11) ∧ b = 0 ∧ c = 0) else false
theorem actOk_impl (n a b c : Int) : Ev (fun k => impl_ActOk.f k n a b c) (actOk n a b c) := by
  have J : ∀ x : Bool, x = decide (n = 1 ∨ n = 5 ∨ n = 6) → Ev (fun k => impl_ActOk.j0 k n x n a b c) (actOk n a b c) := by
    intro x hx
    refine Ev.step (fun k => by rw [impl_ActOk.j0]) ?_
    unfold actOk
    by_cases h : n = 1 ∨ n = 5 ∨ n = 6
    · refine evp (by simp [hx, h]) (evs ?_)
      rw [if_pos h, Bool.eq_iff_iff]; simp
    rw [if_neg h]
    refine evn (by simp [hx, h]) ?_
    by_cases h2 : n = 2
    · refine evp h2 ?_
      rw [if_pos h2]
      by_cases hz : b = 0 ∧ c = 0
      · refine evp (by simp [hz]) (evb (isWarmthA_eq _) (evs ?_))
        simp [hz]
      · refine evn (by simpa using hz) (evs ?_)
        rw [Bool.eq_iff_iff]; simp; intros; omega
    refine evn h2 ?_
    rw [if_neg h2]
    by_cases h3 : n = 3
    · refine evp h3 ?_
      rw [if_pos h3]
      refine evb (within_eq _ _ _) ?_
      by_cases p1 : 0 ≤ a ∧ a ≤ 3
      rotate_left
      · exact evn (by simpa using p1) (evs (by simp [p1]))
      refine evp (by simpa using p1) (evb (within_eq _ _ _) ?_)
      by_cases p2 : 0 ≤ b ∧ b ≤ 39
      rotate_left
      · exact evn (by simpa using p2) (evs (by simp [p2]))
      refine evp (by simpa using p2) (evb (within_eq _ _ _) (evs ?_))
      simp [p1, p2]
    refine evn h3 ?_
    rw [if_neg h3]
    by_cases h4 : n = 4
    · refine evp h4 ?_
      rw [if_pos h4]
      by_cases p0 : c = 0
      rotate_left
      · exact evn (by simpa using p0) (evs (by simp [p0]))
      refine evp (by simpa using p0) (evb (within_eq _ _ _) ?_)
      by_cases p1 : 0 ≤ a ∧ a ≤ 11
      rotate_left
      · exact evn (by simpa using p1) (evs (by simp [p1]))
      refine evp (by simpa using p1) (evb (within_eq _ _ _) (evs ?_))
      simp [p0, p1]
    refine evn h4 ?_
    rw [if_neg h4]
    by_cases h7 : n = 7
    · refine evp h7 ?_
      rw [if_pos h7]
      by_cases hz : b = 0 ∧ c = 0
      · refine evp (by simp [hz]) (evb (within_eq _ _ _) (evs ?_))
        simp [hz]
      · refine evn (by simpa using hz) (evs ?_)
        rw [Bool.eq_iff_iff]; simp; intros; omega
    refine evn h7 ?_
    rw [if_neg h7]
    exact Ev.now _
  unfold impl_ActOk.f
  refine evi (fun h => J _ (by simp [h])) (fun h => evi (fun h5 => J _ (by simp [h5])) (fun h5 => J _ ?_))
  rw [Bool.eq_iff_iff]; simp [h, h5]
theorem actOk_spec (n a b c : Int) : Ev (fun k => spec_ActOk.f k n a b c) (actOk n a b c) := by
  have Z : ∀ (p : Prop) [Decidable p], p → Ev (fun _ => if b = 0 then some (c == 0) else some false) (decide (p ∧ b = 0 ∧ c = 0)) := by
    intro p _ hp
    by_cases hb : b = 0
    · refine evp hb (evs ?_); rw [Bool.eq_iff_iff]; simp [hp, hb]
    · refine evn hb (evs ?_); simp [hb]
  have J : ∀ x : Bool, x = decide (n = 1 ∨ n = 5 ∨ n = 6) → Ev (fun k => spec_ActOk.j0 k n x n a b c) (actOk n a b c) := by
    intro x hx
    refine Ev.step (fun k => by rw [spec_ActOk.j0]) ?_
    unfold actOk
    by_cases h : n = 1 ∨ n = 5 ∨ n = 6
    · rw [if_pos h]
      refine evp (by simp [hx, h]) ?_
      by_cases ha : a = 0
      · exact evp ha (Z (a = 0) ha)
      · exact evn ha (evs (by simp [ha]))
    rw [if_neg h]
    refine evn (by simp [hx, h]) ?_
    by_cases h2 : n = 2
    · refine evp h2 ?_
      rw [if_pos h2]
      refine evb (l01In_eq _ _ _) ?_
      by_cases p1 : -10 ≤ a ∧ a ≤ 40
      · exact evp (by simpa using p1) (Z _ p1)
      · exact evn (by simpa using p1) (evs (by simp [p1]))
    refine evn h2 ?_
    rw [if_neg h2]
    by_cases h3 : n = 3
    · refine evp h3 ?_
      rw [if_pos h3]
      refine evb (l01In_eq _ _ _) ?_
      by_cases p1 : 0 ≤ a ∧ a ≤ 3
      rotate_left
      · exact evn (by simpa using p1) (evs (by simp [p1]))
      refine evp (by simpa using p1) (evb (l01In_eq _ _ _) ?_)
      by_cases p2 : 0 ≤ b ∧ b ≤ 39
      rotate_left
      · exact evn (by simpa using p2) (evs (by simp [p2]))
      refine evp (by simpa using p2) (evb (l01In_eq _ _ _) (evs ?_))
      simp [p1, p2]
    refine evn h3 ?_
    rw [if_neg h3]
    by_cases h4 : n = 4
    · refine evp h4 ?_
      rw [if_pos h4]
      refine evb (l01In_eq _ _ _) ?_
      by_cases p1 : 0 ≤ a ∧ a ≤ 11
      rotate_left
      · exact evn (by simpa using p1) (evs (by simp [p1]))
      refine evp (by simpa using p1) (evb (l01In_eq _ _ _) ?_)
      by_cases p2 : -100000 ≤ b ∧ b ≤ 100000
      · refine evp (by simpa using p2) (evs ?_); rw [Bool.eq_iff_iff]; simp [p1, p2]
      · refine evn (by simpa using p2) (evs ?_); simp [p2]
    refine evn h4 ?_
    rw [if_neg h4]
    by_cases h7 : n = 7
    · refine evp h7 ?_
      rw [if_pos h7]
      refine evb (l01In_eq _ _ _) ?_
      by_cases p1 : 0 ≤ a ∧ a ≤ 11
      · exact evp (by simpa using p1) (Z _ p1)
      · exact evn (by simpa using p1) (evs (by simp [p1]))
    refine evn h7 ?_
    rw [if_neg h7]
    exact Ev.now _
  unfold spec_ActOk.f
  refine evi (fun h => J _ (by simp [h])) (fun h => evi (fun h5 => J _ (by simp [h5])) (fun h5 => J _ ?_))
  rw [Bool.eq_iff_iff]; simp [h, h5]
end Go.Proofs.YtojiighpkppckaaDoor.Q


namespace Go.Proofs.YtojiighpkppckaaDoor.Q
set_option linter.unusedVariables false
set_option linter.unusedSimpArgs false
open Go.RowKit Go.Proofs.YtojiighpkppckaaDoor.P Go.Proofs.YtojiighpkppckaaDoorW.PrintWords
def in64 (n : Int) : Prop := -9223372036854775808 ≤ n ∧ n ≤ 9223372036854775807
def actName (n : Int) : List UInt8 :=
  if n = 1 then [116, 117, 110, 101] else if n = 2 then [119, 97, 114, 109] else if n = 3 then [102, 97, 117, 108, 116] else if n = 4 then [107, 110, 111, 99, 107]
  else if n = 5 then [114, 101, 112, 97, 105, 114] else if n = 6 then [108, 101, 102, 116] else [104, 101, 97, 114, 100]
def actNums (n a b c : Int) : List Int := if n = 2 ∨ n = 7 then [a] else if n = 3 then [a, b, c] else if n = 4 then [a, b] else []
def actText (n a b c : Int) : List UInt8 := if actOk n a b c = true then actName n ++ tail_ (actNums n a b c) else []
theorem actOk_kind {n a b c : Int} (h : actOk n a b c = true) : 1 ≤ n ∧ n ≤ 7 := by
  unfold actOk at h
  by_cases h1 : n = 1 ∨ n = 5 ∨ n = 6
  · omega
  rw [if_neg h1] at h
  by_cases h2 : n = 2
  · omega
  rw [if_neg h2] at h
  by_cases h3 : n = 3
  · omega
  rw [if_neg h3] at h
  by_cases h4 : n = 4
  · omega
  rw [if_neg h4] at h
  by_cases h7 : n = 7
  · omega
  rw [if_neg h7] at h
  cases h
theorem tail_line (a : Int) (r : List Int) : [32] ++ line (a :: r) = tail_ (a :: r) := by
  rw [line_cons]; simp [tail_]
theorem fmtAct_l0 (name : List UInt8) (l : List Int) (m : Nat) (hm : m ≤ l.length) (h : ∀ n ∈ l, in64 n) (hl : l.length ≤ 10) (hn : name.length ≤ 100) : ∀ (d i : Nat), i + d = m →
    Ev (fun k => spec_FormatAct.l0 k (txt (name ++ tail_ (l.take i))) (m : Int) l (i : Int)) (txt (name ++ tail_ (l.take m)), true) := by
  intro d
  induction d with
  | zero =>
    intro i hi
    obtain rfl : i = m := by omega
    exact Ev.step (fun k => by rw [spec_FormatAct.l0]) (evn (by omega) (Ev.now _))
  | succ d ih =>
    intro i hi
    have hlt : i < l.length := by omega
    have hq := h l[i] (List.getElem_mem hlt)
    have ht := tail_len (l.take i) (fun n hn => h n (List.mem_of_mem_take hn))
    have hti : (l.take i).length ≤ 10 := by rw [List.length_take]; omega
    have hs : (name ++ tail_ (l.take i)).length ≤ 400 := by rw [List.length_append]; omega
    have hnl := num_len _ hq.1 hq.2
    refine Ev.step (fun k => by rw [spec_FormatAct.l0]) (evp (by omega) (evp (by rw [txt_size]; omega) (evp (by omega) (evp (by omega) ?_))))
    rw [rd_nat l i hlt]
    refine Ev.bind (fmt_spec _ hq.1 hq.2) (evp ?_ ?_)
    · rw [show (⟨#[32]⟩ : ByteArray) = txt [32] from rfl, txt_app, txt_size, txt_size, List.length_append]
      simp only [List.length_singleton]
      omega
    · rw [show (⟨#[32]⟩ : ByteArray) = txt [32] from rfl, txt_app, txt_app, w64 (by omega) (by omega)]
      have := ih (i + 1) (by omega)
      rw [show tail_ (l.take (i + 1)) = tail_ (l.take i) ++ (32 :: num l[i]) from by rw [List.take_succ_eq_append_getElem hlt]; simp only [tail_, List.flatMap_append, List.flatMap_cons, List.flatMap_nil, List.append_nil]] at this
      rw [show (name ++ tail_ (l.take i) ++ [32] ++ num l[i]) = name ++ (tail_ (l.take i) ++ (32 :: num l[i])) from by simp [List.append_assoc]]
      exact this
theorem fmtAct_spec (n a b c : Int) (ha : in64 a) (hb : in64 b) (hc : in64 c) : Ev (fun k => spec_FormatAct.f k n a b c) (txt (actText n a b c), actOk n a b c) := by
  unfold spec_FormatAct.f
  refine Ev.bind (actOk_spec n a b c) ?_
  by_cases hok : actOk n a b c = true
  rotate_left
  · refine evn hok (evs ?_)
    unfold actText
    rw [if_neg hok, Bool.eq_false_iff.mpr hok]; rfl
  have hk := actOk_kind hok
  refine evp hok (evb rfl (evp (by omega) (evp (by simp only [List.length_cons, List.length_nil]; omega) (evb rfl (evp (by simp only [List.length_cons, List.length_nil]; omega) ?_)))))
  have hall : ∀ m ∈ [a, b, c], in64 m := by intro m hm; simp at hm; rcases hm with rfl | rfl | rfl <;> assumption
  have go : ∀ (nm : List UInt8) (m : Nat), m ≤ 3 → nm.length ≤ 100 → rdOf ByteArray.empty [(⟨#[]⟩ : ByteArray), (⟨#[116, 117, 110, 101]⟩ : ByteArray), (⟨#[119, 97, 114, 109]⟩ : ByteArray), (⟨#[102, 97, 117, 108, 116]⟩ : ByteArray), (⟨#[107, 110, 111, 99, 107]⟩ : ByteArray), (⟨#[114, 101, 112, 97, 105, 114]⟩ : ByteArray), (⟨#[108, 101, 102, 116]⟩ : ByteArray), (⟨#[104, 101, 97, 114, 100]⟩ : ByteArray)] n = txt nm → rd [0, 0, 1, 3, 2, 0, 0, 1] n = (m : Int) → nm = actName n → [a, b, c].take m = actNums n a b c →
      Ev (fun k => spec_FormatAct.l0 k (rdOf ByteArray.empty [(⟨#[]⟩ : ByteArray), (⟨#[116, 117, 110, 101]⟩ : ByteArray), (⟨#[119, 97, 114, 109]⟩ : ByteArray), (⟨#[102, 97, 117, 108, 116]⟩ : ByteArray), (⟨#[107, 110, 111, 99, 107]⟩ : ByteArray), (⟨#[114, 101, 112, 97, 105, 114]⟩ : ByteArray), (⟨#[108, 101, 102, 116]⟩ : ByteArray), (⟨#[104, 101, 97, 114, 100]⟩ : ByteArray)] n) (rd [0, 0, 1, 3, 2, 0, 0, 1] n) [a, b, c] 0) (txt (actText n a b c), actOk n a b c) := by
    intro nm m hm hl e1 e2 e3 e4
    rw [e1, e2]
    have := fmtAct_l0 nm [a, b, c] m hm hall (by simp) hl m 0 (by omega)
    rw [e4] at this
    rw [show tail_ (List.take 0 [a, b, c]) = [] from rfl, List.append_nil] at this
    unfold actText
    rw [if_pos hok, hok, ← e3]
    exact this
  rcases (show n = 1 ∨ n = 2 ∨ n = 3 ∨ n = 4 ∨ n = 5 ∨ n = 6 ∨ n = 7 by omega) with rfl | rfl | rfl | rfl | rfl | rfl | rfl
  · exact go _ 0 (by decide) (by decide) rfl rfl rfl rfl
  · exact go [119, 97, 114, 109] 1 (by decide) (by decide) rfl rfl rfl rfl
  · exact go [102, 97, 117, 108, 116] 3 (by decide) (by decide) rfl rfl rfl rfl
  · exact go [107, 110, 111, 99, 107] 2 (by decide) (by decide) rfl rfl rfl rfl
  · exact go [114, 101, 112, 97, 105, 114] 0 (by decide) (by decide) rfl rfl rfl rfl
  · exact go [108, 101, 102, 116] 0 (by decide) (by decide) rfl rfl rfl rfl
  · exact go [104, 101, 97, 114, 100] 1 (by decide) (by decide) rfl rfl rfl rfl
theorem fmtAct_impl (n a b c : Int) (ha : in64 a) (hb : in64 b) (hc : in64 c) : Ev (fun k => impl_FormatAct.f k n a b c) (txt (actText n a b c), actOk n a b c) := by
  unfold impl_FormatAct.f
  refine Ev.bind (actOk_impl n a b c) ?_
  by_cases hok : actOk n a b c = true
  rotate_left
  · refine evn hok (evs ?_)
    unfold actText
    rw [if_neg hok, Bool.eq_false_iff.mpr hok]; rfl
  have hk := actOk_kind hok
  have W : ∀ (nm : List UInt8) (x : Int) (r : List Int) (q : Nat), (nm ++ [32]).length = q → q ≤ 100 → (x :: r).length ≤ 3 → (∀ m ∈ x :: r, in64 m) → nm = actName n → x :: r = actNums n a b c →
      Ev (fun k => (impl_words.f k (x :: r)).bind fun t => (if q + t.size ≤ 9223372036854775807 then (some (txt (nm ++ [32]) ++ t, true)) else (none))) (txt (actText n a b c), actOk n a b c) := by
    intro nm x r q hq hq1 hl hm e1 e2
    refine Ev.bind (words_eq (x :: r) hm (by omega)) (evp ?_ (evs ?_))
    · have := line_len (x :: r) hm
      rw [txt_size]
      omega
    · rw [txt_app, List.append_assoc, tail_line, hok]
      unfold actText
      rw [if_pos hok, ← e1, ← e2]
  have N : ∀ (nm : List UInt8), nm = actName n → actNums n a b c = [] → Ev (fun _ => some (txt nm, true)) (txt (actText n a b c), actOk n a b c) := by
    intro nm e1 e2
    refine evs ?_
    unfold actText
    rw [if_pos hok, hok, e2, e1]
    simp [tail_]
  refine evp hok ?_
  rcases (show n = 1 ∨ n = 2 ∨ n = 3 ∨ n = 4 ∨ n = 5 ∨ n = 6 ∨ n = 7 by omega) with rfl | rfl | rfl | rfl | rfl | rfl | rfl
  · exact evp rfl (N _ rfl rfl)
  · exact evn (by decide) (evp rfl (W [119, 97, 114, 109] a [] 5 rfl (by decide) (by simp) (by simpa using ha) rfl rfl))
  · exact evn (by decide) (evn (by decide) (evp rfl (W [102, 97, 117, 108, 116] a [b, c] 6 rfl (by decide) (by simp) (by simp; exact ⟨ha, hb, hc⟩) rfl rfl)))
  · exact evn (by decide) (evn (by decide) (evn (by decide) (evp rfl (W [107, 110, 111, 99, 107] a [b] 6 rfl (by decide) (by simp) (by simp; exact ⟨ha, hb⟩) rfl rfl))))
  · exact evn (by decide) (evn (by decide) (evn (by decide) (evn (by decide) (evp rfl (N _ rfl rfl)))))
  · exact evn (by decide) (evn (by decide) (evn (by decide) (evn (by decide) (evn (by decide) (evp rfl (N _ rfl rfl))))))
  · exact evn (by decide) (evn (by decide) (evn (by decide) (evn (by decide) (evn (by decide) (evn (by decide) (W [104, 101, 97, 114, 100] a [] 6 rfl (by decide) (by simp) (by simpa using ha) rfl rfl))))))
end Go.Proofs.YtojiighpkppckaaDoor.Q


namespace Go.Proofs.YtojiighpkppckaaDoor.Q
set_option linter.unusedVariables false
set_option linter.unusedSimpArgs false
open Go.RowKit Go.Proofs.YtojiighpkppckaaDoor.P Go.Proofs.YtojiighpkppckaaDoorW.PrintWords
def scanW : List UInt8 → List UInt8 → List (List UInt8)
  | cur, [] => if cur = [] then [] else [cur]
  | cur, b :: r => if b = 32 then (if cur = [] then scanW [] r else cur :: scanW [] r) else scanW (cur ++ [b]) r
def preW (c : List UInt8) : List (List UInt8) → List (List UInt8)
  | [] => []
  | p :: r => (c ++ p) :: r
theorem preW_pre (a b : List UInt8) (X : List (List UInt8)) : preW a (preW b X) = preW (a ++ b) X := by cases X <;> simp [preW]
theorem preW_nil (X : List (List UInt8)) : preW [] X = X := by cases X <;> simp [preW]
theorem splitK_cons (b : UInt8) (hb : b ≠ 32) (k : Nat) (l : List UInt8) : Go.Lib.splitK [32] 0 k (b :: l) = preW [b] (Go.Lib.splitK [32] 0 k l) := by
  cases k with
  | zero => rfl
  | succ k =>
    have h1 := Go.Lib.indexByte_ge l 32
    have e : Go.Lib.index (b :: l) [32] = if (Go.Lib.index l [32] == -1) = true then -1 else Go.Lib.index l [32] + 1 := by
      rw [index_one_, index_one_, Go.Lib.indexByte]
      have : (b == 32) = false := by simpa using hb
      rw [this]
      simp
    rw [← index_one_] at h1
    unfold Go.Lib.splitK
    rw [e]
    by_cases h : Go.Lib.index l [32] = -1
    · simp [h, preW]
    · obtain ⟨i, hi⟩ : ∃ i : Nat, Go.Lib.index l [32] = i := ⟨(Go.Lib.index l [32]).toNat, by omega⟩
      have n1 : ((i : Int) == -1) = false := by rw [beq_eq_false_iff_ne]; omega
      have n2 : ((i : Int) + 1 == -1) = false := by rw [beq_eq_false_iff_ne]; omega
      rw [hi, n1]
      simp only [Bool.false_eq_true, if_false, n2, preW]
      have n3 : ((i : Int) + 1).toNat = i + 1 := by omega
      rw [n3]
      simp
theorem splitK_32 (k : Nat) (l : List UInt8) : Go.Lib.splitK [32] 0 (k + 1) (32 :: l) = [] :: Go.Lib.splitK [32] 0 k l := by
  have e : Go.Lib.index (32 :: l) [32] = 0 := by rw [index_one_, Go.Lib.indexByte]; simp
  rw [Go.Lib.splitK, e]
  simp
theorem words_split : ∀ (l cur : List UInt8), (preW cur (Go.Lib.splitK [32] 0 (l.count 32) l)).filter (fun p => decide (p ≠ [])) = scanW cur l
  | [], cur => by
    simp only [List.count_nil, Go.Lib.splitK, preW, scanW, List.append_nil]
    by_cases h : cur = [] <;> simp [h]
  | b :: r, cur => by
    rw [scanW]
    by_cases hb : b = 32
    · subst hb
      rw [if_pos rfl, List.count_cons_self, splitK_32]
      have ih := words_split r []
      rw [preW_nil] at ih
      by_cases h : cur = []
      · subst h
        rw [if_pos rfl, ← ih]
        simp [preW]
      · rw [if_neg h, ← ih]
        simp [h, preW]
    · rw [if_neg hb, List.count_cons_of_ne hb, splitK_cons b hb, preW_pre]
      exact words_split r (cur ++ [b])
theorem split_words (l : List UInt8) : (Go.Lib.split l [32]).filter (fun p => decide (p ≠ [])) = scanW [] l := by
  rw [Go.Lib.split, Go.Lib.count_one, ← words_split l [], preW_nil]
def okB (b : UInt8) : Bool := decide (32 ≤ b.toNat) && decide (b.toNat ≤ 126)
def fieldsM (s : ByteArray) : List ByteArray × Bool :=
  if s.size ≤ 600 ∧ s.data.toList.all okB = true then (if ((scanW [] s.data.toList).map txt).length > 24 then ([], false) else ((scanW [] s.data.toList).map txt, true)) else ([], false)
theorem bt_nat (s : ByteArray) (i : Nat) (h : i < s.data.toList.length) : bt s (i : Int) = ((s.data.toList[i]).toNat : Int) := by
  have h' : (i : Int).toNat < s.size := by have e : s.data.toList.length = s.size := Array.length_toList; omega
  have := bt_at s (i : Int) h'
  rw [← this]
  rfl
theorem toList_eq (s : ByteArray) : s.toList = s.data.toList := Go.Lib.toList_data s
theorem txt_of (s : ByteArray) : txt s.data.toList = s := by apply ByteArray.ext; simp [txt]
end Go.Proofs.YtojiighpkppckaaDoor.Q


namespace Go.Proofs.YtojiighpkppckaaDoor.Q
set_option linter.unusedVariables false
set_option linter.unusedSimpArgs false
open Go.RowKit Go.Proofs.YtojiighpkppckaaDoor.P Go.Proofs.YtojiighpkppckaaDoorW.PrintWords
theorem fimp_l1 (P : List ByteArray) (hP : P.length ≤ 1000) : ∀ (d i : Nat) (acc : List ByteArray), i + d = P.length → acc.length ≤ i →
    Ev (fun k => impl_SplitFields.l1 k acc P (P.length : Int) (i : Int)) (if (acc ++ (P.drop i).filter (fun p => decide (p.data.toList ≠ []))).length > 24 then ([], false) else (acc ++ (P.drop i).filter (fun p => decide (p.data.toList ≠ [])), true)) := by
  intro d
  induction d with
  | zero =>
    intro i acc h ha
    obtain rfl : i = P.length := by omega
    refine Ev.step (fun k => by rw [impl_SplitFields.l1]) (evn (by omega) ?_)
    simp only [List.drop_length, List.filter_nil, List.append_nil]
    exact evi (fun h => rpos (by omega) (Ev.now _)) (fun h => rneg (by omega) (Ev.now _))
  | succ d ih =>
    intro i acc h ha
    have hi : i < P.length := by omega
    have e : rdOf ByteArray.empty P (i : Int) = P[i] := by simp [rdOf, List.getD_eq_getElem?_getD, hi]
    refine Ev.step (fun k => by rw [impl_SplitFields.l1]) (evp (by omega) (evp (by omega) (evp (by omega) ?_)))
    rw [e, toList_eq, w64 (by omega) (by omega), List.drop_eq_getElem_cons hi]
    by_cases hz : P[i].data.toList = []
    · refine evp hz ?_
      have := ih (i + 1) acc (by omega) (by omega)
      rw [List.filter_cons_of_neg (by simp [hz])]
      simpa using this
    · refine evn hz (evp (by omega) ?_)
      have := ih (i + 1) (acc ++ [P[i]]) (by omega) (by simp; omega)
      rw [List.filter_cons_of_pos (by simp [hz])]
      simpa using this
theorem okB_t {b : UInt8} (h1 : 32 ≤ b.toNat) (h2 : b.toNat ≤ 126) : okB b = true := by unfold okB; rw [decide_eq_true h1, decide_eq_true h2]; rfl
theorem okB_n {b : UInt8} (h : b.toNat < 32 ∨ 126 < b.toNat) {c : Bool} : ¬ (okB b && c) = true := by
  intro h1
  unfold okB at h1
  rw [Bool.and_eq_true, Bool.and_eq_true] at h1
  have a1 := of_decide_eq_true h1.1.1
  have a2 := of_decide_eq_true h1.1.2
  omega
theorem fields_impl (s : ByteArray) : Ev (fun k => impl_SplitFields.f k s) (fieldsM s) := by
  unfold impl_SplitFields.f fieldsM
  refine evi (fun h => rneg (by omega) (Ev.now _)) (fun h => ?_)
  have hsz : s.size ≤ 600 := by omega
  have hl : s.data.toList.length = s.size := Array.length_toList
  have key : ∀ (d i : Nat), i + d = s.size → Ev (fun k => impl_SplitFields.l0 k s (i : Int)) (if (s.data.toList.drop i).all okB = true then (if ((scanW [] s.data.toList).map txt).length > 24 then ([], false) else ((scanW [] s.data.toList).map txt, true)) else ([], false)) := by
    intro d
    induction d with
    | zero =>
      intro i h
      have hi : i = s.size := by omega
      refine Ev.step (fun k => by rw [impl_SplitFields.l0]) (evn (by omega) ?_)
      rw [List.drop_eq_nil_of_le (by omega)]
      refine rpos rfl ?_
      have hc := Go.Lib.countB_le (⟨#[32]⟩ : ByteArray) (Nat.le_refl 1) s.size s (Nat.le_refl _)
      have hn := Go.Lib.splitB_all (⟨#[32]⟩ : ByteArray) (Nat.le_refl 1) 0 _ s rfl
      refine evb (a := Go.Lib.splitB (⟨#[32]⟩ : ByteArray) 0 (Go.Lib.countB s ⟨#[32]⟩) s) (by unfold strings_Split.f; rw [if_pos ⟨rfl, by omega⟩]) ?_
      have h1 := fimp_l1 (Go.Lib.splitB (⟨#[32]⟩ : ByteArray) 0 (Go.Lib.countB s ⟨#[32]⟩) s) (by omega) _ 0 [] (Nat.zero_add _) (Nat.zero_le _)
      have e : (Go.Lib.splitB (⟨#[32]⟩ : ByteArray) 0 (Go.Lib.countB s ⟨#[32]⟩) s).filter (fun p => decide (p.data.toList ≠ [])) = (scanW [] s.data.toList).map txt := by
        have e1 : (Go.Lib.splitB (⟨#[32]⟩ : ByteArray) 0 (Go.Lib.countB s ⟨#[32]⟩) s).map (·.data.toList) = Go.Lib.split s.data.toList [32] := by rw [Go.Lib.splitB_data]; rfl
        rw [← split_words, ← e1]
        generalize Go.Lib.splitB (⟨#[32]⟩ : ByteArray) 0 (Go.Lib.countB s ⟨#[32]⟩) s = X
        induction X with
        | nil => rfl
        | cons p r ih =>
          by_cases hz : p.data.toList = []
          · rw [List.filter_cons_of_neg (by simp [hz]), List.map_cons, List.filter_cons_of_neg (by simp [hz])]; exact ih
          · rw [List.filter_cons_of_pos (by simp [hz]), List.map_cons, List.filter_cons_of_pos (by simp [hz]), List.map_cons, txt_of, ih]
      simp only [List.drop_zero, List.nil_append, e] at h1
      exact h1
    | succ d ih =>
      intro i h
      have hi : i < s.data.toList.length := by omega
      refine Ev.step (fun k => by rw [impl_SplitFields.l0]) (evp (by omega) (evp (by omega) ?_))
      rw [bt_nat s i hi, w64 (by omega) (by omega), List.drop_eq_getElem_cons hi, List.all_cons]
      refine evi (fun hb => rneg (okB_n (.inl (by omega))) (Ev.now _)) (fun hb => evi (fun hc => rneg (okB_n (.inr (by omega))) (Ev.now _)) (fun hc => ?_))
      have e : okB s.data.toList[i] = true := okB_t (by omega) (by omega)
      rw [e, Bool.true_and]
      have := ih (i + 1) (by omega)
      simpa using this
  have := key s.size 0 (Nat.zero_add _)
  simp only [List.drop_zero] at this
  have e : (s.size ≤ 600 ∧ s.data.toList.all okB = true) = (s.data.toList.all okB = true) := by simp [hsz]
  simp only [e]
  exact this
theorem fields_spec (s : ByteArray) : Ev (fun k => spec_SplitFields.f k s) (fieldsM s) := by
  unfold spec_SplitFields.f fieldsM
  refine evb (a := []) rfl (evi (fun h => rneg (by omega) (Ev.now _)) (fun h => ?_))
  have hsz : s.size ≤ 600 := by omega
  have hl : s.data.toList.length = s.size := Array.length_toList
  have key : ∀ (d i a : Nat) (acc : List ByteArray), i + d = s.size → a ≤ i → acc.length ≤ i →
      Ev (fun k => spec_SplitFields.l0 k s acc (a : Int) (i : Int)) (if (s.data.toList.drop i).all okB = true then (if (acc ++ (scanW ((s.data.toList.drop a).take (i - a)) (s.data.toList.drop i)).map txt).length > 24 then ([], false) else (acc ++ (scanW ((s.data.toList.drop a).take (i - a)) (s.data.toList.drop i)).map txt, true)) else ([], false)) := by
    have ext : ∀ a i : Nat, a ≤ i → s.extract a i = txt ((s.data.toList.drop a).take (i - a)) := by
      intro a i h
      apply ByteArray.ext
      apply Array.toList_inj.mp
      simp [txt, ByteArray.data_extract]
    have cur_len : ∀ a i : Nat, a ≤ i → i ≤ s.size → ((s.data.toList.drop a).take (i - a)).length = i - a := by
      intro a i h1 h2
      rw [List.length_take, List.length_drop]
      omega
    have cur_snoc : ∀ a i : Nat, a ≤ i → (hi : i < s.data.toList.length) → (s.data.toList.drop a).take (i + 1 - a) = (s.data.toList.drop a).take (i - a) ++ [s.data.toList[i]] := by
      intro a i h1 hi
      rw [show i + 1 - a = (i - a) + 1 by omega, List.take_succ_eq_append_getElem (by rw [List.length_drop]; omega), List.getElem_drop]
      congr 2
      congr 1
      omega
    have tn : ∀ n : Nat, ((n : Int)).toNat = n := fun n => Int.toNat_natCast n
    intro d
    induction d with
    | zero =>
      intro i a acc h ha hc
      have hi : i = s.size := by omega
      refine Ev.step (fun k => by rw [spec_SplitFields.l0]) (evp (by omega) (evn (by omega) ?_))
      refine Ev.step (fun k => by rw [spec_SplitFields.j1]) (evn (by decide) (evn (by omega) ?_))
      refine Ev.step (fun k => by rw [spec_SplitFields.j2]) (evn (by decide) ?_)
      rw [List.drop_eq_nil_of_le (show s.data.toList.length ≤ i by omega), scanW, w64 (by omega) (by omega), tn, tn]
      refine rpos rfl ?_
      have hcl := cur_len a i ha (by omega)
      refine evi (fun hai => evp (by omega) (evp (by omega) (evp (by omega) (evp (by omega) (Ev.step (fun k => by rw [spec_SplitFields.l0]) (evn (by omega) ?_)))))) (fun hai => Ev.step (fun k => by rw [spec_SplitFields.l0]) (evn (by omega) ?_))
      · have hne : (s.data.toList.drop a).take (i - a) ≠ [] := by intro e; rw [e] at hcl; simp at hcl; omega
        rw [if_neg hne, ext a i ha]
        simp only [List.map_cons, List.map_nil]
        exact evi (fun h => rpos (by omega) (Ev.now _)) (fun h => rneg (by omega) (Ev.now _))
      · have hne : (s.data.toList.drop a).take (i - a) = [] := List.eq_nil_of_length_eq_zero (by omega)
        rw [if_pos hne]
        simp only [List.map_nil, List.append_nil]
        exact evi (fun h => rpos (by omega) (Ev.now _)) (fun h => rneg (by omega) (Ev.now _))
    | succ d ih =>
      intro i a acc h ha hc
      have hi : i < s.data.toList.length := by omega
      have hsn := cur_snoc a i ha hi
      have hcl := cur_len a i ha (by omega)
      refine Ev.step (fun k => by rw [spec_SplitFields.l0]) (evp (by omega) (evp (by omega) (evp (by omega) ?_)))
      rw [bt_nat s i hi, List.drop_eq_getElem_cons hi, List.all_cons]
      generalize hb : s.data.toList[i] = b at *
      refine evi (fun h1 => rneg (okB_n (.inl (by omega))) (Ev.step (fun k => by rw [spec_SplitFields.j1]) (evp rfl (Ev.now _)))) (fun h1 => Ev.step (fun k => by rw [spec_SplitFields.j1]) (evi (fun h2 => rneg (okB_n (.inr (by have := of_decide_eq_true h2; omega))) (Ev.now _)) (fun h2 => evp (by omega) (evp (by omega) ?_))))
      have h3 : ¬ (b.toNat : Int) > 126 := fun hh => h2 (decide_eq_true hh)
      have e : okB b = true := okB_t (by omega) (by omega)
      rw [e, Bool.true_and, bt_nat s i hi, hb, scanW]
      refine Ev.step (fun k => by rw [spec_SplitFields.j2]) ?_
      rw [w64 (by omega) (by omega), tn, tn]
      by_cases h32 : b = 32
      · refine evn (by rw [h32]; decide) ?_
        rw [if_pos h32]
        have hcl' : (s.data.toList.drop (i + 1)).take (i + 1 - (i + 1)) = [] := by rw [Nat.sub_self, List.take_zero]
        refine evi (fun hai => evp (by omega) (evp (by omega) (evp (by omega) (evp (by omega) ?_)))) (fun hai => ?_)
        · have hne : (s.data.toList.drop a).take (i - a) ≠ [] := by intro e; rw [e] at hcl; simp at hcl; omega
          rw [if_neg hne]
          have := ih (i + 1) (i + 1) (acc ++ [s.extract a i]) (by omega) (Nat.le_refl _) (by simp; omega)
          rw [hcl', ext a i ha] at this
          rw [ext a i ha]
          simpa using this
        · have hne : (s.data.toList.drop a).take (i - a) = [] := List.eq_nil_of_length_eq_zero (by omega)
          rw [if_pos hne]
          have := ih (i + 1) (i + 1) acc (by omega) (Nat.le_refl _) (by omega)
          rw [hcl'] at this
          simpa using this
      · have hn : b.toNat ≠ 32 := fun hh => h32 (UInt8.toNat_inj.mp hh)
        refine evp (bne_iff_ne.mpr (by omega)) ?_
        rw [if_neg h32, ← hsn]
        have := ih (i + 1) a acc (by omega) (by omega) (by omega)
        simpa using this
  have := key s.size 0 0 [] (Nat.zero_add _) (Nat.le_refl _) (Nat.zero_le _)
  simp only [List.drop_zero, List.take_zero, Nat.sub_self, List.nil_append] at this
  have e : (s.size ≤ 600 ∧ s.data.toList.all okB = true) = (s.data.toList.all okB = true) := by simp [hsz]
  simp only [e]
  exact this
end Go.Proofs.YtojiighpkppckaaDoor.Q


namespace Go.Proofs.YtojiighpkppckaaDoor.Q
set_option linter.unusedVariables false
set_option linter.unusedSimpArgs false
open Go.RowKit Go.Proofs.YtojiighpkppckaaDoor.P Go.Proofs.YtojiighpkppckaaDoorW.PrintWords
theorem digit_is (b : UInt8) : Go.Lib.digitVal b = if 48 ≤ b.toNat ∧ b.toNat ≤ 57 then some (b.toNat - 48) else none := rfl
theorem decFrom_snoc (b : UInt8) : ∀ (l : List UInt8) (acc : Nat), Go.Lib.decFrom acc (l ++ [b]) = (Go.Lib.decFrom acc l).bind fun n => (Go.Lib.digitVal b).map fun d => n * 10 + d
  | [], acc => by
    simp only [List.nil_append, Go.Lib.decFrom, Option.bind_some]
    cases Go.Lib.digitVal b <;> rfl
  | a :: r, acc => by
    simp only [List.cons_append, Go.Lib.decFrom]
    cases Go.Lib.digitVal a with
    | none => rfl
    | some d => exact decFrom_snoc b r _
theorem digit_u8 (u : Nat) (h : u < 10) : (UInt8.ofNat (48 + u)).toNat = 48 + u := by
  rw [UInt8.toNat_ofNat']
  omega
theorem decFrom_dec (u : Nat) : Go.Lib.decFrom 0 (Go.Lib.decDigits u) = some u := by
  induction u using Nat.strongRecOn with
  | _ u ih =>
    rw [Go.Lib.decDigits]
    by_cases h : u < 10
    · rw [dif_pos h]
      simp only [Go.Lib.decFrom, digit_is, digit_u8 u h]
      rw [if_pos (by omega)]
      simp
    · rw [dif_neg h, decFrom_snoc, ih (u / 10) (by omega), Option.bind_some, digit_is, digit_u8 (u % 10) (by omega), if_pos (by omega)]
      simp only [Option.map_some, Option.some.injEq]
      omega
theorem dec_digit (u : Nat) : ∀ b ∈ Go.Lib.decDigits u, 48 ≤ b.toNat ∧ b.toNat ≤ 57 := by
  induction u using Nat.strongRecOn with
  | _ u ih =>
    intro b hb
    rw [Go.Lib.decDigits] at hb
    by_cases h : u < 10
    · rw [dif_pos h] at hb
      obtain rfl := List.mem_singleton.mp hb
      rw [digit_u8 u h]
      omega
    · rw [dif_neg h] at hb
      rcases List.mem_append.mp hb with h1 | h1
      · exact ih (u / 10) (by omega) b h1
      · obtain rfl := List.mem_singleton.mp h1
        rw [digit_u8 (u % 10) (by omega)]
        omega
theorem dec_ne (u : Nat) : Go.Lib.decDigits u ≠ [] := by
  rw [Go.Lib.decDigits]
  split <;> simp
theorem num_pos {v : Int} (h : 0 ≤ v) : num v = Go.Lib.decDigits v.toNat := by unfold num Go.Lib.itoa; rw [if_neg (by omega)]
theorem num_neg {v : Int} (h : v < 0) : num v = 45 :: Go.Lib.decDigits v.natAbs := by unfold num Go.Lib.itoa; rw [if_pos h]
theorem dec_len (u : Nat) (h : u ≤ 1000000000) : (Go.Lib.decDigits u).length ≤ 10 := by
  have key : ∀ (m u : Nat), u < 10 ^ (m + 1) → (Go.Lib.decDigits u).length ≤ m + 1 := by
    intro m
    induction m with
    | zero => intro u h; rw [Go.Lib.decDigits, dif_pos (by omega)]; simp
    | succ m ih =>
      intro u h
      rw [Go.Lib.decDigits]
      by_cases h1 : u < 10
      · rw [dif_pos h1]; simp
      · rw [dif_neg h1, List.length_append, List.length_singleton]
        have := ih (u / 10) (by rw [Nat.pow_succ] at h; omega)
        omega
  exact key 9 u (by have : (10 : Nat) ^ (9 + 1) = 10000000000 := by decide
                    omega)
theorem num_atoi {v : Int} (h1 : -1000000000 ≤ v) (h2 : v ≤ 1000000000) : atoi? (txt (num v)) = some v := by
  unfold atoi?
  rw [txt_data]
  by_cases h : v < 0
  · have hl := dec_len v.natAbs (by omega)
    rw [num_neg h, Go.Lib.atoiAll_short _ (by simp; omega)]
    have e : Go.Lib.decNat (Go.Lib.decDigits v.natAbs) = some v.natAbs := by
      unfold Go.Lib.decNat
      rw [if_neg (by simp [dec_ne]), decFrom_dec]
    simp only [Go.Lib.atoi, e]
    simp [Go.Lib.NumEnd.ofOption]
    omega
  · have hl := dec_len v.toNat (by omega)
    rw [num_pos (by omega), Go.Lib.atoiAll_short _ (by omega)]
    have e : Go.Lib.decNat (Go.Lib.decDigits v.toNat) = some v.toNat := by
      unfold Go.Lib.decNat
      rw [if_neg (by simp [dec_ne]), decFrom_dec]
    cases hd : Go.Lib.decDigits v.toNat with
    | nil => exact absurd hd (dec_ne _)
    | cons b r =>
      have hb := dec_digit v.toNat b (by rw [hd]; simp)
      have n1 : (b == 45) = false := by rw [beq_eq_false_iff_ne]; intro e; rw [e] at hb; simp at hb
      have n2 : (b == 43) = false := by rw [beq_eq_false_iff_ne]; intro e; rw [e] at hb; simp at hb
      rw [hd] at e
      simp only [Go.Lib.atoi, n1, n2, e]
      simp [Go.Lib.NumEnd.ofOption]
      omega
end Go.Proofs.YtojiighpkppckaaDoor.Q


namespace Go.Proofs.YtojiighpkppckaaDoor.Q
set_option linter.unusedVariables false
set_option linter.unusedSimpArgs false
open Go.RowKit Go.Proofs.YtojiighpkppckaaDoor.P Go.Proofs.YtojiighpkppckaaDoorW.PrintWords
def puFin (s : ByteArray) : Option Nat → Int × Bool
  | none => (0, false)
  | some v => if v ≤ 1000000000 ∧ num (v : Int) = s.data.toList then ((v : Int), true) else (0, false)
def puM (s : ByteArray) : Int × Bool := if s.size > 10 then (0, false) else puFin s (Go.Lib.decFrom 0 s.data.toList)
theorem puFin_le (s : ByteArray) (o : Option Nat) : 0 ≤ (puFin s o).1 ∧ (puFin s o).1 ≤ 1000000000 := by
  cases o with
  | none => simp [puFin]
  | some v =>
    by_cases h : v ≤ 1000000000 ∧ num (v : Int) = s.data.toList
    · simp only [puFin, if_pos h]
      omega
    · simp only [puFin, if_neg h]
      omega
theorem puM_le (s : ByteArray) : 0 ≤ (puM s).1 ∧ (puM s).1 ≤ 1000000000 := by
  unfold puM
  split
  · simp
  · exact puFin_le s _
theorem pu_ev (s : ByteArray) : Ev (fun k => spec_ParseUint.f k s) (puM s) := by
  unfold spec_ParseUint.f puM
  refine evi (fun h => rpos (by omega) (Ev.now _)) (fun h => rneg (by omega) ?_)
  have hl : s.data.toList.length = s.size := Array.length_toList
  have hsz : s.size ≤ 10 := by omega
  have key : ∀ (d i acc : Nat), i + d = s.size → acc < 10 ^ i → Ev (fun k => spec_ParseUint.l0 k s (acc : Int) (i : Int)) (puFin s (Go.Lib.decFrom acc (s.data.toList.drop i))) := by
    intro d
    induction d with
    | zero =>
      intro i acc h ha
      have hi : i = s.size := by omega
      have hp : acc < 10 ^ 10 := Nat.lt_of_lt_of_le ha (Nat.pow_le_pow_right (by decide) (by omega))
      have e10 : (10 : Nat) ^ 10 = 10000000000 := by decide
      refine Ev.step (fun k => by rw [spec_ParseUint.l0]) (evn (by omega) ?_)
      rw [List.drop_eq_nil_of_le (by omega), Go.Lib.decFrom, puFin]
      refine evi (fun hb => rneg (by omega) (Ev.now _)) (fun hb => ?_)
      refine Ev.bind (fmt_spec (acc : Int) (by omega) (by omega)) ?_
      rw [toList_eq, toList_eq, txt_data]
      exact evi (fun hc => rpos ⟨by omega, hc⟩ (Ev.now _)) (fun hc => rneg (fun hh => hc hh.2) (Ev.now _))
    | succ d ih =>
      intro i acc h ha
      have hi : i < s.data.toList.length := by omega
      have hp : acc < 10 ^ 10 := Nat.lt_of_lt_of_le ha (Nat.pow_le_pow_right (by decide) (by omega))
      have e10 : (10 : Nat) ^ 10 = 10000000000 := by decide
      refine Ev.step (fun k => by rw [spec_ParseUint.l0]) (evp (by omega) (evp (by omega) ?_))
      rw [bt_nat s i hi, List.drop_eq_getElem_cons hi, Go.Lib.decFrom, digit_is]
      generalize hb : s.data.toList[i] = b at *
      refine evi (fun h1 => ?_) (fun h1 => evi (fun h2 => ?_) (fun h2 => ?_))
      · rw [if_neg (by omega)]; exact Ev.now _
      · rw [if_neg (by omega)]; exact Ev.now _
      · rw [if_pos (by omega)]
        have e1 : wrap64 ((wrap64 ((wrap64 (10 * (acc : Int))) + (wrap64 (b.toNat : Int)))) - 48) = ((acc * 10 + (b.toNat - 48) : Nat) : Int) := by
          rw [w64 (n := 10 * (acc : Int)) (by omega) (by omega), w64 (n := (b.toNat : Int)) (by omega) (by omega), w64 (n := 10 * (acc : Int) + (b.toNat : Int)) (by omega) (by omega), w64 (n := 10 * (acc : Int) + (b.toNat : Int) - 48) (by omega) (by omega)]
          omega
        rw [e1, w64 (by omega) (by omega)]
        exact ih (i + 1) (acc * 10 + (b.toNat - 48)) (by omega) (by rw [Nat.pow_succ]; omega)
  have := key s.size 0 0 (Nat.zero_add _) (by decide)
  simpa using this
theorem pu_num (v : Nat) (h : v ≤ 1000000000) : puM (txt (Go.Lib.decDigits v)) = ((v : Int), true) := by
  have hl := dec_len v h
  unfold puM
  rw [if_neg (by rw [txt_size]; omega), txt_data, decFrom_dec, puFin, txt_data, if_pos ⟨h, by rw [num_pos (by omega)]; simp⟩]
def l40M (s : ByteArray) : Int := if s.size > 1 ∧ s.data.toList.head? = some 45 then -(puM (s.extract 1 s.size)).1 else (puM s).1
theorem l40M_in (s : ByteArray) : -1000000000 ≤ l40M s ∧ l40M s ≤ 1000000000 := by
  unfold l40M
  have h1 := puM_le s
  have h2 := puM_le (s.extract 1 s.size)
  split <;> omega
theorem l40_ev (s : ByteArray) : Ev (fun k => spec_l40Number.f k s) (l40M s) := by
  have hl : s.data.toList.length = s.size := Array.length_toList
  have h2 := puM_le (s.extract 1 s.size)
  have J : ∀ x : Bool, (x = true ↔ (s.size > 1 ∧ s.data.toList.head? = some 45)) → Ev (fun k => spec_l40Number.j0 k s x) (l40M s) := by
    intro x hx
    refine Ev.step (fun k => by rw [spec_l40Number.j0]) ?_
    unfold l40M
    refine evi (fun h => rpos (hx.mp h) (evp (by have := (hx.mp h).1; omega) (Ev.bind (pu_ev _) (evs (w64 (by omega) (by omega)))))) (fun h => rneg (fun hh => h (hx.mpr hh)) (Ev.bind (pu_ev _) (Ev.now _)))
  unfold spec_l40Number.f
  refine evi (fun h => evp (by omega) (J _ ?_)) (fun h => J _ ?_)
  · have hi : 0 < s.data.toList.length := by omega
    have hb := bt_nat s 0 hi
    rw [show ((0 : Nat) : Int) = 0 from rfl] at hb
    rw [hb]
    rw [List.head?_eq_getElem?, List.getElem?_eq_getElem hi]
    generalize s.data.toList[0] = b
    simp only [Option.some.injEq, beq_iff_eq]
    constructor
    · intro e
      exact ⟨by omega, UInt8.toNat_inj.mp (by show b.toNat = 45; omega)⟩
    · rintro ⟨_, rfl⟩
      rfl
  · constructor
    · intro e; cases e
    · intro e; omega
theorem l40_num {v : Int} (h1 : -1000000000 ≤ v) (h2 : v ≤ 1000000000) : l40M (txt (num v)) = v := by
  unfold l40M
  rw [txt_data, txt_size]
  by_cases h : v < 0
  · rw [num_neg h]
    have hd := dec_ne v.natAbs
    have hlen : 0 < (Go.Lib.decDigits v.natAbs).length := List.length_pos_iff.mpr hd
    rw [if_pos ⟨by simp; omega, rfl⟩]
    have e : (txt (45 :: Go.Lib.decDigits v.natAbs)).extract 1 (45 :: Go.Lib.decDigits v.natAbs).length = txt (Go.Lib.decDigits v.natAbs) := by
      apply ByteArray.ext
      apply Array.toList_inj.mp
      simp [txt, ByteArray.data_extract]
    rw [e, pu_num _ (by omega)]
    show -((v.natAbs : Nat) : Int) = v
    omega
  · rw [num_pos (by omega)]
    rw [if_neg ?_, pu_num _ (by omega)]
    · show ((v.toNat : Nat) : Int) = v
      omega
    · rintro ⟨_, hh⟩
      cases hd : Go.Lib.decDigits v.toNat with
      | nil => exact dec_ne _ hd
      | cons b r =>
        rw [hd] at hh
        have hb := dec_digit v.toNat b (by rw [hd]; simp)
        obtain rfl : b = 45 := by simpa using hh
        simp at hb
end Go.Proofs.YtojiighpkppckaaDoor.Q


namespace Go.Proofs.YtojiighpkppckaaDoor.Q
set_option linter.unusedVariables false
set_option linter.unusedSimpArgs false
open Go.RowKit Go.Proofs.YtojiighpkppckaaDoor.P Go.Proofs.YtojiighpkppckaaDoorW.PrintWords
def goodW (w : List UInt8) : Prop := w ≠ [] ∧ ∀ b ∈ w, b ≠ 32
theorem scanW_word : ∀ (w cur rest : List UInt8), (∀ b ∈ w, b ≠ 32) → scanW cur (w ++ rest) = scanW (cur ++ w) rest
  | [], cur, rest, _ => by simp
  | b :: w, cur, rest, h => by
    rw [List.cons_append, scanW, if_neg (h b (by simp)), scanW_word w (cur ++ [b]) rest (fun x hx => h x (by simp [hx]))]
    simp
theorem scanW_join : ∀ (r : List (List UInt8)) (x : List UInt8), goodW x → (∀ w ∈ r, goodW w) → scanW [] (Go.Lib.join (x :: r) [32]) = x :: r
  | [], x, hx, _ => by
    rw [Go.Lib.join_one, ← List.append_nil x, scanW_word x [] [] hx.2, scanW]
    simp [hx.1]
  | y :: r, x, hx, hr => by
    have ih := scanW_join r y (hr y (by simp)) (fun w hw => hr w (by simp [hw]))
    rw [Go.Lib.join_cons, show Go.Lib.joinTail [32] (y :: r) = 32 :: (y ++ Go.Lib.joinTail [32] r) by simp [Go.Lib.joinTail], scanW_word x [] _ hx.2, List.nil_append, scanW, if_pos rfl, if_neg hx.1, ← Go.Lib.join_cons, ih]
theorem join_inj {x y : List UInt8} {r q : List (List UInt8)} (h1 : ∀ w ∈ x :: r, goodW w) (h2 : ∀ w ∈ y :: q, goodW w) (h : Go.Lib.join (x :: r) [32] = Go.Lib.join (y :: q) [32]) : x :: r = y :: q := by
  rw [← scanW_join r x (h1 x (by simp)) (fun w hw => h1 w (by simp [hw])), h, scanW_join q y (h2 y (by simp)) (fun w hw => h2 w (by simp [hw]))]
theorem scanW_good : ∀ (l cur : List UInt8), (∀ b ∈ cur, b ≠ 32) → ∀ w ∈ scanW cur l, goodW w
  | [], cur, hc, w, hw => by
    rw [scanW] at hw
    split at hw
    · cases hw
    · next h => obtain rfl := List.mem_singleton.mp hw; exact ⟨h, hc⟩
  | b :: r, cur, hc, w, hw => by
    rw [scanW] at hw
    split at hw
    · split at hw
      · exact scanW_good r [] (by simp) w hw
      · next h =>
        rcases List.mem_cons.mp hw with rfl | hw
        · exact ⟨h, hc⟩
        · exact scanW_good r [] (by simp) w hw
    · next hb =>
      refine scanW_good r (cur ++ [b]) (fun x hx => ?_) w hw
      rcases List.mem_append.mp hx with h | h
      · exact hc x h
      · obtain rfl := List.mem_singleton.mp h; exact hb
theorem scanW_size : ∀ (l cur : List UInt8), ∀ w ∈ scanW cur l, w.length ≤ cur.length + l.length
  | [], cur, w, hw => by
    rw [scanW] at hw
    split at hw
    · cases hw
    · obtain rfl := List.mem_singleton.mp hw; simp
  | b :: r, cur, w, hw => by
    rw [scanW] at hw
    split at hw
    · split at hw
      · have := scanW_size r [] w hw; simp at this ⊢; omega
      · rcases List.mem_cons.mp hw with rfl | hw
        · simp; try omega
        · have := scanW_size r [] w hw; simp at this ⊢; omega
    · have := scanW_size r (cur ++ [b]) w hw; simp at this ⊢; omega
theorem num_good (v : Int) : goodW (num v) := by
  have hd : ∀ u, ∀ b ∈ Go.Lib.decDigits u, b ≠ 32 := fun u b hb e => by
    have := dec_digit u b hb
    rw [e] at this
    simp at this
  by_cases h : v < 0
  · rw [num_neg h]
    refine ⟨by simp, fun b hb => ?_⟩
    rcases List.mem_cons.mp hb with rfl | hb
    · decide
    · exact hd _ b hb
  · rw [num_pos (by omega)]
    exact ⟨dec_ne _, hd _⟩
theorem name_good (n : Int) : goodW (actName n) := by
  unfold actName goodW
  repeat' split
  all_goals decide
theorem actText_join {n a b c : Int} (h : actOk n a b c = true) : actText n a b c = Go.Lib.join (actName n :: (actNums n a b c).map num) [32] := by
  unfold actText
  rw [if_pos h, Go.Lib.join_cons]
  congr 1
  generalize actNums n a b c = l
  induction l with
  | nil => rfl
  | cons v r ih =>
    rw [List.map_cons, show Go.Lib.joinTail [32] (num v :: r.map num) = 32 :: (num v ++ Go.Lib.joinTail [32] (r.map num)) by simp [Go.Lib.joinTail], ← ih]
    simp [tail_]
theorem actText_words {n a b c : Int} (h : actOk n a b c = true) {x : List UInt8} {r : List (List UInt8)} (hg : ∀ w ∈ x :: r, goodW w) (he : actText n a b c = Go.Lib.join (x :: r) [32]) : x = actName n ∧ r = (actNums n a b c).map num := by
  rw [actText_join h] at he
  have := join_inj (fun w hw => by
    rcases List.mem_cons.mp hw with rfl | hw
    · exact name_good n
    · obtain ⟨v, _, rfl⟩ := List.mem_map.mp hw
      exact num_good v) hg he
  injection this with h1 h2
  exact ⟨h1.symm, h2.symm⟩
theorem kind_name {n : Int} (h1 : 1 ≤ n) (h7 : n ≤ 7) : kindW (actName n) = n := by
  have : n = 1 ∨ n = 2 ∨ n = 3 ∨ n = 4 ∨ n = 5 ∨ n = 6 ∨ n = 7 := by omega
  rcases this with rfl | rfl | rfl | rfl | rfl | rfl | rfl <;> decide
def padL : List Int → Int × Int × Int
  | [] => (0, 0, 0)
  | [a] => (a, 0, 0)
  | [a, b] => (a, b, 0)
  | a :: b :: c :: _ => (a, b, c)
theorem act_pad {n a b c : Int} (h : actOk n a b c = true) : padL (actNums n a b c) = (a, b, c) ∧ (actNums n a b c).length ≤ 3 ∧ ∀ v ∈ actNums n a b c, -1000000000 ≤ v ∧ v ≤ 1000000000 := by
  unfold actOk at h
  unfold actNums
  by_cases h1 : n = 1 ∨ n = 5 ∨ n = 6
  · rw [if_pos h1] at h
    obtain ⟨rfl, rfl, rfl⟩ := of_decide_eq_true h
    rw [if_neg (by omega), if_neg (by omega), if_neg (by omega)]
    simp [padL]
  rw [if_neg h1] at h
  by_cases h2 : n = 2
  · rw [if_pos h2] at h
    obtain ⟨h3, rfl, rfl⟩ := of_decide_eq_true h
    rw [if_pos (Or.inl h2)]
    simp [padL]; omega
  rw [if_neg h2] at h
  by_cases h3 : n = 3
  · rw [if_pos h3] at h
    have h4 := of_decide_eq_true h
    rw [if_neg (by omega), if_pos h3]
    simp [padL]; omega
  rw [if_neg h3] at h
  by_cases h4 : n = 4
  · rw [if_pos h4] at h
    obtain ⟨h5, h6, rfl⟩ := of_decide_eq_true h
    rw [if_neg (by omega), if_neg (by omega), if_pos h4]
    simp [padL]; omega
  rw [if_neg h4] at h
  by_cases h7 : n = 7
  · rw [if_pos h7] at h
    obtain ⟨h5, rfl, rfl⟩ := of_decide_eq_true h
    rw [if_pos (Or.inr h7)]
    simp [padL]; omega
  rw [if_neg h7] at h
  cases h
end Go.Proofs.YtojiighpkppckaaDoor.Q


namespace Go.Proofs.YtojiighpkppckaaDoor.Q
set_option linter.unusedVariables false
set_option linter.unusedSimpArgs false
open Go.RowKit Go.Proofs.YtojiighpkppckaaDoor.P Go.Proofs.YtojiighpkppckaaDoorW.PrintWords
abbrev Zp : Int × Int × Int × Int × Bool := (0, 0, 0, 0, false)
def numsI (r : List (List UInt8)) : Option (Int × Int × Int) := impl_ParseAct.nums 0 (r.map txt) 0 0 0
def resI : List (List UInt8) → Int × Int × Int × Int × Bool
  | [] => Zp
  | x :: r => match numsI r with
    | none => Zp
    | some (A, B, C) => if actOk (kindW x) A B C = true ∧ actText (kindW x) A B C = Go.Lib.join (x :: r) [32] then (kindW x, A, B, C, true) else Zp
theorem resI_none {x : List UInt8} {r : List (List UInt8)} (h : numsI r = none) : resI (x :: r) = Zp := by simp only [resI, h]
theorem resI_some {x : List UInt8} {r : List (List UInt8)} {A B C : Int} (h : numsI r = some (A, B, C)) : resI (x :: r) = if actOk (kindW x) A B C = true ∧ actText (kindW x) A B C = Go.Lib.join (x :: r) [32] then (kindW x, A, B, C, true) else Zp := by simp only [resI, h]
theorem atoi_in {s : ByteArray} {v : Int} (h : atoi? s = some v) : in64 v := by
  unfold atoi? at h
  split at h
  · next x e => obtain rfl := Option.some.inj h; exact Go.Lib.atoiAll_bounds e
  · cases h
theorem nums_in : ∀ (r : List ByteArray) (i : Nat) (A B C : Int), in64 A → in64 B → in64 C → ∀ x y z, impl_ParseAct.nums i r A B C = some (x, y, z) → in64 x ∧ in64 y ∧ in64 z
  | [], i, A, B, C, hA, hB, hC, x, y, z, h => by
    rw [impl_ParseAct.nums] at h
    simp only [Option.some.injEq, Prod.mk.injEq] at h
    obtain ⟨rfl, rfl, rfl⟩ := h
    exact ⟨hA, hB, hC⟩
  | s :: r, i, A, B, C, hA, hB, hC, x, y, z, h => by
    rw [impl_ParseAct.nums] at h
    obtain ⟨n, hn, h⟩ := Option.bind_eq_some_iff.mp h
    have hi := atoi_in hn
    refine nums_in r (i + 1) _ _ _ ?_ ?_ ?_ x y z h
    · split <;> assumption
    · split <;> assumption
    · split <;> assumption
theorem nums_num {l : List Int} (hl : l.length ≤ 3) (h : ∀ v ∈ l, -1000000000 ≤ v ∧ v ≤ 1000000000) : numsI (l.map num) = some (padL l) := by
  unfold numsI
  have e : ∀ v ∈ l, atoi? (txt (num v)) = some v := fun v hv => num_atoi (h v hv).1 (h v hv).2
  rcases l with _ | ⟨a, _ | ⟨b, _ | ⟨c, _ | ⟨d, t⟩⟩⟩⟩
  · rfl
  · simp [impl_ParseAct.nums, e a (by simp), padL]
  · simp [impl_ParseAct.nums, e a (by simp), e b (by simp), padL]
  · simp [impl_ParseAct.nums, e a (by simp), e b (by simp), e c (by simp), padL]
  · simp at hl
theorem impl_ev (s : ByteArray) : Ev (fun k => impl_ParseAct.f k s) (if (fieldsM s).2 = true then resI (scanW [] s.data.toList) else Zp) := by
  unfold impl_ParseAct.f
  refine Ev.bind (fields_impl s) ?_
  have hl : s.data.toList.length = s.size := Array.length_toList
  by_cases h0 : s.size ≤ 600 ∧ s.data.toList.all okB = true
  rotate_left
  · have e : fieldsM s = ([], false) := by unfold fieldsM; rw [if_neg h0]
    rw [e]
    exact evn (by decide) (Ev.now _)
  by_cases h1 : ((scanW [] s.data.toList).map txt).length > 24
  · have e : fieldsM s = ([], false) := by unfold fieldsM; rw [if_pos h0, if_pos h1]
    rw [e]
    exact evn (by decide) (Ev.now _)
  have e : fieldsM s = ((scanW [] s.data.toList).map txt, true) := by unfold fieldsM; rw [if_pos h0, if_neg h1]
  rw [e]
  refine evp rfl (rpos rfl ?_)
  have hw := scanW_size s.data.toList []
  generalize scanW [] s.data.toList = W at *
  cases W with
  | nil => exact Ev.now _
  | cons x r =>
    simp only [List.map_cons]
    have hsz : ∀ y ∈ txt x :: r.map txt, y.size ≤ 1000 := by
      intro y hy
      rw [← List.map_cons (f := txt)] at hy
      obtain ⟨w, hm, rfl⟩ := List.mem_map.mp hy
      have := hw w hm
      rw [txt_size]
      simp at this
      omega
    simp only [impl_ParseAct.rest, if_pos hsz, txt_data]
    show Ev (fun k => impl_ParseAct.last k (txt x :: r.map txt) (kindW x) (numsI r)) _
    cases hn : numsI r with
    | none => rw [resI_none hn]; exact Ev.now _
    | some q =>
      obtain ⟨A, B, C⟩ := q
      rw [resI_some hn]
      obtain ⟨hA, hB, hC⟩ := nums_in _ 0 0 0 0 (by unfold in64; omega) (by unfold in64; omega) (by unfold in64; omega) A B C hn
      show Ev (fun k => (impl_FormatAct.f k (kindW x) A B C).bind _) _
      refine Ev.bind (fmtAct_impl (kindW x) A B C hA hB hC) ?_
      refine evi (fun ho => ?_) (fun ho => rneg (fun hh => ho hh.1) (Ev.now _))
      have hj : strings_Join.f (txt x :: r.map txt) ⟨#[32]⟩ = some (txt (Go.Lib.join (x :: r) [32])) := by
        have e1 : (txt x :: r.map txt).map (·.data.toList) = x :: r := by
          rw [← List.map_cons (f := txt), List.map_map]
          conv => rhs; rw [← List.map_id (x :: r)]
          exact List.map_congr_left (fun w _ => txt_data w)
        unfold strings_Join.f
        rw [e1]
        have hlen : ∀ (L : List (List UInt8)), (∀ w ∈ L, w.length ≤ 600) → Go.Lib.lens L ≤ 600 * L.length := by
          intro L
          induction L with
          | nil => intro _; simp [Go.Lib.lens]
          | cons a t ih =>
            intro h
            have h2 := ih (fun w hw => h w (by simp [hw]))
            have h3 := h a (by simp)
            simp [Go.Lib.lens] at h2 ⊢
            omega
        have h2 := hlen (x :: r) (fun w hm => by have := hw w hm; simp at this; omega)
        have h3 := Go.Lib.join_length x r [32]
        simp at h1 h2 h3
        rw [if_pos]
        · rfl
        · refine ⟨by simp; omega, ?_⟩
          show (Go.Lib.join (x :: r) [32]).length ≤ _
          rw [h3]
          simp [Go.Lib.lens] at h2 ⊢
          omega
      refine evb hj ?_
      by_cases he : actText (kindW x) A B C = Go.Lib.join (x :: r) [32]
      · refine rpos ⟨ho, he⟩ ?_
        rw [if_pos (by rw [he])]
        exact Ev.now _
      · refine rneg (fun hh => he hh.2) ?_
        rw [if_neg (fun hh => he (txt_inj hh))]
        exact Ev.now _
end Go.Proofs.YtojiighpkppckaaDoor.Q


namespace Go.Proofs.YtojiighpkppckaaDoor.Q
set_option linter.unusedVariables false
set_option linter.unusedSimpArgs false
open Go.RowKit Go.Proofs.YtojiighpkppckaaDoor.P Go.Proofs.YtojiighpkppckaaDoorW.PrintWords
def qN (w : List UInt8) : Int := l40M (txt w)
theorem pad_num {l : List Int} (h : ∀ v ∈ l, -1000000000 ≤ v ∧ v ≤ 1000000000) : (l.map num).map qN = l := by
  rw [List.map_map]
  conv => rhs; rw [← List.map_id l]
  exact List.map_congr_left (fun v hv => l40_num (h v hv).1 (h v hv).2)
theorem rd_pad (l : List Int) (hl : l.length ≤ 3) : rd (l ++ [0, 0, 0]) 0 = (padL l).1 ∧ rd (l ++ [0, 0, 0]) 1 = (padL l).2.1 ∧ rd (l ++ [0, 0, 0]) 2 = (padL l).2.2 := by
  rcases l with _ | ⟨a, _ | ⟨b, _ | ⟨c, _ | ⟨d, t⟩⟩⟩⟩
  · exact ⟨rfl, rfl, rfl⟩
  · exact ⟨rfl, rfl, rfl⟩
  · exact ⟨rfl, rfl, rfl⟩
  · exact ⟨rfl, rfl, rfl⟩
  · simp at hl
theorem pad_in (l : List Int) (h : ∀ v ∈ l, in64 v) : in64 (padL l).1 ∧ in64 (padL l).2.1 ∧ in64 (padL l).2.2 := by
  have z : in64 0 := by unfold in64; omega
  rcases l with _ | ⟨a, _ | ⟨b, _ | ⟨c, t⟩⟩⟩
  · exact ⟨z, z, z⟩
  · exact ⟨h a (by simp), z, z⟩
  · exact ⟨h a (by simp), h b (by simp), z⟩
  · exact ⟨h a (by simp), h b (by simp), h c (by simp)⟩
theorem kindW_le (x : List UInt8) : kindW x ≤ 7 := by
  unfold kindW
  repeat' split
  all_goals decide
def pk (x : List UInt8) (r : List (List UInt8)) (j : Int) : Prop := actOk j (padL (r.map qN)).1 (padL (r.map qN)).2.1 (padL (r.map qN)).2.2 = true ∧ actText j (padL (r.map qN)).1 (padL (r.map qN)).2.1 (padL (r.map qN)).2.2 = Go.Lib.join (x :: r) [32]
instance (x r j) : Decidable (pk x r j) := by unfold pk; infer_instance
theorem pk_kind {x : List UInt8} {r : List (List UInt8)} (hg : ∀ w ∈ x :: r, goodW w) {j : Int} (h : pk x r j) : j = kindW x ∧ numsI r = some (padL (r.map qN)) ∧ r.length ≤ 3 := by
  obtain ⟨h1, h2⟩ := h
  obtain ⟨hx, hr⟩ := actText_words h1 hg h2
  obtain ⟨p1, p2, p3⟩ := act_pad h1
  obtain ⟨k1, k7⟩ := actOk_kind h1
  refine ⟨by rw [hx, kind_name k1 k7], ?_, by rw [hr]; simpa using p2⟩
  have e := nums_num p2 p3
  rw [← hr, p1] at e
  exact e
theorem resI_pk (x : List UInt8) (r : List (List UInt8)) (hg : ∀ w ∈ x :: r, goodW w) : resI (x :: r) = if 1 ≤ kindW x ∧ pk x r (kindW x) then (kindW x, (padL (r.map qN)).1, (padL (r.map qN)).2.1, (padL (r.map qN)).2.2, true) else Zp := by
  by_cases h : pk x r (kindW x)
  · rw [if_pos ⟨(actOk_kind h.1).1, h⟩]
    have hn := (pk_kind hg h).2.1
    rw [resI_some (A := (padL (r.map qN)).1) (B := (padL (r.map qN)).2.1) (C := (padL (r.map qN)).2.2) hn]
    exact if_pos h
  · rw [if_neg (fun hh => h hh.2)]
    cases hn : numsI r with
    | none => exact resI_none hn
    | some q =>
      obtain ⟨A, B, C⟩ := q
      rw [resI_some hn]
      refine if_neg (fun hh => h ?_)
      obtain ⟨h1, h2⟩ := hh
      obtain ⟨hx, hr⟩ := actText_words h1 hg h2
      obtain ⟨p1, p2, p3⟩ := act_pad h1
      have e2 := pad_num p3
      rw [← hr] at e2
      unfold pk
      rw [e2, p1]
      exact ⟨h1, h2⟩
theorem resI_long (x : List UInt8) (r : List (List UInt8)) (hg : ∀ w ∈ x :: r, goodW w) (hl : 4 < (x :: r).length) : resI (x :: r) = Zp := by
  rw [resI_pk x r hg]
  refine if_neg (fun hh => ?_)
  have := (pk_kind hg hh.2).2.2
  simp at hl
  omega
theorem spec_l1_ev (x : List UInt8) (r : List (List UInt8)) (hg : ∀ w ∈ x :: r, goodW w) (hl : r.length ≤ 3) : ∀ (d i : Nat), i + d = 8 → 1 ≤ i →
    Ev (fun k => spec_ParseAct.l1 k (txt (Go.Lib.join (x :: r) [32])) (r.map qN ++ [0, 0, 0]) (i : Int)) (if (i : Int) ≤ kindW x ∧ pk x r (kindW x) then (kindW x, (padL (r.map qN)).1, (padL (r.map qN)).2.1, (padL (r.map qN)).2.2, true) else Zp) := by
  intro d
  induction d with
  | zero =>
    intro i h hi
    have := kindW_le x
    refine Ev.step (fun k => by rw [spec_ParseAct.l1]) (evn (by omega) (rneg (fun hh => by omega) (Ev.now _)))
  | succ d ih =>
    intro i h hi
    have hlen : (r.map qN ++ [0, 0, 0]).length = r.length + 3 := by simp
    obtain ⟨q0, q1, q2⟩ := rd_pad (r.map qN) (by simpa using hl)
    obtain ⟨i0, i1, i2⟩ := pad_in (r.map qN) (fun v hv => by
      obtain ⟨w, _, rfl⟩ := List.mem_map.mp hv
      have := l40M_in (txt w)
      unfold in64 qN
      omega)
    have nx := ih (i + 1) (by omega) (by omega)
    refine Ev.step (fun k => by rw [spec_ParseAct.l1]) (evp (by omega) (evp (by omega) (evp (by omega) (evp (by omega) ?_))))
    rw [q0, q1, q2, w64 (by omega) (by omega)]
    refine Ev.bind (fmtAct_spec (i : Int) _ _ _ i0 i1 i2) ?_
    rw [show ((i + 1 : Nat) : Int) = (i : Int) + 1 by omega] at nx
    rw [toList_eq, toList_eq, txt_data, txt_data]
    by_cases hp : pk x r (i : Int)
    · have hk := (pk_kind hg hp).1
      refine evp hp.1 (evp hp.2 ?_)
      rw [← hk]
      exact rpos ⟨by omega, hp⟩ (Ev.now _)
    · have e : ((i : Int) ≤ kindW x ∧ pk x r (kindW x)) = ((i : Int) + 1 ≤ kindW x ∧ pk x r (kindW x)) := by
        apply propext
        constructor
        · rintro ⟨a, b⟩
          refine ⟨?_, b⟩
          rcases Int.lt_or_eq_of_le a with h' | h'
          · omega
          · rw [h'] at hp; exact absurd b hp
        · rintro ⟨a, b⟩
          exact ⟨by omega, b⟩
      simp only [e]
      exact evi (fun h1 => evn (fun h2 => hp ⟨h1, h2⟩) nx) (fun h1 => nx)
theorem spec_l0_ev (x : List UInt8) (r : List (List UInt8)) (hg : ∀ w ∈ x :: r, goodW w) (hl : r.length ≤ 3) (hs : ∀ w ∈ x :: r, w.length ≤ 600) : ∀ (d j : Nat), j + d = r.length →
    Ev (fun k => spec_ParseAct.l0 k ((x :: r).map txt) (txt (Go.Lib.join (x :: r.take j) [32])) ((r.take j).map qN) ((j + 1 : Nat) : Int)) (resI (x :: r)) := by
  intro d
  induction d with
  | zero =>
    intro j h
    obtain rfl : j = r.length := by omega
    rw [List.take_length, resI_pk x r hg]
    have hL1 : ((x :: r).map txt).length = r.length + 1 := by simp
    refine Ev.step (fun k => by rw [spec_ParseAct.l0]) (evn (by rw [hL1]; omega) ?_)
    refine evb (a := [0, 0, 0]) rfl ?_
    refine evp (by rw [List.length_map]; show r.length + 3 < 17592186044416; omega) ?_
    exact spec_l1_ev x r hg hl 7 1 rfl (Nat.le_refl _)
  | succ d ih =>
    intro j h
    have hj : j < r.length := by omega
    have nx := ih (j + 1) (by omega)
    have hlen : ∀ (L : List (List UInt8)), (∀ w ∈ L, w.length ≤ 600) → Go.Lib.lens L ≤ 600 * L.length := by
      intro L
      induction L with
      | nil => intro _; simp [Go.Lib.lens]
      | cons a t ih =>
        intro h
        have h2 := ih (fun w hw => h w (by simp [hw]))
        have h3 := h a (by simp)
        simp [Go.Lib.lens] at h2 ⊢
        omega
    have h2 := hlen (x :: r.take j) (fun w hm => hs w (by
      rcases List.mem_cons.mp hm with rfl | hm
      · simp
      · exact List.mem_cons_of_mem _ (List.mem_of_mem_take hm)))
    have h3 := Go.Lib.join_length x (r.take j) [32]
    have h4 := hs r[j] (by simp)
    have hL : (Go.Lib.join (x :: r.take j) [32]).length ≤ 10000 := by
      rw [h3]
      simp [Go.Lib.lens] at h2 ⊢
      omega
    have e : rdOf ByteArray.empty ((x :: r).map txt) ((j + 1 : Nat) : Int) = txt r[j] := by
      simp [rdOf, List.getD_eq_getElem?_getD, hj]
    have e32 : (⟨#[32]⟩ : ByteArray) = txt [32] := rfl
    refine Ev.step (fun k => by rw [spec_ParseAct.l0]) (evp (by simp; omega) (evp (by rw [txt_size]; omega) (evp (by omega) (evp (by rw [e, e32, txt_app, txt_size, txt_size, List.length_append]; simp; omega) ?_))))
    rw [e]
    refine Ev.bind (l40_ev (txt r[j])) (evp (by simp; omega) ?_)
    rw [w64 (by omega) (by omega), e32, txt_app, txt_app]
    have e1 : Go.Lib.join (x :: r.take j) [32] ++ [32] ++ r[j] = Go.Lib.join (x :: r.take (j + 1)) [32] := by
      rw [Go.Lib.join_cons, Go.Lib.join_cons, Go.Lib.joinTail_take_succ [32] r j r[j] (List.getElem?_eq_getElem hj)]
      simp
    have e2 : (r.take j).map qN ++ [l40M (txt r[j])] = (r.take (j + 1)).map qN := by
      rw [List.take_succ_eq_append_getElem hj, List.map_append]
      rfl
    rw [e1, e2, show ((j + 1 : Nat) : Int) + 1 = ((j + 1 + 1 : Nat) : Int) by omega]
    exact nx
theorem spec_ev (s : ByteArray) : Ev (fun k => spec_ParseAct.f k s) (if (fieldsM s).2 = true then resI (scanW [] s.data.toList) else Zp) := by
  unfold spec_ParseAct.f
  refine Ev.bind (fields_spec s) ?_
  have hl : s.data.toList.length = s.size := Array.length_toList
  have J : ∀ L : List ByteArray, Ev (fun k => spec_ParseAct.j0 k L true) Zp := fun L => Ev.step (fun k => by rw [spec_ParseAct.j0]) (evp rfl (Ev.now _))
  by_cases h0 : s.size ≤ 600 ∧ s.data.toList.all okB = true
  rotate_left
  · have e : fieldsM s = ([], false) := by unfold fieldsM; rw [if_neg h0]
    rw [e]
    exact evn (by decide) (J _)
  by_cases h1 : ((scanW [] s.data.toList).map txt).length > 24
  · have e : fieldsM s = ([], false) := by unfold fieldsM; rw [if_pos h0, if_pos h1]
    rw [e]
    exact evn (by decide) (J _)
  have e : fieldsM s = ((scanW [] s.data.toList).map txt, true) := by unfold fieldsM; rw [if_pos h0, if_neg h1]
  rw [e]
  refine evp rfl (rpos rfl ?_)
  have hw := scanW_size s.data.toList []
  have hg := scanW_good s.data.toList [] (by simp)
  generalize scanW [] s.data.toList = W at *
  cases W with
  | nil =>
    refine evb (a := false) rfl ?_
    exact J _
  | cons x r =>
    by_cases h4 : (x :: r).length ≤ 4
    · refine evb (a := true) (by unfold spec_l01In.f; rw [if_pos (by simp; omega), decide_eq_true (by simp at h4 ⊢; omega)]) ?_
      refine Ev.step (fun k => by rw [spec_ParseAct.j0]) (evn (by decide) (evp (by simp; try omega) ?_))
      have := spec_l0_ev x r hg (by simp at h4; omega) (fun w hm => by have := hw w hm; simp at this; omega) r.length 0 (by omega)
      simp only [List.take_zero, Go.Lib.join_one, List.map_nil] at this
      exact this
    · refine evb (a := false) (by unfold spec_l01In.f; rw [if_pos (by simp; omega), decide_eq_false (by simp at h4 ⊢; omega)]) ?_
      rw [resI_long x r hg (by omega)]
      exact J _
end Go.Proofs.YtojiighpkppckaaDoor.Q


namespace Go.Proofs.YtojiighpkppckaaDoor.Pure
set_option linter.unusedVariables false
set_option linter.unusedSimpArgs false
open Go.RowKit Go.Proofs.YtojiighpkppckaaDoor.P Go.Proofs.YtojiighpkppckaaDoor.Q Go.Proofs.YtojiighpkppckaaDoorW.PrintWords Go.Proofs.YtojiighpkppckaaDoorW.PrintLast
theorem eqAct_same (a b c d : Int) : laws_eqAct.f a b c d a b c d = some true := by
  unfold laws_eqAct.f
  simp
theorem FnExactParseAct (s : ByteArray) (h : s.size ≤ maxLen) : ∃ k, laws_FnExactParseAct.f k s = some true := by
  refine Ev.rounds ?_
  unfold laws_FnExactParseAct.f
  refine evi (fun _ => Ev.now _) (fun _ => Ev.bind (spec_ev s) (Ev.bind (impl_ev s) (evb (eqAct_same _ _ _ _) (evp rfl ?_))))
  exact evn (by simp) (Ev.now _)
end Go.Proofs.YtojiighpkppckaaDoor.Pure


namespace Go.Proofs.YtojiighpkppckaaDoor.Q
set_option linter.unusedVariables false
set_option linter.unusedSimpArgs false
open Go.RowKit Go.Deep Go.ChangeShapes Go.WideShapes Go.Proofs.YtojiighpkppckaaDoorW.PrintWords
def Opens {α : Type} (P : Program) (w : World) (d : Kd α) (T : TypeId) (G : α → Prop) : Prop :=
  ∀ (H : Type) (enc : TypeId × Value → H) (base : Nat) (spare : Nat → Bool) (held : Bool) (fuel : Nat) (cs : List Value) (x : DataW H × List MemPlace),
    DataW.trod enc P w base spare held fuel T cs = some x → ∃ v, d.K w v cs ∧ G v
def OpensFs {α : Type} (P : Program) (w : World) (d : Kd α) (off : Nat) (fs : Array Field) (i : Nat) (G : α → Prop) : Prop :=
  ∀ (H : Type) (enc : TypeId × Value → H) (base : Nat) (spare : Nat → Bool) (held : Bool) (fuel : Nat) (cs : List Value), cs.length = off + d.sz →
    (∀ j f, i ≤ j → fs[j]? = some f → ∃ y : DataW H × List MemPlace, DataW.trod enc P w base spare held fuel f.type ((cs.drop f.offset).take (P.cellsOf f.type)) = some y) → ∃ v, d.K w v (cs.drop off) ∧ G v
section
variable {P : Program} {w : World}
theorem Opens.mono {α : Type} {d : Kd α} {T : TypeId} {G G' : α → Prop} (h : Opens P w d T G) (hg : ∀ x, G x → G' x) : Opens P w d T G' := by
  intro H enc base spare held fuel cs x hx
  obtain ⟨v, hv, g⟩ := h H enc base spare held fuel cs x hx
  exact ⟨v, hv, hg v g⟩
theorem Opens.int {k : IntKind} {T : TypeId} (ht : P.underlying T = some (.int k)) : Opens P w (Kd.int k) T (fun n => (Lit.int k n).wf = true) := by
  intro H enc base spare held fuel cs x hx
  obtain ⟨n, rfl, _, hw⟩ := DataW.trod_int ht hx
  exact ⟨n, rfl, hw⟩
theorem Opens.slice {α : Type} (z : α) {d : Kd α} {E T : TypeId} {G : α → Prop} (ht : P.underlying T = some (.slice E)) (hC : P.cellsOf E = d.sz) (h : Opens P w d E G) :
    Opens P w (Kd.slice E d) T (fun l => l.length ≤ 9223372036854775807 ∧ ∀ x ∈ l, G x) := by
  haveI : Inhabited α := ⟨z⟩
  intro H enc base spare held fuel cs x hx
  rcases open_slice ht hx with ⟨rfl, _⟩ | ⟨a, len, cap, m, n, D, Pl, rfl, hb, hl, hm, hmm, _, hi⟩
  · exact ⟨[], ⟨none, 0, rfl, Nat.le_refl _, rfl, by simp, fun h => absurd h (by simp)⟩, by simp, by simp⟩
  · have hlm : len ≤ m := by rw [hmm]; split <;> omega
    obtain ⟨V, hV⟩ := choose_lt (α := α) (n := len) (p := fun i v => G v ∧ ∃ c, c.length = d.sz ∧ d.K w v c ∧ ∀ j u, c[j]? = some u → w.cell? (a.add (i * d.sz + j)) = some u) (fun i hil => by
      obtain ⟨cs', h1, h2⟩ := hi i (by omega)
      obtain ⟨v, hv, g⟩ := h H enc base spare held n cs' _ h2
      obtain ⟨_, hcl, hat⟩ := World.cells?_some h1
      refine ⟨v, g, cs', by rw [hcl, hC], hv, fun j u hu => ?_⟩
      have hj : j < P.cellsOf E := by rw [← hcl]; exact (List.getElem?_eq_some_iff.1 hu).1
      have := hat j hj
      rw [hC, Go.Deep.add_add] at this
      rw [this, hu])
    refine ⟨(List.range len).map V, ⟨some a, cap, by simp, by simpa using hl, by simp, by have := hm; unfold maxLen at this; simp; omega, fun _ => ⟨a, rfl, fun j p hj => ?_⟩⟩, ?_⟩
    · have hj' : j < len := by have := (List.getElem?_eq_some_iff.1 hj).1; simpa using this
      obtain rfl : V j = p := by simpa [hj'] using hj
      exact (hV j hj').2
    · refine ⟨by have := hm; unfold maxLen at this; simp; omega, fun x hx => ?_⟩
      obtain ⟨i, hi, rfl⟩ := List.mem_map.1 hx
      exact (hV i (List.mem_range.1 hi)).1
theorem OpensFs.one {α : Type} {d : Kd α} {off i : Nat} {fs : Array Field} {f : Field} {G : α → Prop} (hf : fs[i]? = some f) (h : Opens P w d f.type G) (ho : f.offset = off) (hc : P.cellsOf f.type = d.sz) : OpensFs P w d off fs i G := by
  intro H enc base spare held fuel cs hlen hfs
  obtain ⟨y, hy⟩ := hfs i f (Nat.le_refl _) hf
  rw [ho, hc, List.take_of_length_le (by simp [hlen])] at hy
  exact h H enc base spare held fuel _ _ hy
theorem Opens.string {T : TypeId} (ht : P.underlying T = some .string) : Opens P w Kd.string T (fun s => s.size ≤ maxLen) := by
  intro H enc base spare held fuel cs x hx
  obtain ⟨s, rfl, _, hs⟩ := DataW.trod_string ht hx
  exact ⟨s, rfl, hs⟩
end
end Go.Proofs.YtojiighpkppckaaDoor.Q


namespace Go.Proofs.YtojiighpkppckaaDoor.P
open Go Go.RowKit Go.ChangeShapes
theorem star_ : "*" ++ "errors.errorString" = "*errors.errorString" := by decide
theorem rowErr (u : TypeId) (h : Tryd.prog.typeName? 3 u = some "*errors.errorString") : u = 200 :=
  typeName_ptr_named (nm := "errors.errorString") (by rw [star_]; kernel_rfl) (by kernel_rfl) (by decide) u (by rw [star_]; exact h)
theorem errV_met {W : World} {t1 t2 : List UInt8} {ra rb : List (String × DataW Unit)} (h1 : laidMet Tryd.prog (("strconv.ErrSyntax", .iface "*errors.errorString" (.ptr (.agg [.lit (.string t1)]))) :: ra) W)
    (h2 : laidMet Tryd.prog (("strconv.ErrRange", .iface "*errors.errorString" (.ptr (.agg [.lit (.string t2)]))) :: rb) W) : ErrV W := by
  have c1 : Tryd.prog.cellsOf 202 = 1 := by kernel_rfl
  have c2 : Tryd.prog.cellsOf 9 = 1 := by kernel_rfl
  obtain ⟨a, s, hv, _⟩ := laid_sentinel (ti := 73) h1 st172.m15 (by kernel_rfl) Tryd.underlying73 rowErr Tryd.underlying200 Tryd.underlying202 rfl rfl Tryd.underlying9 c1 c2
  obtain ⟨b, u, hw, _⟩ := laid_sentinel (ti := 73) h2 st172.m16 (by kernel_rfl) Tryd.underlying73 rowErr Tryd.underlying200 Tryd.underlying202 rfl rfl Tryd.underlying9 c1 c2
  exact ⟨⟨_, _, hv⟩, _, _, hw⟩
end Go.Proofs.YtojiighpkppckaaDoor.P


namespace Go.Proofs.YtojiighpkppckaaDoor.fnExactParseAct
open Go.ChangeShapes Go.WideShapes Go.ChangeAt Go.RowKit Go.Proofs.YtojiighpkppckaaDoor.P Go.Proofs.YtojiighpkppckaaDoor.Q Go.Proofs.YtojiighpkppckaaDoorW.PrintWords
open Go.ChangeMaps (open_string shut_string)
set_option linter.unusedVariables false
set_option linter.unusedSimpArgs false
theorem own : ownKnob Tryd.prog.godebug = none := by kernel_rfl
theorem laidOut : laidOutB Tryd.prog = true := by kernel_rfl
noncomputable def doorW (os : Os) : World := let w0 := World.doorLaid Tryd.prog 400 os; { w0 with heap := w0.heap.modify ((Tryd.prog.globalNamed "unicode/utf8.first").getD 0) fun
  | .cells _ t fz => .cells (Go.Pinned.utf8FirstZ.map fun (z : Nat) => Value.int .u8 z).toArray t fz
  | o => o }
def laidX : List (String × DataW Unit) := [("math/bits.deBruijn32tab", Rows.laid_math_bits_deBruijn32tab), ("math/bits.deBruijn64tab", Rows.laid_math_bits_deBruijn64tab), ("internal/strconv.uint64pow10", Rows.laid_internal_strconv_uint64pow10), ("unicode/utf8.acceptRanges", Rows.laid_unicode_utf8_acceptRanges), ("strconv.ErrRange", Rows.laid_strconv_ErrRange), ("strconv.ErrSyntax", Rows.laid_strconv_ErrSyntax), ("unicode/utf8.first", Rows.laid_unicode_utf8_first)]
theorem door_met (os : Os) (args : Array Value) : laidMetH Tryd.prog laidX ((doorW os).forCall (fun _ _ => 0) ⟨#[], args, []⟩).memory :=
  laidMetH_of_parts3 (fuel := 8) (laidMet_of_run' 8 (by kernel_rfl) (by kernel_rfl)) (by kernel_rfl) (by kernel_rfl)
theorem tab_met {W : World} (h : laidMetH Tryd.prog laidX W) : TabE W := by
  rw [MakeChecks.laidMetH_plain _ _ _ (by kernel_rfl)] at h
  refine ⟨?_, errV_met h.tail.tail.tail.tail.tail h.tail.tail.tail.tail⟩
  exact Go.Lib.tabIs_of_head (g := 2) (by kernel_rfl) (by kernel_rfl) Tryd.underlying192 Tryd.underlying169 (by kernel_rfl) (by kernel_rfl) h.tail.tail
set_option maxRecDepth 100000 in
theorem lifted (os : Os) (started : os.Started) (H : Type) (enc : TypeId × Value → H) :
    ReturnsInHanded {} Tryd.checked os 7 .any (fun w args => (Rows.fnExactParseActSpec.pre enc Tryd.prog Tryd.f7 [] false w args ∧ laidMetH Tryd.prog laidX w) ∧ sizedMet enc Tryd.prog Tryd.f7 (OpenSpec.ofChange Rows.fnExactParseActSpec) false w args) (Rows.fnExactParseActSpec.post enc Tryd.prog Tryd.f7 false true false false) := by
  refine returnsInHanded_of_change_and (C := Tryd.checked) (X := fun w _ => laidMetH Tryd.prog laidX w) (fun _ _ _ hh h => h.of_heap hh) own started (by kernel_rfl) Tryd.func7
    (ChangeSpec.witness_shaped (enc := enc) (C := Tryd.checked) (os := os) (X := fun w _ => laidMetH Tryd.prog laidX w) false (doorW os) #[.string ByteArray.empty] 8 rfl (World.shaped_of_RefB (by kernel_rfl) (by kernel_rfl)) (by kernel_rfl) (by kernel_rfl) (by kernel_rfl) (door_met os _)) ?_
  intro W base args ds gs before hval0 hW hcnd hsz0 hL _
  have htab := tab_met hL
  have hval : ∀ (j : Nat) t v, Tryd.f7.params[j]? = some t → args[j]? = some v → Value.okWide Tryd.prog W .any base t v := hval0
  have hW' := hW
  obtain ⟨p, q, hA0, hV, rfl, hfz, hnd⟩ := hW
  have hA : DataW.TrodAll enc Tryd.prog W 0 (fun _ => true) true Tryd.f7.params.toList args.toList ds p := hA0
  rw [Tryd.params7] at hA hval
  obtain ⟨v0, vs0, d0, ds0, p0, q0, hargs, rfl, rfl, h0, r0⟩ := trodAll_cons hA
  obtain ⟨rfl, rfl, rfl⟩ := trodAll_nil r0
  obtain rfl : args = #[v0] := by cases args; simp_all
  obtain ⟨rfl, rfl⟩ := trodVars_none hV
  have k0 := h0
  have lt0 : ∀ x ∈ p0, x.block < W.heap.size := by obtain ⟨m, hm⟩ := k0; exact DataW.trod_lt m _ _ _ hm
  obtain ⟨a0, rfl, rfl, rfl, w0⟩ := open_string Tryd.underlying9 (hval 0 9 v0 rfl rfl) h0
  obtain ⟨k, hP⟩ := Pure.FnExactParseAct a0 w0
  refine (P.laws_FnExactParseAct.calls k a0 true W  hP ⟨rfl⟩ ⟨htab⟩).mono fun e W' ⟨he, bel0⟩ => ?_
  have bel : Below W.heap.size W W' := bel0
  subst he
  exact ⟨_, rfl, _, _, _, [], _, [], hW', trodAll_mk1 (shut_bool Tryd.underlying4 _), (trodAll_cons_mk (Below.trod laidOut (by kernel_rfl) (of_decide_eq_true (by kernel_rfl)) k0 bel lt0) trodAll_mk0), rfl, bel.frame _, fun h => by cases h⟩
theorem over : Rows.fnExactParseActRow.holds Tryd.pinned (OpenSpec.ofChange Rows.fnExactParseActSpec) :=
  OpenClaim.holds_of_wide 7 Tryd.f7 rfl rfl rfl rfl rfl rfl rfl ⟨rfl, rfl, rfl, rfl, rfl⟩ rfl rfl rfl rfl rfl (by kernel_rfl) Tryd.func7 (by kernel_rfl)
    (of_decide_eq_true (by kernel_rfl)) (by unfold Func.isWrapper; first | (rw [if_pos (by decide +kernel)]; kernel_rfl) | (rw [if_neg (by decide +kernel)]; exact ⟨rfl, rfl⟩))
    (fun os started H enc _ => lifted os started H enc)
theorem proved : Rows.FnExactParseActCardSaid :=
  Claim7.holds_tied_plain_at .later [] [.data, .data, .data, .data, .sentinel, .sentinel, .pinned] true (true, "945ce9a059cba3a6b1cb180f52f852ce1e51cd91454f1ca8874738d61f1647a2") true
    over (fun _ h => by cases h) (by kernel_rfl) (fun _ h => by cases h) fnExactParseAct_row_tie rfl ⟨rfl, rfl⟩ (by kernel_rfl) rfl
    (fun f fn hf hfn => by
      obtain rfl : f = 7 := Option.some.inj ((show Tryd.prog.funcNamed "loop.example/g00989/laws.FnExactParseAct" = some 7 by kernel_rfl).symm.trans hf) |>.symm
      obtain rfl : fn = Tryd.f7 := (Option.some.inj (Tryd.func7.symm.trans hfn)).symm
      exact ⟨by kernel_rfl, fun j t ht => by
        rw [Tryd.params7] at ht
        have hm : t ∈ ([9] : List Nat) := by simpa using Array.mem_of_getElem? ht
        have hall : (([9] : List Nat).all fun u => !Tryd.prog.wantsStandIn u) = true := by kernel_rfl
        exact (show Tryd.prog.wantsStandIn t = false by simpa using List.all_eq_true.1 hall t hm)⟩)
    (by kernel_rfl)
#print axioms proved
end Go.Proofs.YtojiighpkppckaaDoor.fnExactParseAct
namespace Go.Proofs.YtojiighpkppckaaDoor
theorem fnExactParseAct_holds : Rows.FnExactParseActCardSaid := fnExactParseAct.proved
end Go.Proofs.YtojiighpkppckaaDoor

