/- What functions of the program come to (f), that their calls come to just this (calls), and the plain laws over lists and numbers, and the law FnMends: for every argument it answers true. No condition but those of the given row. -/
import Derived.Test.YtlhlmjklajdejaaRows
import Derived.Test.YtlhlmjklajdejaaC4
import Derived.WalkKit
import Derived.ProofKit
import Derived.OpenShut
import Derived.ShutString
import Derived.ChangeOld
import Derived.Below
import Derived.SizedLaws
namespace Go.Proofs.Ytlhlmjklajdejaa.P
open Go.RowKit Go.Proofs.YtlhlmjklajdejaaW.PrintWords Go.Proofs.YtlhlmjklajdejaaW.PrintLast Go.Proofs.YtlhlmjklajdejaaW.PrintMore
attribute [local go_sem] max2_int min2_int max_two min_two max_three min_three max_four min_four
set_option linter.unusedVariables false
set_option linter.unusedSimpArgs false
def spec_DrawKnocked.f (k : Nat) (l0 : List Int) : Option ((List (S67)) × Int × List Int) := (spec_l01New.f k l0).bind fun bt1250 => ((spec_l37Work.f k bt1250.1 bt1250.2.1 bt1250.2.2).bind fun bt1254 => (some (bt1254.1, bt1254.2.1, bt1254.2.2.1)))
set_option maxHeartbeats 8000000 in
set_option maxRecDepth 100000 in
theorem spec_DrawKnocked.calls (k : Nat) (A0 : Option Addr) (c0 : Nat) (l0 : List Int) (r1 : List (S67)) (r2 : Int) (r3 : List Int) (w : World) (hr0 : Kd.C (Kd.int .u8) w A0 l0.length l0) (hc0 : l0.length ≤ c0) (h : spec_DrawKnocked.f k l0 = some (r1, r2, r3)) :
  Calls Try.prog 52 #[.slice A0 l0.length c0] w fun e w' => ∃ v0_ v2_ : Value, e = .returned (.agg #[v0_, .int .i64 r2, v2_]) ∧ Kd.R k67 67 w' w.heap.size (fun _ => True) v0_ r1 ∧ Kd.R (Kd.int .i64) 3 w' w.heap.size (fun _ => True) v2_ r3 ∧ Below w.heap.size w w' := by
 have hu30 := Try.underlying30
 have HR0 := Aside0.mk hr0
 have HC0 := Aside0.mk hc0
 clear hr0 hc0
 have HB := Aside0.mk (Below.refl w.heap.size w)
 have H : ((spec_l01New.f k l0).bind fun bt1250 => ((spec_l37Work.f k bt1250.1 bt1250.2.1 bt1250.2.2).bind fun bt1254 => (some (bt1254.1, bt1254.2.1, bt1254.2.2.1)))) = some (r1, r2, r3) := h
 clear h
 replace H := Option.bind_eq_some_iff.mp H
 obtain ⟨⟨t1250, t1251, t1252⟩, A20, H⟩ := H
 (try dsimp only at H)
 have A2 := Aside0.mk A20
 clear A20
 replace H := Option.bind_eq_some_iff.mp H
 obtain ⟨⟨t1254, t1257, t1258, t1261, t1262⟩, A30, H⟩ := H
 (try dsimp only at H)
 have A3 := Aside0.mk A30
 clear A30
 simp only [Option.some.injEq, Prod.mk.injEq] at H
 obtain ⟨rfl, rfl, rfl⟩ := H
 go_enter Try.func52, Try.ntmps52
 go_wp2_with (first | ((with_reducible refine gate_dst (N := 2) rfl ?_); refine box_event ?hg (N := 2) ?hd (cs := #[.slice none 0 0, .int .i64 0, .slice none 0 0]) (t := 30) ?hr ?_; (case hd => rfl); (case hg => rfl); (case hr => first | (go_simp; done) | (go_simp; rfl)); intro gb1249 hg w4 hbox hb; have n0_ := Aside0.mk (below_step (oB HB) hb); have n1_ := Aside0.mk (hbox); have n2_ := Aside0.mk ((by rw [hg]; exact (below_size (oB HB)) : w.heap.size ≤ gb1249)); have n3_ := Aside0.mk ((by rw [hg]; exact (below_size (oB HB)) : w.heap.size ≤ gb1249)); clear HB; have HB := n0_; have BK1249 := n1_; have GW1249 := n2_; have GE1249 := n3_; clear n0_ n1_ n2_ n3_; clear hb hbox hg) | ((with_reducible refine gate_callee (f := 74) rfl ?_); refine goesL_ (some 4) rfl rfl Try.func74 (by kernel_rfl) rfl #[.slice A0 l0.length c0] rfl (by (try simp only [List.map_toArray, List.map_cons, List.map_nil]); first | done | rfl | (simp only [List.length_drop, List.length_take]; rfl)) ?_; (with_reducible refine (spec_l01New.calls k _ _ l0 t1250 t1251 t1252 w _ ?side1 ?side2 ?side3 A2.out).mono ?_); (case side1 => repeat (first | (with_reducible first | exact HB.out | apply below_alloc | apply pw_below_drewN | apply below_drew1 | refine below_set ?_ GE1249.out) | exact HB.out)); (case side2 => exact HR0.out); (case side3 => exact HC0.out); rintro e w5 ⟨g1253, rfl, hi, hb, hb2⟩; refine ⟨_, rfl, ?_⟩; have n0_ := Aside0.mk (blk_below (g := gb1249) (o := .cells #[.slice none 0 0, .int .i64 0, .slice none 0 0] 30 (0, 0)) (oK BK1249) hb2); have n1_ := Aside0.mk (hb); have n2_ := Aside0.mk (hi); have n3_ := Aside0.mk (IsS83.ne_blk hi (blk_below (g := gb1249) (o := .cells #[.slice none 0 0, .int .i64 0, .slice none 0 0] 30 (0, 0)) (oK BK1249) hb2) (by decide)); have n4_ := Aside0.mk (Ne.symm (IsS83.ne_blk hi (blk_below (g := gb1249) (o := .cells #[.slice none 0 0, .int .i64 0, .slice none 0 0] 30 (0, 0)) (oK BK1249) hb2) (by decide))); clear BK1249; clear HB; have BK1249 := n0_; have HB := n1_; have HI1253 := n2_; have NB1253_1249 := n3_; have NB1249_1253 := n4_; clear n0_ n1_ n2_ n3_ n4_; (try clear hb); (try clear hb2); (try clear hk); (try clear hi)) | ((with_reducible refine gate_callee (f := 78) rfl ?_); refine goesL_ (some 5) rfl rfl Try.func78 (by kernel_rfl) rfl #[.pointer (some ⟨g1253, 0, none⟩)] rfl (by (try simp only [List.map_toArray, List.map_cons, List.map_nil]); first | done | rfl | (simp only [List.length_drop, List.length_take]; rfl)) ?_; (with_reducible refine (spec_l37Work.calls k g1253 t1250 t1251 t1252 t1254 t1257 t1258 t1261 t1262 w _ ?side1 ?side2 A3.out).mono ?_); (case side1 => repeat (first | (with_reducible first | exact HI1253.out | apply IsS83.alloc | apply IsS83.drewN | apply IsS83.drew | apply IsS83.set_1 | apply IsS83.set_2 | refine IsS83.far ?_ NB1253_1249.out _) | exact HI1253.out)); (case side2 => repeat (first | (with_reducible first | exact HB.out | apply below_alloc | apply pw_below_drewN | apply below_drew1 | refine below_set ?_ (IsS83.ge HI1253.out) | refine below_set ?_ GE1249.out) | exact HB.out)); rintro e w6 ⟨v1255, v1259, rfl, ho0, ho1, hi, hb, hk⟩; refine ⟨_, rfl, ?_⟩; have n0_ := Aside0.mk (KeepBut.blk hk (g' := gb1249) (o := .cells #[.slice none 0 0, .int .i64 0, .slice none 0 0] 30 (0, 0)) (oK BK1249) NB1249_1253.out (by simp)); have n1_ := Aside0.mk (Kd.R_lower ho0 (below_size (by repeat (first | (with_reducible first | exact HB.out | apply below_alloc | apply pw_below_drewN | apply below_drew1 | refine below_set ?_ (IsS83.ge HI1253.out) | refine below_set ?_ GE1249.out) | exact HB.out)))); have n2_ := Aside0.mk (Kd.R_lower ho1 (below_size (by repeat (first | (with_reducible first | exact HB.out | apply below_alloc | apply pw_below_drewN | apply below_drew1 | refine below_set ?_ (IsS83.ge HI1253.out) | refine below_set ?_ GE1249.out) | exact HB.out)))); have n3_ := Aside0.mk (hb); have n4_ := Aside0.mk (hi); clear BK1249; clear HB; clear HI1253; have BK1249 := n0_; have HO1256 := n1_; have HO1260 := n2_; have HB := n3_; have HI1253 := n4_; clear n0_ n1_ n2_ n3_ n4_; (try clear hb); (try clear hb2); (try clear hk); (try clear hi); (try clear ho0); (try clear ho1); obtain ⟨Ao7, co7, eo7⟩ := Kd.R_slice HO1256.out; subst eo7; have hnb8 := NB1249_1253.out; have hnc8 := NB1253_1249.out; have hcz9_0 : w6.cell? ⟨gb1249, 0, none⟩ = some (.slice none 0 0) := (blk_cell BK1249.out 0).trans rfl; have hcz9_1 : w6.cell? ⟨gb1249, 1, none⟩ = some (.int .i64 0) := (blk_cell BK1249.out 1).trans rfl; have hcz9_2 : w6.cell? ⟨gb1249, 2, none⟩ = some (.slice none 0 0) := (blk_cell BK1249.out 2).trans rfl; have hfz9_0 := blk_frozen BK1249.out 0; have hfz9_1 := blk_frozen BK1249.out 1; have hfz9_2 := blk_frozen BK1249.out 2; obtain ⟨Ao10, co10, eo10⟩ := Kd.R_slice HO1260.out; subst eo10))
 refine bodyPost_ret (results_cell_row rfl _ _ gb1249 30 #[.slice Ao7 t1254.length co7, .int .i64 t1257, .slice Ao10 t1258.length co10] (0, 0) _ rfl (by (with_reducible repeat (first | refine blk_drewN ?_ _ | refine blk_drew ?_ | refine blk_alloc ?_ _)); refine blk_put (cs := #[.slice Ao7 t1254.length co7, .int .i64 t1257, .slice none 0 0]) ?_ 2 _ rfl; (with_reducible repeat (first | refine blk_drewN ?_ _ | refine blk_drew ?_ | refine blk_alloc ?_ _)); refine blk_put (cs := #[.slice Ao7 t1254.length co7, .int .i64 0, .slice none 0 0]) ?_ 1 _ rfl; (with_reducible repeat (first | refine blk_drewN ?_ _ | refine blk_drew ?_ | refine blk_alloc ?_ _)); refine blk_put (cs := #[.slice none 0 0, .int .i64 0, .slice none 0 0]) ?_ 0 _ rfl; (with_reducible repeat (first | refine blk_drewN ?_ _ | refine blk_drew ?_ | refine blk_alloc ?_ _)); exact BK1249.out) Try.underlying30 rfl (by kernel_rfl)) rfl ?_
 exact ⟨_, _, by first | rfl | (simp [errW_none, errW_some] <;> rfl) | (simp [*, errW_none, errW_some] <;> rfl), by (with_reducible repeat (first | apply Kd.R_alloc | apply Kd.R_drewN | apply Kd.R_drew)); exact Kd.R_mono (Kd.R_far (p := ⟨gb1249, 2, none⟩) (Kd.R_far (p := ⟨gb1249, 1, none⟩) (Kd.R_far (p := ⟨gb1249, 0, none⟩) (Kd.R_types HO1256.out BK1249.out (by decide)) (fun _ hk => hk.2) (.slice Ao7 t1254.length co7)) (fun _ hk => hk.2) (.int .i64 t1257)) (fun _ hk => hk.2) (.slice Ao10 t1258.length co10)) (fun _ hk => trivial), by (with_reducible repeat (first | apply Kd.R_alloc | apply Kd.R_drewN | apply Kd.R_drew)); exact Kd.R_mono (Kd.R_far (p := ⟨gb1249, 2, none⟩) (Kd.R_far (p := ⟨gb1249, 1, none⟩) (Kd.R_far (p := ⟨gb1249, 0, none⟩) (Kd.R_types HO1260.out BK1249.out (by decide)) (fun _ hk => hk.2) (.slice Ao7 t1254.length co7)) (fun _ hk => hk.2) (.int .i64 t1257)) (fun _ hk => hk.2) (.slice Ao10 t1258.length co10)) (fun _ hk => trivial), by repeat (first | (with_reducible first | exact HB.out | apply below_alloc | apply pw_below_drewN | apply below_drew1 | refine below_set ?_ (IsS83.ge HI1253.out) | refine below_set ?_ GE1249.out) | exact HB.out)⟩
end Go.Proofs.Ytlhlmjklajdejaa.P


namespace Go.Proofs.Ytlhlmjklajdejaa.P
open Go.RowKit Go.Proofs.YtlhlmjklajdejaaW.PrintWords Go.Proofs.YtlhlmjklajdejaaW.PrintLast Go.Proofs.YtlhlmjklajdejaaW.PrintMore
attribute [local go_sem] max2_int min2_int max_two min_two max_three min_three max_four min_four
set_option linter.unusedVariables false
set_option linter.unusedSimpArgs false
def laws_FnMends.f (k : Nat) (l0 : List Int) : Option (Bool) := (laws_big.f l0).bind fun t1263 => (if t1263 = true then (some true) else ((spec_DrawKnocked.f k l0).bind fun bt1264 => ((impl_MendAll.f k bt1264.1 bt1264.2.1 bt1264.2.2).bind fun bt1272 => (if 0 < (bt1264.2.2.length : Int) then (if 0 ≤ bt1264.2.1 then (if bt1264.2.1 ≤ (bt1264.1.length : Int) then ((impl_RunPlan.f k (rd bt1264.2.2 0) (bt1264.1.take (bt1264.2.1 : Int).toNat)).bind fun bt1286 => ((impl_WrongSteps.f k bt1264.1 bt1264.2.1 bt1264.2.2).bind fun t1290 => (if bt1286.2 = true then ((impl_WrongSteps.f k bt1272.1 bt1272.2.1 bt1272.2.2.1).bind fun t1293 => (if (t1293.length : Int) = 0 then ((laws_sameInts.f k bt1272.2.2.1 bt1286.1).bind fun t1296 => (if t1296 = true then (if bt1272.2.1 = bt1264.2.1 then (if bt1272.2.2.2 < (t1290.length : Int) then (if bt1272.2.2.2 < 1 then (some false) else (if bt1272.2.2.2 > bt1264.2.1 then (some false) else (if ((bt1272.2.2.2 == 0) == ((t1290.length : Int) == 0)) = true then (if bt1264.2.1 < 11 then (some true) else ((impl_ClosingGap.f k bt1272.1 bt1272.2.1 bt1272.2.2.1).bind fun t1297 => (some (decide (t1297 ≥ 0))))) else (some false)))) else (if bt1272.2.2.2 > bt1264.2.1 then (some false) else (if ((bt1272.2.2.2 == 0) == ((t1290.length : Int) == 0)) = true then (if bt1264.2.1 < 11 then (some true) else ((impl_ClosingGap.f k bt1272.1 bt1272.2.1 bt1272.2.2.1).bind fun t1298 => (some (decide (t1298 ≥ 0))))) else (some false)))) else (some false)) else (some false))) else (some false))) else (some false)))) else (none)) else (none)) else (none)))))
def laws_FnMends.T5 : Bool × List (List Nat × List Nat) := (true, [([], []), ([0], [0]), ([1], [1]), ([2], [2]), ([], []), ([4], [4]), ([], []), ([6], [6]), ([5, 7], [5, 7]), ([3, 8], [3, 8]), ([9], [9]), ([10], [10]), ([10], [10]), ([11, 9, 0, 1, 2, 3, 4, 5, 6, 7, 8, 9, 10, 11], [11]), ([12, 13, 0, 1, 2, 3, 4, 5, 6, 7, 8, 9, 10, 11, 12, 13], [12])])
def laws_FnMends.B5 : List Nat := [0, 1, 3, 7, 0, 16, 0, 64, 240, 511, 1023, 2047, 2047, 4095, 16383]
theorem laws_FnMends.tab5 : rtab .any (opsOf Try.f14 5) = laws_FnMends.T5 := by kernel_rfl
theorem laws_FnMends.bits5 : waitsOk laws_FnMends.T5.2 laws_FnMends.B5 = true := by kernel_rfl
set_option maxHeartbeats 8000000 in
set_option maxRecDepth 100000 in
theorem laws_FnMends.calls (k : Nat) (A0 : Option Addr) (c0 : Nat) (l0 : List Int) (r : Bool) (w : World) (hr0 : Kd.C (Kd.int .u8) w A0 l0.length l0) (hc0 : l0.length ≤ c0) (h : laws_FnMends.f k l0 = some r) (hrt_ : Aside0 (r = true)) :
  Calls Try.prog 14 #[.slice A0 l0.length c0] w fun e w' => e = .returned (.bool r) ∧ Below w.heap.size w w' := by
 have hu30 := Try.underlying30
 have HR0 := Aside0.mk hr0
 have HC0 := Aside0.mk hc0
 clear hr0 hc0
 have HB := Aside0.mk (Below.refl w.heap.size w)
 have H : ((laws_big.f l0).bind fun t1263 => (if t1263 = true then (some true) else ((spec_DrawKnocked.f k l0).bind fun bt1264 => ((impl_MendAll.f k bt1264.1 bt1264.2.1 bt1264.2.2).bind fun bt1272 => (if 0 < (bt1264.2.2.length : Int) then (if 0 ≤ bt1264.2.1 then (if bt1264.2.1 ≤ (bt1264.1.length : Int) then ((impl_RunPlan.f k (rd bt1264.2.2 0) (bt1264.1.take (bt1264.2.1 : Int).toNat)).bind fun bt1286 => ((impl_WrongSteps.f k bt1264.1 bt1264.2.1 bt1264.2.2).bind fun t1290 => (if bt1286.2 = true then ((impl_WrongSteps.f k bt1272.1 bt1272.2.1 bt1272.2.2.1).bind fun t1293 => (if (t1293.length : Int) = 0 then ((laws_sameInts.f k bt1272.2.2.1 bt1286.1).bind fun t1296 => (if t1296 = true then (if bt1272.2.1 = bt1264.2.1 then (if bt1272.2.2.2 < (t1290.length : Int) then (if bt1272.2.2.2 < 1 then (some false) else (if bt1272.2.2.2 > bt1264.2.1 then (some false) else (if ((bt1272.2.2.2 == 0) == ((t1290.length : Int) == 0)) = true then (if bt1264.2.1 < 11 then (some true) else ((impl_ClosingGap.f k bt1272.1 bt1272.2.1 bt1272.2.2.1).bind fun t1297 => (some (decide (t1297 ≥ 0))))) else (some false)))) else (if bt1272.2.2.2 > bt1264.2.1 then (some false) else (if ((bt1272.2.2.2 == 0) == ((t1290.length : Int) == 0)) = true then (if bt1264.2.1 < 11 then (some true) else ((impl_ClosingGap.f k bt1272.1 bt1272.2.1 bt1272.2.2.1).bind fun t1298 => (some (decide (t1298 ≥ 0))))) else (some false)))) else (some false)) else (some false))) else (some false))) else (some false)))) else (none)) else (none)) else (none)))))) = some r := h
 clear h
 replace H := Option.bind_eq_some_iff.mp H
 obtain ⟨t1263, A20, H⟩ := H
 (try dsimp only at H)
 have A2 := Aside0.mk A20
 clear A20
 by_cases c3 : t1263 = true
 ·subst c3
  rw [if_pos rfl] at H
  obtain rfl := Option.some.inj H
  go_enter Try.func14, Try.ntmps14
  go_wp2_with (first | ((with_reducible refine gate_callee (f := 47) rfl ?_); refine goesL_ (some 10) rfl rfl Try.func47 (by kernel_rfl) rfl #[.slice A0 l0.length c0] rfl (by (try simp only [List.map_toArray, List.map_cons, List.map_nil]); first | done | rfl | (simp only [List.length_drop, List.length_take]; rfl)) ?_; (with_reducible refine (laws_big.calls _ _ l0 true _ ?side1 ?side2 A2.out).mono ?_); (case side1 => repeat (first | exact HR0.out | (with_reducible refine Kd.C_alloc ?_ _) | (with_reducible refine Kd.C_drewN ?_ _) | (with_reducible refine Kd.C_drew ?_))); (case side2 => exact HC0.out); rintro e w' ⟨rfl, ⟨nd, rfl⟩⟩; refine ⟨_, rfl, ?_⟩))
  go_ret
  exact ⟨by first | rfl | (simp [errW_none, errW_some] <;> rfl) | (simp [*, errW_none, errW_some] <;> rfl), oB HB⟩
 ·replace c3 := Bool.eq_false_iff.mpr c3
  subst c3
  rw [if_neg (show ¬ (false = true) by decide)] at H
  replace H := Option.bind_eq_some_iff.mp H
  obtain ⟨⟨t1264, t1267, t1268⟩, A40, H⟩ := H
  (try dsimp only at H)
  have A4 := Aside0.mk A40
  clear A40
  replace H := Option.bind_eq_some_iff.mp H
  obtain ⟨⟨t1272, t1275, t1276, t1279⟩, A50, H⟩ := H
  (try dsimp only at H)
  have A5 := Aside0.mk A50
  clear A50
  by_cases c6 : 0 < (t1268.length : Int)
  ·rw [if_pos c6] at H
   have c6b0 : decide (0 < (t1268.length : Int)) = true := decide_eq_true c6
   have c6b1 : decide (0 < t1268.length) = true := decide_eq_true (by omega)
   clear c6
   by_cases c7 : 0 ≤ t1267
   ·rw [if_pos c7] at H
    have c7b0 := eq_true c7
    have c7b1 : decide (0 ≤ t1267) = true := decide_eq_true c7
    clear c7
    by_cases c8 : t1267 ≤ (t1264.length : Int)
    ·rw [if_pos c8] at H
     have c8b0 := eq_true c8
     have c8b1 : decide (t1267 ≤ (t1264.length : Int)) = true := decide_eq_true c8
     clear c8
     obtain ⟨y1282, hy1282⟩ : ∃ y_ : List (S67), y_ = (t1264.take (t1267 : Int).toNat) := ⟨_, rfl⟩
     replace H : ((impl_RunPlan.f k (rd t1268 0) y1282).bind fun bt1286 => ((impl_WrongSteps.f k t1264 t1267 t1268).bind fun t1290 => (if bt1286.2 = true then ((impl_WrongSteps.f k t1272 t1275 t1276).bind fun t1293 => (if (t1293.length : Int) = 0 then ((laws_sameInts.f k t1276 bt1286.1).bind fun t1296 => (if t1296 = true then (if t1275 = t1267 then (if t1279 < (t1290.length : Int) then (if t1279 < 1 then (some false) else (if t1279 > t1267 then (some false) else (if ((t1279 == 0) == ((t1290.length : Int) == 0)) = true then (if t1267 < 11 then (some true) else ((impl_ClosingGap.f k t1272 t1275 t1276).bind fun t1297 => (some (decide (t1297 ≥ 0))))) else (some false)))) else (if t1279 > t1267 then (some false) else (if ((t1279 == 0) == ((t1290.length : Int) == 0)) = true then (if t1267 < 11 then (some true) else ((impl_ClosingGap.f k t1272 t1275 t1276).bind fun t1298 => (some (decide (t1298 ≥ 0))))) else (some false)))) else (some false)) else (some false))) else (some false))) else (some false)))) = some r := by first | (rw [hy1282]; with_reducible exact H) | (have H2_ := (Option.bind_some _ _).symm.trans H; rw [hy1282]; with_reducible exact H2_) | (have H2_ := (Option.bind_some _ _).symm.trans H; with_reducible exact H2_) | with_reducible exact H | (rw [hy1282]; exact H) | exact H
     have Ny1282 := Aside0.mk hy1282
     clear hy1282
     replace H := Option.bind_eq_some_iff.mp H
     obtain ⟨⟨t1286, t1287⟩, A90, H⟩ := H
     (try dsimp only at H)
     have A9 := Aside0.mk A90
     clear A90
     replace H := Option.bind_eq_some_iff.mp H
     obtain ⟨t1290, A100, H⟩ := H
     (try dsimp only at H)
     have A10 := Aside0.mk A100
     clear A100
     by_cases c11 : t1287 = true
     ·subst c11
      rw [if_pos rfl] at H
      replace H := Option.bind_eq_some_iff.mp H
      obtain ⟨t1293, A120, H⟩ := H
      (try dsimp only at H)
      have A12 := Aside0.mk A120
      clear A120
      by_cases c13 : (t1293.length : Int) = 0
      ·rw [if_pos c13] at H
       have c13b0 : ((t1293.length : Int) == 0) = true := beq_iff_eq.mpr c13
       have c13b1 : ((t1293.length : Int) != 0) = false := bne_eq_false_iff_eq.mpr c13
       clear c13
       replace H := Option.bind_eq_some_iff.mp H
       obtain ⟨t1296, A140, H⟩ := H
       (try dsimp only at H)
       have A14 := Aside0.mk A140
       clear A140
       by_cases c15 : t1296 = true
       ·subst c15
        rw [if_pos rfl] at H
        by_cases c16 : t1275 = t1267
        ·rw [if_pos c16] at H
         have c16b0 : (t1275 == t1267) = true := beq_iff_eq.mpr c16
         have c16b1 : (t1275 != t1267) = false := bne_eq_false_iff_eq.mpr c16
         clear c16
         by_cases c17 : t1279 < (t1290.length : Int)
         ·rw [if_pos c17] at H
          have c17b0 : decide (t1279 < (t1290.length : Int)) = true := decide_eq_true c17
          clear c17
          by_cases c18 : t1279 < 1
          ·rw [if_pos c18] at H
           have c18b0 : decide (t1279 < 1) = true := decide_eq_true c18
           clear c18
           exact absurd ((Option.some.inj H).trans hrt_.out) (by decide)
          ·rw [if_neg c18] at H
           have c18b0 : decide (t1279 < 1) = false := decide_eq_false c18
           clear c18
           by_cases c19 : t1279 > t1267
           ·rw [if_pos c19] at H
            have c19b0 : decide (t1267 < t1279) = true := decide_eq_true c19
            clear c19
            exact absurd ((Option.some.inj H).trans hrt_.out) (by decide)
           ·rw [if_neg c19] at H
            have c19b0 : decide (t1267 < t1279) = false := decide_eq_false c19
            clear c19
            by_cases c20 : ((t1279 == 0) == ((t1290.length : Int) == 0)) = true
            ·rw [if_pos c20] at H
             have c20b0 : ((t1279 == 0) == ((t1290.length : Int) == 0)) = true := c20
             (try (have c20b1 : decide ((t1279 == 0) = ((t1290.length : Int) == 0)) = true := by simpa using c20))
             (try (have c20b2 : ((t1279 == 0) == ((t1290.length : Int) == 0)) = true := by simpa using c20))
             clear c20
             by_cases c21 : t1267 < 11
             ·rw [if_pos c21] at H
              have c21b0 : decide (t1267 < 11) = true := decide_eq_true c21
              clear c21
              obtain rfl := Option.some.inj H
              go_enter Try.func14, Try.ntmps14
              try go_wp2_with (first | ((with_reducible refine gate_callee (f := 47) rfl ?_); refine goesL_ (some 10) rfl rfl Try.func47 (by kernel_rfl) rfl #[.slice A0 l0.length c0] rfl (by (try simp only [List.map_toArray, List.map_cons, List.map_nil]); first | done | rfl | (simp only [List.length_drop, List.length_take]; rfl)) ?_; (with_reducible refine (laws_big.calls _ _ l0 false _ ?side1 ?side2 A2.out).mono ?_); (case side1 => repeat (first | exact HR0.out | (with_reducible refine Kd.C_alloc ?_ _) | (with_reducible refine Kd.C_drewN ?_ _) | (with_reducible refine Kd.C_drew ?_))); (case side2 => exact HC0.out); rintro e w' ⟨rfl, ⟨nd, rfl⟩⟩; refine ⟨_, rfl, ?_⟩) | ((with_reducible refine gate_callee (f := 52) rfl ?_); refine goesL_ (some 12) rfl rfl Try.func52 (by kernel_rfl) rfl #[.slice A0 l0.length c0] rfl (by (try simp only [List.map_toArray, List.map_cons, List.map_nil]); first | done | rfl | (simp only [List.length_drop, List.length_take]; rfl)) ?_; (with_reducible refine (spec_DrawKnocked.calls k _ _ l0 t1264 t1267 t1268 _ ?side1 ?side2 A4.out).mono ?_); (case side1 => repeat (first | exact HR0.out | (with_reducible refine Kd.C_alloc ?_ _) | (with_reducible refine Kd.C_drewN ?_ _) | (with_reducible refine Kd.C_drew ?_))); (case side2 => exact HC0.out); rintro e w22 ⟨v1265, v1269, rfl, ho0, ho1, hb⟩; refine ⟨_, rfl, ?_⟩; have n0_ := Aside0.mk (Kd.R_lower ho0 (below_size (oB HB))); have n1_ := Aside0.mk (Kd.R_lower ho1 (below_size (oB HB))); have n2_ := Aside0.mk (below_step (oB HB) hb); clear HB; have HO1266 := n0_; have HO1270 := n1_; have HB := n2_; clear n0_ n1_ n2_; (try clear hb); (try clear hb2); (try clear hk); (try clear hi); (try clear ho0); (try clear ho1)) | ((with_reducible refine gate_dst (N := 3) rfl ?_); (try (refine gate_guard (by rfl) ?_; dsimp only)); refine box_event ?hg (N := 3) ?hd (cs := #[.slice none 0 0, .int .i64 0, .slice none 0 0]) (t := 30) ?hr ?_; (case hd => rfl); (case hg => rfl); (case hr => first | (go_simp; done) | (go_simp; rfl)); intro gb1271 hg w23 hbox hb; have n0_ := Aside0.mk (Kd.R_below (oR HO1266) hb); have n1_ := Aside0.mk (Kd.R_below (oR HO1270) hb); have n2_ := Aside0.mk (below_step (oB HB) hb); have n3_ := Aside0.mk (hbox); have n4_ := Aside0.mk ((by rw [hg]; exact (below_size (oB HB)) : w.heap.size ≤ gb1271)); have n5_ := Aside0.mk ((by rw [hg]; exact (below_size (oB HB)) : w.heap.size ≤ gb1271)); clear HO1266; clear HO1270; clear HB; have HO1266 := n0_; have HO1270 := n1_; have HB := n2_; have BK1271 := n3_; have GW1271 := n4_; have GE1271 := n5_; clear n0_ n1_ n2_ n3_ n4_ n5_; clear hb hbox hg; obtain ⟨Ao24, co24, eo24⟩ := Kd.R_slice HO1266.out; subst eo24; have hcz25_0 : w23.cell? ⟨gb1271, 0, none⟩ = some (.slice none 0 0) := (blk_cell BK1271.out 0).trans rfl; have hcz25_1 : w23.cell? ⟨gb1271, 1, none⟩ = some (.int .i64 0) := (blk_cell BK1271.out 1).trans rfl; have hcz25_2 : w23.cell? ⟨gb1271, 2, none⟩ = some (.slice none 0 0) := (blk_cell BK1271.out 2).trans rfl; have hfz25_0 := blk_frozen BK1271.out 0; have hfz25_1 := blk_frozen BK1271.out 1; have hfz25_2 := blk_frozen BK1271.out 2; obtain ⟨Ao26, co26, eo26⟩ := Kd.R_slice HO1270.out; subst eo26) | ((with_reducible refine gate_callee (f := 46) rfl ?_); refine goesL_ (some 15) rfl rfl Try.func46 (by kernel_rfl) rfl #[.agg #[.slice Ao24 t1264.length co24, .int .i64 t1267, .slice Ao26 t1268.length co26]] rfl (by (try simp only [List.map_toArray, List.map_cons, List.map_nil]); first | done | rfl | (simp only [List.length_drop, List.length_take]; rfl)) ?_; (with_reducible refine (impl_MendAll.calls k _ _ t1264 t1267 _ _ t1268 t1272 t1275 t1276 t1279 _ ?side1 ?side2 ?side3 ?side4 A5.out).mono ?_); (case side1 => refine (Kd.R_reads' (e := 67) (base := w.heap.size) (ok := fun k_ => True) (n := t1264.length) (c := co24) ?_).2.2; exact (by (with_reducible repeat (first | apply Kd.R_alloc | apply Kd.R_drewN | apply Kd.R_drew)); exact (Kd.R_mono (Kd.R_far (p := ⟨gb1271, 2, none⟩) (Kd.R_far (p := ⟨gb1271, 1, none⟩) (Kd.R_far (p := ⟨gb1271, 0, none⟩) (Kd.R_types HO1266.out BK1271.out (by decide)) (fun _ hk => hk.2) (.slice Ao24 t1264.length co24)) (fun _ hk => hk.2) (.int .i64 t1267)) (fun _ hk => hk.2) (.slice Ao26 t1268.length co26)) (fun _ h_ => h_.1)))); (case side2 => exact (Kd.R_reads' HO1266.out).2.1); (case side3 => refine (Kd.R_reads' (e := 3) (base := w.heap.size) (ok := fun k_ => True) (n := t1268.length) (c := co26) ?_).2.2; exact (by (with_reducible repeat (first | apply Kd.R_alloc | apply Kd.R_drewN | apply Kd.R_drew)); exact (Kd.R_mono (Kd.R_far (p := ⟨gb1271, 2, none⟩) (Kd.R_far (p := ⟨gb1271, 1, none⟩) (Kd.R_far (p := ⟨gb1271, 0, none⟩) (Kd.R_types HO1270.out BK1271.out (by decide)) (fun _ hk => hk.2) (.slice Ao24 t1264.length co24)) (fun _ hk => hk.2) (.int .i64 t1267)) (fun _ hk => hk.2) (.slice Ao26 t1268.length co26)) (fun _ h_ => h_.1)))); (case side4 => exact (Kd.R_reads' HO1270.out).2.1); rintro e w27 ⟨v1273, v1277, rfl, ho0, ho1, hb⟩; refine ⟨_, rfl, ?_⟩; have n0_ := Aside0.mk (Kd.R_elder' (by (with_reducible repeat (first | apply Kd.R_alloc | apply Kd.R_drewN | apply Kd.R_drew)); exact (Kd.R_mono (Kd.R_far (p := ⟨gb1271, 2, none⟩) (Kd.R_far (p := ⟨gb1271, 1, none⟩) (Kd.R_far (p := ⟨gb1271, 0, none⟩) (Kd.R_types HO1266.out BK1271.out (by decide)) (fun _ hk => hk.2) (.slice Ao24 t1264.length co24)) (fun _ hk => hk.2) (.int .i64 t1267)) (fun _ hk => hk.2) (.slice Ao26 t1268.length co26)) (fun _ h_ => h_.1))) (Kd.R_base ho0) hb); have n1_ := Aside0.mk (Kd.R_elder' (by (with_reducible repeat (first | apply Kd.R_alloc | apply Kd.R_drewN | apply Kd.R_drew)); exact (Kd.R_mono (Kd.R_far (p := ⟨gb1271, 2, none⟩) (Kd.R_far (p := ⟨gb1271, 1, none⟩) (Kd.R_far (p := ⟨gb1271, 0, none⟩) (Kd.R_types HO1270.out BK1271.out (by decide)) (fun _ hk => hk.2) (.slice Ao24 t1264.length co24)) (fun _ hk => hk.2) (.int .i64 t1267)) (fun _ hk => hk.2) (.slice Ao26 t1268.length co26)) (fun _ h_ => h_.1))) (Kd.R_base ho1) hb); have n2_ := Aside0.mk (Kd.R_lower (Kd.R_new' ho0 (Kd.R_lt (by (with_reducible repeat (first | apply Kd.R_alloc | apply Kd.R_drewN | apply Kd.R_drew)); exact (Kd.R_mono (Kd.R_far (p := ⟨gb1271, 2, none⟩) (Kd.R_far (p := ⟨gb1271, 1, none⟩) (Kd.R_far (p := ⟨gb1271, 0, none⟩) (Kd.R_types HO1266.out BK1271.out (by decide)) (fun _ hk => hk.2) (.slice Ao24 t1264.length co24)) (fun _ hk => hk.2) (.int .i64 t1267)) (fun _ hk => hk.2) (.slice Ao26 t1268.length co26)) (fun _ h_ => h_.1))))) (below_size (oB HB))); have n3_ := Aside0.mk (Kd.R_lower (Kd.R_new' ho1 (Kd.R_lt (by (with_reducible repeat (first | apply Kd.R_alloc | apply Kd.R_drewN | apply Kd.R_drew)); exact (Kd.R_mono (Kd.R_far (p := ⟨gb1271, 2, none⟩) (Kd.R_far (p := ⟨gb1271, 1, none⟩) (Kd.R_far (p := ⟨gb1271, 0, none⟩) (Kd.R_types HO1270.out BK1271.out (by decide)) (fun _ hk => hk.2) (.slice Ao24 t1264.length co24)) (fun _ hk => hk.2) (.int .i64 t1267)) (fun _ hk => hk.2) (.slice Ao26 t1268.length co26)) (fun _ h_ => h_.1))))) (below_size (oB HB))); have n4_ := Aside0.mk (blk_below (g := gb1271) (o := .cells #[.slice Ao24 t1264.length co24, .int .i64 t1267, .slice Ao26 t1268.length co26] 30 (0, 0)) (by (with_reducible repeat (first | refine blk_drewN ?_ _ | refine blk_drew ?_ | refine blk_alloc ?_ _)); refine blk_put (cs := #[.slice Ao24 t1264.length co24, .int .i64 t1267, .slice none 0 0]) ?_ 2 _ rfl; (with_reducible repeat (first | refine blk_drewN ?_ _ | refine blk_drew ?_ | refine blk_alloc ?_ _)); refine blk_put (cs := #[.slice Ao24 t1264.length co24, .int .i64 0, .slice none 0 0]) ?_ 1 _ rfl; (with_reducible repeat (first | refine blk_drewN ?_ _ | refine blk_drew ?_ | refine blk_alloc ?_ _)); refine blk_put (cs := #[.slice none 0 0, .int .i64 0, .slice none 0 0]) ?_ 0 _ rfl; (with_reducible repeat (first | refine blk_drewN ?_ _ | refine blk_drew ?_ | refine blk_alloc ?_ _)); exact BK1271.out) hb); have n5_ := Aside0.mk (below_step (oB HB) hb); clear HO1266; clear HO1270; clear BK1271; clear HB; have HO1266 := n0_; have HO1270 := n1_; have HO1274 := n2_; have HO1278 := n3_; have BK1271 := n4_; have HB := n5_; clear n0_ n1_ n2_ n3_ n4_ n5_; (try clear hb); (try clear hb2); (try clear hk); (try clear hi); (try clear ho0); (try clear ho1)) | ((with_reducible refine gate_dst (N := 4) rfl ?_); (try (refine gate_guard (by rfl) ?_; dsimp only)); refine box_event ?hg (N := 4) ?hd (cs := #[.slice none 0 0, .int .i64 0, .slice none 0 0]) (t := 30) ?hr ?_; (case hd => rfl); (case hg => rfl); (case hr => first | (go_simp; done) | (go_simp; rfl)); intro gb1280 hg w28 hbox hb; have n0_ := Aside0.mk (Kd.R_below (oR HO1266) hb); have n1_ := Aside0.mk (Kd.R_below (oR HO1270) hb); have n2_ := Aside0.mk (Kd.R_below (oR HO1274) hb); have n3_ := Aside0.mk (Kd.R_below (oR HO1278) hb); have n4_ := Aside0.mk (blk_below (g := gb1271) (o := .cells #[.slice Ao24 t1264.length co24, .int .i64 t1267, .slice Ao26 t1268.length co26] 30 (0, 0)) (oK BK1271) hb); have n5_ := Aside0.mk (below_step (oB HB) hb); have n6_ := Aside0.mk (hbox); have n7_ := Aside0.mk ((by rw [hg]; exact (below_size (oB HB)) : w.heap.size ≤ gb1280)); have n8_ := Aside0.mk ((by rw [hg]; exact (below_size (oB HB)) : w.heap.size ≤ gb1280)); have n9_ := Aside0.mk ((by rw [hg]; exact Nat.ne_of_lt (blk_lt (g := gb1271) (o := .cells #[.slice Ao24 t1264.length co24, .int .i64 t1267, .slice Ao26 t1268.length co26] 30 (0, 0)) (oK BK1271)) : gb1271 ≠ gb1280)); have n10_ := Aside0.mk ((by rw [hg]; exact Nat.ne_of_gt (blk_lt (g := gb1271) (o := .cells #[.slice Ao24 t1264.length co24, .int .i64 t1267, .slice Ao26 t1268.length co26] 30 (0, 0)) (oK BK1271)) : gb1280 ≠ gb1271)); clear HO1266; clear HO1270; clear HO1274; clear HO1278; clear BK1271; clear HB; have HO1266 := n0_; have HO1270 := n1_; have HO1274 := n2_; have HO1278 := n3_; have BK1271 := n4_; have HB := n5_; have BK1280 := n6_; have GW1280 := n7_; have GE1280 := n8_; have NB1271_1280 := n9_; have NB1280_1271 := n10_; clear n0_ n1_ n2_ n3_ n4_ n5_ n6_ n7_ n8_ n9_ n10_; clear hb hbox hg; obtain ⟨Ao29, co29, eo29⟩ := Kd.R_slice HO1274.out; subst eo29; have hnb30 := NB1280_1271.out; have hnc30 := NB1271_1280.out; have hcz31_0 : w28.cell? ⟨gb1280, 0, none⟩ = some (.slice none 0 0) := (blk_cell BK1280.out 0).trans rfl; have hcz31_1 : w28.cell? ⟨gb1280, 1, none⟩ = some (.int .i64 0) := (blk_cell BK1280.out 1).trans rfl; have hcz31_2 : w28.cell? ⟨gb1280, 2, none⟩ = some (.slice none 0 0) := (blk_cell BK1280.out 2).trans rfl; have hfz31_0 := blk_frozen BK1280.out 0; have hfz31_1 := blk_frozen BK1280.out 1; have hfz31_2 := blk_frozen BK1280.out 2; obtain ⟨Ao32, co32, eo32⟩ := Kd.R_slice HO1278.out; subst eo32))
              have n0_ : Aside0 (Kd.R k67 67 (((w28.setCell ⟨gb1280, 0, none⟩ (.slice Ao29 t1272.length co29)).setCell ⟨gb1280, 1, none⟩ (.int .i64 t1275)).setCell ⟨gb1280, 2, none⟩ (.slice Ao32 t1276.length co32)) w.heap.size (fun k_ => some k_ ≠ (.slice Ao29 t1272.length co29 : Value).ownBlock) (.slice Ao24 t1264.length co24) t1264) := ⟨by (with_reducible repeat (first | apply Kd.R_alloc | apply Kd.R_drewN | apply Kd.R_drew)); exact Kd.R_mono (Kd.R_far (p := ⟨gb1280, 2, none⟩) (Kd.R_far (p := ⟨gb1280, 1, none⟩) (Kd.R_far (p := ⟨gb1280, 0, none⟩) (Kd.R_types HO1266.out BK1280.out (by decide)) (fun _ hk => hk.2) (.slice Ao29 t1272.length co29)) (fun _ hk => hk.2) (.int .i64 t1275)) (fun _ hk => hk.2) (.slice Ao32 t1276.length co32)) (fun _ hk => hk.1.2)⟩
              have n1_ : Aside0 (Kd.R (Kd.int .i64) 3 (((w28.setCell ⟨gb1280, 0, none⟩ (.slice Ao29 t1272.length co29)).setCell ⟨gb1280, 1, none⟩ (.int .i64 t1275)).setCell ⟨gb1280, 2, none⟩ (.slice Ao32 t1276.length co32)) w.heap.size (fun k_ => some k_ ≠ (.slice Ao32 t1276.length co32 : Value).ownBlock) (.slice Ao26 t1268.length co26) t1268) := ⟨by (with_reducible repeat (first | apply Kd.R_alloc | apply Kd.R_drewN | apply Kd.R_drew)); exact Kd.R_mono (Kd.R_far (p := ⟨gb1280, 2, none⟩) (Kd.R_far (p := ⟨gb1280, 1, none⟩) (Kd.R_far (p := ⟨gb1280, 0, none⟩) (Kd.R_types HO1270.out BK1280.out (by decide)) (fun _ hk => hk.2) (.slice Ao29 t1272.length co29)) (fun _ hk => hk.2) (.int .i64 t1275)) (fun _ hk => hk.2) (.slice Ao32 t1276.length co32)) (fun _ hk => hk.1.2)⟩
              have n2_ : Aside0 (Kd.R k67 67 (((w28.setCell ⟨gb1280, 0, none⟩ (.slice Ao29 t1272.length co29)).setCell ⟨gb1280, 1, none⟩ (.int .i64 t1275)).setCell ⟨gb1280, 2, none⟩ (.slice Ao32 t1276.length co32)) w.heap.size (fun k_ => some k_ ≠ (.slice Ao24 t1264.length co24 : Value).ownBlock) (.slice Ao29 t1272.length co29) t1272) := ⟨by (with_reducible repeat (first | apply Kd.R_alloc | apply Kd.R_drewN | apply Kd.R_drew)); exact Kd.R_mono (Kd.R_far (p := ⟨gb1280, 2, none⟩) (Kd.R_far (p := ⟨gb1280, 1, none⟩) (Kd.R_far (p := ⟨gb1280, 0, none⟩) (Kd.R_types HO1274.out BK1280.out (by decide)) (fun _ hk => hk.2) (.slice Ao29 t1272.length co29)) (fun _ hk => hk.2) (.int .i64 t1275)) (fun _ hk => hk.2) (.slice Ao32 t1276.length co32)) (fun _ hk => hk.1.2)⟩
              have n3_ : Aside0 (Kd.R (Kd.int .i64) 3 (((w28.setCell ⟨gb1280, 0, none⟩ (.slice Ao29 t1272.length co29)).setCell ⟨gb1280, 1, none⟩ (.int .i64 t1275)).setCell ⟨gb1280, 2, none⟩ (.slice Ao32 t1276.length co32)) w.heap.size (fun k_ => some k_ ≠ (.slice Ao26 t1268.length co26 : Value).ownBlock) (.slice Ao32 t1276.length co32) t1276) := ⟨by (with_reducible repeat (first | apply Kd.R_alloc | apply Kd.R_drewN | apply Kd.R_drew)); exact Kd.R_mono (Kd.R_far (p := ⟨gb1280, 2, none⟩) (Kd.R_far (p := ⟨gb1280, 1, none⟩) (Kd.R_far (p := ⟨gb1280, 0, none⟩) (Kd.R_types HO1278.out BK1280.out (by decide)) (fun _ hk => hk.2) (.slice Ao29 t1272.length co29)) (fun _ hk => hk.2) (.int .i64 t1275)) (fun _ hk => hk.2) (.slice Ao32 t1276.length co32)) (fun _ hk => hk.1.2)⟩
              have n4_ : Aside0 ((((w28.setCell ⟨gb1280, 0, none⟩ (.slice Ao29 t1272.length co29)).setCell ⟨gb1280, 1, none⟩ (.int .i64 t1275)).setCell ⟨gb1280, 2, none⟩ (.slice Ao32 t1276.length co32)).heap[gb1271]? = some (.cells #[.slice Ao24 t1264.length co24, .int .i64 t1267, .slice Ao26 t1268.length co26] 30 (0, 0))) := ⟨by (with_reducible repeat (first | refine blk_drewN ?_ _ | refine blk_drew ?_ | refine blk_alloc ?_ _)); refine blk_far ?_ NB1271_1280.out _; (with_reducible repeat (first | refine blk_drewN ?_ _ | refine blk_drew ?_ | refine blk_alloc ?_ _)); refine blk_far ?_ NB1271_1280.out _; (with_reducible repeat (first | refine blk_drewN ?_ _ | refine blk_drew ?_ | refine blk_alloc ?_ _)); refine blk_far ?_ NB1271_1280.out _; (with_reducible repeat (first | refine blk_drewN ?_ _ | refine blk_drew ?_ | refine blk_alloc ?_ _)); exact BK1271.out⟩
              have n5_ : Aside0 ((((w28.setCell ⟨gb1280, 0, none⟩ (.slice Ao29 t1272.length co29)).setCell ⟨gb1280, 1, none⟩ (.int .i64 t1275)).setCell ⟨gb1280, 2, none⟩ (.slice Ao32 t1276.length co32)).heap[gb1280]? = some (.cells #[.slice Ao29 t1272.length co29, .int .i64 t1275, .slice Ao32 t1276.length co32] 30 (0, 0))) := ⟨by (with_reducible repeat (first | refine blk_drewN ?_ _ | refine blk_drew ?_ | refine blk_alloc ?_ _)); refine blk_put (cs := #[.slice Ao29 t1272.length co29, .int .i64 t1275, .slice none 0 0]) ?_ 2 _ rfl; (with_reducible repeat (first | refine blk_drewN ?_ _ | refine blk_drew ?_ | refine blk_alloc ?_ _)); refine blk_put (cs := #[.slice Ao29 t1272.length co29, .int .i64 0, .slice none 0 0]) ?_ 1 _ rfl; (with_reducible repeat (first | refine blk_drewN ?_ _ | refine blk_drew ?_ | refine blk_alloc ?_ _)); refine blk_put (cs := #[.slice none 0 0, .int .i64 0, .slice none 0 0]) ?_ 0 _ rfl; (with_reducible repeat (first | refine blk_drewN ?_ _ | refine blk_drew ?_ | refine blk_alloc ?_ _)); exact BK1280.out⟩
              have n6_ : Aside0 (Below w.heap.size w (((w28.setCell ⟨gb1280, 0, none⟩ (.slice Ao29 t1272.length co29)).setCell ⟨gb1280, 1, none⟩ (.int .i64 t1275)).setCell ⟨gb1280, 2, none⟩ (.slice Ao32 t1276.length co32))) := ⟨oB HB⟩
              (try clear HO1266)
              (try clear HO1270)
              (try clear HO1274)
              (try clear HO1278)
              (try clear BK1271)
              (try clear BK1280)
              (try clear HB)
              generalize (((w28.setCell ⟨gb1280, 0, none⟩ (.slice Ao29 t1272.length co29)).setCell ⟨gb1280, 1, none⟩ (.int .i64 t1275)).setCell ⟨gb1280, 2, none⟩ (.slice Ao32 t1276.length co32)) = w33 at n0_ n1_ n2_ n3_ n4_ n5_ n6_ ⊢
              have HO1266 := n0_
              have HO1270 := n1_
              have HO1274 := n2_
              have HO1278 := n3_
              have BK1271 := n4_
              have BK1280 := n5_
              have HB := n6_
              clear n0_ n1_ n2_ n3_ n4_ n5_ n6_
              have n0_ := Aside0.mk (Kd.R_drew HO1266.out)
              have n1_ := Aside0.mk (Kd.R_drew HO1270.out)
              have n2_ := Aside0.mk (Kd.R_drew HO1274.out)
              have n3_ := Aside0.mk (Kd.R_drew HO1278.out)
              have n4_ := Aside0.mk (blk_drew BK1271.out)
              have n5_ := Aside0.mk (blk_drew BK1280.out)
              have n6_ := Aside0.mk (below_drew1 HB.out)
              clear HO1266
              clear HO1270
              clear HO1274
              clear HO1278
              clear BK1271
              clear BK1280
              clear HB
              have HO1266 := n0_
              have HO1270 := n1_
              have HO1274 := n2_
              have HO1278 := n3_
              have BK1271 := n4_
              have BK1280 := n5_
              have HB := n6_
              clear n0_ n1_ n2_ n3_ n4_ n5_ n6_
              have p1281 : 0 ≤ (0 : Int) := (by omega)
              have q1281 : 0 < (t1268.length : Int) := of_decide_eq_true (by first | (with_reducible assumption) | assumption)
              obtain ⟨ad1281, e1281, hx1281_0⟩ := Kd.at_int (Kd.R_reads' HO1270.out).2.2 0 p1281 q1281
              cases e1281
              have qi1281 : (0 < t1268.length) = True := eq_true (by omega)
              (try rw [show ((0 : Int)).toNat = 0 from rfl] at hx1281_0)
              (try rw [Addr.add_zero'] at hx1281_0)
              replace p1281 := eq_true p1281
              replace q1281 := eq_true q1281
              have q35 : (t1267 : Int) ≤ ((t1264.length : Int) : Int) := of_decide_eq_true (by first | (with_reducible assumption) | assumption)
              obtain ⟨i035, hi035, _, hsz35, _⟩ := info_parts info67
              have hroom35 : t1264.length ≤ co24 := (Kd.R_reads' HO1266.out).2.1
              have hC35 : Kd.C k67 _ Ao24 t1264.length t1264 := (Kd.R_reads' HO1266.out).2.2
              have hcut35 := cut_to (P := Try.prog) 28 67 .i64 Try.underlying28 hi035 Ao24 t1264.length co24 t1267 (of_decide_eq_true (by first | (with_reducible assumption) | assumption)) q35 hroom35
              have hr35 := Kd.C_take (m := (t1267 : Int).toNat) hC35 (by omega)
              have hy35 : y1282.length = (t1267 : Int).toNat := (by rw [Ny1282.out, List.length_take]; omega)
              rw [← Ny1282.out] at hr35
              rw [← hy35] at hcut35
              have HR1285 := Aside0.mk hr35
              have HC1285 := Aside0.mk (show y1282.length ≤ co24 from by omega)
              clear hr35 hC35 hroom35 hi035 hsz35
              have KY35 := Aside0.mk hy35
              clear hy35
              have KL35 := Aside0.mk (show (t1267 : Int).toNat ≤ t1264.length from by omega)
              replace q35 := eq_true q35
              refine start_ (n := 15) (S := fun w' => w'.cell? ⟨gb1271, 0, none⟩ = some (.slice Ao24 t1264.length co24) ∧ w'.cell? ⟨gb1271, 1, none⟩ = some (.int .i64 t1267) ∧ w'.cell? ⟨gb1271, 2, none⟩ = some (.slice (some ad1281) t1268.length co26) ∧ w'.cell? ad1281 = some (.int .i64 (rd t1268 0))) (ds := []) #[false, false, false, false, false, false, false, false, false, false, false, false, false, false, false] (by kernel_rfl) rfl rfl ⟨(blk_cell BK1271.out 0).trans rfl, (blk_cell BK1271.out 1).trans rfl, (blk_cell BK1271.out 2).trans rfl, hx1281_0⟩ (fun hHeld => ?_); refine with_tabW laws_FnMends.tab5 laws_FnMends.bits5 (fun HT_ HW_ => ?_)
              generalize w33.drew = w34 at HO1266 HO1270 HO1274 HO1278 BK1271 BK1280 HB HR1285 hx1281_0 hHeld ⊢
              refine pure_ (i := 0) (N := some 19) (v := ?_) (a' := ?_) #[true, false, false, false, false, false, false, false, false, false, false, false, false, false, false] rfl rfl (any_of HT_.out (by kernel_rfl)) (fun _ _ _ h => h) (Or.inl ⟨by rfl, ?_⟩) ?_ ?_
              rotate_left
              ·intro w'
               go_simp
               with_reducible rfl
              rotate_left
              ·simp only [Act.put, List.setIfInBounds_toArray, List.set_cons_zero, List.set_cons_succ, i64_w, i32_w]
               rfl
              refine pure_ (i := 4) (N := some 23) (v := ?_) (a' := ?_) #[true, false, false, false, true, false, false, false, false, false, false, false, false, false, false] rfl rfl (any_of HT_.out (by kernel_rfl)) (fun _ _ _ h => h) (Or.inl ⟨by rfl, ?_⟩) ?_ ?_
              rotate_left
              ·intro w'
               go_simp
               with_reducible rfl
              rotate_left
              ·simp only [Act.put, List.setIfInBounds_toArray, List.set_cons_zero, List.set_cons_succ, i64_w, i32_w]
               rfl
              refine pure_ (i := 6) (N := some 25) (v := ?_) (a' := ?_) #[true, false, false, false, true, false, true, false, false, false, false, false, false, false, false] rfl rfl (any_of HT_.out (by kernel_rfl)) (fun _ _ _ h => h) (Or.inl ⟨by rfl, ?_⟩) ?_ ?_
              rotate_left
              ·intro w'
               go_simp
               with_reducible rfl
              rotate_left
              ·simp only [Act.put, List.setIfInBounds_toArray, List.set_cons_zero, List.set_cons_succ, i64_w, i32_w]
               rfl
              refine take_ (i := 1) (N := some 20) (v := ?_) (a' := ?_) #[true, true, false, false, true, false, true, false, false, false, false, false, false, false, false] rfl rfl (take_ofW HT_.out HW_.out (by kernel_rfl)) (fun _ _ _ h => h) (Or.inl ⟨by rfl, ?_⟩) hHeld ?_ ?_
              rotate_left
              ·rintro w' ⟨s0, s1, s2, s3⟩
               go_simp
               with_reducible rfl
              rotate_left
              ·simp only [Act.put, List.setIfInBounds_toArray, List.set_cons_zero, List.set_cons_succ, i64_w, i32_w]
               rfl
              refine pure_ (i := 2) (N := some 21) (v := ?_) (a' := ?_) #[true, true, true, false, true, false, true, false, false, false, false, false, false, false, false] rfl rfl (any_of HT_.out (by kernel_rfl)) (fun _ _ _ h => h) (Or.inl ⟨by rfl, ?_⟩) ?_ ?_
              rotate_left
              ·intro w'
               go_simp
               with_reducible rfl
              rotate_left
              ·simp only [Act.put, List.setIfInBounds_toArray, List.set_cons_zero, List.set_cons_succ, i64_w, i32_w]
               rfl
              refine take_ (i := 3) (N := some 22) (v := ?_) (a' := ?_) #[true, true, true, true, true, false, true, false, false, false, false, false, false, false, false] rfl rfl (take_ofW HT_.out HW_.out (by kernel_rfl)) (fun _ _ _ h => h) (Or.inl ⟨by rfl, ?_⟩) hHeld ?_ ?_
              rotate_left
              ·rintro w' ⟨s0, s1, s2, s3⟩
               go_simp
               with_reducible rfl
              rotate_left
              ·simp only [Act.put, List.setIfInBounds_toArray, List.set_cons_zero, List.set_cons_succ, i64_w, i32_w]
               rfl
              refine take_ (i := 5) (N := some 24) (v := ?_) (a' := ?_) #[true, true, true, true, true, true, true, false, false, false, false, false, false, false, false] rfl rfl (take_ofW HT_.out HW_.out (by kernel_rfl)) (fun _ _ _ h => h) (Or.inl ⟨by rfl, ?_⟩) hHeld ?_ ?_
              rotate_left
              ·rintro w' ⟨s0, s1, s2, s3⟩
               go_simp
               with_reducible rfl
              rotate_left
              ·simp only [Act.put, List.setIfInBounds_toArray, List.set_cons_zero, List.set_cons_succ, i64_w, i32_w]
               rfl
              refine take_ (i := 7) (N := some 26) (v := ?_) (a' := ?_) #[true, true, true, true, true, true, true, true, false, false, false, false, false, false, false] rfl rfl (take_ofW HT_.out HW_.out (by kernel_rfl)) (fun _ _ _ h => h) (Or.inl ⟨by rfl, ?_⟩) hHeld ?_ ?_
              rotate_left
              ·rintro w' ⟨s0, s1, s2, s3⟩
               go_simp
               with_reducible rfl
              rotate_left
              ·simp only [Act.put, List.setIfInBounds_toArray, List.set_cons_zero, List.set_cons_succ, i64_w, i32_w]
               rfl
              refine pure_ (i := 8) (N := some 27) (v := ?_) (a' := ?_) #[true, true, true, true, true, true, true, true, true, false, false, false, false, false, false] rfl rfl (any_of HT_.out (by kernel_rfl)) (fun _ _ _ h => h) (Or.inl ⟨by rfl, ?_⟩) ?_ ?_
              rotate_left
              ·intro w'
               go_simp
               with_reducible rfl
              rotate_left
              ·simp only [Act.put, List.setIfInBounds_toArray, List.set_cons_zero, List.set_cons_succ, i64_w, i32_w]
               rfl
              refine one_ (i := 9) (N := some 28) #[true, true, true, true, true, true, true, true, true, true, false, false, false, false, false] rfl rfl (one_of HT_.out (by kernel_rfl)) (by decide) (fun K hK => ?_)
              refine goes_ Try.func49 (by kernel_rfl) rfl #[.int .i64 (rd t1268 0), .slice Ao24 y1282.length co24] (by rfl) rfl rfl (by (try simp only [List.map_toArray, List.map_cons, List.map_nil]); first | done | rfl | (simp only [List.length_drop, List.length_take]; rfl)) ?_
              with_reducible refine (impl_RunPlan.calls k (rd t1268 0) _ _ y1282 t1286 true _ ?side1 ?side2 A9.out).mono ?_
              (case side1 => repeat (first | exact (by repeat (first | (with_reducible exact HR1285.out) | (with_reducible refine Kd.C_alloc ?_ _) | (with_reducible refine Kd.C_drewN ?_ _) | (with_reducible refine Kd.C_drew ?_) | exact HR1285.out)) | (with_reducible refine Kd.C_alloc ?_ _) | (with_reducible refine Kd.C_drewN ?_ _) | (with_reducible refine Kd.C_drew ?_)))
              (case side2 => exact HC1285.out)
              rintro e w36 ⟨v1288, rfl, ho0, hb⟩
              have HS3_ := (hb.cell (World.block_lt_of_cell? _ _ (hHeld.2.2.2))).trans (hHeld.2.2.2)
              refine ⟨_, rfl, ?_⟩
              have n0_ := Aside0.mk (Kd.R_below (oR HO1266) hb)
              have n1_ := Aside0.mk (Kd.R_elder' (oR HO1270) (Kd.R_base ho0) hb)
              have n2_ := Aside0.mk (Kd.R_below (oR HO1274) hb)
              have n3_ := Aside0.mk (Kd.R_elder' (oR HO1278) (Kd.R_base ho0) hb)
              have n4_ := Aside0.mk (Kd.R_lower (Kd.R_new' (Kd.R_new' ho0 (Kd.R_lt (oR HO1270))) (Kd.R_lt (oR HO1278))) (below_size (oB HB)))
              have n5_ := Aside0.mk (blk_below (g := gb1271) (o := .cells #[.slice Ao24 t1264.length co24, .int .i64 t1267, .slice (some ad1281) t1268.length co26] 30 (0, 0)) (oK BK1271) hb)
              have n6_ := Aside0.mk (blk_below (g := gb1280) (o := .cells #[.slice Ao29 t1272.length co29, .int .i64 t1275, .slice Ao32 t1276.length co32] 30 (0, 0)) (oK BK1280) hb)
              have n7_ := Aside0.mk (Kd.C_below (by repeat (first | (with_reducible exact HR1285.out) | (with_reducible refine Kd.C_alloc ?_ _) | (with_reducible refine Kd.C_drewN ?_ _) | (with_reducible refine Kd.C_drew ?_) | exact HR1285.out)) hb)
              have n8_ := Aside0.mk (below_step (oB HB) hb)
              clear HO1266
              clear HO1270
              clear HO1274
              clear HO1278
              clear BK1271
              clear BK1280
              clear HR1285
              clear HB
              have HO1266 := n0_
              have HO1270 := n1_
              have HO1274 := n2_
              have HO1278 := n3_
              have HO1289 := n4_
              have BK1271 := n5_
              have BK1280 := n6_
              have HR1285 := n7_
              have HB := n8_
              clear n0_ n1_ n2_ n3_ n4_ n5_ n6_ n7_ n8_
              (try clear hb)
              (try clear hb2)
              (try clear hk)
              (try clear hi)
              (try clear ho0)
              refine hK.out _ _ ⟨(blk_cell BK1271.out 0).trans rfl, (blk_cell BK1271.out 1).trans rfl, (blk_cell BK1271.out 2).trans rfl, HS3_⟩ (fun hHeld => ?_)
              clear hK K
              refine norm_ (a' := ?_) ?_ ?_
              rotate_left
              ·show Act.put _ (some 28) _ = _
               simp only [Act.put, List.setIfInBounds_toArray, List.set_cons_zero, List.set_cons_succ, i64_w, i32_w]
               rfl
              refine pure_ (i := 10) (N := some 18) (v := ?_) (a' := ?_) #[true, true, true, true, true, true, true, true, true, true, true, false, false, false, false] rfl rfl (any_of HT_.out (by kernel_rfl)) (fun _ _ _ h => h) (Or.inl ⟨by rfl, ?_⟩) ?_ ?_
              rotate_left
              ·intro w'
               go_simp
               with_reducible rfl
              rotate_left
              ·simp only [Act.put, List.setIfInBounds_toArray, List.set_cons_zero, List.set_cons_succ, i64_w, i32_w]
               rfl
              refine pure_ (i := 11) (N := some 29) (v := ?_) (a' := ?_) #[true, true, true, true, true, true, true, true, true, true, true, true, false, false, false] rfl rfl (any_of HT_.out (by kernel_rfl)) (fun _ _ _ h => h) (Or.inl ⟨by rfl, ?_⟩) ?_ ?_
              rotate_left
              ·intro w'
               go_simp
               with_reducible rfl
              rotate_left
              ·simp only [Act.put, List.setIfInBounds_toArray, List.set_cons_zero, List.set_cons_succ, i64_w, i32_w]
               rfl
              refine pure_ (i := 12) (N := some 30) (v := ?_) (a' := ?_) #[true, true, true, true, true, true, true, true, true, true, true, true, true, false, false] rfl rfl (any_of HT_.out (by kernel_rfl)) (fun _ _ _ h => h) (Or.inl ⟨by rfl, ?_⟩) ?_ ?_
              rotate_left
              ·intro w'
               go_simp
               with_reducible rfl
              rotate_left
              ·simp only [Act.put, List.setIfInBounds_toArray, List.set_cons_zero, List.set_cons_succ, i64_w, i32_w]
               rfl
              refine pure_ (i := 13) (N := some 6) (v := ?_) (a' := ?_) #[true, true, true, true, true, true, true, true, true, true, true, true, true, true, false] rfl rfl (any_of HT_.out (by kernel_rfl)) (fun _ _ _ h => h) (Or.inl ⟨by rfl, ?_⟩) ?_ ?_
              rotate_left
              ·intro w'
               go_simp
               with_reducible rfl
              rotate_left
              ·simp only [Act.put, List.setIfInBounds_toArray, List.set_cons_zero, List.set_cons_succ, i64_w, i32_w]
               rfl
              refine pure_ (i := 14) (N := some 7) (v := ?_) (a' := ?_) #[true, true, true, true, true, true, true, true, true, true, true, true, true, true, true] rfl rfl (any_of HT_.out (by kernel_rfl)) (fun _ _ _ h => h) (Or.inl ⟨by rfl, ?_⟩) ?_ ?_
              rotate_left
              ·intro w'
               go_simp
               with_reducible rfl
              rotate_left
              ·simp only [Act.put, List.setIfInBounds_toArray, List.set_cons_zero, List.set_cons_succ, i64_w, i32_w]
               rfl
              refine done_ (done_of HT_.out (by kernel_rfl)) ?_
              have hcz37_0 : w36.cell? ⟨gb1271, 0, none⟩ = some (.slice Ao24 t1264.length co24) := (blk_cell BK1271.out 0).trans rfl
              have hcz37_1 : w36.cell? ⟨gb1271, 1, none⟩ = some (.int .i64 t1267) := (blk_cell BK1271.out 1).trans rfl
              have hcz37_2 : w36.cell? ⟨gb1271, 2, none⟩ = some (.slice (some ad1281) t1268.length co26) := (blk_cell BK1271.out 2).trans rfl
              have hfz37_0 := blk_frozen BK1271.out 0
              have hfz37_1 := blk_frozen BK1271.out 1
              have hfz37_2 := blk_frozen BK1271.out 2
              try go_wp2_with (first | ((with_reducible refine gate_callee (f := 35) rfl ?_); refine goesL_ (some 32) rfl rfl Try.func35 (by kernel_rfl) rfl #[.agg #[.slice Ao24 t1264.length co24, .int .i64 t1267, .slice (some ad1281) t1268.length co26]] rfl (by (try simp only [List.map_toArray, List.map_cons, List.map_nil]); first | done | rfl | (simp only [List.length_drop, List.length_take]; rfl)) ?_; (with_reducible refine (impl_WrongSteps.calls k _ _ t1264 t1267 _ _ t1268 t1290 _ ?side1 ?side2 ?side3 ?side4 A10.out).mono ?_); (case side1 => repeat (first | exact (Kd.R_reads' HO1266.out).2.2 | (with_reducible refine Kd.C_alloc ?_ _) | (with_reducible refine Kd.C_drewN ?_ _) | (with_reducible refine Kd.C_drew ?_))); (case side2 => exact (Kd.R_reads' HO1266.out).2.1); (case side3 => repeat (first | exact (Kd.R_reads' HO1270.out).2.2 | (with_reducible refine Kd.C_alloc ?_ _) | (with_reducible refine Kd.C_drewN ?_ _) | (with_reducible refine Kd.C_drew ?_))); (case side4 => exact (Kd.R_reads' HO1270.out).2.1); rintro e w38 ⟨v1291, rfl, ho0, hb⟩; refine ⟨_, rfl, ?_⟩; have n0_ := Aside0.mk (Kd.R_below (oR HO1266) hb); have n1_ := Aside0.mk (Kd.R_elder' (oR HO1270) (Kd.R_base ho0) hb); have n2_ := Aside0.mk (Kd.R_below (oR HO1274) hb); have n3_ := Aside0.mk (Kd.R_elder' (oR HO1278) (Kd.R_base ho0) hb); have n4_ := Aside0.mk (Kd.R_elder' (oR HO1289) (Kd.R_base ho0) hb); have n5_ := Aside0.mk (Kd.R_lower (Kd.R_new' (Kd.R_new' (Kd.R_new' ho0 (Kd.R_lt (oR HO1270))) (Kd.R_lt (oR HO1278))) (Kd.R_lt (oR HO1289))) (below_size (oB HB))); have n6_ := Aside0.mk (blk_below (g := gb1271) (o := .cells #[.slice Ao24 t1264.length co24, .int .i64 t1267, .slice (some ad1281) t1268.length co26] 30 (0, 0)) (oK BK1271) hb); have n7_ := Aside0.mk (blk_below (g := gb1280) (o := .cells #[.slice Ao29 t1272.length co29, .int .i64 t1275, .slice Ao32 t1276.length co32] 30 (0, 0)) (oK BK1280) hb); have n8_ := Aside0.mk (Kd.C_below (by repeat (first | (with_reducible exact HR1285.out) | (with_reducible refine Kd.C_alloc ?_ _) | (with_reducible refine Kd.C_drewN ?_ _) | (with_reducible refine Kd.C_drew ?_) | exact HR1285.out)) hb); have n9_ := Aside0.mk (below_step (oB HB) hb); clear HO1266; clear HO1270; clear HO1274; clear HO1278; clear HO1289; clear BK1271; clear BK1280; clear HR1285; clear HB; have HO1266 := n0_; have HO1270 := n1_; have HO1274 := n2_; have HO1278 := n3_; have HO1289 := n4_; have HO1292 := n5_; have BK1271 := n6_; have BK1280 := n7_; have HR1285 := n8_; have HB := n9_; clear n0_ n1_ n2_ n3_ n4_ n5_ n6_ n7_ n8_ n9_; (try clear hb); (try clear hb2); (try clear hk); (try clear hi); (try clear ho0); have hcz39_0 : w38.cell? ⟨gb1280, 0, none⟩ = some (.slice Ao29 t1272.length co29) := (blk_cell BK1280.out 0).trans rfl; have hcz39_1 : w38.cell? ⟨gb1280, 1, none⟩ = some (.int .i64 t1275) := (blk_cell BK1280.out 1).trans rfl; have hcz39_2 : w38.cell? ⟨gb1280, 2, none⟩ = some (.slice Ao32 t1276.length co32) := (blk_cell BK1280.out 2).trans rfl; have hfz39_0 := blk_frozen BK1280.out 0; have hfz39_1 := blk_frozen BK1280.out 1; have hfz39_2 := blk_frozen BK1280.out 2) | (go_at_call 35; (with_reducible refine (impl_WrongSteps.calls k _ _ t1272 t1275 _ _ t1276 t1293 _ ?side1 ?side2 ?side3 ?side4 A12.out).mono ?_); (case side1 => repeat (first | exact (Kd.R_reads' HO1274.out).2.2 | (with_reducible refine Kd.C_alloc ?_ _) | (with_reducible refine Kd.C_drewN ?_ _) | (with_reducible refine Kd.C_drew ?_))); (case side2 => exact (Kd.R_reads' HO1274.out).2.1); (case side3 => repeat (first | exact (Kd.R_reads' HO1278.out).2.2 | (with_reducible refine Kd.C_alloc ?_ _) | (with_reducible refine Kd.C_drewN ?_ _) | (with_reducible refine Kd.C_drew ?_))); (case side4 => exact (Kd.R_reads' HO1278.out).2.1); rintro e w40 ⟨v1294, rfl, ho0, hb⟩; have n0_ := Aside0.mk (Kd.R_below (oR HO1266) hb); have n1_ := Aside0.mk (Kd.R_elder' (oR HO1270) (Kd.R_base ho0) hb); have n2_ := Aside0.mk (Kd.R_below (oR HO1274) hb); have n3_ := Aside0.mk (Kd.R_elder' (oR HO1278) (Kd.R_base ho0) hb); have n4_ := Aside0.mk (Kd.R_elder' (oR HO1289) (Kd.R_base ho0) hb); have n5_ := Aside0.mk (Kd.R_elder' (oR HO1292) (Kd.R_base ho0) hb); have n6_ := Aside0.mk (Kd.R_lower (Kd.R_new' (Kd.R_new' (Kd.R_new' (Kd.R_new' ho0 (Kd.R_lt (oR HO1270))) (Kd.R_lt (oR HO1278))) (Kd.R_lt (oR HO1289))) (Kd.R_lt (oR HO1292))) (below_size (oB HB))); have n7_ := Aside0.mk (blk_below (g := gb1271) (o := .cells #[.slice Ao24 t1264.length co24, .int .i64 t1267, .slice (some ad1281) t1268.length co26] 30 (0, 0)) (oK BK1271) hb); have n8_ := Aside0.mk (blk_below (g := gb1280) (o := .cells #[.slice Ao29 t1272.length co29, .int .i64 t1275, .slice Ao32 t1276.length co32] 30 (0, 0)) (oK BK1280) hb); have n9_ := Aside0.mk (Kd.C_below (by repeat (first | (with_reducible exact HR1285.out) | (with_reducible refine Kd.C_alloc ?_ _) | (with_reducible refine Kd.C_drewN ?_ _) | (with_reducible refine Kd.C_drew ?_) | exact HR1285.out)) hb); have n10_ := Aside0.mk (below_step (oB HB) hb); clear HO1266; clear HO1270; clear HO1274; clear HO1278; clear HO1289; clear HO1292; clear BK1271; clear BK1280; clear HR1285; clear HB; have HO1266 := n0_; have HO1270 := n1_; have HO1274 := n2_; have HO1278 := n3_; have HO1289 := n4_; have HO1292 := n5_; have HO1295 := n6_; have BK1271 := n7_; have BK1280 := n8_; have HR1285 := n9_; have HB := n10_; clear n0_ n1_ n2_ n3_ n4_ n5_ n6_ n7_ n8_ n9_ n10_; (try clear hb); (try clear hb2); (try clear hk); (try clear hi); (try clear ho0); obtain ⟨Ao41, co41, eo41⟩ := Kd.R_slice HO1295.out; subst eo41; have hcz42_0 : w40.cell? ⟨gb1280, 0, none⟩ = some (.slice Ao29 t1272.length co29) := (blk_cell BK1280.out 0).trans rfl; have hcz42_1 : w40.cell? ⟨gb1280, 1, none⟩ = some (.int .i64 t1275) := (blk_cell BK1280.out 1).trans rfl; have hcz42_2 : w40.cell? ⟨gb1280, 2, none⟩ = some (.slice Ao32 t1276.length co32) := (blk_cell BK1280.out 2).trans rfl; have hfz42_0 := blk_frozen BK1280.out 0; have hfz42_1 := blk_frozen BK1280.out 1; have hfz42_2 := blk_frozen BK1280.out 2; obtain ⟨Ao43, co43, eo43⟩ := Kd.R_slice HO1289.out; subst eo43) | (go_at_call 51; (with_reducible refine (laws_sameInts.calls k _ _ t1276 _ _ t1286 true _ ?side1 ?side2 ?side3 ?side4 A14.out).mono ?_); (case side1 => repeat (first | exact (Kd.R_reads' HO1278.out).2.2 | (with_reducible refine Kd.C_alloc ?_ _) | (with_reducible refine Kd.C_drewN ?_ _) | (with_reducible refine Kd.C_drew ?_))); (case side2 => exact (Kd.R_reads' HO1278.out).2.1); (case side3 => repeat (first | exact (Kd.R_reads' HO1289.out).2.2 | (with_reducible refine Kd.C_alloc ?_ _) | (with_reducible refine Kd.C_drewN ?_ _) | (with_reducible refine Kd.C_drew ?_))); (case side4 => exact (Kd.R_reads' HO1289.out).2.1); rintro e w' ⟨rfl, ⟨nd, rfl⟩⟩; have hcz44_0 : w40.cell? ⟨gb1271, 0, none⟩ = some (.slice Ao24 t1264.length co24) := (blk_cell BK1271.out 0).trans rfl; have hcz44_1 : w40.cell? ⟨gb1271, 1, none⟩ = some (.int .i64 t1267) := (blk_cell BK1271.out 1).trans rfl; have hcz44_2 : w40.cell? ⟨gb1271, 2, none⟩ = some (.slice (some ad1281) t1268.length co26) := (blk_cell BK1271.out 2).trans rfl; have hfz44_0 := blk_frozen BK1271.out 0; have hfz44_1 := blk_frozen BK1271.out 1; have hfz44_2 := blk_frozen BK1271.out 2; obtain ⟨Ao45, co45, eo45⟩ := Kd.R_slice HO1292.out; subst eo45))
              go_ret
              exact ⟨by first | rfl | (simp [errW_none, errW_some] <;> rfl) | (simp [*, errW_none, errW_some] <;> rfl), oB HB⟩
             ·rw [if_neg c21] at H
              have c21b0 : decide (t1267 < 11) = false := decide_eq_false c21
              clear c21
              replace H := Option.bind_eq_some_iff.mp H
              obtain ⟨t1297, A460, H⟩ := H
              (try dsimp only at H)
              have A46 := Aside0.mk A460
              clear A460
              obtain rfl := Option.some.inj H
              go_enter Try.func14, Try.ntmps14
              try go_wp2_with (first | ((with_reducible refine gate_callee (f := 47) rfl ?_); refine goesL_ (some 10) rfl rfl Try.func47 (by kernel_rfl) rfl #[.slice A0 l0.length c0] rfl (by (try simp only [List.map_toArray, List.map_cons, List.map_nil]); first | done | rfl | (simp only [List.length_drop, List.length_take]; rfl)) ?_; (with_reducible refine (laws_big.calls _ _ l0 false _ ?side1 ?side2 A2.out).mono ?_); (case side1 => repeat (first | exact HR0.out | (with_reducible refine Kd.C_alloc ?_ _) | (with_reducible refine Kd.C_drewN ?_ _) | (with_reducible refine Kd.C_drew ?_))); (case side2 => exact HC0.out); rintro e w' ⟨rfl, ⟨nd, rfl⟩⟩; refine ⟨_, rfl, ?_⟩) | ((with_reducible refine gate_callee (f := 52) rfl ?_); refine goesL_ (some 12) rfl rfl Try.func52 (by kernel_rfl) rfl #[.slice A0 l0.length c0] rfl (by (try simp only [List.map_toArray, List.map_cons, List.map_nil]); first | done | rfl | (simp only [List.length_drop, List.length_take]; rfl)) ?_; (with_reducible refine (spec_DrawKnocked.calls k _ _ l0 t1264 t1267 t1268 _ ?side1 ?side2 A4.out).mono ?_); (case side1 => repeat (first | exact HR0.out | (with_reducible refine Kd.C_alloc ?_ _) | (with_reducible refine Kd.C_drewN ?_ _) | (with_reducible refine Kd.C_drew ?_))); (case side2 => exact HC0.out); rintro e w47 ⟨v1265, v1269, rfl, ho0, ho1, hb⟩; refine ⟨_, rfl, ?_⟩; have n0_ := Aside0.mk (Kd.R_lower ho0 (below_size (oB HB))); have n1_ := Aside0.mk (Kd.R_lower ho1 (below_size (oB HB))); have n2_ := Aside0.mk (below_step (oB HB) hb); clear HB; have HO1266 := n0_; have HO1270 := n1_; have HB := n2_; clear n0_ n1_ n2_; (try clear hb); (try clear hb2); (try clear hk); (try clear hi); (try clear ho0); (try clear ho1)) | ((with_reducible refine gate_dst (N := 3) rfl ?_); (try (refine gate_guard (by rfl) ?_; dsimp only)); refine box_event ?hg (N := 3) ?hd (cs := #[.slice none 0 0, .int .i64 0, .slice none 0 0]) (t := 30) ?hr ?_; (case hd => rfl); (case hg => rfl); (case hr => first | (go_simp; done) | (go_simp; rfl)); intro gb1271 hg w48 hbox hb; have n0_ := Aside0.mk (Kd.R_below (oR HO1266) hb); have n1_ := Aside0.mk (Kd.R_below (oR HO1270) hb); have n2_ := Aside0.mk (below_step (oB HB) hb); have n3_ := Aside0.mk (hbox); have n4_ := Aside0.mk ((by rw [hg]; exact (below_size (oB HB)) : w.heap.size ≤ gb1271)); have n5_ := Aside0.mk ((by rw [hg]; exact (below_size (oB HB)) : w.heap.size ≤ gb1271)); clear HO1266; clear HO1270; clear HB; have HO1266 := n0_; have HO1270 := n1_; have HB := n2_; have BK1271 := n3_; have GW1271 := n4_; have GE1271 := n5_; clear n0_ n1_ n2_ n3_ n4_ n5_; clear hb hbox hg; obtain ⟨Ao49, co49, eo49⟩ := Kd.R_slice HO1266.out; subst eo49; have hcz50_0 : w48.cell? ⟨gb1271, 0, none⟩ = some (.slice none 0 0) := (blk_cell BK1271.out 0).trans rfl; have hcz50_1 : w48.cell? ⟨gb1271, 1, none⟩ = some (.int .i64 0) := (blk_cell BK1271.out 1).trans rfl; have hcz50_2 : w48.cell? ⟨gb1271, 2, none⟩ = some (.slice none 0 0) := (blk_cell BK1271.out 2).trans rfl; have hfz50_0 := blk_frozen BK1271.out 0; have hfz50_1 := blk_frozen BK1271.out 1; have hfz50_2 := blk_frozen BK1271.out 2; obtain ⟨Ao51, co51, eo51⟩ := Kd.R_slice HO1270.out; subst eo51) | ((with_reducible refine gate_callee (f := 46) rfl ?_); refine goesL_ (some 15) rfl rfl Try.func46 (by kernel_rfl) rfl #[.agg #[.slice Ao49 t1264.length co49, .int .i64 t1267, .slice Ao51 t1268.length co51]] rfl (by (try simp only [List.map_toArray, List.map_cons, List.map_nil]); first | done | rfl | (simp only [List.length_drop, List.length_take]; rfl)) ?_; (with_reducible refine (impl_MendAll.calls k _ _ t1264 t1267 _ _ t1268 t1272 t1275 t1276 t1279 _ ?side1 ?side2 ?side3 ?side4 A5.out).mono ?_); (case side1 => refine (Kd.R_reads' (e := 67) (base := w.heap.size) (ok := fun k_ => True) (n := t1264.length) (c := co49) ?_).2.2; exact (by (with_reducible repeat (first | apply Kd.R_alloc | apply Kd.R_drewN | apply Kd.R_drew)); exact (Kd.R_mono (Kd.R_far (p := ⟨gb1271, 2, none⟩) (Kd.R_far (p := ⟨gb1271, 1, none⟩) (Kd.R_far (p := ⟨gb1271, 0, none⟩) (Kd.R_types HO1266.out BK1271.out (by decide)) (fun _ hk => hk.2) (.slice Ao49 t1264.length co49)) (fun _ hk => hk.2) (.int .i64 t1267)) (fun _ hk => hk.2) (.slice Ao51 t1268.length co51)) (fun _ h_ => h_.1)))); (case side2 => exact (Kd.R_reads' HO1266.out).2.1); (case side3 => refine (Kd.R_reads' (e := 3) (base := w.heap.size) (ok := fun k_ => True) (n := t1268.length) (c := co51) ?_).2.2; exact (by (with_reducible repeat (first | apply Kd.R_alloc | apply Kd.R_drewN | apply Kd.R_drew)); exact (Kd.R_mono (Kd.R_far (p := ⟨gb1271, 2, none⟩) (Kd.R_far (p := ⟨gb1271, 1, none⟩) (Kd.R_far (p := ⟨gb1271, 0, none⟩) (Kd.R_types HO1270.out BK1271.out (by decide)) (fun _ hk => hk.2) (.slice Ao49 t1264.length co49)) (fun _ hk => hk.2) (.int .i64 t1267)) (fun _ hk => hk.2) (.slice Ao51 t1268.length co51)) (fun _ h_ => h_.1)))); (case side4 => exact (Kd.R_reads' HO1270.out).2.1); rintro e w52 ⟨v1273, v1277, rfl, ho0, ho1, hb⟩; refine ⟨_, rfl, ?_⟩; have n0_ := Aside0.mk (Kd.R_elder' (by (with_reducible repeat (first | apply Kd.R_alloc | apply Kd.R_drewN | apply Kd.R_drew)); exact (Kd.R_mono (Kd.R_far (p := ⟨gb1271, 2, none⟩) (Kd.R_far (p := ⟨gb1271, 1, none⟩) (Kd.R_far (p := ⟨gb1271, 0, none⟩) (Kd.R_types HO1266.out BK1271.out (by decide)) (fun _ hk => hk.2) (.slice Ao49 t1264.length co49)) (fun _ hk => hk.2) (.int .i64 t1267)) (fun _ hk => hk.2) (.slice Ao51 t1268.length co51)) (fun _ h_ => h_.1))) (Kd.R_base ho0) hb); have n1_ := Aside0.mk (Kd.R_elder' (by (with_reducible repeat (first | apply Kd.R_alloc | apply Kd.R_drewN | apply Kd.R_drew)); exact (Kd.R_mono (Kd.R_far (p := ⟨gb1271, 2, none⟩) (Kd.R_far (p := ⟨gb1271, 1, none⟩) (Kd.R_far (p := ⟨gb1271, 0, none⟩) (Kd.R_types HO1270.out BK1271.out (by decide)) (fun _ hk => hk.2) (.slice Ao49 t1264.length co49)) (fun _ hk => hk.2) (.int .i64 t1267)) (fun _ hk => hk.2) (.slice Ao51 t1268.length co51)) (fun _ h_ => h_.1))) (Kd.R_base ho1) hb); have n2_ := Aside0.mk (Kd.R_lower (Kd.R_new' ho0 (Kd.R_lt (by (with_reducible repeat (first | apply Kd.R_alloc | apply Kd.R_drewN | apply Kd.R_drew)); exact (Kd.R_mono (Kd.R_far (p := ⟨gb1271, 2, none⟩) (Kd.R_far (p := ⟨gb1271, 1, none⟩) (Kd.R_far (p := ⟨gb1271, 0, none⟩) (Kd.R_types HO1266.out BK1271.out (by decide)) (fun _ hk => hk.2) (.slice Ao49 t1264.length co49)) (fun _ hk => hk.2) (.int .i64 t1267)) (fun _ hk => hk.2) (.slice Ao51 t1268.length co51)) (fun _ h_ => h_.1))))) (below_size (oB HB))); have n3_ := Aside0.mk (Kd.R_lower (Kd.R_new' ho1 (Kd.R_lt (by (with_reducible repeat (first | apply Kd.R_alloc | apply Kd.R_drewN | apply Kd.R_drew)); exact (Kd.R_mono (Kd.R_far (p := ⟨gb1271, 2, none⟩) (Kd.R_far (p := ⟨gb1271, 1, none⟩) (Kd.R_far (p := ⟨gb1271, 0, none⟩) (Kd.R_types HO1270.out BK1271.out (by decide)) (fun _ hk => hk.2) (.slice Ao49 t1264.length co49)) (fun _ hk => hk.2) (.int .i64 t1267)) (fun _ hk => hk.2) (.slice Ao51 t1268.length co51)) (fun _ h_ => h_.1))))) (below_size (oB HB))); have n4_ := Aside0.mk (blk_below (g := gb1271) (o := .cells #[.slice Ao49 t1264.length co49, .int .i64 t1267, .slice Ao51 t1268.length co51] 30 (0, 0)) (by (with_reducible repeat (first | refine blk_drewN ?_ _ | refine blk_drew ?_ | refine blk_alloc ?_ _)); refine blk_put (cs := #[.slice Ao49 t1264.length co49, .int .i64 t1267, .slice none 0 0]) ?_ 2 _ rfl; (with_reducible repeat (first | refine blk_drewN ?_ _ | refine blk_drew ?_ | refine blk_alloc ?_ _)); refine blk_put (cs := #[.slice Ao49 t1264.length co49, .int .i64 0, .slice none 0 0]) ?_ 1 _ rfl; (with_reducible repeat (first | refine blk_drewN ?_ _ | refine blk_drew ?_ | refine blk_alloc ?_ _)); refine blk_put (cs := #[.slice none 0 0, .int .i64 0, .slice none 0 0]) ?_ 0 _ rfl; (with_reducible repeat (first | refine blk_drewN ?_ _ | refine blk_drew ?_ | refine blk_alloc ?_ _)); exact BK1271.out) hb); have n5_ := Aside0.mk (below_step (oB HB) hb); clear HO1266; clear HO1270; clear BK1271; clear HB; have HO1266 := n0_; have HO1270 := n1_; have HO1274 := n2_; have HO1278 := n3_; have BK1271 := n4_; have HB := n5_; clear n0_ n1_ n2_ n3_ n4_ n5_; (try clear hb); (try clear hb2); (try clear hk); (try clear hi); (try clear ho0); (try clear ho1)) | ((with_reducible refine gate_dst (N := 4) rfl ?_); (try (refine gate_guard (by rfl) ?_; dsimp only)); refine box_event ?hg (N := 4) ?hd (cs := #[.slice none 0 0, .int .i64 0, .slice none 0 0]) (t := 30) ?hr ?_; (case hd => rfl); (case hg => rfl); (case hr => first | (go_simp; done) | (go_simp; rfl)); intro gb1280 hg w53 hbox hb; have n0_ := Aside0.mk (Kd.R_below (oR HO1266) hb); have n1_ := Aside0.mk (Kd.R_below (oR HO1270) hb); have n2_ := Aside0.mk (Kd.R_below (oR HO1274) hb); have n3_ := Aside0.mk (Kd.R_below (oR HO1278) hb); have n4_ := Aside0.mk (blk_below (g := gb1271) (o := .cells #[.slice Ao49 t1264.length co49, .int .i64 t1267, .slice Ao51 t1268.length co51] 30 (0, 0)) (oK BK1271) hb); have n5_ := Aside0.mk (below_step (oB HB) hb); have n6_ := Aside0.mk (hbox); have n7_ := Aside0.mk ((by rw [hg]; exact (below_size (oB HB)) : w.heap.size ≤ gb1280)); have n8_ := Aside0.mk ((by rw [hg]; exact (below_size (oB HB)) : w.heap.size ≤ gb1280)); have n9_ := Aside0.mk ((by rw [hg]; exact Nat.ne_of_lt (blk_lt (g := gb1271) (o := .cells #[.slice Ao49 t1264.length co49, .int .i64 t1267, .slice Ao51 t1268.length co51] 30 (0, 0)) (oK BK1271)) : gb1271 ≠ gb1280)); have n10_ := Aside0.mk ((by rw [hg]; exact Nat.ne_of_gt (blk_lt (g := gb1271) (o := .cells #[.slice Ao49 t1264.length co49, .int .i64 t1267, .slice Ao51 t1268.length co51] 30 (0, 0)) (oK BK1271)) : gb1280 ≠ gb1271)); clear HO1266; clear HO1270; clear HO1274; clear HO1278; clear BK1271; clear HB; have HO1266 := n0_; have HO1270 := n1_; have HO1274 := n2_; have HO1278 := n3_; have BK1271 := n4_; have HB := n5_; have BK1280 := n6_; have GW1280 := n7_; have GE1280 := n8_; have NB1271_1280 := n9_; have NB1280_1271 := n10_; clear n0_ n1_ n2_ n3_ n4_ n5_ n6_ n7_ n8_ n9_ n10_; clear hb hbox hg; obtain ⟨Ao54, co54, eo54⟩ := Kd.R_slice HO1274.out; subst eo54; have hnb55 := NB1280_1271.out; have hnc55 := NB1271_1280.out; have hcz56_0 : w53.cell? ⟨gb1280, 0, none⟩ = some (.slice none 0 0) := (blk_cell BK1280.out 0).trans rfl; have hcz56_1 : w53.cell? ⟨gb1280, 1, none⟩ = some (.int .i64 0) := (blk_cell BK1280.out 1).trans rfl; have hcz56_2 : w53.cell? ⟨gb1280, 2, none⟩ = some (.slice none 0 0) := (blk_cell BK1280.out 2).trans rfl; have hfz56_0 := blk_frozen BK1280.out 0; have hfz56_1 := blk_frozen BK1280.out 1; have hfz56_2 := blk_frozen BK1280.out 2; obtain ⟨Ao57, co57, eo57⟩ := Kd.R_slice HO1278.out; subst eo57))
              have n0_ : Aside0 (Kd.R k67 67 (((w53.setCell ⟨gb1280, 0, none⟩ (.slice Ao54 t1272.length co54)).setCell ⟨gb1280, 1, none⟩ (.int .i64 t1275)).setCell ⟨gb1280, 2, none⟩ (.slice Ao57 t1276.length co57)) w.heap.size (fun k_ => some k_ ≠ (.slice Ao54 t1272.length co54 : Value).ownBlock) (.slice Ao49 t1264.length co49) t1264) := ⟨by (with_reducible repeat (first | apply Kd.R_alloc | apply Kd.R_drewN | apply Kd.R_drew)); exact Kd.R_mono (Kd.R_far (p := ⟨gb1280, 2, none⟩) (Kd.R_far (p := ⟨gb1280, 1, none⟩) (Kd.R_far (p := ⟨gb1280, 0, none⟩) (Kd.R_types HO1266.out BK1280.out (by decide)) (fun _ hk => hk.2) (.slice Ao54 t1272.length co54)) (fun _ hk => hk.2) (.int .i64 t1275)) (fun _ hk => hk.2) (.slice Ao57 t1276.length co57)) (fun _ hk => hk.1.2)⟩
              have n1_ : Aside0 (Kd.R (Kd.int .i64) 3 (((w53.setCell ⟨gb1280, 0, none⟩ (.slice Ao54 t1272.length co54)).setCell ⟨gb1280, 1, none⟩ (.int .i64 t1275)).setCell ⟨gb1280, 2, none⟩ (.slice Ao57 t1276.length co57)) w.heap.size (fun k_ => some k_ ≠ (.slice Ao57 t1276.length co57 : Value).ownBlock) (.slice Ao51 t1268.length co51) t1268) := ⟨by (with_reducible repeat (first | apply Kd.R_alloc | apply Kd.R_drewN | apply Kd.R_drew)); exact Kd.R_mono (Kd.R_far (p := ⟨gb1280, 2, none⟩) (Kd.R_far (p := ⟨gb1280, 1, none⟩) (Kd.R_far (p := ⟨gb1280, 0, none⟩) (Kd.R_types HO1270.out BK1280.out (by decide)) (fun _ hk => hk.2) (.slice Ao54 t1272.length co54)) (fun _ hk => hk.2) (.int .i64 t1275)) (fun _ hk => hk.2) (.slice Ao57 t1276.length co57)) (fun _ hk => hk.1.2)⟩
              have n2_ : Aside0 (Kd.R k67 67 (((w53.setCell ⟨gb1280, 0, none⟩ (.slice Ao54 t1272.length co54)).setCell ⟨gb1280, 1, none⟩ (.int .i64 t1275)).setCell ⟨gb1280, 2, none⟩ (.slice Ao57 t1276.length co57)) w.heap.size (fun k_ => some k_ ≠ (.slice Ao49 t1264.length co49 : Value).ownBlock) (.slice Ao54 t1272.length co54) t1272) := ⟨by (with_reducible repeat (first | apply Kd.R_alloc | apply Kd.R_drewN | apply Kd.R_drew)); exact Kd.R_mono (Kd.R_far (p := ⟨gb1280, 2, none⟩) (Kd.R_far (p := ⟨gb1280, 1, none⟩) (Kd.R_far (p := ⟨gb1280, 0, none⟩) (Kd.R_types HO1274.out BK1280.out (by decide)) (fun _ hk => hk.2) (.slice Ao54 t1272.length co54)) (fun _ hk => hk.2) (.int .i64 t1275)) (fun _ hk => hk.2) (.slice Ao57 t1276.length co57)) (fun _ hk => hk.1.2)⟩
              have n3_ : Aside0 (Kd.R (Kd.int .i64) 3 (((w53.setCell ⟨gb1280, 0, none⟩ (.slice Ao54 t1272.length co54)).setCell ⟨gb1280, 1, none⟩ (.int .i64 t1275)).setCell ⟨gb1280, 2, none⟩ (.slice Ao57 t1276.length co57)) w.heap.size (fun k_ => some k_ ≠ (.slice Ao51 t1268.length co51 : Value).ownBlock) (.slice Ao57 t1276.length co57) t1276) := ⟨by (with_reducible repeat (first | apply Kd.R_alloc | apply Kd.R_drewN | apply Kd.R_drew)); exact Kd.R_mono (Kd.R_far (p := ⟨gb1280, 2, none⟩) (Kd.R_far (p := ⟨gb1280, 1, none⟩) (Kd.R_far (p := ⟨gb1280, 0, none⟩) (Kd.R_types HO1278.out BK1280.out (by decide)) (fun _ hk => hk.2) (.slice Ao54 t1272.length co54)) (fun _ hk => hk.2) (.int .i64 t1275)) (fun _ hk => hk.2) (.slice Ao57 t1276.length co57)) (fun _ hk => hk.1.2)⟩
              have n4_ : Aside0 ((((w53.setCell ⟨gb1280, 0, none⟩ (.slice Ao54 t1272.length co54)).setCell ⟨gb1280, 1, none⟩ (.int .i64 t1275)).setCell ⟨gb1280, 2, none⟩ (.slice Ao57 t1276.length co57)).heap[gb1271]? = some (.cells #[.slice Ao49 t1264.length co49, .int .i64 t1267, .slice Ao51 t1268.length co51] 30 (0, 0))) := ⟨by (with_reducible repeat (first | refine blk_drewN ?_ _ | refine blk_drew ?_ | refine blk_alloc ?_ _)); refine blk_far ?_ NB1271_1280.out _; (with_reducible repeat (first | refine blk_drewN ?_ _ | refine blk_drew ?_ | refine blk_alloc ?_ _)); refine blk_far ?_ NB1271_1280.out _; (with_reducible repeat (first | refine blk_drewN ?_ _ | refine blk_drew ?_ | refine blk_alloc ?_ _)); refine blk_far ?_ NB1271_1280.out _; (with_reducible repeat (first | refine blk_drewN ?_ _ | refine blk_drew ?_ | refine blk_alloc ?_ _)); exact BK1271.out⟩
              have n5_ : Aside0 ((((w53.setCell ⟨gb1280, 0, none⟩ (.slice Ao54 t1272.length co54)).setCell ⟨gb1280, 1, none⟩ (.int .i64 t1275)).setCell ⟨gb1280, 2, none⟩ (.slice Ao57 t1276.length co57)).heap[gb1280]? = some (.cells #[.slice Ao54 t1272.length co54, .int .i64 t1275, .slice Ao57 t1276.length co57] 30 (0, 0))) := ⟨by (with_reducible repeat (first | refine blk_drewN ?_ _ | refine blk_drew ?_ | refine blk_alloc ?_ _)); refine blk_put (cs := #[.slice Ao54 t1272.length co54, .int .i64 t1275, .slice none 0 0]) ?_ 2 _ rfl; (with_reducible repeat (first | refine blk_drewN ?_ _ | refine blk_drew ?_ | refine blk_alloc ?_ _)); refine blk_put (cs := #[.slice Ao54 t1272.length co54, .int .i64 0, .slice none 0 0]) ?_ 1 _ rfl; (with_reducible repeat (first | refine blk_drewN ?_ _ | refine blk_drew ?_ | refine blk_alloc ?_ _)); refine blk_put (cs := #[.slice none 0 0, .int .i64 0, .slice none 0 0]) ?_ 0 _ rfl; (with_reducible repeat (first | refine blk_drewN ?_ _ | refine blk_drew ?_ | refine blk_alloc ?_ _)); exact BK1280.out⟩
              have n6_ : Aside0 (Below w.heap.size w (((w53.setCell ⟨gb1280, 0, none⟩ (.slice Ao54 t1272.length co54)).setCell ⟨gb1280, 1, none⟩ (.int .i64 t1275)).setCell ⟨gb1280, 2, none⟩ (.slice Ao57 t1276.length co57))) := ⟨oB HB⟩
              (try clear HO1266)
              (try clear HO1270)
              (try clear HO1274)
              (try clear HO1278)
              (try clear BK1271)
              (try clear BK1280)
              (try clear HB)
              generalize (((w53.setCell ⟨gb1280, 0, none⟩ (.slice Ao54 t1272.length co54)).setCell ⟨gb1280, 1, none⟩ (.int .i64 t1275)).setCell ⟨gb1280, 2, none⟩ (.slice Ao57 t1276.length co57)) = w58 at n0_ n1_ n2_ n3_ n4_ n5_ n6_ ⊢
              have HO1266 := n0_
              have HO1270 := n1_
              have HO1274 := n2_
              have HO1278 := n3_
              have BK1271 := n4_
              have BK1280 := n5_
              have HB := n6_
              clear n0_ n1_ n2_ n3_ n4_ n5_ n6_
              have n0_ := Aside0.mk (Kd.R_drew HO1266.out)
              have n1_ := Aside0.mk (Kd.R_drew HO1270.out)
              have n2_ := Aside0.mk (Kd.R_drew HO1274.out)
              have n3_ := Aside0.mk (Kd.R_drew HO1278.out)
              have n4_ := Aside0.mk (blk_drew BK1271.out)
              have n5_ := Aside0.mk (blk_drew BK1280.out)
              have n6_ := Aside0.mk (below_drew1 HB.out)
              clear HO1266
              clear HO1270
              clear HO1274
              clear HO1278
              clear BK1271
              clear BK1280
              clear HB
              have HO1266 := n0_
              have HO1270 := n1_
              have HO1274 := n2_
              have HO1278 := n3_
              have BK1271 := n4_
              have BK1280 := n5_
              have HB := n6_
              clear n0_ n1_ n2_ n3_ n4_ n5_ n6_
              have p1281 : 0 ≤ (0 : Int) := (by omega)
              have q1281 : 0 < (t1268.length : Int) := of_decide_eq_true (by first | (with_reducible assumption) | assumption)
              obtain ⟨ad1281, e1281, hx1281_0⟩ := Kd.at_int (Kd.R_reads' HO1270.out).2.2 0 p1281 q1281
              cases e1281
              have qi1281 : (0 < t1268.length) = True := eq_true (by omega)
              (try rw [show ((0 : Int)).toNat = 0 from rfl] at hx1281_0)
              (try rw [Addr.add_zero'] at hx1281_0)
              replace p1281 := eq_true p1281
              replace q1281 := eq_true q1281
              have q60 : (t1267 : Int) ≤ ((t1264.length : Int) : Int) := of_decide_eq_true (by first | (with_reducible assumption) | assumption)
              obtain ⟨i060, hi060, _, hsz60, _⟩ := info_parts info67
              have hroom60 : t1264.length ≤ co49 := (Kd.R_reads' HO1266.out).2.1
              have hC60 : Kd.C k67 _ Ao49 t1264.length t1264 := (Kd.R_reads' HO1266.out).2.2
              have hcut60 := cut_to (P := Try.prog) 28 67 .i64 Try.underlying28 hi060 Ao49 t1264.length co49 t1267 (of_decide_eq_true (by first | (with_reducible assumption) | assumption)) q60 hroom60
              have hr60 := Kd.C_take (m := (t1267 : Int).toNat) hC60 (by omega)
              have hy60 : y1282.length = (t1267 : Int).toNat := (by rw [Ny1282.out, List.length_take]; omega)
              rw [← Ny1282.out] at hr60
              rw [← hy60] at hcut60
              have HR1285 := Aside0.mk hr60
              have HC1285 := Aside0.mk (show y1282.length ≤ co49 from by omega)
              clear hr60 hC60 hroom60 hi060 hsz60
              have KY60 := Aside0.mk hy60
              clear hy60
              have KL60 := Aside0.mk (show (t1267 : Int).toNat ≤ t1264.length from by omega)
              replace q60 := eq_true q60
              refine start_ (n := 15) (S := fun w' => w'.cell? ⟨gb1271, 0, none⟩ = some (.slice Ao49 t1264.length co49) ∧ w'.cell? ⟨gb1271, 1, none⟩ = some (.int .i64 t1267) ∧ w'.cell? ⟨gb1271, 2, none⟩ = some (.slice (some ad1281) t1268.length co51) ∧ w'.cell? ad1281 = some (.int .i64 (rd t1268 0))) (ds := []) #[false, false, false, false, false, false, false, false, false, false, false, false, false, false, false] (by kernel_rfl) rfl rfl ⟨(blk_cell BK1271.out 0).trans rfl, (blk_cell BK1271.out 1).trans rfl, (blk_cell BK1271.out 2).trans rfl, hx1281_0⟩ (fun hHeld => ?_); refine with_tabW laws_FnMends.tab5 laws_FnMends.bits5 (fun HT_ HW_ => ?_)
              generalize w58.drew = w59 at HO1266 HO1270 HO1274 HO1278 BK1271 BK1280 HB HR1285 hx1281_0 hHeld ⊢
              refine pure_ (i := 0) (N := some 19) (v := ?_) (a' := ?_) #[true, false, false, false, false, false, false, false, false, false, false, false, false, false, false] rfl rfl (any_of HT_.out (by kernel_rfl)) (fun _ _ _ h => h) (Or.inl ⟨by rfl, ?_⟩) ?_ ?_
              rotate_left
              ·intro w'
               go_simp
               with_reducible rfl
              rotate_left
              ·simp only [Act.put, List.setIfInBounds_toArray, List.set_cons_zero, List.set_cons_succ, i64_w, i32_w]
               rfl
              refine pure_ (i := 4) (N := some 23) (v := ?_) (a' := ?_) #[true, false, false, false, true, false, false, false, false, false, false, false, false, false, false] rfl rfl (any_of HT_.out (by kernel_rfl)) (fun _ _ _ h => h) (Or.inl ⟨by rfl, ?_⟩) ?_ ?_
              rotate_left
              ·intro w'
               go_simp
               with_reducible rfl
              rotate_left
              ·simp only [Act.put, List.setIfInBounds_toArray, List.set_cons_zero, List.set_cons_succ, i64_w, i32_w]
               rfl
              refine pure_ (i := 6) (N := some 25) (v := ?_) (a' := ?_) #[true, false, false, false, true, false, true, false, false, false, false, false, false, false, false] rfl rfl (any_of HT_.out (by kernel_rfl)) (fun _ _ _ h => h) (Or.inl ⟨by rfl, ?_⟩) ?_ ?_
              rotate_left
              ·intro w'
               go_simp
               with_reducible rfl
              rotate_left
              ·simp only [Act.put, List.setIfInBounds_toArray, List.set_cons_zero, List.set_cons_succ, i64_w, i32_w]
               rfl
              refine take_ (i := 1) (N := some 20) (v := ?_) (a' := ?_) #[true, true, false, false, true, false, true, false, false, false, false, false, false, false, false] rfl rfl (take_ofW HT_.out HW_.out (by kernel_rfl)) (fun _ _ _ h => h) (Or.inl ⟨by rfl, ?_⟩) hHeld ?_ ?_
              rotate_left
              ·rintro w' ⟨s0, s1, s2, s3⟩
               go_simp
               with_reducible rfl
              rotate_left
              ·simp only [Act.put, List.setIfInBounds_toArray, List.set_cons_zero, List.set_cons_succ, i64_w, i32_w]
               rfl
              refine pure_ (i := 2) (N := some 21) (v := ?_) (a' := ?_) #[true, true, true, false, true, false, true, false, false, false, false, false, false, false, false] rfl rfl (any_of HT_.out (by kernel_rfl)) (fun _ _ _ h => h) (Or.inl ⟨by rfl, ?_⟩) ?_ ?_
              rotate_left
              ·intro w'
               go_simp
               with_reducible rfl
              rotate_left
              ·simp only [Act.put, List.setIfInBounds_toArray, List.set_cons_zero, List.set_cons_succ, i64_w, i32_w]
               rfl
              refine take_ (i := 3) (N := some 22) (v := ?_) (a' := ?_) #[true, true, true, true, true, false, true, false, false, false, false, false, false, false, false] rfl rfl (take_ofW HT_.out HW_.out (by kernel_rfl)) (fun _ _ _ h => h) (Or.inl ⟨by rfl, ?_⟩) hHeld ?_ ?_
              rotate_left
              ·rintro w' ⟨s0, s1, s2, s3⟩
               go_simp
               with_reducible rfl
              rotate_left
              ·simp only [Act.put, List.setIfInBounds_toArray, List.set_cons_zero, List.set_cons_succ, i64_w, i32_w]
               rfl
              refine take_ (i := 5) (N := some 24) (v := ?_) (a' := ?_) #[true, true, true, true, true, true, true, false, false, false, false, false, false, false, false] rfl rfl (take_ofW HT_.out HW_.out (by kernel_rfl)) (fun _ _ _ h => h) (Or.inl ⟨by rfl, ?_⟩) hHeld ?_ ?_
              rotate_left
              ·rintro w' ⟨s0, s1, s2, s3⟩
               go_simp
               with_reducible rfl
              rotate_left
              ·simp only [Act.put, List.setIfInBounds_toArray, List.set_cons_zero, List.set_cons_succ, i64_w, i32_w]
               rfl
              refine take_ (i := 7) (N := some 26) (v := ?_) (a' := ?_) #[true, true, true, true, true, true, true, true, false, false, false, false, false, false, false] rfl rfl (take_ofW HT_.out HW_.out (by kernel_rfl)) (fun _ _ _ h => h) (Or.inl ⟨by rfl, ?_⟩) hHeld ?_ ?_
              rotate_left
              ·rintro w' ⟨s0, s1, s2, s3⟩
               go_simp
               with_reducible rfl
              rotate_left
              ·simp only [Act.put, List.setIfInBounds_toArray, List.set_cons_zero, List.set_cons_succ, i64_w, i32_w]
               rfl
              refine pure_ (i := 8) (N := some 27) (v := ?_) (a' := ?_) #[true, true, true, true, true, true, true, true, true, false, false, false, false, false, false] rfl rfl (any_of HT_.out (by kernel_rfl)) (fun _ _ _ h => h) (Or.inl ⟨by rfl, ?_⟩) ?_ ?_
              rotate_left
              ·intro w'
               go_simp
               with_reducible rfl
              rotate_left
              ·simp only [Act.put, List.setIfInBounds_toArray, List.set_cons_zero, List.set_cons_succ, i64_w, i32_w]
               rfl
              refine one_ (i := 9) (N := some 28) #[true, true, true, true, true, true, true, true, true, true, false, false, false, false, false] rfl rfl (one_of HT_.out (by kernel_rfl)) (by decide) (fun K hK => ?_)
              refine goes_ Try.func49 (by kernel_rfl) rfl #[.int .i64 (rd t1268 0), .slice Ao49 y1282.length co49] (by rfl) rfl rfl (by (try simp only [List.map_toArray, List.map_cons, List.map_nil]); first | done | rfl | (simp only [List.length_drop, List.length_take]; rfl)) ?_
              with_reducible refine (impl_RunPlan.calls k (rd t1268 0) _ _ y1282 t1286 true _ ?side1 ?side2 A9.out).mono ?_
              (case side1 => repeat (first | exact (by repeat (first | (with_reducible exact HR1285.out) | (with_reducible refine Kd.C_alloc ?_ _) | (with_reducible refine Kd.C_drewN ?_ _) | (with_reducible refine Kd.C_drew ?_) | exact HR1285.out)) | (with_reducible refine Kd.C_alloc ?_ _) | (with_reducible refine Kd.C_drewN ?_ _) | (with_reducible refine Kd.C_drew ?_)))
              (case side2 => exact HC1285.out)
              rintro e w61 ⟨v1288, rfl, ho0, hb⟩
              have HS3_ := (hb.cell (World.block_lt_of_cell? _ _ (hHeld.2.2.2))).trans (hHeld.2.2.2)
              refine ⟨_, rfl, ?_⟩
              have n0_ := Aside0.mk (Kd.R_below (oR HO1266) hb)
              have n1_ := Aside0.mk (Kd.R_elder' (oR HO1270) (Kd.R_base ho0) hb)
              have n2_ := Aside0.mk (Kd.R_below (oR HO1274) hb)
              have n3_ := Aside0.mk (Kd.R_elder' (oR HO1278) (Kd.R_base ho0) hb)
              have n4_ := Aside0.mk (Kd.R_lower (Kd.R_new' (Kd.R_new' ho0 (Kd.R_lt (oR HO1270))) (Kd.R_lt (oR HO1278))) (below_size (oB HB)))
              have n5_ := Aside0.mk (blk_below (g := gb1271) (o := .cells #[.slice Ao49 t1264.length co49, .int .i64 t1267, .slice (some ad1281) t1268.length co51] 30 (0, 0)) (oK BK1271) hb)
              have n6_ := Aside0.mk (blk_below (g := gb1280) (o := .cells #[.slice Ao54 t1272.length co54, .int .i64 t1275, .slice Ao57 t1276.length co57] 30 (0, 0)) (oK BK1280) hb)
              have n7_ := Aside0.mk (Kd.C_below (by repeat (first | (with_reducible exact HR1285.out) | (with_reducible refine Kd.C_alloc ?_ _) | (with_reducible refine Kd.C_drewN ?_ _) | (with_reducible refine Kd.C_drew ?_) | exact HR1285.out)) hb)
              have n8_ := Aside0.mk (below_step (oB HB) hb)
              clear HO1266
              clear HO1270
              clear HO1274
              clear HO1278
              clear BK1271
              clear BK1280
              clear HR1285
              clear HB
              have HO1266 := n0_
              have HO1270 := n1_
              have HO1274 := n2_
              have HO1278 := n3_
              have HO1289 := n4_
              have BK1271 := n5_
              have BK1280 := n6_
              have HR1285 := n7_
              have HB := n8_
              clear n0_ n1_ n2_ n3_ n4_ n5_ n6_ n7_ n8_
              (try clear hb)
              (try clear hb2)
              (try clear hk)
              (try clear hi)
              (try clear ho0)
              refine hK.out _ _ ⟨(blk_cell BK1271.out 0).trans rfl, (blk_cell BK1271.out 1).trans rfl, (blk_cell BK1271.out 2).trans rfl, HS3_⟩ (fun hHeld => ?_)
              clear hK K
              refine norm_ (a' := ?_) ?_ ?_
              rotate_left
              ·show Act.put _ (some 28) _ = _
               simp only [Act.put, List.setIfInBounds_toArray, List.set_cons_zero, List.set_cons_succ, i64_w, i32_w]
               rfl
              refine pure_ (i := 10) (N := some 18) (v := ?_) (a' := ?_) #[true, true, true, true, true, true, true, true, true, true, true, false, false, false, false] rfl rfl (any_of HT_.out (by kernel_rfl)) (fun _ _ _ h => h) (Or.inl ⟨by rfl, ?_⟩) ?_ ?_
              rotate_left
              ·intro w'
               go_simp
               with_reducible rfl
              rotate_left
              ·simp only [Act.put, List.setIfInBounds_toArray, List.set_cons_zero, List.set_cons_succ, i64_w, i32_w]
               rfl
              refine pure_ (i := 11) (N := some 29) (v := ?_) (a' := ?_) #[true, true, true, true, true, true, true, true, true, true, true, true, false, false, false] rfl rfl (any_of HT_.out (by kernel_rfl)) (fun _ _ _ h => h) (Or.inl ⟨by rfl, ?_⟩) ?_ ?_
              rotate_left
              ·intro w'
               go_simp
               with_reducible rfl
              rotate_left
              ·simp only [Act.put, List.setIfInBounds_toArray, List.set_cons_zero, List.set_cons_succ, i64_w, i32_w]
               rfl
              refine pure_ (i := 12) (N := some 30) (v := ?_) (a' := ?_) #[true, true, true, true, true, true, true, true, true, true, true, true, true, false, false] rfl rfl (any_of HT_.out (by kernel_rfl)) (fun _ _ _ h => h) (Or.inl ⟨by rfl, ?_⟩) ?_ ?_
              rotate_left
              ·intro w'
               go_simp
               with_reducible rfl
              rotate_left
              ·simp only [Act.put, List.setIfInBounds_toArray, List.set_cons_zero, List.set_cons_succ, i64_w, i32_w]
               rfl
              refine pure_ (i := 13) (N := some 6) (v := ?_) (a' := ?_) #[true, true, true, true, true, true, true, true, true, true, true, true, true, true, false] rfl rfl (any_of HT_.out (by kernel_rfl)) (fun _ _ _ h => h) (Or.inl ⟨by rfl, ?_⟩) ?_ ?_
              rotate_left
              ·intro w'
               go_simp
               with_reducible rfl
              rotate_left
              ·simp only [Act.put, List.setIfInBounds_toArray, List.set_cons_zero, List.set_cons_succ, i64_w, i32_w]
               rfl
              refine pure_ (i := 14) (N := some 7) (v := ?_) (a' := ?_) #[true, true, true, true, true, true, true, true, true, true, true, true, true, true, true] rfl rfl (any_of HT_.out (by kernel_rfl)) (fun _ _ _ h => h) (Or.inl ⟨by rfl, ?_⟩) ?_ ?_
              rotate_left
              ·intro w'
               go_simp
               with_reducible rfl
              rotate_left
              ·simp only [Act.put, List.setIfInBounds_toArray, List.set_cons_zero, List.set_cons_succ, i64_w, i32_w]
               rfl
              refine done_ (done_of HT_.out (by kernel_rfl)) ?_
              have hcz62_0 : w61.cell? ⟨gb1271, 0, none⟩ = some (.slice Ao49 t1264.length co49) := (blk_cell BK1271.out 0).trans rfl
              have hcz62_1 : w61.cell? ⟨gb1271, 1, none⟩ = some (.int .i64 t1267) := (blk_cell BK1271.out 1).trans rfl
              have hcz62_2 : w61.cell? ⟨gb1271, 2, none⟩ = some (.slice (some ad1281) t1268.length co51) := (blk_cell BK1271.out 2).trans rfl
              have hfz62_0 := blk_frozen BK1271.out 0
              have hfz62_1 := blk_frozen BK1271.out 1
              have hfz62_2 := blk_frozen BK1271.out 2
              try go_wp2_with (first | ((with_reducible refine gate_callee (f := 35) rfl ?_); refine goesL_ (some 32) rfl rfl Try.func35 (by kernel_rfl) rfl #[.agg #[.slice Ao49 t1264.length co49, .int .i64 t1267, .slice (some ad1281) t1268.length co51]] rfl (by (try simp only [List.map_toArray, List.map_cons, List.map_nil]); first | done | rfl | (simp only [List.length_drop, List.length_take]; rfl)) ?_; (with_reducible refine (impl_WrongSteps.calls k _ _ t1264 t1267 _ _ t1268 t1290 _ ?side1 ?side2 ?side3 ?side4 A10.out).mono ?_); (case side1 => repeat (first | exact (Kd.R_reads' HO1266.out).2.2 | (with_reducible refine Kd.C_alloc ?_ _) | (with_reducible refine Kd.C_drewN ?_ _) | (with_reducible refine Kd.C_drew ?_))); (case side2 => exact (Kd.R_reads' HO1266.out).2.1); (case side3 => repeat (first | exact (Kd.R_reads' HO1270.out).2.2 | (with_reducible refine Kd.C_alloc ?_ _) | (with_reducible refine Kd.C_drewN ?_ _) | (with_reducible refine Kd.C_drew ?_))); (case side4 => exact (Kd.R_reads' HO1270.out).2.1); rintro e w63 ⟨v1291, rfl, ho0, hb⟩; refine ⟨_, rfl, ?_⟩; have n0_ := Aside0.mk (Kd.R_below (oR HO1266) hb); have n1_ := Aside0.mk (Kd.R_elder' (oR HO1270) (Kd.R_base ho0) hb); have n2_ := Aside0.mk (Kd.R_below (oR HO1274) hb); have n3_ := Aside0.mk (Kd.R_elder' (oR HO1278) (Kd.R_base ho0) hb); have n4_ := Aside0.mk (Kd.R_elder' (oR HO1289) (Kd.R_base ho0) hb); have n5_ := Aside0.mk (Kd.R_lower (Kd.R_new' (Kd.R_new' (Kd.R_new' ho0 (Kd.R_lt (oR HO1270))) (Kd.R_lt (oR HO1278))) (Kd.R_lt (oR HO1289))) (below_size (oB HB))); have n6_ := Aside0.mk (blk_below (g := gb1271) (o := .cells #[.slice Ao49 t1264.length co49, .int .i64 t1267, .slice (some ad1281) t1268.length co51] 30 (0, 0)) (oK BK1271) hb); have n7_ := Aside0.mk (blk_below (g := gb1280) (o := .cells #[.slice Ao54 t1272.length co54, .int .i64 t1275, .slice Ao57 t1276.length co57] 30 (0, 0)) (oK BK1280) hb); have n8_ := Aside0.mk (Kd.C_below (by repeat (first | (with_reducible exact HR1285.out) | (with_reducible refine Kd.C_alloc ?_ _) | (with_reducible refine Kd.C_drewN ?_ _) | (with_reducible refine Kd.C_drew ?_) | exact HR1285.out)) hb); have n9_ := Aside0.mk (below_step (oB HB) hb); clear HO1266; clear HO1270; clear HO1274; clear HO1278; clear HO1289; clear BK1271; clear BK1280; clear HR1285; clear HB; have HO1266 := n0_; have HO1270 := n1_; have HO1274 := n2_; have HO1278 := n3_; have HO1289 := n4_; have HO1292 := n5_; have BK1271 := n6_; have BK1280 := n7_; have HR1285 := n8_; have HB := n9_; clear n0_ n1_ n2_ n3_ n4_ n5_ n6_ n7_ n8_ n9_; (try clear hb); (try clear hb2); (try clear hk); (try clear hi); (try clear ho0); have hcz64_0 : w63.cell? ⟨gb1280, 0, none⟩ = some (.slice Ao54 t1272.length co54) := (blk_cell BK1280.out 0).trans rfl; have hcz64_1 : w63.cell? ⟨gb1280, 1, none⟩ = some (.int .i64 t1275) := (blk_cell BK1280.out 1).trans rfl; have hcz64_2 : w63.cell? ⟨gb1280, 2, none⟩ = some (.slice Ao57 t1276.length co57) := (blk_cell BK1280.out 2).trans rfl; have hfz64_0 := blk_frozen BK1280.out 0; have hfz64_1 := blk_frozen BK1280.out 1; have hfz64_2 := blk_frozen BK1280.out 2) | (go_at_call 35; (with_reducible refine (impl_WrongSteps.calls k _ _ t1272 t1275 _ _ t1276 t1293 _ ?side1 ?side2 ?side3 ?side4 A12.out).mono ?_); (case side1 => repeat (first | exact (Kd.R_reads' HO1274.out).2.2 | (with_reducible refine Kd.C_alloc ?_ _) | (with_reducible refine Kd.C_drewN ?_ _) | (with_reducible refine Kd.C_drew ?_))); (case side2 => exact (Kd.R_reads' HO1274.out).2.1); (case side3 => repeat (first | exact (Kd.R_reads' HO1278.out).2.2 | (with_reducible refine Kd.C_alloc ?_ _) | (with_reducible refine Kd.C_drewN ?_ _) | (with_reducible refine Kd.C_drew ?_))); (case side4 => exact (Kd.R_reads' HO1278.out).2.1); rintro e w65 ⟨v1294, rfl, ho0, hb⟩; have n0_ := Aside0.mk (Kd.R_below (oR HO1266) hb); have n1_ := Aside0.mk (Kd.R_elder' (oR HO1270) (Kd.R_base ho0) hb); have n2_ := Aside0.mk (Kd.R_below (oR HO1274) hb); have n3_ := Aside0.mk (Kd.R_elder' (oR HO1278) (Kd.R_base ho0) hb); have n4_ := Aside0.mk (Kd.R_elder' (oR HO1289) (Kd.R_base ho0) hb); have n5_ := Aside0.mk (Kd.R_elder' (oR HO1292) (Kd.R_base ho0) hb); have n6_ := Aside0.mk (Kd.R_lower (Kd.R_new' (Kd.R_new' (Kd.R_new' (Kd.R_new' ho0 (Kd.R_lt (oR HO1270))) (Kd.R_lt (oR HO1278))) (Kd.R_lt (oR HO1289))) (Kd.R_lt (oR HO1292))) (below_size (oB HB))); have n7_ := Aside0.mk (blk_below (g := gb1271) (o := .cells #[.slice Ao49 t1264.length co49, .int .i64 t1267, .slice (some ad1281) t1268.length co51] 30 (0, 0)) (oK BK1271) hb); have n8_ := Aside0.mk (blk_below (g := gb1280) (o := .cells #[.slice Ao54 t1272.length co54, .int .i64 t1275, .slice Ao57 t1276.length co57] 30 (0, 0)) (oK BK1280) hb); have n9_ := Aside0.mk (Kd.C_below (by repeat (first | (with_reducible exact HR1285.out) | (with_reducible refine Kd.C_alloc ?_ _) | (with_reducible refine Kd.C_drewN ?_ _) | (with_reducible refine Kd.C_drew ?_) | exact HR1285.out)) hb); have n10_ := Aside0.mk (below_step (oB HB) hb); clear HO1266; clear HO1270; clear HO1274; clear HO1278; clear HO1289; clear HO1292; clear BK1271; clear BK1280; clear HR1285; clear HB; have HO1266 := n0_; have HO1270 := n1_; have HO1274 := n2_; have HO1278 := n3_; have HO1289 := n4_; have HO1292 := n5_; have HO1295 := n6_; have BK1271 := n7_; have BK1280 := n8_; have HR1285 := n9_; have HB := n10_; clear n0_ n1_ n2_ n3_ n4_ n5_ n6_ n7_ n8_ n9_ n10_; (try clear hb); (try clear hb2); (try clear hk); (try clear hi); (try clear ho0); obtain ⟨Ao66, co66, eo66⟩ := Kd.R_slice HO1295.out; subst eo66; have hcz67_0 : w65.cell? ⟨gb1280, 0, none⟩ = some (.slice Ao54 t1272.length co54) := (blk_cell BK1280.out 0).trans rfl; have hcz67_1 : w65.cell? ⟨gb1280, 1, none⟩ = some (.int .i64 t1275) := (blk_cell BK1280.out 1).trans rfl; have hcz67_2 : w65.cell? ⟨gb1280, 2, none⟩ = some (.slice Ao57 t1276.length co57) := (blk_cell BK1280.out 2).trans rfl; have hfz67_0 := blk_frozen BK1280.out 0; have hfz67_1 := blk_frozen BK1280.out 1; have hfz67_2 := blk_frozen BK1280.out 2; obtain ⟨Ao68, co68, eo68⟩ := Kd.R_slice HO1289.out; subst eo68) | (go_at_call 51; (with_reducible refine (laws_sameInts.calls k _ _ t1276 _ _ t1286 true _ ?side1 ?side2 ?side3 ?side4 A14.out).mono ?_); (case side1 => repeat (first | exact (Kd.R_reads' HO1278.out).2.2 | (with_reducible refine Kd.C_alloc ?_ _) | (with_reducible refine Kd.C_drewN ?_ _) | (with_reducible refine Kd.C_drew ?_))); (case side2 => exact (Kd.R_reads' HO1278.out).2.1); (case side3 => repeat (first | exact (Kd.R_reads' HO1289.out).2.2 | (with_reducible refine Kd.C_alloc ?_ _) | (with_reducible refine Kd.C_drewN ?_ _) | (with_reducible refine Kd.C_drew ?_))); (case side4 => exact (Kd.R_reads' HO1289.out).2.1); rintro e w' ⟨rfl, ⟨nd, rfl⟩⟩; have hcz69_0 : w65.cell? ⟨gb1271, 0, none⟩ = some (.slice Ao49 t1264.length co49) := (blk_cell BK1271.out 0).trans rfl; have hcz69_1 : w65.cell? ⟨gb1271, 1, none⟩ = some (.int .i64 t1267) := (blk_cell BK1271.out 1).trans rfl; have hcz69_2 : w65.cell? ⟨gb1271, 2, none⟩ = some (.slice (some ad1281) t1268.length co51) := (blk_cell BK1271.out 2).trans rfl; have hfz69_0 := blk_frozen BK1271.out 0; have hfz69_1 := blk_frozen BK1271.out 1; have hfz69_2 := blk_frozen BK1271.out 2; obtain ⟨Ao70, co70, eo70⟩ := Kd.R_slice HO1292.out; subst eo70) | (go_at_call 33; (with_reducible refine (impl_ClosingGap.calls k _ _ t1272 t1275 _ _ t1276 t1297 _ ?side1 ?side2 ?side3 ?side4 A46.out).mono ?_); (case side1 => repeat (first | exact (Kd.R_reads' HO1274.out).2.2 | (with_reducible refine Kd.C_alloc ?_ _) | (with_reducible refine Kd.C_drewN ?_ _) | (with_reducible refine Kd.C_drew ?_))); (case side2 => exact (Kd.R_reads' HO1274.out).2.1); (case side3 => repeat (first | exact (Kd.R_reads' HO1278.out).2.2 | (with_reducible refine Kd.C_alloc ?_ _) | (with_reducible refine Kd.C_drewN ?_ _) | (with_reducible refine Kd.C_drew ?_))); (case side4 => exact (Kd.R_reads' HO1278.out).2.1); rintro e w71 ⟨rfl, hb⟩; have n0_ := Aside0.mk (Kd.R_below (oR HO1266) hb); have n1_ := Aside0.mk (Kd.R_below (oR HO1270) hb); have n2_ := Aside0.mk (Kd.R_below (oR HO1274) hb); have n3_ := Aside0.mk (Kd.R_below (oR HO1278) hb); have n4_ := Aside0.mk (Kd.R_below (oR HO1289) hb); have n5_ := Aside0.mk (Kd.R_below (oR HO1292) hb); have n6_ := Aside0.mk (Kd.R_below (oR HO1295) hb); have n7_ := Aside0.mk (blk_below (g := gb1271) (o := .cells #[.slice Ao49 t1264.length co49, .int .i64 t1267, .slice (some ad1281) t1268.length co51] 30 (0, 0)) (oK BK1271) hb); have n8_ := Aside0.mk (blk_below (g := gb1280) (o := .cells #[.slice Ao54 t1272.length co54, .int .i64 t1275, .slice Ao57 t1276.length co57] 30 (0, 0)) (oK BK1280) hb); have n9_ := Aside0.mk (Kd.C_below (by repeat (first | (with_reducible exact HR1285.out) | (with_reducible refine Kd.C_alloc ?_ _) | (with_reducible refine Kd.C_drewN ?_ _) | (with_reducible refine Kd.C_drew ?_) | exact HR1285.out)) hb); have n10_ := Aside0.mk (below_step (oB HB) hb); clear HO1266; clear HO1270; clear HO1274; clear HO1278; clear HO1289; clear HO1292; clear HO1295; clear BK1271; clear BK1280; clear HR1285; clear HB; have HO1266 := n0_; have HO1270 := n1_; have HO1274 := n2_; have HO1278 := n3_; have HO1289 := n4_; have HO1292 := n5_; have HO1295 := n6_; have BK1271 := n7_; have BK1280 := n8_; have HR1285 := n9_; have HB := n10_; clear n0_ n1_ n2_ n3_ n4_ n5_ n6_ n7_ n8_ n9_ n10_; (try clear hb); (try clear hb2); (try clear hk); (try clear hi)))
              go_ret
              exact ⟨by first | rfl | (simp [errW_none, errW_some] <;> rfl) | (simp [*, errW_none, errW_some] <;> rfl), oB HB⟩
            ·rw [if_neg c20] at H
             have c20b0 : ((t1279 == 0) == ((t1290.length : Int) == 0)) = false := by simpa using c20
             (try (have c20b1 : decide ((t1279 == 0) = ((t1290.length : Int) == 0)) = false := by simpa using c20))
             (try (have c20b2 : ((t1279 == 0) == ((t1290.length : Int) == 0)) = false := by simpa using c20))
             (try (have c20b3 : ¬ ((t1279 == 0) = ((t1290.length : Int) == 0)) := by simpa using c20))
             clear c20
             exact absurd ((Option.some.inj H).trans hrt_.out) (by decide)
         ·rw [if_neg c17] at H
          have c17b0 : decide (t1279 < (t1290.length : Int)) = false := decide_eq_false c17
          clear c17
          by_cases c72 : t1279 > t1267
          ·rw [if_pos c72] at H
           have c72b0 : decide (t1267 < t1279) = true := decide_eq_true c72
           clear c72
           exact absurd ((Option.some.inj H).trans hrt_.out) (by decide)
          ·rw [if_neg c72] at H
           have c72b0 : decide (t1267 < t1279) = false := decide_eq_false c72
           clear c72
           by_cases c73 : ((t1279 == 0) == ((t1290.length : Int) == 0)) = true
           ·rw [if_pos c73] at H
            have c73b0 : ((t1279 == 0) == ((t1290.length : Int) == 0)) = true := c73
            (try (have c73b1 : decide ((t1279 == 0) = ((t1290.length : Int) == 0)) = true := by simpa using c73))
            (try (have c73b2 : ((t1279 == 0) == ((t1290.length : Int) == 0)) = true := by simpa using c73))
            clear c73
            by_cases c74 : t1267 < 11
            ·rw [if_pos c74] at H
             have c74b0 : decide (t1267 < 11) = true := decide_eq_true c74
             clear c74
             obtain rfl := Option.some.inj H
             go_enter Try.func14, Try.ntmps14
             try go_wp2_with (first | ((with_reducible refine gate_callee (f := 47) rfl ?_); refine goesL_ (some 10) rfl rfl Try.func47 (by kernel_rfl) rfl #[.slice A0 l0.length c0] rfl (by (try simp only [List.map_toArray, List.map_cons, List.map_nil]); first | done | rfl | (simp only [List.length_drop, List.length_take]; rfl)) ?_; (with_reducible refine (laws_big.calls _ _ l0 false _ ?side1 ?side2 A2.out).mono ?_); (case side1 => repeat (first | exact HR0.out | (with_reducible refine Kd.C_alloc ?_ _) | (with_reducible refine Kd.C_drewN ?_ _) | (with_reducible refine Kd.C_drew ?_))); (case side2 => exact HC0.out); rintro e w' ⟨rfl, ⟨nd, rfl⟩⟩; refine ⟨_, rfl, ?_⟩) | ((with_reducible refine gate_callee (f := 52) rfl ?_); refine goesL_ (some 12) rfl rfl Try.func52 (by kernel_rfl) rfl #[.slice A0 l0.length c0] rfl (by (try simp only [List.map_toArray, List.map_cons, List.map_nil]); first | done | rfl | (simp only [List.length_drop, List.length_take]; rfl)) ?_; (with_reducible refine (spec_DrawKnocked.calls k _ _ l0 t1264 t1267 t1268 _ ?side1 ?side2 A4.out).mono ?_); (case side1 => repeat (first | exact HR0.out | (with_reducible refine Kd.C_alloc ?_ _) | (with_reducible refine Kd.C_drewN ?_ _) | (with_reducible refine Kd.C_drew ?_))); (case side2 => exact HC0.out); rintro e w75 ⟨v1265, v1269, rfl, ho0, ho1, hb⟩; refine ⟨_, rfl, ?_⟩; have n0_ := Aside0.mk (Kd.R_lower ho0 (below_size (oB HB))); have n1_ := Aside0.mk (Kd.R_lower ho1 (below_size (oB HB))); have n2_ := Aside0.mk (below_step (oB HB) hb); clear HB; have HO1266 := n0_; have HO1270 := n1_; have HB := n2_; clear n0_ n1_ n2_; (try clear hb); (try clear hb2); (try clear hk); (try clear hi); (try clear ho0); (try clear ho1)) | ((with_reducible refine gate_dst (N := 3) rfl ?_); (try (refine gate_guard (by rfl) ?_; dsimp only)); refine box_event ?hg (N := 3) ?hd (cs := #[.slice none 0 0, .int .i64 0, .slice none 0 0]) (t := 30) ?hr ?_; (case hd => rfl); (case hg => rfl); (case hr => first | (go_simp; done) | (go_simp; rfl)); intro gb1271 hg w76 hbox hb; have n0_ := Aside0.mk (Kd.R_below (oR HO1266) hb); have n1_ := Aside0.mk (Kd.R_below (oR HO1270) hb); have n2_ := Aside0.mk (below_step (oB HB) hb); have n3_ := Aside0.mk (hbox); have n4_ := Aside0.mk ((by rw [hg]; exact (below_size (oB HB)) : w.heap.size ≤ gb1271)); have n5_ := Aside0.mk ((by rw [hg]; exact (below_size (oB HB)) : w.heap.size ≤ gb1271)); clear HO1266; clear HO1270; clear HB; have HO1266 := n0_; have HO1270 := n1_; have HB := n2_; have BK1271 := n3_; have GW1271 := n4_; have GE1271 := n5_; clear n0_ n1_ n2_ n3_ n4_ n5_; clear hb hbox hg; obtain ⟨Ao77, co77, eo77⟩ := Kd.R_slice HO1266.out; subst eo77; have hcz78_0 : w76.cell? ⟨gb1271, 0, none⟩ = some (.slice none 0 0) := (blk_cell BK1271.out 0).trans rfl; have hcz78_1 : w76.cell? ⟨gb1271, 1, none⟩ = some (.int .i64 0) := (blk_cell BK1271.out 1).trans rfl; have hcz78_2 : w76.cell? ⟨gb1271, 2, none⟩ = some (.slice none 0 0) := (blk_cell BK1271.out 2).trans rfl; have hfz78_0 := blk_frozen BK1271.out 0; have hfz78_1 := blk_frozen BK1271.out 1; have hfz78_2 := blk_frozen BK1271.out 2; obtain ⟨Ao79, co79, eo79⟩ := Kd.R_slice HO1270.out; subst eo79) | ((with_reducible refine gate_callee (f := 46) rfl ?_); refine goesL_ (some 15) rfl rfl Try.func46 (by kernel_rfl) rfl #[.agg #[.slice Ao77 t1264.length co77, .int .i64 t1267, .slice Ao79 t1268.length co79]] rfl (by (try simp only [List.map_toArray, List.map_cons, List.map_nil]); first | done | rfl | (simp only [List.length_drop, List.length_take]; rfl)) ?_; (with_reducible refine (impl_MendAll.calls k _ _ t1264 t1267 _ _ t1268 t1272 t1275 t1276 t1279 _ ?side1 ?side2 ?side3 ?side4 A5.out).mono ?_); (case side1 => refine (Kd.R_reads' (e := 67) (base := w.heap.size) (ok := fun k_ => True) (n := t1264.length) (c := co77) ?_).2.2; exact (by (with_reducible repeat (first | apply Kd.R_alloc | apply Kd.R_drewN | apply Kd.R_drew)); exact (Kd.R_mono (Kd.R_far (p := ⟨gb1271, 2, none⟩) (Kd.R_far (p := ⟨gb1271, 1, none⟩) (Kd.R_far (p := ⟨gb1271, 0, none⟩) (Kd.R_types HO1266.out BK1271.out (by decide)) (fun _ hk => hk.2) (.slice Ao77 t1264.length co77)) (fun _ hk => hk.2) (.int .i64 t1267)) (fun _ hk => hk.2) (.slice Ao79 t1268.length co79)) (fun _ h_ => h_.1)))); (case side2 => exact (Kd.R_reads' HO1266.out).2.1); (case side3 => refine (Kd.R_reads' (e := 3) (base := w.heap.size) (ok := fun k_ => True) (n := t1268.length) (c := co79) ?_).2.2; exact (by (with_reducible repeat (first | apply Kd.R_alloc | apply Kd.R_drewN | apply Kd.R_drew)); exact (Kd.R_mono (Kd.R_far (p := ⟨gb1271, 2, none⟩) (Kd.R_far (p := ⟨gb1271, 1, none⟩) (Kd.R_far (p := ⟨gb1271, 0, none⟩) (Kd.R_types HO1270.out BK1271.out (by decide)) (fun _ hk => hk.2) (.slice Ao77 t1264.length co77)) (fun _ hk => hk.2) (.int .i64 t1267)) (fun _ hk => hk.2) (.slice Ao79 t1268.length co79)) (fun _ h_ => h_.1)))); (case side4 => exact (Kd.R_reads' HO1270.out).2.1); rintro e w80 ⟨v1273, v1277, rfl, ho0, ho1, hb⟩; refine ⟨_, rfl, ?_⟩; have n0_ := Aside0.mk (Kd.R_elder' (by (with_reducible repeat (first | apply Kd.R_alloc | apply Kd.R_drewN | apply Kd.R_drew)); exact (Kd.R_mono (Kd.R_far (p := ⟨gb1271, 2, none⟩) (Kd.R_far (p := ⟨gb1271, 1, none⟩) (Kd.R_far (p := ⟨gb1271, 0, none⟩) (Kd.R_types HO1266.out BK1271.out (by decide)) (fun _ hk => hk.2) (.slice Ao77 t1264.length co77)) (fun _ hk => hk.2) (.int .i64 t1267)) (fun _ hk => hk.2) (.slice Ao79 t1268.length co79)) (fun _ h_ => h_.1))) (Kd.R_base ho0) hb); have n1_ := Aside0.mk (Kd.R_elder' (by (with_reducible repeat (first | apply Kd.R_alloc | apply Kd.R_drewN | apply Kd.R_drew)); exact (Kd.R_mono (Kd.R_far (p := ⟨gb1271, 2, none⟩) (Kd.R_far (p := ⟨gb1271, 1, none⟩) (Kd.R_far (p := ⟨gb1271, 0, none⟩) (Kd.R_types HO1270.out BK1271.out (by decide)) (fun _ hk => hk.2) (.slice Ao77 t1264.length co77)) (fun _ hk => hk.2) (.int .i64 t1267)) (fun _ hk => hk.2) (.slice Ao79 t1268.length co79)) (fun _ h_ => h_.1))) (Kd.R_base ho1) hb); have n2_ := Aside0.mk (Kd.R_lower (Kd.R_new' ho0 (Kd.R_lt (by (with_reducible repeat (first | apply Kd.R_alloc | apply Kd.R_drewN | apply Kd.R_drew)); exact (Kd.R_mono (Kd.R_far (p := ⟨gb1271, 2, none⟩) (Kd.R_far (p := ⟨gb1271, 1, none⟩) (Kd.R_far (p := ⟨gb1271, 0, none⟩) (Kd.R_types HO1266.out BK1271.out (by decide)) (fun _ hk => hk.2) (.slice Ao77 t1264.length co77)) (fun _ hk => hk.2) (.int .i64 t1267)) (fun _ hk => hk.2) (.slice Ao79 t1268.length co79)) (fun _ h_ => h_.1))))) (below_size (oB HB))); have n3_ := Aside0.mk (Kd.R_lower (Kd.R_new' ho1 (Kd.R_lt (by (with_reducible repeat (first | apply Kd.R_alloc | apply Kd.R_drewN | apply Kd.R_drew)); exact (Kd.R_mono (Kd.R_far (p := ⟨gb1271, 2, none⟩) (Kd.R_far (p := ⟨gb1271, 1, none⟩) (Kd.R_far (p := ⟨gb1271, 0, none⟩) (Kd.R_types HO1270.out BK1271.out (by decide)) (fun _ hk => hk.2) (.slice Ao77 t1264.length co77)) (fun _ hk => hk.2) (.int .i64 t1267)) (fun _ hk => hk.2) (.slice Ao79 t1268.length co79)) (fun _ h_ => h_.1))))) (below_size (oB HB))); have n4_ := Aside0.mk (blk_below (g := gb1271) (o := .cells #[.slice Ao77 t1264.length co77, .int .i64 t1267, .slice Ao79 t1268.length co79] 30 (0, 0)) (by (with_reducible repeat (first | refine blk_drewN ?_ _ | refine blk_drew ?_ | refine blk_alloc ?_ _)); refine blk_put (cs := #[.slice Ao77 t1264.length co77, .int .i64 t1267, .slice none 0 0]) ?_ 2 _ rfl; (with_reducible repeat (first | refine blk_drewN ?_ _ | refine blk_drew ?_ | refine blk_alloc ?_ _)); refine blk_put (cs := #[.slice Ao77 t1264.length co77, .int .i64 0, .slice none 0 0]) ?_ 1 _ rfl; (with_reducible repeat (first | refine blk_drewN ?_ _ | refine blk_drew ?_ | refine blk_alloc ?_ _)); refine blk_put (cs := #[.slice none 0 0, .int .i64 0, .slice none 0 0]) ?_ 0 _ rfl; (with_reducible repeat (first | refine blk_drewN ?_ _ | refine blk_drew ?_ | refine blk_alloc ?_ _)); exact BK1271.out) hb); have n5_ := Aside0.mk (below_step (oB HB) hb); clear HO1266; clear HO1270; clear BK1271; clear HB; have HO1266 := n0_; have HO1270 := n1_; have HO1274 := n2_; have HO1278 := n3_; have BK1271 := n4_; have HB := n5_; clear n0_ n1_ n2_ n3_ n4_ n5_; (try clear hb); (try clear hb2); (try clear hk); (try clear hi); (try clear ho0); (try clear ho1)) | ((with_reducible refine gate_dst (N := 4) rfl ?_); (try (refine gate_guard (by rfl) ?_; dsimp only)); refine box_event ?hg (N := 4) ?hd (cs := #[.slice none 0 0, .int .i64 0, .slice none 0 0]) (t := 30) ?hr ?_; (case hd => rfl); (case hg => rfl); (case hr => first | (go_simp; done) | (go_simp; rfl)); intro gb1280 hg w81 hbox hb; have n0_ := Aside0.mk (Kd.R_below (oR HO1266) hb); have n1_ := Aside0.mk (Kd.R_below (oR HO1270) hb); have n2_ := Aside0.mk (Kd.R_below (oR HO1274) hb); have n3_ := Aside0.mk (Kd.R_below (oR HO1278) hb); have n4_ := Aside0.mk (blk_below (g := gb1271) (o := .cells #[.slice Ao77 t1264.length co77, .int .i64 t1267, .slice Ao79 t1268.length co79] 30 (0, 0)) (oK BK1271) hb); have n5_ := Aside0.mk (below_step (oB HB) hb); have n6_ := Aside0.mk (hbox); have n7_ := Aside0.mk ((by rw [hg]; exact (below_size (oB HB)) : w.heap.size ≤ gb1280)); have n8_ := Aside0.mk ((by rw [hg]; exact (below_size (oB HB)) : w.heap.size ≤ gb1280)); have n9_ := Aside0.mk ((by rw [hg]; exact Nat.ne_of_lt (blk_lt (g := gb1271) (o := .cells #[.slice Ao77 t1264.length co77, .int .i64 t1267, .slice Ao79 t1268.length co79] 30 (0, 0)) (oK BK1271)) : gb1271 ≠ gb1280)); have n10_ := Aside0.mk ((by rw [hg]; exact Nat.ne_of_gt (blk_lt (g := gb1271) (o := .cells #[.slice Ao77 t1264.length co77, .int .i64 t1267, .slice Ao79 t1268.length co79] 30 (0, 0)) (oK BK1271)) : gb1280 ≠ gb1271)); clear HO1266; clear HO1270; clear HO1274; clear HO1278; clear BK1271; clear HB; have HO1266 := n0_; have HO1270 := n1_; have HO1274 := n2_; have HO1278 := n3_; have BK1271 := n4_; have HB := n5_; have BK1280 := n6_; have GW1280 := n7_; have GE1280 := n8_; have NB1271_1280 := n9_; have NB1280_1271 := n10_; clear n0_ n1_ n2_ n3_ n4_ n5_ n6_ n7_ n8_ n9_ n10_; clear hb hbox hg; obtain ⟨Ao82, co82, eo82⟩ := Kd.R_slice HO1274.out; subst eo82; have hnb83 := NB1280_1271.out; have hnc83 := NB1271_1280.out; have hcz84_0 : w81.cell? ⟨gb1280, 0, none⟩ = some (.slice none 0 0) := (blk_cell BK1280.out 0).trans rfl; have hcz84_1 : w81.cell? ⟨gb1280, 1, none⟩ = some (.int .i64 0) := (blk_cell BK1280.out 1).trans rfl; have hcz84_2 : w81.cell? ⟨gb1280, 2, none⟩ = some (.slice none 0 0) := (blk_cell BK1280.out 2).trans rfl; have hfz84_0 := blk_frozen BK1280.out 0; have hfz84_1 := blk_frozen BK1280.out 1; have hfz84_2 := blk_frozen BK1280.out 2; obtain ⟨Ao85, co85, eo85⟩ := Kd.R_slice HO1278.out; subst eo85))
             have n0_ : Aside0 (Kd.R k67 67 (((w81.setCell ⟨gb1280, 0, none⟩ (.slice Ao82 t1272.length co82)).setCell ⟨gb1280, 1, none⟩ (.int .i64 t1275)).setCell ⟨gb1280, 2, none⟩ (.slice Ao85 t1276.length co85)) w.heap.size (fun k_ => some k_ ≠ (.slice Ao82 t1272.length co82 : Value).ownBlock) (.slice Ao77 t1264.length co77) t1264) := ⟨by (with_reducible repeat (first | apply Kd.R_alloc | apply Kd.R_drewN | apply Kd.R_drew)); exact Kd.R_mono (Kd.R_far (p := ⟨gb1280, 2, none⟩) (Kd.R_far (p := ⟨gb1280, 1, none⟩) (Kd.R_far (p := ⟨gb1280, 0, none⟩) (Kd.R_types HO1266.out BK1280.out (by decide)) (fun _ hk => hk.2) (.slice Ao82 t1272.length co82)) (fun _ hk => hk.2) (.int .i64 t1275)) (fun _ hk => hk.2) (.slice Ao85 t1276.length co85)) (fun _ hk => hk.1.2)⟩
             have n1_ : Aside0 (Kd.R (Kd.int .i64) 3 (((w81.setCell ⟨gb1280, 0, none⟩ (.slice Ao82 t1272.length co82)).setCell ⟨gb1280, 1, none⟩ (.int .i64 t1275)).setCell ⟨gb1280, 2, none⟩ (.slice Ao85 t1276.length co85)) w.heap.size (fun k_ => some k_ ≠ (.slice Ao85 t1276.length co85 : Value).ownBlock) (.slice Ao79 t1268.length co79) t1268) := ⟨by (with_reducible repeat (first | apply Kd.R_alloc | apply Kd.R_drewN | apply Kd.R_drew)); exact Kd.R_mono (Kd.R_far (p := ⟨gb1280, 2, none⟩) (Kd.R_far (p := ⟨gb1280, 1, none⟩) (Kd.R_far (p := ⟨gb1280, 0, none⟩) (Kd.R_types HO1270.out BK1280.out (by decide)) (fun _ hk => hk.2) (.slice Ao82 t1272.length co82)) (fun _ hk => hk.2) (.int .i64 t1275)) (fun _ hk => hk.2) (.slice Ao85 t1276.length co85)) (fun _ hk => hk.1.2)⟩
             have n2_ : Aside0 (Kd.R k67 67 (((w81.setCell ⟨gb1280, 0, none⟩ (.slice Ao82 t1272.length co82)).setCell ⟨gb1280, 1, none⟩ (.int .i64 t1275)).setCell ⟨gb1280, 2, none⟩ (.slice Ao85 t1276.length co85)) w.heap.size (fun k_ => some k_ ≠ (.slice Ao77 t1264.length co77 : Value).ownBlock) (.slice Ao82 t1272.length co82) t1272) := ⟨by (with_reducible repeat (first | apply Kd.R_alloc | apply Kd.R_drewN | apply Kd.R_drew)); exact Kd.R_mono (Kd.R_far (p := ⟨gb1280, 2, none⟩) (Kd.R_far (p := ⟨gb1280, 1, none⟩) (Kd.R_far (p := ⟨gb1280, 0, none⟩) (Kd.R_types HO1274.out BK1280.out (by decide)) (fun _ hk => hk.2) (.slice Ao82 t1272.length co82)) (fun _ hk => hk.2) (.int .i64 t1275)) (fun _ hk => hk.2) (.slice Ao85 t1276.length co85)) (fun _ hk => hk.1.2)⟩
             have n3_ : Aside0 (Kd.R (Kd.int .i64) 3 (((w81.setCell ⟨gb1280, 0, none⟩ (.slice Ao82 t1272.length co82)).setCell ⟨gb1280, 1, none⟩ (.int .i64 t1275)).setCell ⟨gb1280, 2, none⟩ (.slice Ao85 t1276.length co85)) w.heap.size (fun k_ => some k_ ≠ (.slice Ao79 t1268.length co79 : Value).ownBlock) (.slice Ao85 t1276.length co85) t1276) := ⟨by (with_reducible repeat (first | apply Kd.R_alloc | apply Kd.R_drewN | apply Kd.R_drew)); exact Kd.R_mono (Kd.R_far (p := ⟨gb1280, 2, none⟩) (Kd.R_far (p := ⟨gb1280, 1, none⟩) (Kd.R_far (p := ⟨gb1280, 0, none⟩) (Kd.R_types HO1278.out BK1280.out (by decide)) (fun _ hk => hk.2) (.slice Ao82 t1272.length co82)) (fun _ hk => hk.2) (.int .i64 t1275)) (fun _ hk => hk.2) (.slice Ao85 t1276.length co85)) (fun _ hk => hk.1.2)⟩
             have n4_ : Aside0 ((((w81.setCell ⟨gb1280, 0, none⟩ (.slice Ao82 t1272.length co82)).setCell ⟨gb1280, 1, none⟩ (.int .i64 t1275)).setCell ⟨gb1280, 2, none⟩ (.slice Ao85 t1276.length co85)).heap[gb1271]? = some (.cells #[.slice Ao77 t1264.length co77, .int .i64 t1267, .slice Ao79 t1268.length co79] 30 (0, 0))) := ⟨by (with_reducible repeat (first | refine blk_drewN ?_ _ | refine blk_drew ?_ | refine blk_alloc ?_ _)); refine blk_far ?_ NB1271_1280.out _; (with_reducible repeat (first | refine blk_drewN ?_ _ | refine blk_drew ?_ | refine blk_alloc ?_ _)); refine blk_far ?_ NB1271_1280.out _; (with_reducible repeat (first | refine blk_drewN ?_ _ | refine blk_drew ?_ | refine blk_alloc ?_ _)); refine blk_far ?_ NB1271_1280.out _; (with_reducible repeat (first | refine blk_drewN ?_ _ | refine blk_drew ?_ | refine blk_alloc ?_ _)); exact BK1271.out⟩
             have n5_ : Aside0 ((((w81.setCell ⟨gb1280, 0, none⟩ (.slice Ao82 t1272.length co82)).setCell ⟨gb1280, 1, none⟩ (.int .i64 t1275)).setCell ⟨gb1280, 2, none⟩ (.slice Ao85 t1276.length co85)).heap[gb1280]? = some (.cells #[.slice Ao82 t1272.length co82, .int .i64 t1275, .slice Ao85 t1276.length co85] 30 (0, 0))) := ⟨by (with_reducible repeat (first | refine blk_drewN ?_ _ | refine blk_drew ?_ | refine blk_alloc ?_ _)); refine blk_put (cs := #[.slice Ao82 t1272.length co82, .int .i64 t1275, .slice none 0 0]) ?_ 2 _ rfl; (with_reducible repeat (first | refine blk_drewN ?_ _ | refine blk_drew ?_ | refine blk_alloc ?_ _)); refine blk_put (cs := #[.slice Ao82 t1272.length co82, .int .i64 0, .slice none 0 0]) ?_ 1 _ rfl; (with_reducible repeat (first | refine blk_drewN ?_ _ | refine blk_drew ?_ | refine blk_alloc ?_ _)); refine blk_put (cs := #[.slice none 0 0, .int .i64 0, .slice none 0 0]) ?_ 0 _ rfl; (with_reducible repeat (first | refine blk_drewN ?_ _ | refine blk_drew ?_ | refine blk_alloc ?_ _)); exact BK1280.out⟩
             have n6_ : Aside0 (Below w.heap.size w (((w81.setCell ⟨gb1280, 0, none⟩ (.slice Ao82 t1272.length co82)).setCell ⟨gb1280, 1, none⟩ (.int .i64 t1275)).setCell ⟨gb1280, 2, none⟩ (.slice Ao85 t1276.length co85))) := ⟨oB HB⟩
             (try clear HO1266)
             (try clear HO1270)
             (try clear HO1274)
             (try clear HO1278)
             (try clear BK1271)
             (try clear BK1280)
             (try clear HB)
             generalize (((w81.setCell ⟨gb1280, 0, none⟩ (.slice Ao82 t1272.length co82)).setCell ⟨gb1280, 1, none⟩ (.int .i64 t1275)).setCell ⟨gb1280, 2, none⟩ (.slice Ao85 t1276.length co85)) = w86 at n0_ n1_ n2_ n3_ n4_ n5_ n6_ ⊢
             have HO1266 := n0_
             have HO1270 := n1_
             have HO1274 := n2_
             have HO1278 := n3_
             have BK1271 := n4_
             have BK1280 := n5_
             have HB := n6_
             clear n0_ n1_ n2_ n3_ n4_ n5_ n6_
             have n0_ := Aside0.mk (Kd.R_drew HO1266.out)
             have n1_ := Aside0.mk (Kd.R_drew HO1270.out)
             have n2_ := Aside0.mk (Kd.R_drew HO1274.out)
             have n3_ := Aside0.mk (Kd.R_drew HO1278.out)
             have n4_ := Aside0.mk (blk_drew BK1271.out)
             have n5_ := Aside0.mk (blk_drew BK1280.out)
             have n6_ := Aside0.mk (below_drew1 HB.out)
             clear HO1266
             clear HO1270
             clear HO1274
             clear HO1278
             clear BK1271
             clear BK1280
             clear HB
             have HO1266 := n0_
             have HO1270 := n1_
             have HO1274 := n2_
             have HO1278 := n3_
             have BK1271 := n4_
             have BK1280 := n5_
             have HB := n6_
             clear n0_ n1_ n2_ n3_ n4_ n5_ n6_
             have p1281 : 0 ≤ (0 : Int) := (by omega)
             have q1281 : 0 < (t1268.length : Int) := of_decide_eq_true (by first | (with_reducible assumption) | assumption)
             obtain ⟨ad1281, e1281, hx1281_0⟩ := Kd.at_int (Kd.R_reads' HO1270.out).2.2 0 p1281 q1281
             cases e1281
             have qi1281 : (0 < t1268.length) = True := eq_true (by omega)
             (try rw [show ((0 : Int)).toNat = 0 from rfl] at hx1281_0)
             (try rw [Addr.add_zero'] at hx1281_0)
             replace p1281 := eq_true p1281
             replace q1281 := eq_true q1281
             have q88 : (t1267 : Int) ≤ ((t1264.length : Int) : Int) := of_decide_eq_true (by first | (with_reducible assumption) | assumption)
             obtain ⟨i088, hi088, _, hsz88, _⟩ := info_parts info67
             have hroom88 : t1264.length ≤ co77 := (Kd.R_reads' HO1266.out).2.1
             have hC88 : Kd.C k67 _ Ao77 t1264.length t1264 := (Kd.R_reads' HO1266.out).2.2
             have hcut88 := cut_to (P := Try.prog) 28 67 .i64 Try.underlying28 hi088 Ao77 t1264.length co77 t1267 (of_decide_eq_true (by first | (with_reducible assumption) | assumption)) q88 hroom88
             have hr88 := Kd.C_take (m := (t1267 : Int).toNat) hC88 (by omega)
             have hy88 : y1282.length = (t1267 : Int).toNat := (by rw [Ny1282.out, List.length_take]; omega)
             rw [← Ny1282.out] at hr88
             rw [← hy88] at hcut88
             have HR1285 := Aside0.mk hr88
             have HC1285 := Aside0.mk (show y1282.length ≤ co77 from by omega)
             clear hr88 hC88 hroom88 hi088 hsz88
             have KY88 := Aside0.mk hy88
             clear hy88
             have KL88 := Aside0.mk (show (t1267 : Int).toNat ≤ t1264.length from by omega)
             replace q88 := eq_true q88
             refine start_ (n := 15) (S := fun w' => w'.cell? ⟨gb1271, 0, none⟩ = some (.slice Ao77 t1264.length co77) ∧ w'.cell? ⟨gb1271, 1, none⟩ = some (.int .i64 t1267) ∧ w'.cell? ⟨gb1271, 2, none⟩ = some (.slice (some ad1281) t1268.length co79) ∧ w'.cell? ad1281 = some (.int .i64 (rd t1268 0))) (ds := []) #[false, false, false, false, false, false, false, false, false, false, false, false, false, false, false] (by kernel_rfl) rfl rfl ⟨(blk_cell BK1271.out 0).trans rfl, (blk_cell BK1271.out 1).trans rfl, (blk_cell BK1271.out 2).trans rfl, hx1281_0⟩ (fun hHeld => ?_); refine with_tabW laws_FnMends.tab5 laws_FnMends.bits5 (fun HT_ HW_ => ?_)
             generalize w86.drew = w87 at HO1266 HO1270 HO1274 HO1278 BK1271 BK1280 HB HR1285 hx1281_0 hHeld ⊢
             refine pure_ (i := 0) (N := some 19) (v := ?_) (a' := ?_) #[true, false, false, false, false, false, false, false, false, false, false, false, false, false, false] rfl rfl (any_of HT_.out (by kernel_rfl)) (fun _ _ _ h => h) (Or.inl ⟨by rfl, ?_⟩) ?_ ?_
             rotate_left
             ·intro w'
              go_simp
              with_reducible rfl
             rotate_left
             ·simp only [Act.put, List.setIfInBounds_toArray, List.set_cons_zero, List.set_cons_succ, i64_w, i32_w]
              rfl
             refine pure_ (i := 4) (N := some 23) (v := ?_) (a' := ?_) #[true, false, false, false, true, false, false, false, false, false, false, false, false, false, false] rfl rfl (any_of HT_.out (by kernel_rfl)) (fun _ _ _ h => h) (Or.inl ⟨by rfl, ?_⟩) ?_ ?_
             rotate_left
             ·intro w'
              go_simp
              with_reducible rfl
             rotate_left
             ·simp only [Act.put, List.setIfInBounds_toArray, List.set_cons_zero, List.set_cons_succ, i64_w, i32_w]
              rfl
             refine pure_ (i := 6) (N := some 25) (v := ?_) (a' := ?_) #[true, false, false, false, true, false, true, false, false, false, false, false, false, false, false] rfl rfl (any_of HT_.out (by kernel_rfl)) (fun _ _ _ h => h) (Or.inl ⟨by rfl, ?_⟩) ?_ ?_
             rotate_left
             ·intro w'
              go_simp
              with_reducible rfl
             rotate_left
             ·simp only [Act.put, List.setIfInBounds_toArray, List.set_cons_zero, List.set_cons_succ, i64_w, i32_w]
              rfl
             refine take_ (i := 1) (N := some 20) (v := ?_) (a' := ?_) #[true, true, false, false, true, false, true, false, false, false, false, false, false, false, false] rfl rfl (take_ofW HT_.out HW_.out (by kernel_rfl)) (fun _ _ _ h => h) (Or.inl ⟨by rfl, ?_⟩) hHeld ?_ ?_
             rotate_left
             ·rintro w' ⟨s0, s1, s2, s3⟩
              go_simp
              with_reducible rfl
             rotate_left
             ·simp only [Act.put, List.setIfInBounds_toArray, List.set_cons_zero, List.set_cons_succ, i64_w, i32_w]
              rfl
             refine pure_ (i := 2) (N := some 21) (v := ?_) (a' := ?_) #[true, true, true, false, true, false, true, false, false, false, false, false, false, false, false] rfl rfl (any_of HT_.out (by kernel_rfl)) (fun _ _ _ h => h) (Or.inl ⟨by rfl, ?_⟩) ?_ ?_
             rotate_left
             ·intro w'
              go_simp
              with_reducible rfl
             rotate_left
             ·simp only [Act.put, List.setIfInBounds_toArray, List.set_cons_zero, List.set_cons_succ, i64_w, i32_w]
              rfl
             refine take_ (i := 3) (N := some 22) (v := ?_) (a' := ?_) #[true, true, true, true, true, false, true, false, false, false, false, false, false, false, false] rfl rfl (take_ofW HT_.out HW_.out (by kernel_rfl)) (fun _ _ _ h => h) (Or.inl ⟨by rfl, ?_⟩) hHeld ?_ ?_
             rotate_left
             ·rintro w' ⟨s0, s1, s2, s3⟩
              go_simp
              with_reducible rfl
             rotate_left
             ·simp only [Act.put, List.setIfInBounds_toArray, List.set_cons_zero, List.set_cons_succ, i64_w, i32_w]
              rfl
             refine take_ (i := 5) (N := some 24) (v := ?_) (a' := ?_) #[true, true, true, true, true, true, true, false, false, false, false, false, false, false, false] rfl rfl (take_ofW HT_.out HW_.out (by kernel_rfl)) (fun _ _ _ h => h) (Or.inl ⟨by rfl, ?_⟩) hHeld ?_ ?_
             rotate_left
             ·rintro w' ⟨s0, s1, s2, s3⟩
              go_simp
              with_reducible rfl
             rotate_left
             ·simp only [Act.put, List.setIfInBounds_toArray, List.set_cons_zero, List.set_cons_succ, i64_w, i32_w]
              rfl
             refine take_ (i := 7) (N := some 26) (v := ?_) (a' := ?_) #[true, true, true, true, true, true, true, true, false, false, false, false, false, false, false] rfl rfl (take_ofW HT_.out HW_.out (by kernel_rfl)) (fun _ _ _ h => h) (Or.inl ⟨by rfl, ?_⟩) hHeld ?_ ?_
             rotate_left
             ·rintro w' ⟨s0, s1, s2, s3⟩
              go_simp
              with_reducible rfl
             rotate_left
             ·simp only [Act.put, List.setIfInBounds_toArray, List.set_cons_zero, List.set_cons_succ, i64_w, i32_w]
              rfl
             refine pure_ (i := 8) (N := some 27) (v := ?_) (a' := ?_) #[true, true, true, true, true, true, true, true, true, false, false, false, false, false, false] rfl rfl (any_of HT_.out (by kernel_rfl)) (fun _ _ _ h => h) (Or.inl ⟨by rfl, ?_⟩) ?_ ?_
             rotate_left
             ·intro w'
              go_simp
              with_reducible rfl
             rotate_left
             ·simp only [Act.put, List.setIfInBounds_toArray, List.set_cons_zero, List.set_cons_succ, i64_w, i32_w]
              rfl
             refine one_ (i := 9) (N := some 28) #[true, true, true, true, true, true, true, true, true, true, false, false, false, false, false] rfl rfl (one_of HT_.out (by kernel_rfl)) (by decide) (fun K hK => ?_)
             refine goes_ Try.func49 (by kernel_rfl) rfl #[.int .i64 (rd t1268 0), .slice Ao77 y1282.length co77] (by rfl) rfl rfl (by (try simp only [List.map_toArray, List.map_cons, List.map_nil]); first | done | rfl | (simp only [List.length_drop, List.length_take]; rfl)) ?_
             with_reducible refine (impl_RunPlan.calls k (rd t1268 0) _ _ y1282 t1286 true _ ?side1 ?side2 A9.out).mono ?_
             (case side1 => repeat (first | exact (by repeat (first | (with_reducible exact HR1285.out) | (with_reducible refine Kd.C_alloc ?_ _) | (with_reducible refine Kd.C_drewN ?_ _) | (with_reducible refine Kd.C_drew ?_) | exact HR1285.out)) | (with_reducible refine Kd.C_alloc ?_ _) | (with_reducible refine Kd.C_drewN ?_ _) | (with_reducible refine Kd.C_drew ?_)))
             (case side2 => exact HC1285.out)
             rintro e w89 ⟨v1288, rfl, ho0, hb⟩
             have HS3_ := (hb.cell (World.block_lt_of_cell? _ _ (hHeld.2.2.2))).trans (hHeld.2.2.2)
             refine ⟨_, rfl, ?_⟩
             have n0_ := Aside0.mk (Kd.R_below (oR HO1266) hb)
             have n1_ := Aside0.mk (Kd.R_elder' (oR HO1270) (Kd.R_base ho0) hb)
             have n2_ := Aside0.mk (Kd.R_below (oR HO1274) hb)
             have n3_ := Aside0.mk (Kd.R_elder' (oR HO1278) (Kd.R_base ho0) hb)
             have n4_ := Aside0.mk (Kd.R_lower (Kd.R_new' (Kd.R_new' ho0 (Kd.R_lt (oR HO1270))) (Kd.R_lt (oR HO1278))) (below_size (oB HB)))
             have n5_ := Aside0.mk (blk_below (g := gb1271) (o := .cells #[.slice Ao77 t1264.length co77, .int .i64 t1267, .slice (some ad1281) t1268.length co79] 30 (0, 0)) (oK BK1271) hb)
             have n6_ := Aside0.mk (blk_below (g := gb1280) (o := .cells #[.slice Ao82 t1272.length co82, .int .i64 t1275, .slice Ao85 t1276.length co85] 30 (0, 0)) (oK BK1280) hb)
             have n7_ := Aside0.mk (Kd.C_below (by repeat (first | (with_reducible exact HR1285.out) | (with_reducible refine Kd.C_alloc ?_ _) | (with_reducible refine Kd.C_drewN ?_ _) | (with_reducible refine Kd.C_drew ?_) | exact HR1285.out)) hb)
             have n8_ := Aside0.mk (below_step (oB HB) hb)
             clear HO1266
             clear HO1270
             clear HO1274
             clear HO1278
             clear BK1271
             clear BK1280
             clear HR1285
             clear HB
             have HO1266 := n0_
             have HO1270 := n1_
             have HO1274 := n2_
             have HO1278 := n3_
             have HO1289 := n4_
             have BK1271 := n5_
             have BK1280 := n6_
             have HR1285 := n7_
             have HB := n8_
             clear n0_ n1_ n2_ n3_ n4_ n5_ n6_ n7_ n8_
             (try clear hb)
             (try clear hb2)
             (try clear hk)
             (try clear hi)
             (try clear ho0)
             refine hK.out _ _ ⟨(blk_cell BK1271.out 0).trans rfl, (blk_cell BK1271.out 1).trans rfl, (blk_cell BK1271.out 2).trans rfl, HS3_⟩ (fun hHeld => ?_)
             clear hK K
             refine norm_ (a' := ?_) ?_ ?_
             rotate_left
             ·show Act.put _ (some 28) _ = _
              simp only [Act.put, List.setIfInBounds_toArray, List.set_cons_zero, List.set_cons_succ, i64_w, i32_w]
              rfl
             refine pure_ (i := 10) (N := some 18) (v := ?_) (a' := ?_) #[true, true, true, true, true, true, true, true, true, true, true, false, false, false, false] rfl rfl (any_of HT_.out (by kernel_rfl)) (fun _ _ _ h => h) (Or.inl ⟨by rfl, ?_⟩) ?_ ?_
             rotate_left
             ·intro w'
              go_simp
              with_reducible rfl
             rotate_left
             ·simp only [Act.put, List.setIfInBounds_toArray, List.set_cons_zero, List.set_cons_succ, i64_w, i32_w]
              rfl
             refine pure_ (i := 11) (N := some 29) (v := ?_) (a' := ?_) #[true, true, true, true, true, true, true, true, true, true, true, true, false, false, false] rfl rfl (any_of HT_.out (by kernel_rfl)) (fun _ _ _ h => h) (Or.inl ⟨by rfl, ?_⟩) ?_ ?_
             rotate_left
             ·intro w'
              go_simp
              with_reducible rfl
             rotate_left
             ·simp only [Act.put, List.setIfInBounds_toArray, List.set_cons_zero, List.set_cons_succ, i64_w, i32_w]
              rfl
             refine pure_ (i := 12) (N := some 30) (v := ?_) (a' := ?_) #[true, true, true, true, true, true, true, true, true, true, true, true, true, false, false] rfl rfl (any_of HT_.out (by kernel_rfl)) (fun _ _ _ h => h) (Or.inl ⟨by rfl, ?_⟩) ?_ ?_
             rotate_left
             ·intro w'
              go_simp
              with_reducible rfl
             rotate_left
             ·simp only [Act.put, List.setIfInBounds_toArray, List.set_cons_zero, List.set_cons_succ, i64_w, i32_w]
              rfl
             refine pure_ (i := 13) (N := some 6) (v := ?_) (a' := ?_) #[true, true, true, true, true, true, true, true, true, true, true, true, true, true, false] rfl rfl (any_of HT_.out (by kernel_rfl)) (fun _ _ _ h => h) (Or.inl ⟨by rfl, ?_⟩) ?_ ?_
             rotate_left
             ·intro w'
              go_simp
              with_reducible rfl
             rotate_left
             ·simp only [Act.put, List.setIfInBounds_toArray, List.set_cons_zero, List.set_cons_succ, i64_w, i32_w]
              rfl
             refine pure_ (i := 14) (N := some 7) (v := ?_) (a' := ?_) #[true, true, true, true, true, true, true, true, true, true, true, true, true, true, true] rfl rfl (any_of HT_.out (by kernel_rfl)) (fun _ _ _ h => h) (Or.inl ⟨by rfl, ?_⟩) ?_ ?_
             rotate_left
             ·intro w'
              go_simp
              with_reducible rfl
             rotate_left
             ·simp only [Act.put, List.setIfInBounds_toArray, List.set_cons_zero, List.set_cons_succ, i64_w, i32_w]
              rfl
             refine done_ (done_of HT_.out (by kernel_rfl)) ?_
             have hcz90_0 : w89.cell? ⟨gb1271, 0, none⟩ = some (.slice Ao77 t1264.length co77) := (blk_cell BK1271.out 0).trans rfl
             have hcz90_1 : w89.cell? ⟨gb1271, 1, none⟩ = some (.int .i64 t1267) := (blk_cell BK1271.out 1).trans rfl
             have hcz90_2 : w89.cell? ⟨gb1271, 2, none⟩ = some (.slice (some ad1281) t1268.length co79) := (blk_cell BK1271.out 2).trans rfl
             have hfz90_0 := blk_frozen BK1271.out 0
             have hfz90_1 := blk_frozen BK1271.out 1
             have hfz90_2 := blk_frozen BK1271.out 2
             try go_wp2_with (first | ((with_reducible refine gate_callee (f := 35) rfl ?_); refine goesL_ (some 32) rfl rfl Try.func35 (by kernel_rfl) rfl #[.agg #[.slice Ao77 t1264.length co77, .int .i64 t1267, .slice (some ad1281) t1268.length co79]] rfl (by (try simp only [List.map_toArray, List.map_cons, List.map_nil]); first | done | rfl | (simp only [List.length_drop, List.length_take]; rfl)) ?_; (with_reducible refine (impl_WrongSteps.calls k _ _ t1264 t1267 _ _ t1268 t1290 _ ?side1 ?side2 ?side3 ?side4 A10.out).mono ?_); (case side1 => repeat (first | exact (Kd.R_reads' HO1266.out).2.2 | (with_reducible refine Kd.C_alloc ?_ _) | (with_reducible refine Kd.C_drewN ?_ _) | (with_reducible refine Kd.C_drew ?_))); (case side2 => exact (Kd.R_reads' HO1266.out).2.1); (case side3 => repeat (first | exact (Kd.R_reads' HO1270.out).2.2 | (with_reducible refine Kd.C_alloc ?_ _) | (with_reducible refine Kd.C_drewN ?_ _) | (with_reducible refine Kd.C_drew ?_))); (case side4 => exact (Kd.R_reads' HO1270.out).2.1); rintro e w91 ⟨v1291, rfl, ho0, hb⟩; refine ⟨_, rfl, ?_⟩; have n0_ := Aside0.mk (Kd.R_below (oR HO1266) hb); have n1_ := Aside0.mk (Kd.R_elder' (oR HO1270) (Kd.R_base ho0) hb); have n2_ := Aside0.mk (Kd.R_below (oR HO1274) hb); have n3_ := Aside0.mk (Kd.R_elder' (oR HO1278) (Kd.R_base ho0) hb); have n4_ := Aside0.mk (Kd.R_elder' (oR HO1289) (Kd.R_base ho0) hb); have n5_ := Aside0.mk (Kd.R_lower (Kd.R_new' (Kd.R_new' (Kd.R_new' ho0 (Kd.R_lt (oR HO1270))) (Kd.R_lt (oR HO1278))) (Kd.R_lt (oR HO1289))) (below_size (oB HB))); have n6_ := Aside0.mk (blk_below (g := gb1271) (o := .cells #[.slice Ao77 t1264.length co77, .int .i64 t1267, .slice (some ad1281) t1268.length co79] 30 (0, 0)) (oK BK1271) hb); have n7_ := Aside0.mk (blk_below (g := gb1280) (o := .cells #[.slice Ao82 t1272.length co82, .int .i64 t1275, .slice Ao85 t1276.length co85] 30 (0, 0)) (oK BK1280) hb); have n8_ := Aside0.mk (Kd.C_below (by repeat (first | (with_reducible exact HR1285.out) | (with_reducible refine Kd.C_alloc ?_ _) | (with_reducible refine Kd.C_drewN ?_ _) | (with_reducible refine Kd.C_drew ?_) | exact HR1285.out)) hb); have n9_ := Aside0.mk (below_step (oB HB) hb); clear HO1266; clear HO1270; clear HO1274; clear HO1278; clear HO1289; clear BK1271; clear BK1280; clear HR1285; clear HB; have HO1266 := n0_; have HO1270 := n1_; have HO1274 := n2_; have HO1278 := n3_; have HO1289 := n4_; have HO1292 := n5_; have BK1271 := n6_; have BK1280 := n7_; have HR1285 := n8_; have HB := n9_; clear n0_ n1_ n2_ n3_ n4_ n5_ n6_ n7_ n8_ n9_; (try clear hb); (try clear hb2); (try clear hk); (try clear hi); (try clear ho0); have hcz92_0 : w91.cell? ⟨gb1280, 0, none⟩ = some (.slice Ao82 t1272.length co82) := (blk_cell BK1280.out 0).trans rfl; have hcz92_1 : w91.cell? ⟨gb1280, 1, none⟩ = some (.int .i64 t1275) := (blk_cell BK1280.out 1).trans rfl; have hcz92_2 : w91.cell? ⟨gb1280, 2, none⟩ = some (.slice Ao85 t1276.length co85) := (blk_cell BK1280.out 2).trans rfl; have hfz92_0 := blk_frozen BK1280.out 0; have hfz92_1 := blk_frozen BK1280.out 1; have hfz92_2 := blk_frozen BK1280.out 2) | (go_at_call 35; (with_reducible refine (impl_WrongSteps.calls k _ _ t1272 t1275 _ _ t1276 t1293 _ ?side1 ?side2 ?side3 ?side4 A12.out).mono ?_); (case side1 => repeat (first | exact (Kd.R_reads' HO1274.out).2.2 | (with_reducible refine Kd.C_alloc ?_ _) | (with_reducible refine Kd.C_drewN ?_ _) | (with_reducible refine Kd.C_drew ?_))); (case side2 => exact (Kd.R_reads' HO1274.out).2.1); (case side3 => repeat (first | exact (Kd.R_reads' HO1278.out).2.2 | (with_reducible refine Kd.C_alloc ?_ _) | (with_reducible refine Kd.C_drewN ?_ _) | (with_reducible refine Kd.C_drew ?_))); (case side4 => exact (Kd.R_reads' HO1278.out).2.1); rintro e w93 ⟨v1294, rfl, ho0, hb⟩; have n0_ := Aside0.mk (Kd.R_below (oR HO1266) hb); have n1_ := Aside0.mk (Kd.R_elder' (oR HO1270) (Kd.R_base ho0) hb); have n2_ := Aside0.mk (Kd.R_below (oR HO1274) hb); have n3_ := Aside0.mk (Kd.R_elder' (oR HO1278) (Kd.R_base ho0) hb); have n4_ := Aside0.mk (Kd.R_elder' (oR HO1289) (Kd.R_base ho0) hb); have n5_ := Aside0.mk (Kd.R_elder' (oR HO1292) (Kd.R_base ho0) hb); have n6_ := Aside0.mk (Kd.R_lower (Kd.R_new' (Kd.R_new' (Kd.R_new' (Kd.R_new' ho0 (Kd.R_lt (oR HO1270))) (Kd.R_lt (oR HO1278))) (Kd.R_lt (oR HO1289))) (Kd.R_lt (oR HO1292))) (below_size (oB HB))); have n7_ := Aside0.mk (blk_below (g := gb1271) (o := .cells #[.slice Ao77 t1264.length co77, .int .i64 t1267, .slice (some ad1281) t1268.length co79] 30 (0, 0)) (oK BK1271) hb); have n8_ := Aside0.mk (blk_below (g := gb1280) (o := .cells #[.slice Ao82 t1272.length co82, .int .i64 t1275, .slice Ao85 t1276.length co85] 30 (0, 0)) (oK BK1280) hb); have n9_ := Aside0.mk (Kd.C_below (by repeat (first | (with_reducible exact HR1285.out) | (with_reducible refine Kd.C_alloc ?_ _) | (with_reducible refine Kd.C_drewN ?_ _) | (with_reducible refine Kd.C_drew ?_) | exact HR1285.out)) hb); have n10_ := Aside0.mk (below_step (oB HB) hb); clear HO1266; clear HO1270; clear HO1274; clear HO1278; clear HO1289; clear HO1292; clear BK1271; clear BK1280; clear HR1285; clear HB; have HO1266 := n0_; have HO1270 := n1_; have HO1274 := n2_; have HO1278 := n3_; have HO1289 := n4_; have HO1292 := n5_; have HO1295 := n6_; have BK1271 := n7_; have BK1280 := n8_; have HR1285 := n9_; have HB := n10_; clear n0_ n1_ n2_ n3_ n4_ n5_ n6_ n7_ n8_ n9_ n10_; (try clear hb); (try clear hb2); (try clear hk); (try clear hi); (try clear ho0); obtain ⟨Ao94, co94, eo94⟩ := Kd.R_slice HO1295.out; subst eo94; have hcz95_0 : w93.cell? ⟨gb1280, 0, none⟩ = some (.slice Ao82 t1272.length co82) := (blk_cell BK1280.out 0).trans rfl; have hcz95_1 : w93.cell? ⟨gb1280, 1, none⟩ = some (.int .i64 t1275) := (blk_cell BK1280.out 1).trans rfl; have hcz95_2 : w93.cell? ⟨gb1280, 2, none⟩ = some (.slice Ao85 t1276.length co85) := (blk_cell BK1280.out 2).trans rfl; have hfz95_0 := blk_frozen BK1280.out 0; have hfz95_1 := blk_frozen BK1280.out 1; have hfz95_2 := blk_frozen BK1280.out 2; obtain ⟨Ao96, co96, eo96⟩ := Kd.R_slice HO1289.out; subst eo96) | (go_at_call 51; (with_reducible refine (laws_sameInts.calls k _ _ t1276 _ _ t1286 true _ ?side1 ?side2 ?side3 ?side4 A14.out).mono ?_); (case side1 => repeat (first | exact (Kd.R_reads' HO1278.out).2.2 | (with_reducible refine Kd.C_alloc ?_ _) | (with_reducible refine Kd.C_drewN ?_ _) | (with_reducible refine Kd.C_drew ?_))); (case side2 => exact (Kd.R_reads' HO1278.out).2.1); (case side3 => repeat (first | exact (Kd.R_reads' HO1289.out).2.2 | (with_reducible refine Kd.C_alloc ?_ _) | (with_reducible refine Kd.C_drewN ?_ _) | (with_reducible refine Kd.C_drew ?_))); (case side4 => exact (Kd.R_reads' HO1289.out).2.1); rintro e w' ⟨rfl, ⟨nd, rfl⟩⟩; have hcz97_0 : w93.cell? ⟨gb1271, 0, none⟩ = some (.slice Ao77 t1264.length co77) := (blk_cell BK1271.out 0).trans rfl; have hcz97_1 : w93.cell? ⟨gb1271, 1, none⟩ = some (.int .i64 t1267) := (blk_cell BK1271.out 1).trans rfl; have hcz97_2 : w93.cell? ⟨gb1271, 2, none⟩ = some (.slice (some ad1281) t1268.length co79) := (blk_cell BK1271.out 2).trans rfl; have hfz97_0 := blk_frozen BK1271.out 0; have hfz97_1 := blk_frozen BK1271.out 1; have hfz97_2 := blk_frozen BK1271.out 2; obtain ⟨Ao98, co98, eo98⟩ := Kd.R_slice HO1292.out; subst eo98))
             go_ret
             exact ⟨by first | rfl | (simp [errW_none, errW_some] <;> rfl) | (simp [*, errW_none, errW_some] <;> rfl), oB HB⟩
            ·rw [if_neg c74] at H
             have c74b0 : decide (t1267 < 11) = false := decide_eq_false c74
             clear c74
             replace H := Option.bind_eq_some_iff.mp H
             obtain ⟨t1298, A990, H⟩ := H
             (try dsimp only at H)
             have A99 := Aside0.mk A990
             clear A990
             obtain rfl := Option.some.inj H
             go_enter Try.func14, Try.ntmps14
             try go_wp2_with (first | ((with_reducible refine gate_callee (f := 47) rfl ?_); refine goesL_ (some 10) rfl rfl Try.func47 (by kernel_rfl) rfl #[.slice A0 l0.length c0] rfl (by (try simp only [List.map_toArray, List.map_cons, List.map_nil]); first | done | rfl | (simp only [List.length_drop, List.length_take]; rfl)) ?_; (with_reducible refine (laws_big.calls _ _ l0 false _ ?side1 ?side2 A2.out).mono ?_); (case side1 => repeat (first | exact HR0.out | (with_reducible refine Kd.C_alloc ?_ _) | (with_reducible refine Kd.C_drewN ?_ _) | (with_reducible refine Kd.C_drew ?_))); (case side2 => exact HC0.out); rintro e w' ⟨rfl, ⟨nd, rfl⟩⟩; refine ⟨_, rfl, ?_⟩) | ((with_reducible refine gate_callee (f := 52) rfl ?_); refine goesL_ (some 12) rfl rfl Try.func52 (by kernel_rfl) rfl #[.slice A0 l0.length c0] rfl (by (try simp only [List.map_toArray, List.map_cons, List.map_nil]); first | done | rfl | (simp only [List.length_drop, List.length_take]; rfl)) ?_; (with_reducible refine (spec_DrawKnocked.calls k _ _ l0 t1264 t1267 t1268 _ ?side1 ?side2 A4.out).mono ?_); (case side1 => repeat (first | exact HR0.out | (with_reducible refine Kd.C_alloc ?_ _) | (with_reducible refine Kd.C_drewN ?_ _) | (with_reducible refine Kd.C_drew ?_))); (case side2 => exact HC0.out); rintro e w100 ⟨v1265, v1269, rfl, ho0, ho1, hb⟩; refine ⟨_, rfl, ?_⟩; have n0_ := Aside0.mk (Kd.R_lower ho0 (below_size (oB HB))); have n1_ := Aside0.mk (Kd.R_lower ho1 (below_size (oB HB))); have n2_ := Aside0.mk (below_step (oB HB) hb); clear HB; have HO1266 := n0_; have HO1270 := n1_; have HB := n2_; clear n0_ n1_ n2_; (try clear hb); (try clear hb2); (try clear hk); (try clear hi); (try clear ho0); (try clear ho1)) | ((with_reducible refine gate_dst (N := 3) rfl ?_); (try (refine gate_guard (by rfl) ?_; dsimp only)); refine box_event ?hg (N := 3) ?hd (cs := #[.slice none 0 0, .int .i64 0, .slice none 0 0]) (t := 30) ?hr ?_; (case hd => rfl); (case hg => rfl); (case hr => first | (go_simp; done) | (go_simp; rfl)); intro gb1271 hg w101 hbox hb; have n0_ := Aside0.mk (Kd.R_below (oR HO1266) hb); have n1_ := Aside0.mk (Kd.R_below (oR HO1270) hb); have n2_ := Aside0.mk (below_step (oB HB) hb); have n3_ := Aside0.mk (hbox); have n4_ := Aside0.mk ((by rw [hg]; exact (below_size (oB HB)) : w.heap.size ≤ gb1271)); have n5_ := Aside0.mk ((by rw [hg]; exact (below_size (oB HB)) : w.heap.size ≤ gb1271)); clear HO1266; clear HO1270; clear HB; have HO1266 := n0_; have HO1270 := n1_; have HB := n2_; have BK1271 := n3_; have GW1271 := n4_; have GE1271 := n5_; clear n0_ n1_ n2_ n3_ n4_ n5_; clear hb hbox hg; obtain ⟨Ao102, co102, eo102⟩ := Kd.R_slice HO1266.out; subst eo102; have hcz103_0 : w101.cell? ⟨gb1271, 0, none⟩ = some (.slice none 0 0) := (blk_cell BK1271.out 0).trans rfl; have hcz103_1 : w101.cell? ⟨gb1271, 1, none⟩ = some (.int .i64 0) := (blk_cell BK1271.out 1).trans rfl; have hcz103_2 : w101.cell? ⟨gb1271, 2, none⟩ = some (.slice none 0 0) := (blk_cell BK1271.out 2).trans rfl; have hfz103_0 := blk_frozen BK1271.out 0; have hfz103_1 := blk_frozen BK1271.out 1; have hfz103_2 := blk_frozen BK1271.out 2; obtain ⟨Ao104, co104, eo104⟩ := Kd.R_slice HO1270.out; subst eo104) | ((with_reducible refine gate_callee (f := 46) rfl ?_); refine goesL_ (some 15) rfl rfl Try.func46 (by kernel_rfl) rfl #[.agg #[.slice Ao102 t1264.length co102, .int .i64 t1267, .slice Ao104 t1268.length co104]] rfl (by (try simp only [List.map_toArray, List.map_cons, List.map_nil]); first | done | rfl | (simp only [List.length_drop, List.length_take]; rfl)) ?_; (with_reducible refine (impl_MendAll.calls k _ _ t1264 t1267 _ _ t1268 t1272 t1275 t1276 t1279 _ ?side1 ?side2 ?side3 ?side4 A5.out).mono ?_); (case side1 => refine (Kd.R_reads' (e := 67) (base := w.heap.size) (ok := fun k_ => True) (n := t1264.length) (c := co102) ?_).2.2; exact (by (with_reducible repeat (first | apply Kd.R_alloc | apply Kd.R_drewN | apply Kd.R_drew)); exact (Kd.R_mono (Kd.R_far (p := ⟨gb1271, 2, none⟩) (Kd.R_far (p := ⟨gb1271, 1, none⟩) (Kd.R_far (p := ⟨gb1271, 0, none⟩) (Kd.R_types HO1266.out BK1271.out (by decide)) (fun _ hk => hk.2) (.slice Ao102 t1264.length co102)) (fun _ hk => hk.2) (.int .i64 t1267)) (fun _ hk => hk.2) (.slice Ao104 t1268.length co104)) (fun _ h_ => h_.1)))); (case side2 => exact (Kd.R_reads' HO1266.out).2.1); (case side3 => refine (Kd.R_reads' (e := 3) (base := w.heap.size) (ok := fun k_ => True) (n := t1268.length) (c := co104) ?_).2.2; exact (by (with_reducible repeat (first | apply Kd.R_alloc | apply Kd.R_drewN | apply Kd.R_drew)); exact (Kd.R_mono (Kd.R_far (p := ⟨gb1271, 2, none⟩) (Kd.R_far (p := ⟨gb1271, 1, none⟩) (Kd.R_far (p := ⟨gb1271, 0, none⟩) (Kd.R_types HO1270.out BK1271.out (by decide)) (fun _ hk => hk.2) (.slice Ao102 t1264.length co102)) (fun _ hk => hk.2) (.int .i64 t1267)) (fun _ hk => hk.2) (.slice Ao104 t1268.length co104)) (fun _ h_ => h_.1)))); (case side4 => exact (Kd.R_reads' HO1270.out).2.1); rintro e w105 ⟨v1273, v1277, rfl, ho0, ho1, hb⟩; refine ⟨_, rfl, ?_⟩; have n0_ := Aside0.mk (Kd.R_elder' (by (with_reducible repeat (first | apply Kd.R_alloc | apply Kd.R_drewN | apply Kd.R_drew)); exact (Kd.R_mono (Kd.R_far (p := ⟨gb1271, 2, none⟩) (Kd.R_far (p := ⟨gb1271, 1, none⟩) (Kd.R_far (p := ⟨gb1271, 0, none⟩) (Kd.R_types HO1266.out BK1271.out (by decide)) (fun _ hk => hk.2) (.slice Ao102 t1264.length co102)) (fun _ hk => hk.2) (.int .i64 t1267)) (fun _ hk => hk.2) (.slice Ao104 t1268.length co104)) (fun _ h_ => h_.1))) (Kd.R_base ho0) hb); have n1_ := Aside0.mk (Kd.R_elder' (by (with_reducible repeat (first | apply Kd.R_alloc | apply Kd.R_drewN | apply Kd.R_drew)); exact (Kd.R_mono (Kd.R_far (p := ⟨gb1271, 2, none⟩) (Kd.R_far (p := ⟨gb1271, 1, none⟩) (Kd.R_far (p := ⟨gb1271, 0, none⟩) (Kd.R_types HO1270.out BK1271.out (by decide)) (fun _ hk => hk.2) (.slice Ao102 t1264.length co102)) (fun _ hk => hk.2) (.int .i64 t1267)) (fun _ hk => hk.2) (.slice Ao104 t1268.length co104)) (fun _ h_ => h_.1))) (Kd.R_base ho1) hb); have n2_ := Aside0.mk (Kd.R_lower (Kd.R_new' ho0 (Kd.R_lt (by (with_reducible repeat (first | apply Kd.R_alloc | apply Kd.R_drewN | apply Kd.R_drew)); exact (Kd.R_mono (Kd.R_far (p := ⟨gb1271, 2, none⟩) (Kd.R_far (p := ⟨gb1271, 1, none⟩) (Kd.R_far (p := ⟨gb1271, 0, none⟩) (Kd.R_types HO1266.out BK1271.out (by decide)) (fun _ hk => hk.2) (.slice Ao102 t1264.length co102)) (fun _ hk => hk.2) (.int .i64 t1267)) (fun _ hk => hk.2) (.slice Ao104 t1268.length co104)) (fun _ h_ => h_.1))))) (below_size (oB HB))); have n3_ := Aside0.mk (Kd.R_lower (Kd.R_new' ho1 (Kd.R_lt (by (with_reducible repeat (first | apply Kd.R_alloc | apply Kd.R_drewN | apply Kd.R_drew)); exact (Kd.R_mono (Kd.R_far (p := ⟨gb1271, 2, none⟩) (Kd.R_far (p := ⟨gb1271, 1, none⟩) (Kd.R_far (p := ⟨gb1271, 0, none⟩) (Kd.R_types HO1270.out BK1271.out (by decide)) (fun _ hk => hk.2) (.slice Ao102 t1264.length co102)) (fun _ hk => hk.2) (.int .i64 t1267)) (fun _ hk => hk.2) (.slice Ao104 t1268.length co104)) (fun _ h_ => h_.1))))) (below_size (oB HB))); have n4_ := Aside0.mk (blk_below (g := gb1271) (o := .cells #[.slice Ao102 t1264.length co102, .int .i64 t1267, .slice Ao104 t1268.length co104] 30 (0, 0)) (by (with_reducible repeat (first | refine blk_drewN ?_ _ | refine blk_drew ?_ | refine blk_alloc ?_ _)); refine blk_put (cs := #[.slice Ao102 t1264.length co102, .int .i64 t1267, .slice none 0 0]) ?_ 2 _ rfl; (with_reducible repeat (first | refine blk_drewN ?_ _ | refine blk_drew ?_ | refine blk_alloc ?_ _)); refine blk_put (cs := #[.slice Ao102 t1264.length co102, .int .i64 0, .slice none 0 0]) ?_ 1 _ rfl; (with_reducible repeat (first | refine blk_drewN ?_ _ | refine blk_drew ?_ | refine blk_alloc ?_ _)); refine blk_put (cs := #[.slice none 0 0, .int .i64 0, .slice none 0 0]) ?_ 0 _ rfl; (with_reducible repeat (first | refine blk_drewN ?_ _ | refine blk_drew ?_ | refine blk_alloc ?_ _)); exact BK1271.out) hb); have n5_ := Aside0.mk (below_step (oB HB) hb); clear HO1266; clear HO1270; clear BK1271; clear HB; have HO1266 := n0_; have HO1270 := n1_; have HO1274 := n2_; have HO1278 := n3_; have BK1271 := n4_; have HB := n5_; clear n0_ n1_ n2_ n3_ n4_ n5_; (try clear hb); (try clear hb2); (try clear hk); (try clear hi); (try clear ho0); (try clear ho1)) | ((with_reducible refine gate_dst (N := 4) rfl ?_); (try (refine gate_guard (by rfl) ?_; dsimp only)); refine box_event ?hg (N := 4) ?hd (cs := #[.slice none 0 0, .int .i64 0, .slice none 0 0]) (t := 30) ?hr ?_; (case hd => rfl); (case hg => rfl); (case hr => first | (go_simp; done) | (go_simp; rfl)); intro gb1280 hg w106 hbox hb; have n0_ := Aside0.mk (Kd.R_below (oR HO1266) hb); have n1_ := Aside0.mk (Kd.R_below (oR HO1270) hb); have n2_ := Aside0.mk (Kd.R_below (oR HO1274) hb); have n3_ := Aside0.mk (Kd.R_below (oR HO1278) hb); have n4_ := Aside0.mk (blk_below (g := gb1271) (o := .cells #[.slice Ao102 t1264.length co102, .int .i64 t1267, .slice Ao104 t1268.length co104] 30 (0, 0)) (oK BK1271) hb); have n5_ := Aside0.mk (below_step (oB HB) hb); have n6_ := Aside0.mk (hbox); have n7_ := Aside0.mk ((by rw [hg]; exact (below_size (oB HB)) : w.heap.size ≤ gb1280)); have n8_ := Aside0.mk ((by rw [hg]; exact (below_size (oB HB)) : w.heap.size ≤ gb1280)); have n9_ := Aside0.mk ((by rw [hg]; exact Nat.ne_of_lt (blk_lt (g := gb1271) (o := .cells #[.slice Ao102 t1264.length co102, .int .i64 t1267, .slice Ao104 t1268.length co104] 30 (0, 0)) (oK BK1271)) : gb1271 ≠ gb1280)); have n10_ := Aside0.mk ((by rw [hg]; exact Nat.ne_of_gt (blk_lt (g := gb1271) (o := .cells #[.slice Ao102 t1264.length co102, .int .i64 t1267, .slice Ao104 t1268.length co104] 30 (0, 0)) (oK BK1271)) : gb1280 ≠ gb1271)); clear HO1266; clear HO1270; clear HO1274; clear HO1278; clear BK1271; clear HB; have HO1266 := n0_; have HO1270 := n1_; have HO1274 := n2_; have HO1278 := n3_; have BK1271 := n4_; have HB := n5_; have BK1280 := n6_; have GW1280 := n7_; have GE1280 := n8_; have NB1271_1280 := n9_; have NB1280_1271 := n10_; clear n0_ n1_ n2_ n3_ n4_ n5_ n6_ n7_ n8_ n9_ n10_; clear hb hbox hg; obtain ⟨Ao107, co107, eo107⟩ := Kd.R_slice HO1274.out; subst eo107; have hnb108 := NB1280_1271.out; have hnc108 := NB1271_1280.out; have hcz109_0 : w106.cell? ⟨gb1280, 0, none⟩ = some (.slice none 0 0) := (blk_cell BK1280.out 0).trans rfl; have hcz109_1 : w106.cell? ⟨gb1280, 1, none⟩ = some (.int .i64 0) := (blk_cell BK1280.out 1).trans rfl; have hcz109_2 : w106.cell? ⟨gb1280, 2, none⟩ = some (.slice none 0 0) := (blk_cell BK1280.out 2).trans rfl; have hfz109_0 := blk_frozen BK1280.out 0; have hfz109_1 := blk_frozen BK1280.out 1; have hfz109_2 := blk_frozen BK1280.out 2; obtain ⟨Ao110, co110, eo110⟩ := Kd.R_slice HO1278.out; subst eo110))
             have n0_ : Aside0 (Kd.R k67 67 (((w106.setCell ⟨gb1280, 0, none⟩ (.slice Ao107 t1272.length co107)).setCell ⟨gb1280, 1, none⟩ (.int .i64 t1275)).setCell ⟨gb1280, 2, none⟩ (.slice Ao110 t1276.length co110)) w.heap.size (fun k_ => some k_ ≠ (.slice Ao107 t1272.length co107 : Value).ownBlock) (.slice Ao102 t1264.length co102) t1264) := ⟨by (with_reducible repeat (first | apply Kd.R_alloc | apply Kd.R_drewN | apply Kd.R_drew)); exact Kd.R_mono (Kd.R_far (p := ⟨gb1280, 2, none⟩) (Kd.R_far (p := ⟨gb1280, 1, none⟩) (Kd.R_far (p := ⟨gb1280, 0, none⟩) (Kd.R_types HO1266.out BK1280.out (by decide)) (fun _ hk => hk.2) (.slice Ao107 t1272.length co107)) (fun _ hk => hk.2) (.int .i64 t1275)) (fun _ hk => hk.2) (.slice Ao110 t1276.length co110)) (fun _ hk => hk.1.2)⟩
             have n1_ : Aside0 (Kd.R (Kd.int .i64) 3 (((w106.setCell ⟨gb1280, 0, none⟩ (.slice Ao107 t1272.length co107)).setCell ⟨gb1280, 1, none⟩ (.int .i64 t1275)).setCell ⟨gb1280, 2, none⟩ (.slice Ao110 t1276.length co110)) w.heap.size (fun k_ => some k_ ≠ (.slice Ao110 t1276.length co110 : Value).ownBlock) (.slice Ao104 t1268.length co104) t1268) := ⟨by (with_reducible repeat (first | apply Kd.R_alloc | apply Kd.R_drewN | apply Kd.R_drew)); exact Kd.R_mono (Kd.R_far (p := ⟨gb1280, 2, none⟩) (Kd.R_far (p := ⟨gb1280, 1, none⟩) (Kd.R_far (p := ⟨gb1280, 0, none⟩) (Kd.R_types HO1270.out BK1280.out (by decide)) (fun _ hk => hk.2) (.slice Ao107 t1272.length co107)) (fun _ hk => hk.2) (.int .i64 t1275)) (fun _ hk => hk.2) (.slice Ao110 t1276.length co110)) (fun _ hk => hk.1.2)⟩
             have n2_ : Aside0 (Kd.R k67 67 (((w106.setCell ⟨gb1280, 0, none⟩ (.slice Ao107 t1272.length co107)).setCell ⟨gb1280, 1, none⟩ (.int .i64 t1275)).setCell ⟨gb1280, 2, none⟩ (.slice Ao110 t1276.length co110)) w.heap.size (fun k_ => some k_ ≠ (.slice Ao102 t1264.length co102 : Value).ownBlock) (.slice Ao107 t1272.length co107) t1272) := ⟨by (with_reducible repeat (first | apply Kd.R_alloc | apply Kd.R_drewN | apply Kd.R_drew)); exact Kd.R_mono (Kd.R_far (p := ⟨gb1280, 2, none⟩) (Kd.R_far (p := ⟨gb1280, 1, none⟩) (Kd.R_far (p := ⟨gb1280, 0, none⟩) (Kd.R_types HO1274.out BK1280.out (by decide)) (fun _ hk => hk.2) (.slice Ao107 t1272.length co107)) (fun _ hk => hk.2) (.int .i64 t1275)) (fun _ hk => hk.2) (.slice Ao110 t1276.length co110)) (fun _ hk => hk.1.2)⟩
             have n3_ : Aside0 (Kd.R (Kd.int .i64) 3 (((w106.setCell ⟨gb1280, 0, none⟩ (.slice Ao107 t1272.length co107)).setCell ⟨gb1280, 1, none⟩ (.int .i64 t1275)).setCell ⟨gb1280, 2, none⟩ (.slice Ao110 t1276.length co110)) w.heap.size (fun k_ => some k_ ≠ (.slice Ao104 t1268.length co104 : Value).ownBlock) (.slice Ao110 t1276.length co110) t1276) := ⟨by (with_reducible repeat (first | apply Kd.R_alloc | apply Kd.R_drewN | apply Kd.R_drew)); exact Kd.R_mono (Kd.R_far (p := ⟨gb1280, 2, none⟩) (Kd.R_far (p := ⟨gb1280, 1, none⟩) (Kd.R_far (p := ⟨gb1280, 0, none⟩) (Kd.R_types HO1278.out BK1280.out (by decide)) (fun _ hk => hk.2) (.slice Ao107 t1272.length co107)) (fun _ hk => hk.2) (.int .i64 t1275)) (fun _ hk => hk.2) (.slice Ao110 t1276.length co110)) (fun _ hk => hk.1.2)⟩
             have n4_ : Aside0 ((((w106.setCell ⟨gb1280, 0, none⟩ (.slice Ao107 t1272.length co107)).setCell ⟨gb1280, 1, none⟩ (.int .i64 t1275)).setCell ⟨gb1280, 2, none⟩ (.slice Ao110 t1276.length co110)).heap[gb1271]? = some (.cells #[.slice Ao102 t1264.length co102, .int .i64 t1267, .slice Ao104 t1268.length co104] 30 (0, 0))) := ⟨by (with_reducible repeat (first | refine blk_drewN ?_ _ | refine blk_drew ?_ | refine blk_alloc ?_ _)); refine blk_far ?_ NB1271_1280.out _; (with_reducible repeat (first | refine blk_drewN ?_ _ | refine blk_drew ?_ | refine blk_alloc ?_ _)); refine blk_far ?_ NB1271_1280.out _; (with_reducible repeat (first | refine blk_drewN ?_ _ | refine blk_drew ?_ | refine blk_alloc ?_ _)); refine blk_far ?_ NB1271_1280.out _; (with_reducible repeat (first | refine blk_drewN ?_ _ | refine blk_drew ?_ | refine blk_alloc ?_ _)); exact BK1271.out⟩
             have n5_ : Aside0 ((((w106.setCell ⟨gb1280, 0, none⟩ (.slice Ao107 t1272.length co107)).setCell ⟨gb1280, 1, none⟩ (.int .i64 t1275)).setCell ⟨gb1280, 2, none⟩ (.slice Ao110 t1276.length co110)).heap[gb1280]? = some (.cells #[.slice Ao107 t1272.length co107, .int .i64 t1275, .slice Ao110 t1276.length co110] 30 (0, 0))) := ⟨by (with_reducible repeat (first | refine blk_drewN ?_ _ | refine blk_drew ?_ | refine blk_alloc ?_ _)); refine blk_put (cs := #[.slice Ao107 t1272.length co107, .int .i64 t1275, .slice none 0 0]) ?_ 2 _ rfl; (with_reducible repeat (first | refine blk_drewN ?_ _ | refine blk_drew ?_ | refine blk_alloc ?_ _)); refine blk_put (cs := #[.slice Ao107 t1272.length co107, .int .i64 0, .slice none 0 0]) ?_ 1 _ rfl; (with_reducible repeat (first | refine blk_drewN ?_ _ | refine blk_drew ?_ | refine blk_alloc ?_ _)); refine blk_put (cs := #[.slice none 0 0, .int .i64 0, .slice none 0 0]) ?_ 0 _ rfl; (with_reducible repeat (first | refine blk_drewN ?_ _ | refine blk_drew ?_ | refine blk_alloc ?_ _)); exact BK1280.out⟩
             have n6_ : Aside0 (Below w.heap.size w (((w106.setCell ⟨gb1280, 0, none⟩ (.slice Ao107 t1272.length co107)).setCell ⟨gb1280, 1, none⟩ (.int .i64 t1275)).setCell ⟨gb1280, 2, none⟩ (.slice Ao110 t1276.length co110))) := ⟨oB HB⟩
             (try clear HO1266)
             (try clear HO1270)
             (try clear HO1274)
             (try clear HO1278)
             (try clear BK1271)
             (try clear BK1280)
             (try clear HB)
             generalize (((w106.setCell ⟨gb1280, 0, none⟩ (.slice Ao107 t1272.length co107)).setCell ⟨gb1280, 1, none⟩ (.int .i64 t1275)).setCell ⟨gb1280, 2, none⟩ (.slice Ao110 t1276.length co110)) = w111 at n0_ n1_ n2_ n3_ n4_ n5_ n6_ ⊢
             have HO1266 := n0_
             have HO1270 := n1_
             have HO1274 := n2_
             have HO1278 := n3_
             have BK1271 := n4_
             have BK1280 := n5_
             have HB := n6_
             clear n0_ n1_ n2_ n3_ n4_ n5_ n6_
             have n0_ := Aside0.mk (Kd.R_drew HO1266.out)
             have n1_ := Aside0.mk (Kd.R_drew HO1270.out)
             have n2_ := Aside0.mk (Kd.R_drew HO1274.out)
             have n3_ := Aside0.mk (Kd.R_drew HO1278.out)
             have n4_ := Aside0.mk (blk_drew BK1271.out)
             have n5_ := Aside0.mk (blk_drew BK1280.out)
             have n6_ := Aside0.mk (below_drew1 HB.out)
             clear HO1266
             clear HO1270
             clear HO1274
             clear HO1278
             clear BK1271
             clear BK1280
             clear HB
             have HO1266 := n0_
             have HO1270 := n1_
             have HO1274 := n2_
             have HO1278 := n3_
             have BK1271 := n4_
             have BK1280 := n5_
             have HB := n6_
             clear n0_ n1_ n2_ n3_ n4_ n5_ n6_
             have p1281 : 0 ≤ (0 : Int) := (by omega)
             have q1281 : 0 < (t1268.length : Int) := of_decide_eq_true (by first | (with_reducible assumption) | assumption)
             obtain ⟨ad1281, e1281, hx1281_0⟩ := Kd.at_int (Kd.R_reads' HO1270.out).2.2 0 p1281 q1281
             cases e1281
             have qi1281 : (0 < t1268.length) = True := eq_true (by omega)
             (try rw [show ((0 : Int)).toNat = 0 from rfl] at hx1281_0)
             (try rw [Addr.add_zero'] at hx1281_0)
             replace p1281 := eq_true p1281
             replace q1281 := eq_true q1281
             have q113 : (t1267 : Int) ≤ ((t1264.length : Int) : Int) := of_decide_eq_true (by first | (with_reducible assumption) | assumption)
             obtain ⟨i0113, hi0113, _, hsz113, _⟩ := info_parts info67
             have hroom113 : t1264.length ≤ co102 := (Kd.R_reads' HO1266.out).2.1
             have hC113 : Kd.C k67 _ Ao102 t1264.length t1264 := (Kd.R_reads' HO1266.out).2.2
             have hcut113 := cut_to (P := Try.prog) 28 67 .i64 Try.underlying28 hi0113 Ao102 t1264.length co102 t1267 (of_decide_eq_true (by first | (with_reducible assumption) | assumption)) q113 hroom113
             have hr113 := Kd.C_take (m := (t1267 : Int).toNat) hC113 (by omega)
             have hy113 : y1282.length = (t1267 : Int).toNat := (by rw [Ny1282.out, List.length_take]; omega)
             rw [← Ny1282.out] at hr113
             rw [← hy113] at hcut113
             have HR1285 := Aside0.mk hr113
             have HC1285 := Aside0.mk (show y1282.length ≤ co102 from by omega)
             clear hr113 hC113 hroom113 hi0113 hsz113
             have KY113 := Aside0.mk hy113
             clear hy113
             have KL113 := Aside0.mk (show (t1267 : Int).toNat ≤ t1264.length from by omega)
             replace q113 := eq_true q113
             refine start_ (n := 15) (S := fun w' => w'.cell? ⟨gb1271, 0, none⟩ = some (.slice Ao102 t1264.length co102) ∧ w'.cell? ⟨gb1271, 1, none⟩ = some (.int .i64 t1267) ∧ w'.cell? ⟨gb1271, 2, none⟩ = some (.slice (some ad1281) t1268.length co104) ∧ w'.cell? ad1281 = some (.int .i64 (rd t1268 0))) (ds := []) #[false, false, false, false, false, false, false, false, false, false, false, false, false, false, false] (by kernel_rfl) rfl rfl ⟨(blk_cell BK1271.out 0).trans rfl, (blk_cell BK1271.out 1).trans rfl, (blk_cell BK1271.out 2).trans rfl, hx1281_0⟩ (fun hHeld => ?_); refine with_tabW laws_FnMends.tab5 laws_FnMends.bits5 (fun HT_ HW_ => ?_)
             generalize w111.drew = w112 at HO1266 HO1270 HO1274 HO1278 BK1271 BK1280 HB HR1285 hx1281_0 hHeld ⊢
             refine pure_ (i := 0) (N := some 19) (v := ?_) (a' := ?_) #[true, false, false, false, false, false, false, false, false, false, false, false, false, false, false] rfl rfl (any_of HT_.out (by kernel_rfl)) (fun _ _ _ h => h) (Or.inl ⟨by rfl, ?_⟩) ?_ ?_
             rotate_left
             ·intro w'
              go_simp
              with_reducible rfl
             rotate_left
             ·simp only [Act.put, List.setIfInBounds_toArray, List.set_cons_zero, List.set_cons_succ, i64_w, i32_w]
              rfl
             refine pure_ (i := 4) (N := some 23) (v := ?_) (a' := ?_) #[true, false, false, false, true, false, false, false, false, false, false, false, false, false, false] rfl rfl (any_of HT_.out (by kernel_rfl)) (fun _ _ _ h => h) (Or.inl ⟨by rfl, ?_⟩) ?_ ?_
             rotate_left
             ·intro w'
              go_simp
              with_reducible rfl
             rotate_left
             ·simp only [Act.put, List.setIfInBounds_toArray, List.set_cons_zero, List.set_cons_succ, i64_w, i32_w]
              rfl
             refine pure_ (i := 6) (N := some 25) (v := ?_) (a' := ?_) #[true, false, false, false, true, false, true, false, false, false, false, false, false, false, false] rfl rfl (any_of HT_.out (by kernel_rfl)) (fun _ _ _ h => h) (Or.inl ⟨by rfl, ?_⟩) ?_ ?_
             rotate_left
             ·intro w'
              go_simp
              with_reducible rfl
             rotate_left
             ·simp only [Act.put, List.setIfInBounds_toArray, List.set_cons_zero, List.set_cons_succ, i64_w, i32_w]
              rfl
             refine take_ (i := 1) (N := some 20) (v := ?_) (a' := ?_) #[true, true, false, false, true, false, true, false, false, false, false, false, false, false, false] rfl rfl (take_ofW HT_.out HW_.out (by kernel_rfl)) (fun _ _ _ h => h) (Or.inl ⟨by rfl, ?_⟩) hHeld ?_ ?_
             rotate_left
             ·rintro w' ⟨s0, s1, s2, s3⟩
              go_simp
              with_reducible rfl
             rotate_left
             ·simp only [Act.put, List.setIfInBounds_toArray, List.set_cons_zero, List.set_cons_succ, i64_w, i32_w]
              rfl
             refine pure_ (i := 2) (N := some 21) (v := ?_) (a' := ?_) #[true, true, true, false, true, false, true, false, false, false, false, false, false, false, false] rfl rfl (any_of HT_.out (by kernel_rfl)) (fun _ _ _ h => h) (Or.inl ⟨by rfl, ?_⟩) ?_ ?_
             rotate_left
             ·intro w'
              go_simp
              with_reducible rfl
             rotate_left
             ·simp only [Act.put, List.setIfInBounds_toArray, List.set_cons_zero, List.set_cons_succ, i64_w, i32_w]
              rfl
             refine take_ (i := 3) (N := some 22) (v := ?_) (a' := ?_) #[true, true, true, true, true, false, true, false, false, false, false, false, false, false, false] rfl rfl (take_ofW HT_.out HW_.out (by kernel_rfl)) (fun _ _ _ h => h) (Or.inl ⟨by rfl, ?_⟩) hHeld ?_ ?_
             rotate_left
             ·rintro w' ⟨s0, s1, s2, s3⟩
              go_simp
              with_reducible rfl
             rotate_left
             ·simp only [Act.put, List.setIfInBounds_toArray, List.set_cons_zero, List.set_cons_succ, i64_w, i32_w]
              rfl
             refine take_ (i := 5) (N := some 24) (v := ?_) (a' := ?_) #[true, true, true, true, true, true, true, false, false, false, false, false, false, false, false] rfl rfl (take_ofW HT_.out HW_.out (by kernel_rfl)) (fun _ _ _ h => h) (Or.inl ⟨by rfl, ?_⟩) hHeld ?_ ?_
             rotate_left
             ·rintro w' ⟨s0, s1, s2, s3⟩
              go_simp
              with_reducible rfl
             rotate_left
             ·simp only [Act.put, List.setIfInBounds_toArray, List.set_cons_zero, List.set_cons_succ, i64_w, i32_w]
              rfl
             refine take_ (i := 7) (N := some 26) (v := ?_) (a' := ?_) #[true, true, true, true, true, true, true, true, false, false, false, false, false, false, false] rfl rfl (take_ofW HT_.out HW_.out (by kernel_rfl)) (fun _ _ _ h => h) (Or.inl ⟨by rfl, ?_⟩) hHeld ?_ ?_
             rotate_left
             ·rintro w' ⟨s0, s1, s2, s3⟩
              go_simp
              with_reducible rfl
             rotate_left
             ·simp only [Act.put, List.setIfInBounds_toArray, List.set_cons_zero, List.set_cons_succ, i64_w, i32_w]
              rfl
             refine pure_ (i := 8) (N := some 27) (v := ?_) (a' := ?_) #[true, true, true, true, true, true, true, true, true, false, false, false, false, false, false] rfl rfl (any_of HT_.out (by kernel_rfl)) (fun _ _ _ h => h) (Or.inl ⟨by rfl, ?_⟩) ?_ ?_
             rotate_left
             ·intro w'
              go_simp
              with_reducible rfl
             rotate_left
             ·simp only [Act.put, List.setIfInBounds_toArray, List.set_cons_zero, List.set_cons_succ, i64_w, i32_w]
              rfl
             refine one_ (i := 9) (N := some 28) #[true, true, true, true, true, true, true, true, true, true, false, false, false, false, false] rfl rfl (one_of HT_.out (by kernel_rfl)) (by decide) (fun K hK => ?_)
             refine goes_ Try.func49 (by kernel_rfl) rfl #[.int .i64 (rd t1268 0), .slice Ao102 y1282.length co102] (by rfl) rfl rfl (by (try simp only [List.map_toArray, List.map_cons, List.map_nil]); first | done | rfl | (simp only [List.length_drop, List.length_take]; rfl)) ?_
             with_reducible refine (impl_RunPlan.calls k (rd t1268 0) _ _ y1282 t1286 true _ ?side1 ?side2 A9.out).mono ?_
             (case side1 => repeat (first | exact (by repeat (first | (with_reducible exact HR1285.out) | (with_reducible refine Kd.C_alloc ?_ _) | (with_reducible refine Kd.C_drewN ?_ _) | (with_reducible refine Kd.C_drew ?_) | exact HR1285.out)) | (with_reducible refine Kd.C_alloc ?_ _) | (with_reducible refine Kd.C_drewN ?_ _) | (with_reducible refine Kd.C_drew ?_)))
             (case side2 => exact HC1285.out)
             rintro e w114 ⟨v1288, rfl, ho0, hb⟩
             have HS3_ := (hb.cell (World.block_lt_of_cell? _ _ (hHeld.2.2.2))).trans (hHeld.2.2.2)
             refine ⟨_, rfl, ?_⟩
             have n0_ := Aside0.mk (Kd.R_below (oR HO1266) hb)
             have n1_ := Aside0.mk (Kd.R_elder' (oR HO1270) (Kd.R_base ho0) hb)
             have n2_ := Aside0.mk (Kd.R_below (oR HO1274) hb)
             have n3_ := Aside0.mk (Kd.R_elder' (oR HO1278) (Kd.R_base ho0) hb)
             have n4_ := Aside0.mk (Kd.R_lower (Kd.R_new' (Kd.R_new' ho0 (Kd.R_lt (oR HO1270))) (Kd.R_lt (oR HO1278))) (below_size (oB HB)))
             have n5_ := Aside0.mk (blk_below (g := gb1271) (o := .cells #[.slice Ao102 t1264.length co102, .int .i64 t1267, .slice (some ad1281) t1268.length co104] 30 (0, 0)) (oK BK1271) hb)
             have n6_ := Aside0.mk (blk_below (g := gb1280) (o := .cells #[.slice Ao107 t1272.length co107, .int .i64 t1275, .slice Ao110 t1276.length co110] 30 (0, 0)) (oK BK1280) hb)
             have n7_ := Aside0.mk (Kd.C_below (by repeat (first | (with_reducible exact HR1285.out) | (with_reducible refine Kd.C_alloc ?_ _) | (with_reducible refine Kd.C_drewN ?_ _) | (with_reducible refine Kd.C_drew ?_) | exact HR1285.out)) hb)
             have n8_ := Aside0.mk (below_step (oB HB) hb)
             clear HO1266
             clear HO1270
             clear HO1274
             clear HO1278
             clear BK1271
             clear BK1280
             clear HR1285
             clear HB
             have HO1266 := n0_
             have HO1270 := n1_
             have HO1274 := n2_
             have HO1278 := n3_
             have HO1289 := n4_
             have BK1271 := n5_
             have BK1280 := n6_
             have HR1285 := n7_
             have HB := n8_
             clear n0_ n1_ n2_ n3_ n4_ n5_ n6_ n7_ n8_
             (try clear hb)
             (try clear hb2)
             (try clear hk)
             (try clear hi)
             (try clear ho0)
             refine hK.out _ _ ⟨(blk_cell BK1271.out 0).trans rfl, (blk_cell BK1271.out 1).trans rfl, (blk_cell BK1271.out 2).trans rfl, HS3_⟩ (fun hHeld => ?_)
             clear hK K
             refine norm_ (a' := ?_) ?_ ?_
             rotate_left
             ·show Act.put _ (some 28) _ = _
              simp only [Act.put, List.setIfInBounds_toArray, List.set_cons_zero, List.set_cons_succ, i64_w, i32_w]
              rfl
             refine pure_ (i := 10) (N := some 18) (v := ?_) (a' := ?_) #[true, true, true, true, true, true, true, true, true, true, true, false, false, false, false] rfl rfl (any_of HT_.out (by kernel_rfl)) (fun _ _ _ h => h) (Or.inl ⟨by rfl, ?_⟩) ?_ ?_
             rotate_left
             ·intro w'
              go_simp
              with_reducible rfl
             rotate_left
             ·simp only [Act.put, List.setIfInBounds_toArray, List.set_cons_zero, List.set_cons_succ, i64_w, i32_w]
              rfl
             refine pure_ (i := 11) (N := some 29) (v := ?_) (a' := ?_) #[true, true, true, true, true, true, true, true, true, true, true, true, false, false, false] rfl rfl (any_of HT_.out (by kernel_rfl)) (fun _ _ _ h => h) (Or.inl ⟨by rfl, ?_⟩) ?_ ?_
             rotate_left
             ·intro w'
              go_simp
              with_reducible rfl
             rotate_left
             ·simp only [Act.put, List.setIfInBounds_toArray, List.set_cons_zero, List.set_cons_succ, i64_w, i32_w]
              rfl
             refine pure_ (i := 12) (N := some 30) (v := ?_) (a' := ?_) #[true, true, true, true, true, true, true, true, true, true, true, true, true, false, false] rfl rfl (any_of HT_.out (by kernel_rfl)) (fun _ _ _ h => h) (Or.inl ⟨by rfl, ?_⟩) ?_ ?_
             rotate_left
             ·intro w'
              go_simp
              with_reducible rfl
             rotate_left
             ·simp only [Act.put, List.setIfInBounds_toArray, List.set_cons_zero, List.set_cons_succ, i64_w, i32_w]
              rfl
             refine pure_ (i := 13) (N := some 6) (v := ?_) (a' := ?_) #[true, true, true, true, true, true, true, true, true, true, true, true, true, true, false] rfl rfl (any_of HT_.out (by kernel_rfl)) (fun _ _ _ h => h) (Or.inl ⟨by rfl, ?_⟩) ?_ ?_
             rotate_left
             ·intro w'
              go_simp
              with_reducible rfl
             rotate_left
             ·simp only [Act.put, List.setIfInBounds_toArray, List.set_cons_zero, List.set_cons_succ, i64_w, i32_w]
              rfl
             refine pure_ (i := 14) (N := some 7) (v := ?_) (a' := ?_) #[true, true, true, true, true, true, true, true, true, true, true, true, true, true, true] rfl rfl (any_of HT_.out (by kernel_rfl)) (fun _ _ _ h => h) (Or.inl ⟨by rfl, ?_⟩) ?_ ?_
             rotate_left
             ·intro w'
              go_simp
              with_reducible rfl
             rotate_left
             ·simp only [Act.put, List.setIfInBounds_toArray, List.set_cons_zero, List.set_cons_succ, i64_w, i32_w]
              rfl
             refine done_ (done_of HT_.out (by kernel_rfl)) ?_
             have hcz115_0 : w114.cell? ⟨gb1271, 0, none⟩ = some (.slice Ao102 t1264.length co102) := (blk_cell BK1271.out 0).trans rfl
             have hcz115_1 : w114.cell? ⟨gb1271, 1, none⟩ = some (.int .i64 t1267) := (blk_cell BK1271.out 1).trans rfl
             have hcz115_2 : w114.cell? ⟨gb1271, 2, none⟩ = some (.slice (some ad1281) t1268.length co104) := (blk_cell BK1271.out 2).trans rfl
             have hfz115_0 := blk_frozen BK1271.out 0
             have hfz115_1 := blk_frozen BK1271.out 1
             have hfz115_2 := blk_frozen BK1271.out 2
             try go_wp2_with (first | ((with_reducible refine gate_callee (f := 35) rfl ?_); refine goesL_ (some 32) rfl rfl Try.func35 (by kernel_rfl) rfl #[.agg #[.slice Ao102 t1264.length co102, .int .i64 t1267, .slice (some ad1281) t1268.length co104]] rfl (by (try simp only [List.map_toArray, List.map_cons, List.map_nil]); first | done | rfl | (simp only [List.length_drop, List.length_take]; rfl)) ?_; (with_reducible refine (impl_WrongSteps.calls k _ _ t1264 t1267 _ _ t1268 t1290 _ ?side1 ?side2 ?side3 ?side4 A10.out).mono ?_); (case side1 => repeat (first | exact (Kd.R_reads' HO1266.out).2.2 | (with_reducible refine Kd.C_alloc ?_ _) | (with_reducible refine Kd.C_drewN ?_ _) | (with_reducible refine Kd.C_drew ?_))); (case side2 => exact (Kd.R_reads' HO1266.out).2.1); (case side3 => repeat (first | exact (Kd.R_reads' HO1270.out).2.2 | (with_reducible refine Kd.C_alloc ?_ _) | (with_reducible refine Kd.C_drewN ?_ _) | (with_reducible refine Kd.C_drew ?_))); (case side4 => exact (Kd.R_reads' HO1270.out).2.1); rintro e w116 ⟨v1291, rfl, ho0, hb⟩; refine ⟨_, rfl, ?_⟩; have n0_ := Aside0.mk (Kd.R_below (oR HO1266) hb); have n1_ := Aside0.mk (Kd.R_elder' (oR HO1270) (Kd.R_base ho0) hb); have n2_ := Aside0.mk (Kd.R_below (oR HO1274) hb); have n3_ := Aside0.mk (Kd.R_elder' (oR HO1278) (Kd.R_base ho0) hb); have n4_ := Aside0.mk (Kd.R_elder' (oR HO1289) (Kd.R_base ho0) hb); have n5_ := Aside0.mk (Kd.R_lower (Kd.R_new' (Kd.R_new' (Kd.R_new' ho0 (Kd.R_lt (oR HO1270))) (Kd.R_lt (oR HO1278))) (Kd.R_lt (oR HO1289))) (below_size (oB HB))); have n6_ := Aside0.mk (blk_below (g := gb1271) (o := .cells #[.slice Ao102 t1264.length co102, .int .i64 t1267, .slice (some ad1281) t1268.length co104] 30 (0, 0)) (oK BK1271) hb); have n7_ := Aside0.mk (blk_below (g := gb1280) (o := .cells #[.slice Ao107 t1272.length co107, .int .i64 t1275, .slice Ao110 t1276.length co110] 30 (0, 0)) (oK BK1280) hb); have n8_ := Aside0.mk (Kd.C_below (by repeat (first | (with_reducible exact HR1285.out) | (with_reducible refine Kd.C_alloc ?_ _) | (with_reducible refine Kd.C_drewN ?_ _) | (with_reducible refine Kd.C_drew ?_) | exact HR1285.out)) hb); have n9_ := Aside0.mk (below_step (oB HB) hb); clear HO1266; clear HO1270; clear HO1274; clear HO1278; clear HO1289; clear BK1271; clear BK1280; clear HR1285; clear HB; have HO1266 := n0_; have HO1270 := n1_; have HO1274 := n2_; have HO1278 := n3_; have HO1289 := n4_; have HO1292 := n5_; have BK1271 := n6_; have BK1280 := n7_; have HR1285 := n8_; have HB := n9_; clear n0_ n1_ n2_ n3_ n4_ n5_ n6_ n7_ n8_ n9_; (try clear hb); (try clear hb2); (try clear hk); (try clear hi); (try clear ho0); have hcz117_0 : w116.cell? ⟨gb1280, 0, none⟩ = some (.slice Ao107 t1272.length co107) := (blk_cell BK1280.out 0).trans rfl; have hcz117_1 : w116.cell? ⟨gb1280, 1, none⟩ = some (.int .i64 t1275) := (blk_cell BK1280.out 1).trans rfl; have hcz117_2 : w116.cell? ⟨gb1280, 2, none⟩ = some (.slice Ao110 t1276.length co110) := (blk_cell BK1280.out 2).trans rfl; have hfz117_0 := blk_frozen BK1280.out 0; have hfz117_1 := blk_frozen BK1280.out 1; have hfz117_2 := blk_frozen BK1280.out 2) | (go_at_call 35; (with_reducible refine (impl_WrongSteps.calls k _ _ t1272 t1275 _ _ t1276 t1293 _ ?side1 ?side2 ?side3 ?side4 A12.out).mono ?_); (case side1 => repeat (first | exact (Kd.R_reads' HO1274.out).2.2 | (with_reducible refine Kd.C_alloc ?_ _) | (with_reducible refine Kd.C_drewN ?_ _) | (with_reducible refine Kd.C_drew ?_))); (case side2 => exact (Kd.R_reads' HO1274.out).2.1); (case side3 => repeat (first | exact (Kd.R_reads' HO1278.out).2.2 | (with_reducible refine Kd.C_alloc ?_ _) | (with_reducible refine Kd.C_drewN ?_ _) | (with_reducible refine Kd.C_drew ?_))); (case side4 => exact (Kd.R_reads' HO1278.out).2.1); rintro e w118 ⟨v1294, rfl, ho0, hb⟩; have n0_ := Aside0.mk (Kd.R_below (oR HO1266) hb); have n1_ := Aside0.mk (Kd.R_elder' (oR HO1270) (Kd.R_base ho0) hb); have n2_ := Aside0.mk (Kd.R_below (oR HO1274) hb); have n3_ := Aside0.mk (Kd.R_elder' (oR HO1278) (Kd.R_base ho0) hb); have n4_ := Aside0.mk (Kd.R_elder' (oR HO1289) (Kd.R_base ho0) hb); have n5_ := Aside0.mk (Kd.R_elder' (oR HO1292) (Kd.R_base ho0) hb); have n6_ := Aside0.mk (Kd.R_lower (Kd.R_new' (Kd.R_new' (Kd.R_new' (Kd.R_new' ho0 (Kd.R_lt (oR HO1270))) (Kd.R_lt (oR HO1278))) (Kd.R_lt (oR HO1289))) (Kd.R_lt (oR HO1292))) (below_size (oB HB))); have n7_ := Aside0.mk (blk_below (g := gb1271) (o := .cells #[.slice Ao102 t1264.length co102, .int .i64 t1267, .slice (some ad1281) t1268.length co104] 30 (0, 0)) (oK BK1271) hb); have n8_ := Aside0.mk (blk_below (g := gb1280) (o := .cells #[.slice Ao107 t1272.length co107, .int .i64 t1275, .slice Ao110 t1276.length co110] 30 (0, 0)) (oK BK1280) hb); have n9_ := Aside0.mk (Kd.C_below (by repeat (first | (with_reducible exact HR1285.out) | (with_reducible refine Kd.C_alloc ?_ _) | (with_reducible refine Kd.C_drewN ?_ _) | (with_reducible refine Kd.C_drew ?_) | exact HR1285.out)) hb); have n10_ := Aside0.mk (below_step (oB HB) hb); clear HO1266; clear HO1270; clear HO1274; clear HO1278; clear HO1289; clear HO1292; clear BK1271; clear BK1280; clear HR1285; clear HB; have HO1266 := n0_; have HO1270 := n1_; have HO1274 := n2_; have HO1278 := n3_; have HO1289 := n4_; have HO1292 := n5_; have HO1295 := n6_; have BK1271 := n7_; have BK1280 := n8_; have HR1285 := n9_; have HB := n10_; clear n0_ n1_ n2_ n3_ n4_ n5_ n6_ n7_ n8_ n9_ n10_; (try clear hb); (try clear hb2); (try clear hk); (try clear hi); (try clear ho0); obtain ⟨Ao119, co119, eo119⟩ := Kd.R_slice HO1295.out; subst eo119; have hcz120_0 : w118.cell? ⟨gb1280, 0, none⟩ = some (.slice Ao107 t1272.length co107) := (blk_cell BK1280.out 0).trans rfl; have hcz120_1 : w118.cell? ⟨gb1280, 1, none⟩ = some (.int .i64 t1275) := (blk_cell BK1280.out 1).trans rfl; have hcz120_2 : w118.cell? ⟨gb1280, 2, none⟩ = some (.slice Ao110 t1276.length co110) := (blk_cell BK1280.out 2).trans rfl; have hfz120_0 := blk_frozen BK1280.out 0; have hfz120_1 := blk_frozen BK1280.out 1; have hfz120_2 := blk_frozen BK1280.out 2; obtain ⟨Ao121, co121, eo121⟩ := Kd.R_slice HO1289.out; subst eo121) | (go_at_call 51; (with_reducible refine (laws_sameInts.calls k _ _ t1276 _ _ t1286 true _ ?side1 ?side2 ?side3 ?side4 A14.out).mono ?_); (case side1 => repeat (first | exact (Kd.R_reads' HO1278.out).2.2 | (with_reducible refine Kd.C_alloc ?_ _) | (with_reducible refine Kd.C_drewN ?_ _) | (with_reducible refine Kd.C_drew ?_))); (case side2 => exact (Kd.R_reads' HO1278.out).2.1); (case side3 => repeat (first | exact (Kd.R_reads' HO1289.out).2.2 | (with_reducible refine Kd.C_alloc ?_ _) | (with_reducible refine Kd.C_drewN ?_ _) | (with_reducible refine Kd.C_drew ?_))); (case side4 => exact (Kd.R_reads' HO1289.out).2.1); rintro e w' ⟨rfl, ⟨nd, rfl⟩⟩; have hcz122_0 : w118.cell? ⟨gb1271, 0, none⟩ = some (.slice Ao102 t1264.length co102) := (blk_cell BK1271.out 0).trans rfl; have hcz122_1 : w118.cell? ⟨gb1271, 1, none⟩ = some (.int .i64 t1267) := (blk_cell BK1271.out 1).trans rfl; have hcz122_2 : w118.cell? ⟨gb1271, 2, none⟩ = some (.slice (some ad1281) t1268.length co104) := (blk_cell BK1271.out 2).trans rfl; have hfz122_0 := blk_frozen BK1271.out 0; have hfz122_1 := blk_frozen BK1271.out 1; have hfz122_2 := blk_frozen BK1271.out 2; obtain ⟨Ao123, co123, eo123⟩ := Kd.R_slice HO1292.out; subst eo123) | (go_at_call 33; (with_reducible refine (impl_ClosingGap.calls k _ _ t1272 t1275 _ _ t1276 t1298 _ ?side1 ?side2 ?side3 ?side4 A99.out).mono ?_); (case side1 => repeat (first | exact (Kd.R_reads' HO1274.out).2.2 | (with_reducible refine Kd.C_alloc ?_ _) | (with_reducible refine Kd.C_drewN ?_ _) | (with_reducible refine Kd.C_drew ?_))); (case side2 => exact (Kd.R_reads' HO1274.out).2.1); (case side3 => repeat (first | exact (Kd.R_reads' HO1278.out).2.2 | (with_reducible refine Kd.C_alloc ?_ _) | (with_reducible refine Kd.C_drewN ?_ _) | (with_reducible refine Kd.C_drew ?_))); (case side4 => exact (Kd.R_reads' HO1278.out).2.1); rintro e w124 ⟨rfl, hb⟩; have n0_ := Aside0.mk (Kd.R_below (oR HO1266) hb); have n1_ := Aside0.mk (Kd.R_below (oR HO1270) hb); have n2_ := Aside0.mk (Kd.R_below (oR HO1274) hb); have n3_ := Aside0.mk (Kd.R_below (oR HO1278) hb); have n4_ := Aside0.mk (Kd.R_below (oR HO1289) hb); have n5_ := Aside0.mk (Kd.R_below (oR HO1292) hb); have n6_ := Aside0.mk (Kd.R_below (oR HO1295) hb); have n7_ := Aside0.mk (blk_below (g := gb1271) (o := .cells #[.slice Ao102 t1264.length co102, .int .i64 t1267, .slice (some ad1281) t1268.length co104] 30 (0, 0)) (oK BK1271) hb); have n8_ := Aside0.mk (blk_below (g := gb1280) (o := .cells #[.slice Ao107 t1272.length co107, .int .i64 t1275, .slice Ao110 t1276.length co110] 30 (0, 0)) (oK BK1280) hb); have n9_ := Aside0.mk (Kd.C_below (by repeat (first | (with_reducible exact HR1285.out) | (with_reducible refine Kd.C_alloc ?_ _) | (with_reducible refine Kd.C_drewN ?_ _) | (with_reducible refine Kd.C_drew ?_) | exact HR1285.out)) hb); have n10_ := Aside0.mk (below_step (oB HB) hb); clear HO1266; clear HO1270; clear HO1274; clear HO1278; clear HO1289; clear HO1292; clear HO1295; clear BK1271; clear BK1280; clear HR1285; clear HB; have HO1266 := n0_; have HO1270 := n1_; have HO1274 := n2_; have HO1278 := n3_; have HO1289 := n4_; have HO1292 := n5_; have HO1295 := n6_; have BK1271 := n7_; have BK1280 := n8_; have HR1285 := n9_; have HB := n10_; clear n0_ n1_ n2_ n3_ n4_ n5_ n6_ n7_ n8_ n9_ n10_; (try clear hb); (try clear hb2); (try clear hk); (try clear hi)))
             go_ret
             exact ⟨by first | rfl | (simp [errW_none, errW_some] <;> rfl) | (simp [*, errW_none, errW_some] <;> rfl), oB HB⟩
           ·rw [if_neg c73] at H
            have c73b0 : ((t1279 == 0) == ((t1290.length : Int) == 0)) = false := by simpa using c73
            (try (have c73b1 : decide ((t1279 == 0) = ((t1290.length : Int) == 0)) = false := by simpa using c73))
            (try (have c73b2 : ((t1279 == 0) == ((t1290.length : Int) == 0)) = false := by simpa using c73))
            (try (have c73b3 : ¬ ((t1279 == 0) = ((t1290.length : Int) == 0)) := by simpa using c73))
            clear c73
            exact absurd ((Option.some.inj H).trans hrt_.out) (by decide)
        ·rw [if_neg c16] at H
         have c16b0 : (t1275 == t1267) = false := beq_eq_false_iff_ne.mpr c16
         have c16b1 : (t1275 != t1267) = true := bne_iff_ne.mpr c16
         exact absurd ((Option.some.inj H).trans hrt_.out) (by decide)
       ·replace c15 := Bool.eq_false_iff.mpr c15
        subst c15
        rw [if_neg (show ¬ (false = true) by decide)] at H
        exact absurd ((Option.some.inj H).trans hrt_.out) (by decide)
      ·rw [if_neg c13] at H
       have c13b0 : ((t1293.length : Int) == 0) = false := beq_eq_false_iff_ne.mpr c13
       have c13b1 : ((t1293.length : Int) != 0) = true := bne_iff_ne.mpr c13
       have c13b2 : ¬ (t1293 = []) := fun h_ => c13 (by rw [h_]; rfl)
       exact absurd ((Option.some.inj H).trans hrt_.out) (by decide)
     ·replace c11 := Bool.eq_false_iff.mpr c11
      subst c11
      rw [if_neg (show ¬ (false = true) by decide)] at H
      exact absurd ((Option.some.inj H).trans hrt_.out) (by decide)
    ·rw [if_neg c8] at H
     exact absurd H (by simp)
   ·rw [if_neg c7] at H
    exact absurd H (by simp)
  ·rw [if_neg c6] at H
   exact absurd H (by simp)
def laws_FnMends.Pure : Prop := ∀ (l0 : List Int), l0.length ≤ maxLen → l0.length * 1 ≤ 140737488351232 → (∀ x ∈ l0, (Lit.int .u8 x).wf = true) → ∃ k, laws_FnMends.f k l0 = some true
theorem laws_FnMends.walk (P : laws_FnMends.Pure) (a0 : Option Addr) (len0 cap0 : Nat) (z0 : List Int) (w : World) (w0 : (a0 = none ∧ len0 = 0 ∧ cap0 = 0 ∧ z0 = []) ∨ ∃ x, a0 = some x ∧ len0 ≤ cap0 ∧ cap0 ≤ maxLen ∧ z0.length = cap0 ∧ (∀ i, i < z0.length → w.cell? (x.add i) = some (.int .u8 (z0.getD i 0))) ∧ ∀ n ∈ z0, (Lit.int .u8 n).wf = true) (y0 : len0 * 1 ≤ 140737488351232) :
  Calls Try.prog 14 #[.slice a0 len0 cap0] w fun e w' => e = .returned (.bool true) ∧ Below w.heap.size w w' := by
 obtain ⟨l0, rfl, hr0, hm0, hw0, hc0⟩ := ReadsInt.ofRowC w0
 obtain ⟨k, h⟩ := P l0 hm0 y0 hw0
 refine (laws_FnMends.calls k _ _ l0 true w (Kd.C_of_reads (d := (0 : Int)) (h1 := fun _ => rfl) hr0) hc0 h ⟨rfl⟩).mono ?_
 rintro e w' ⟨rfl, hd⟩
 exact ⟨rfl, hd⟩
end Go.Proofs.Ytlhlmjklajdejaa.P


namespace Go.Proofs.Ytlhlmjklajdejaa.Q
set_option linter.unusedVariables false
set_option linter.unusedSimpArgs false
open Go.RowKit Go.Proofs.YtlhlmjklajdejaaW.PrintWords
theorem evp {α : Type} {c : Prop} [Decidable c] (h : c) {f g : Nat → Option α} {r : α} (k : Ev f r) : Ev (fun n => if c then f n else g n) r := by
  simp only [if_pos h]; exact k
theorem evn {α : Type} {c : Prop} [Decidable c] (h : ¬ c) {f g : Nat → Option α} {r : α} (k : Ev g r) : Ev (fun n => if c then f n else g n) r := by
  simp only [if_neg h]; exact k
theorem evb {α β : Type} {x : Option α} {f : Nat → α → Option β} {a : α} {r : β} (h : x = some a) (k : Ev (fun n => f n a) r) : Ev (fun n => x.bind (f n)) r := by
  simp only [h, Option.bind_some]; exact k
theorem evs {α : Type} {a b : α} (h : a = b) : Ev (fun _ => some a) b := h ▸ Ev.now a
theorem rpos {α : Type} {c : Prop} [Decidable c] (h : c) {f : Nat → Option α} {r s : α} (k : Ev f r) : Ev f (if c then r else s) := by rw [if_pos h]; exact k
theorem rneg {α : Type} {c : Prop} [Decidable c] (h : ¬ c) {f : Nat → Option α} {r s : α} (k : Ev f s) : Ev f (if c then r else s) := by rw [if_neg h]; exact k
theorem btrue {c : Prop} [Decidable c] (h : c) : decide c = true := decide_eq_true h
theorem bfalse {c : Prop} [Decidable c] (h : ¬ c) : ¬ decide c = true := by simpa using h
theorem down {P : Nat → Prop} {n : Nat} (he : P n) (hs : ∀ i, i < n → P (i + 1) → P i) (i : Nat) (h : i ≤ n) : P i := by
  obtain ⟨d, rfl⟩ : ∃ d, n = i + d := ⟨n - i, by omega⟩
  clear h
  induction d generalizing i with
  | zero => exact he
  | succ d ih =>
    refine hs i (by omega) (ih (i + 1) ?_ ?_)
    · rw [show i + 1 + d = i + (d + 1) by omega]; exact he
    · intro j hj; exact hs j (by omega)
theorem w64 {n : Int} (h1 : -9223372036854775808 ≤ n) (h2 : n ≤ 9223372036854775807) : wrap64 n = n := by unfold wrap64; omega
theorem rd_nat (l : List Int) (i : Nat) (h : i < l.length) : rd l (i : Int) = l[i] := by
  unfold rd; simp [List.getD_eq_getElem?_getD, h]
theorem drop_cons {α : Type} (l : List α) (i : Nat) (h : i < l.length) : l.drop i = l[i] :: l.drop (i + 1) := List.drop_eq_getElem_cons h
theorem drop_end {α : Type} (l : List α) : l.drop l.length = [] := List.drop_eq_nil_of_le (Nat.le_refl _)
end Go.Proofs.Ytlhlmjklajdejaa.Q


namespace Go.Proofs.Ytlhlmjklajdejaa.Q
set_option linter.unusedVariables false
set_option linter.unusedSimpArgs false
open Go.RowKit Go.Proofs.Ytlhlmjklajdejaa.P Go.Proofs.YtlhlmjklajdejaaW.PrintWords Go.Proofs.YtlhlmjklajdejaaW.PrintMore
theorem bits_and (x y : Int) : Go.bits .and .i64 x y = wrap64 (((BitVec.ofInt IntKind.i64.bits x &&& BitVec.ofInt IntKind.i64.bits y).toNat : Nat) : Int) := by
  unfold Go.bits
  rw [IntWalk.i64_left]
theorem bits255 (x : Int) : 0 ≤ Go.bits .and .i64 x 255 ∧ Go.bits .and .i64 x 255 ≤ 255 := by
  have h2 : (BitVec.ofInt IntKind.i64.bits 255).toNat ≤ 255 := by decide
  rw [bits_and]
  obtain ⟨y, hy⟩ : ∃ y, BitVec.ofInt IntKind.i64.bits 255 = y := ⟨_, rfl⟩
  rw [hy] at h2 ⊢
  have h : (BitVec.ofInt IntKind.i64.bits x &&& y).toNat ≤ 255 := by
    rw [BitVec.toNat_and]; exact Nat.le_trans Nat.and_le_right h2
  rw [w64 (by omega) (by omega)]
  omega
section
variable (b : List Int) (hb : b.length ≤ 1048576)
include hb
theorem byte_ev (i h : Int) (hi : 0 ≤ i) : ∃ v i' h', spec_l01Byte.f b i h = some (v, i', h') ∧ 0 ≤ v ∧ v ≤ 255 ∧ 0 ≤ i' := by
  unfold spec_l01Byte.f
  by_cases h1 : i < (b.length : Int)
  · rw [if_pos h1, if_pos hi]
    exact ⟨_, _, _, rfl, (bits255 _).1, (bits255 _).2, by rw [w64 (by omega) (by omega)]; omega⟩
  · rw [if_neg h1]
    exact ⟨_, _, _, rfl, (bits255 _).1, (bits255 _).2, hi⟩
theorem below_ev (i h n : Int) (hi : 0 ≤ i) : ∃ v i' h', spec_l01Below.f b i h n = some (v, i', h') ∧ 0 ≤ v ∧ (0 < n → v < n) ∧ (n ≤ 0 → v = 0) ∧ 0 ≤ i' := by
  unfold spec_l01Below.f
  by_cases h1 : n ≤ 0
  · rw [if_pos h1]
    exact ⟨_, _, _, rfl, by omega, by omega, fun _ => rfl, hi⟩
  rw [if_neg h1]
  have key : ∀ v : Int, 0 ≤ v → 0 ≤ Int.tmod v n ∧ (0 < n → Int.tmod v n < n) := fun v hv => ⟨Int.tmod_nonneg n hv, fun h2 => by rw [Int.tmod_eq_emod_of_nonneg hv]; exact Int.emod_lt_of_pos v h2⟩
  by_cases h2 : n ≤ 256
  · rw [if_pos h2]
    obtain ⟨v, i1, h1', e, v0, v1, i0⟩ := byte_ev b hb i h hi
    rw [e, Option.bind_some, if_neg (by omega)]
    exact ⟨_, _, _, rfl, (key v v0).1, (key v v0).2, by omega, i0⟩
  rw [if_neg h2]
  obtain ⟨x, i1, g1, e1, x0, x1, j1⟩ := byte_ev b hb i h hi
  obtain ⟨y, i2, g2, e2, y0, y1, j2⟩ := byte_ev b hb i1 g1 j1
  obtain ⟨z, i3, g3, e3, z0, z1, j3⟩ := byte_ev b hb i2 g2 j2
  obtain ⟨u, i4, g4, e4, u0, u1, j4⟩ := byte_ev b hb i3 g3 j3
  rw [e1, Option.bind_some]; dsimp only
  rw [e2, Option.bind_some]; dsimp only
  rw [e3, Option.bind_some]; dsimp only
  rw [e4, Option.bind_some, if_neg (by omega)]; dsimp only
  rw [w64 (n := x * 16777216) (by omega) (by omega), w64 (n := y * 65536) (by omega) (by omega), w64 (n := z * 256) (by omega) (by omega), w64 (n := x * 16777216 + y * 65536) (by omega) (by omega), w64 (n := x * 16777216 + y * 65536 + z * 256) (by omega) (by omega), w64 (by omega) (by omega)]
  exact ⟨_, _, _, rfl, (key _ (by omega)).1, (key _ (by omega)).2, by omega, j4⟩
theorem once_ev (i h n : Int) (hi : 0 ≤ i) : ∃ v i' h', spec_l01Once.f b i h n = some (v, i', h') ∧ 0 ≤ i' := by
  unfold spec_l01Once.f
  obtain ⟨v, i1, h1, e, _, _, _, j⟩ := below_ev b hb i h n hi
  rw [e, Option.bind_some]
  exact ⟨_, _, _, rfl, j⟩
theorem pick_ev (i h : Int) (l : List Int) (hi : 0 ≤ i) (hl : 0 < l.length) : ∃ v i' h', spec_l01PickInt.f b i h l = some (v, i', h') ∧ v ∈ l ∧ 0 ≤ i' := by
  unfold spec_l01PickInt.f
  obtain ⟨v, i1, h1, e, v0, v1, _, j⟩ := below_ev b hb i h (l.length : Int) hi
  rw [e, Option.bind_some, if_pos v0, if_pos (v1 (by omega))]
  obtain ⟨m, rfl⟩ := Int.eq_ofNat_of_zero_le v0
  have hm : m < l.length := by have := v1 (by omega); omega
  exact ⟨_, _, _, rfl, by dsimp only; rw [rd_nat l m hm]; exact List.getElem_mem hm, j⟩
omit hb in
theorem new_ev : ∃ h, Ev (fun k => spec_l01New.f k b) (b, 0, h) := by
  have key : ∀ i, i ≤ b.length → ∀ x : Int, ∃ h, Ev (fun k => spec_l01New.l0 k b x (i : Int)) (b, 0, h) := by
    refine down (n := b.length) ?_ ?_
    · intro x
      exact ⟨x, Ev.step (fun k => by rw [spec_l01New.l0]) (evn (by omega) (Ev.now _))⟩
    · intro i hi ih x
      by_cases h4 : (i : Int) < 4000
      · obtain ⟨h, he⟩ := ih (Go.bits .and .i64 (wrap64 ((wrap64 ((wrap64 (x * 131)) + (wrap64 (rd b (i : Int))))) + 7)) 1073741823)
        refine ⟨h, Ev.step (fun k => by rw [spec_l01New.l0]) (evp (by omega) (evp h4 (evp (by omega) ?_)))⟩
        rw [w64 (n := (i : Int) + 1) (by omega) (by omega)]
        exact he
      · exact ⟨x, Ev.step (fun k => by rw [spec_l01New.l0]) (evp (by omega) (evn h4 (Ev.now _)))⟩
  unfold spec_l01New.f
  exact key 0 (Nat.zero_le _) _
end
end Go.Proofs.Ytlhlmjklajdejaa.Q


namespace Go.Proofs.Ytlhlmjklajdejaa.Q
set_option linter.unusedVariables false
set_option linter.unusedSimpArgs false
open Go.RowKit Go.Proofs.Ytlhlmjklajdejaa.P Go.Proofs.YtlhlmjklajdejaaW.PrintWords
theorem within_eq (a b c : Int) : impl_within.f a b c = some (decide (b ≤ a ∧ a ≤ c)) := by
  unfold impl_within.f; by_cases h : b ≤ a <;> simp [h]
theorem l01In_eq (a b c : Int) : spec_l01In.f a b c = some (decide (b ≤ a ∧ a ≤ c)) := by
  unfold spec_l01In.f; by_cases h : a ≥ b
  · rw [if_pos h]; simp [show b ≤ a from h]
  · rw [if_neg h]; simp [show ¬ b ≤ a from h]
end Go.Proofs.Ytlhlmjklajdejaa.Q


namespace Go.Proofs.Ytlhlmjklajdejaa.Q
set_option linter.unusedVariables false
set_option linter.unusedSimpArgs false
open Go.RowKit Go.Proofs.Ytlhlmjklajdejaa.P Go.Proofs.YtlhlmjklajdejaaW.PrintWords Go.Proofs.YtlhlmjklajdejaaW.PrintMore
def usualKind (i : Nat) : Int := if i = 0 ∨ i = 2 ∨ i = 4 ∨ i = 7 ∨ i = 9 then 1 else 2
def usualPlan (b : Int) : List S67 := if 0 ≤ b ∧ b ≤ 5000 then (List.range 11).map (fun (i : Nat) => ⟨(i : Int), (i : Int) + 1, usualKind i, b⟩) else []
theorem usual_kinds : ∀ i : Nat, i < 11 → rd [1, 2, 1, 2, 1, 2, 2, 1, 2, 1, 2] (i : Int) = usualKind i := by decide
theorem usual_spec (b : Int) : Ev (fun k => spec_UsualPlan.f k b) (usualPlan b) := by
  unfold spec_UsualPlan.f usualPlan
  by_cases hb : 0 ≤ b ∧ b ≤ 5000
  rotate_left
  · refine rneg hb (Ev.step (fun k => by rw [spec_UsualPlan.l0]) (evp (by decide) (evb (l01In_eq _ _ _) (evn (bfalse hb) (Ev.now _)))))
  refine rpos hb ?_
  have key : ∀ i : Nat, i ≤ 11 → Ev (fun k => spec_UsualPlan.l0 k b ((List.range i).map (fun (i : Nat) => (⟨(i : Int), (i : Int) + 1, usualKind i, b⟩ : S67))) (i : Int)) ((List.range 11).map (fun (i : Nat) => ⟨(i : Int), (i : Int) + 1, usualKind i, b⟩)) := by
    refine down (n := 11) ?_ ?_
    · exact Ev.step (fun k => by rw [spec_UsualPlan.l0]) (evn (by decide) (Ev.now _))
    · intro i hi ih
      refine Ev.step (fun k => by rw [spec_UsualPlan.l0]) ?_
      refine evp (by omega) (evb (l01In_eq _ _ _) ?_)
      refine evp (btrue hb) (evb rfl ?_)
      refine evp (by omega) ?_
      refine evp (by simp; omega) ?_
      refine evp (by simp; omega) ?_
      rw [usual_kinds i hi, w64 (n := (i : Int) + 1) (by omega) (by omega)]
      rw [List.range_succ, List.map_append] at ih
      exact ih
  exact key 0 (by omega)
end Go.Proofs.Ytlhlmjklajdejaa.Q


namespace Go.Proofs.Ytlhlmjklajdejaa.Q
set_option linter.unusedVariables false
set_option linter.unusedSimpArgs false
open Go.RowKit Go.Proofs.Ytlhlmjklajdejaa.P Go.Proofs.YtlhlmjklajdejaaW.PrintWords Go.Proofs.YtlhlmjklajdejaaW.PrintMore
def gStep (i : Nat) (x : S67) : Prop := x.f0 = i ∧ x.f1 = (i : Int) + 1 ∧ (x.f2 = 2 ∨ x.f2 = usualKind i) ∧ 0 ≤ x.f3 ∧ x.f3 < 1500
def gPlan (p : List S67) : Prop := p.length ≤ 11 ∧ ∀ i (h : i < p.length), gStep i p[i]
theorem gPlan_usual (b : Int) (h : 0 ≤ b ∧ b < 1500) : gPlan (usualPlan b) ∧ (usualPlan b).length = 11 := by
  unfold usualPlan
  rw [if_pos (by omega)]
  refine ⟨⟨by simp, fun i hi => ?_⟩, by simp⟩
  simp only [List.getElem_map, List.getElem_range]
  exact ⟨rfl, rfl, .inr rfl, h.1, h.2⟩
theorem gPlan_take {p : List S67} (h : gPlan p) (n : Nat) : gPlan (p.take n) := by
  refine ⟨by have := h.1; simp; omega, fun i hi => ?_⟩
  rw [List.getElem_take]
  exact h.2 i _
end Go.Proofs.Ytlhlmjklajdejaa.Q


namespace Go.Proofs.Ytlhlmjklajdejaa.Q
set_option linter.unusedVariables false
set_option linter.unusedSimpArgs false
open Go.RowKit Go.Proofs.Ytlhlmjklajdejaa.P Go.Proofs.YtlhlmjklajdejaaW.PrintWords Go.Proofs.YtlhlmjklajdejaaW.PrintMore
def fine (n : Int) : Bool := decide (1 ≤ n ∧ n ≤ 10000000)
theorem pitch_eq (n : Int) : spec_l18Pitch.f n = some (fine n) := by unfold spec_l18Pitch.f; rw [l01In_eq]; rfl
theorem isFine_eq (n : Int) : impl_isFine.f n = some (fine n) := by unfold impl_isFine.f; rw [within_eq]; rfl
def orZero (n : Int) : Int := if fine n = true then n else 0
def tunedPitch (a k b : Int) : Int :=
  if fine a = true then
    if 0 ≤ b ∧ b ≤ 100000 then
      if k = 1 then orZero (wrap64 (Int.tdiv (mx (wrap64 ((wrap64 (3 * a)) - b)) 0) 2))
      else if k = 2 then orZero (wrap64 (Int.tdiv (mx (wrap64 ((wrap64 (3 * a)) - b)) 0) 4))
      else if k = 3 then if b = 0 then orZero (wrap64 (2 * a)) else 0
      else if k = 4 then if b = 0 then orZero (wrap64 (Int.tdiv a 2)) else 0
      else 0
    else 0
  else 0
theorem mx_comm (a b : Int) : mx a b = mx b a := by unfold mx; split <;> split <;> omega
theorem evz {n : Int} {x : Option Bool} (h : x = some (fine n)) : Ev (fun _ => x.bind fun t => if t = true then some n else some 0) (orZero n) := by
  subst h; simp only [Option.bind_some]; unfold orZero; by_cases h : fine n = true
  · rw [if_pos h, if_pos h]; exact Ev.now _
  · rw [if_neg h, if_neg h]; exact Ev.now _
theorem tuned_impl (a k b : Int) : Ev (fun n => impl_TunedPitch.f n a k b) (tunedPitch a k b) := by
  have jt : Ev (fun n => impl_TunedPitch.j0 n a k b true) 0 := Ev.step (fun n => by rw [impl_TunedPitch.j0]) (evp rfl (Ev.now _))
  unfold impl_TunedPitch.f
  refine evb (isFine_eq a) ?_
  unfold tunedPitch
  by_cases ha : fine a = true
  rotate_left
  · exact rneg ha <| evn ha jt
  refine rpos ha <| evp ha (evb (within_eq _ _ _) ?_)
  by_cases hb : 0 ≤ b ∧ b ≤ 100000
  rotate_left
  · exact rneg hb <| evn (by simpa using hb) jt
  refine rpos hb <| evp (by simpa using hb) ?_
  have jf : (k = 3 ∨ k = 4 → b = 0) → Ev (fun n => impl_TunedPitch.j0 n a k b false) (if k = 1 then orZero (wrap64 (Int.tdiv (mx (wrap64 ((wrap64 (3 * a)) - b)) 0) 2))
      else if k = 2 then orZero (wrap64 (Int.tdiv (mx (wrap64 ((wrap64 (3 * a)) - b)) 0) 4))
      else if k = 3 then if b = 0 then orZero (wrap64 (2 * a)) else 0
      else if k = 4 then if b = 0 then orZero (wrap64 (Int.tdiv a 2)) else 0
      else 0) := by
    intro h0
    refine Ev.step (fun n => by rw [impl_TunedPitch.j0]) (evn (by decide) ?_)
    by_cases h1 : k = 1
    · exact rpos h1 <| evp h1 (evz (isFine_eq _))
    refine rneg h1 <| evn h1 ?_
    by_cases h2 : k = 2
    · exact rpos h2 <| evp h2 (evz (isFine_eq _))
    refine rneg h2 <| evn h2 ?_
    by_cases h3 : k = 3
    · exact rpos h3 <| rpos (h0 (.inl h3)) <| evp h3 (evz (isFine_eq _))
    refine rneg h3 <| evn h3 ?_
    by_cases h4 : k = 4
    · exact rpos h4 <| rpos (h0 (.inr h4)) <| evp h4 (evz (isFine_eq _))
    refine rneg h4 <| evn h4 ?_
    refine evb (isFine_eq _) (evn (by decide) (Ev.now _))
  by_cases b0 : b = 0
  · exact evp b0 (jf fun _ => b0)
  refine evn b0 ?_
  by_cases h3 : k = 3
  · refine evp h3 ?_
    exact rneg (by omega) <| rneg (by omega) <| rpos h3 <| rneg b0 jt
  refine evn h3 ?_
  by_cases h4 : k = 4
  · rw [show (k == 4) = true by simp [h4]]; exact rneg (by omega) <| rneg (by omega) <| rneg (by omega) <| rpos h4 <| rneg b0 jt
  · rw [show (k == 4) = false by simp [h4]]; exact jf (by omega)
theorem tuned_spec (a k b : Int) : Ev (fun n => spec_TunedPitch.f n a k b) (tunedPitch a k b) := by
  have jt : Ev (fun n => spec_TunedPitch.j0 n a k b true) 0 := Ev.step (fun n => by rw [spec_TunedPitch.j0]) (evp rfl (Ev.now _))
  unfold spec_TunedPitch.f
  refine evb (pitch_eq a) ?_
  unfold tunedPitch
  by_cases ha : fine a = true
  rotate_left
  · exact rneg ha <| evn ha jt
  refine rpos ha <| evp ha (evb (l01In_eq _ _ _) ?_)
  by_cases hb : 0 ≤ b ∧ b ≤ 100000
  rotate_left
  · rw [show (!decide (0 ≤ b ∧ b ≤ 100000)) = true by rw [decide_eq_false hb]; rfl]; exact rneg hb jt
  rw [show (!decide (0 ≤ b ∧ b ≤ 100000)) = false by rw [decide_eq_true hb]; rfl]
  refine rpos hb ?_
  have j2t : Ev (fun n => spec_TunedPitch.j2 n a 0 true) (orZero (wrap64 (Int.tdiv a 2))) := Ev.step (fun n => by rw [spec_TunedPitch.j2]) (evp rfl (evz (pitch_eq _)))
  have j2f : Ev (fun n => spec_TunedPitch.j2 n a 0 false) 0 := Ev.step (fun n => by rw [spec_TunedPitch.j2]) (evn (by decide) (evz (pitch_eq 0)))
  refine Ev.step (fun n => by rw [spec_TunedPitch.j0]) (evn (by decide) ?_)
  by_cases h1 : k = 1
  · rw [mx_comm 0]; exact rpos h1 <| evp h1 (evz (pitch_eq _))
  refine rneg h1 <| evn h1 ?_
  by_cases h2 : k = 2
  · rw [mx_comm 0]; exact rpos h2 <| evp h2 (evz (pitch_eq _))
  refine rneg h2 <| evn h2 ?_
  have j1f : Ev (fun n => spec_TunedPitch.j1 n a k b 0 false) (if k = 4 then if b = 0 then orZero (wrap64 (Int.tdiv a 2)) else 0 else 0) := by
    refine Ev.step (fun n => by rw [spec_TunedPitch.j1]) (evn (by decide) ?_)
    by_cases h4 : k = 4
    · refine rpos h4 <| evp h4 ?_
      by_cases b0 : b = 0
      · rw [show (b == 0) = true by simp [b0]]; exact rpos b0 j2t
      · rw [show (b == 0) = false by simp [b0]]; exact rneg b0 j2f
    · exact rneg h4 <| evn h4 j2f
  by_cases h3 : k = 3
  · refine rpos h3 <| evp h3 ?_
    by_cases b0 : b = 0
    · rw [show (b == 0) = true by simp [b0]]
      exact rpos b0 <| Ev.step (fun n => by rw [spec_TunedPitch.j1]) (evp rfl (evz (pitch_eq _)))
    · rw [show (b == 0) = false by simp [b0]]
      rw [if_neg (by omega)] at j1f
      exact rneg b0 j1f
  exact rneg h3 <| evn h3 j1f
end Go.Proofs.Ytlhlmjklajdejaa.Q


namespace Go.Proofs.Ytlhlmjklajdejaa.Q
set_option linter.unusedVariables false
set_option linter.unusedSimpArgs false
open Go.RowKit Go.Proofs.Ytlhlmjklajdejaa.P Go.Proofs.YtlhlmjklajdejaaW.PrintWords Go.Proofs.YtlhlmjklajdejaaW.PrintMore
theorem rdS (l : List S67) (i : Nat) (h : i < l.length) : rd_T67 l (i : Int) = l[i] := by
  unfold rd_T67; simp [List.getD_eq_getElem?_getD, h]
end Go.Proofs.Ytlhlmjklajdejaa.Q


namespace Go.Proofs.Ytlhlmjklajdejaa.Q
set_option linter.unusedVariables false
set_option linter.unusedSimpArgs false
open Go.RowKit Go.Proofs.Ytlhlmjklajdejaa.P Go.Proofs.YtlhlmjklajdejaaW.PrintWords Go.Proofs.YtlhlmjklajdejaaW.PrintMore
theorem planGoS_eq (l : List S67) (t : List Bool) : planGoS l t = planGo l t := by
  induction l generalizing t with
  | nil => rfl
  | cons x r ih => simp only [planGoS, planGo, ih]; rfl
theorem planSpec_eq (l : List S67) : spec_PlanOk.f l = some (planOk l) := by
  show some (planOkS l) = some (planOk l)
  unfold planOkS planOk
  rw [planGoS_eq, Bool.and_comm]; rfl
theorem planImpl_eq (l : List S67) : impl_PlanOk.f l = some (planOk l) := rfl
def inKeys (x : S67) : Prop := 0 ≤ x.f0 ∧ x.f0 ≤ 11 ∧ 0 ≤ x.f1 ∧ x.f1 ≤ 11 ∧ x.f1 = (x.f0 + 1) % 12
theorem stepOk_in {x : S67} {t : List Bool} (h : stepOk x t = true) : inKeys x := by
  simp [stepOk] at h; unfold inKeys; omega
theorem planGo_in {l : List S67} {t : List Bool} (h : planGo l t = true) : ∀ x ∈ l, inKeys x := by
  induction l generalizing t with
  | nil => simp
  | cons y r ih =>
    simp only [planGo, Bool.and_eq_true] at h
    intro x hx
    rcases List.mem_cons.1 hx with rfl | hx
    · exact stepOk_in h.1
    · exact ih h.2 x hx
theorem planOk_in {l : List S67} (h : planOk l = true) : ∀ x ∈ l, inKeys x := by
  simp only [planOk, Bool.and_eq_true] at h; exact planGo_in h.2
theorem planOk_len {l : List S67} (h : planOk l = true) : l.length ≤ 11 := by
  simp only [planOk, Bool.and_eq_true, decide_eq_true_eq] at h; exact h.1
def runGo : List S67 → List Int → List Int × Bool
  | [], o => (o, true)
  | x :: r, o => if tunedPitch (o.getD x.f0.toNat 0) x.f2 x.f3 = 0 then ([], false) else runGo r (o.set x.f1.toNat (tunedPitch (o.getD x.f0.toNat 0) x.f2 x.f3))
def begun (a : Int) : List Int := a :: List.replicate 11 0
def runPlan (a : Int) (l : List S67) : List Int × Bool := if planOk l = true ∧ fine a = true then runGo l (begun a) else ([], false)
theorem rd_get (l : List Int) (i : Int) : rd l i = l.getD i.toNat 0 := rfl
theorem runPlan_impl (a : Int) (l : List S67) : Ev (fun n => impl_RunPlan.f n a l) (runPlan a l) := by
  have jt : Ev (fun n => impl_RunPlan.j0 n a l true) ([], false) := Ev.step (fun n => by rw [impl_RunPlan.j0]) (evp rfl (Ev.now _))
  unfold impl_RunPlan.f runPlan
  refine evb (planImpl_eq l) ?_
  by_cases hp : planOk l = true
  rotate_left
  · exact rneg (fun h => hp h.1) <| evn hp jt
  refine evp hp (evb (isFine_eq a) ?_)
  by_cases ha : fine a = true
  rotate_left
  · rw [show (!fine a) = true by simpa using ha]; exact rneg (fun h => ha h.2) jt
  rw [show (!fine a) = false by simpa using ha]
  refine rpos ⟨hp, ha⟩ ?_
  have hl := planOk_len hp
  have hin := planOk_in hp
  have key : ∀ i, i ≤ l.length → ∀ o : List Int, o.length = 12 → Ev (fun n => impl_RunPlan.l0 n o l (l.length : Int) (i : Int)) (runGo (l.drop i) o) := by
    refine down (n := l.length) ?_ ?_
    · intro o ho
      refine Ev.step (fun n => by rw [impl_RunPlan.l0]) (evn (by omega) (evs ?_))
      rw [drop_end]; rfl
    · intro i hi ih o ho
      obtain ⟨k0, k1, k2, k3, k4⟩ := hin l[i] (List.getElem_mem hi)
      refine Ev.step (fun n => by rw [impl_RunPlan.l0]) ?_
      refine evp (by omega) (evp (by omega) (evp (by omega) ?_))
      rw [rdS l i hi, drop_cons l i hi, runGo]
      refine evp k0 (evp (by omega) (Ev.bind (tuned_impl _ _ _) (evp k2 (evp (by omega) ?_))))
      rw [rd_get]
      by_cases hz : tunedPitch (o.getD l[i].f0.toNat 0) l[i].f2 l[i].f3 = 0
      · exact rpos hz <| evp hz (Ev.now _)
      refine rneg hz <| evn hz ?_
      rw [w64 (by omega) (by omega)]
      exact ih _ (by simpa using ho)
  refine Ev.step (fun n => by rw [impl_RunPlan.j0]) ?_
  refine evn (by decide) (evp (by decide) ?_)
  simp only [Option.bind_some]
  refine evp (by simp) ?_
  exact key 0 (Nat.zero_le _) _ (by simp)
theorem runPlan_spec (a : Int) (l : List S67) : Ev (fun n => spec_RunPlan.f n a l) (runPlan a l) := by
  have jt : Ev (fun n => spec_RunPlan.j0 n a l true) ([], false) := Ev.step (fun n => by rw [spec_RunPlan.j0]) (evp rfl (Ev.now _))
  unfold spec_RunPlan.f runPlan
  refine evb (planSpec_eq l) ?_
  by_cases hp : planOk l = true
  rotate_left
  · exact rneg (fun h => hp h.1) <| evn hp jt
  refine evp hp (evb (pitch_eq a) ?_)
  by_cases ha : fine a = true
  rotate_left
  · rw [show (!fine a) = true by simpa using ha]; exact rneg (fun h => ha h.2) jt
  rw [show (!fine a) = false by simpa using ha]
  refine rpos ⟨hp, ha⟩ ?_
  have hl := planOk_len hp
  have hin := planOk_in hp
  have key : ∀ i, i ≤ l.length → ∀ o : List Int, o.length = 12 → Ev (fun n => spec_RunPlan.l0 n l o (i : Int)) (runGo (l.drop i) o) := by
    refine down (n := l.length) ?_ ?_
    · intro o ho
      refine Ev.step (fun n => by rw [spec_RunPlan.l0]) (evn (by omega) (evs ?_))
      rw [drop_end]; rfl
    · intro i hi ih o ho
      obtain ⟨k0, k1, k2, k3, k4⟩ := hin l[i] (List.getElem_mem hi)
      refine Ev.step (fun n => by rw [spec_RunPlan.l0]) ?_
      refine evp (by omega) (evp (by omega) ?_)
      rw [rdS l i hi, drop_cons l i hi, runGo]
      refine evp k0 (evp (by omega) (Ev.bind (tuned_spec _ _ _) ?_))
      rw [rd_get]
      by_cases hz : tunedPitch (o.getD l[i].f0.toNat 0) l[i].f2 l[i].f3 = 0
      · exact rpos hz <| evp hz (Ev.now _)
      refine rneg hz <| evn hz (evp k2 (evp (by omega) ?_))
      rw [w64 (by omega) (by omega)]
      exact ih _ (by simpa using ho)
  refine Ev.step (fun n => by rw [spec_RunPlan.j0]) ?_
  refine evn (by decide) (evp (by decide) ?_)
  simp only [Option.bind_some]
  refine evp (by simp) ?_
  exact key 0 (Nat.zero_le _) _ (by simp)
theorem runGo_len {l : List S67} {o : List Int} (h : (runGo l o).2 = true) : (runGo l o).1.length = o.length := by
  induction l generalizing o with
  | nil => rfl
  | cons x r ih =>
    unfold runGo at h ⊢
    split at h
    · exact absurd h (by simp)
    · rw [if_neg (by assumption), ih h, List.length_set]
theorem runPlan_len {a : Int} {l : List S67} (h : (runPlan a l).2 = true) : (runPlan a l).1.length = 12 := by
  unfold runPlan at h ⊢
  split at h
  · rw [if_pos (by assumption), runGo_len h]; rfl
  · exact absurd h (by simp)
end Go.Proofs.Ytlhlmjklajdejaa.Q


namespace Go.Proofs.Ytlhlmjklajdejaa.Q
set_option linter.unusedVariables false
set_option linter.unusedSimpArgs false
open Go.RowKit Go.Proofs.Ytlhlmjklajdejaa.P Go.Proofs.YtlhlmjklajdejaaW.PrintWords Go.Proofs.YtlhlmjklajdejaaW.PrintMore
theorem plan_ev (b : List Int) (hb : b.length ≤ 1048576) (i h : Int) (hi : 0 ≤ i) : ∃ p i' h', Ev (fun k => spec_l19Plan.f k b i h) (p, i', h') ∧ gPlan p ∧ 0 ≤ i' := by
  have key : ∀ j : Nat, j ≤ 11 → ∀ L : List S67, L.length = 11 → gPlan L → ∀ i h : Int, 0 ≤ i → ∃ p i' h', Ev (fun k => spec_l19Plan.l0 k L (j : Int) b i h) (p, i', h') ∧ gPlan p ∧ 0 ≤ i' := by
    refine down (P := fun j => ∀ L : List S67, L.length = 11 → gPlan L → ∀ i h : Int, 0 ≤ i → ∃ p i' h', Ev (fun k => spec_l19Plan.l0 k L (j : Int) b i h) (p, i', h') ∧ gPlan p ∧ 0 ≤ i') (n := 11) ?_ ?_
    · intro L hL g i h hi
      obtain ⟨v, i1, h1, e1, v0, v1, _, j1⟩ := below_ev b hb i h 12 hi
      obtain ⟨u, i2, h2, e2, hu, j2⟩ := pick_ev b hb i1 h1 [11, 11, 11, v] j1 (by simp)
      have hu2 : 0 ≤ u ∧ u ≤ 11 := by simp at hu; have := v1 (by omega); omega
      refine ⟨L.take u.toNat, i2, h2, ?_, gPlan_take g _, j2⟩
      refine Ev.step (fun k => by rw [spec_l19Plan.l0]) ?_
      refine evn (by omega) (evb e1 ?_)
      dsimp only
      refine evb e2 ?_
      dsimp only
      refine evp hu2.1 ?_
      refine evp (by omega) ?_
      exact Ev.now _
    · intro j hj ih L hL g i h hi
      obtain ⟨v, i1, h1, e1, v0, v1, _, j1⟩ := below_ev b hb i h 1500 hi
      obtain ⟨o, i2, h2, e2, j2⟩ := once_ev b hb i1 h1 5 j1
      have hr : ∀ M : List S67, M.length = 11 → rd_T67 M (j : Int) = M.getD j z67 := fun M hM => by rw [rdS M j (by omega)]; simp [List.getD_eq_getElem?_getD, show j < M.length by omega]
      have gs : ∀ M : List S67, M.length = 11 → gPlan M → ∀ x, gStep j x → gPlan (M.set j x) := fun M hM gM x gx => by
        refine ⟨by simp; omega, fun i hi => ?_⟩
        rw [List.getElem_set]
        split
        · rename_i e; subst e; exact gx
        · exact gM.2 i _
      have gd : ∀ M : List S67, M.length = 11 → gPlan M → gStep j (M.getD j z67) := fun M hM gM => by
        have hj2 : j < M.length := by omega
        have := gM.2 j hj2
        simpa [List.getD_eq_getElem?_getD, hj2] using this
      have g1 := gd L hL g
      have gy := gs L hL g (⟨(L.getD j z67).f0, (L.getD j z67).f1, (L.getD j z67).f2, v⟩ : S67) ⟨g1.1, g1.2.1, g1.2.2.1, v0, v1 (by omega)⟩
      obtain ⟨Y, hY⟩ : ∃ Y, L.set j (⟨(L.getD j z67).f0, (L.getD j z67).f1, (L.getD j z67).f2, v⟩ : S67) = Y := ⟨_, rfl⟩
      rw [hY] at gy
      have hYl : Y.length = 11 := by rw [← hY]; simpa using hL
      have g2 := gd Y hYl gy
      have gz := gs Y hYl gy (⟨(Y.getD j z67).f0, (Y.getD j z67).f1, 2, (Y.getD j z67).f3⟩ : S67) ⟨g2.1, g2.2.1, .inl rfl, g2.2.2.2.1, g2.2.2.2.2⟩
      have w1 : wrap64 ((j : Int) + 1) = ((j + 1 : Nat) : Int) := w64 (by omega) (by omega)
      have e3 : (some (L.set (j : Int).toNat (⟨(rd_T67 L (j : Int)).f0, (rd_T67 L (j : Int)).f1, (rd_T67 L (j : Int)).f2, v⟩ : S67) : List S67)) = some Y := by rw [hr L hL, Int.toNat_natCast, hY]
      cases ho : o with
      | true =>
        obtain ⟨p, i', h', ep, gp, jp⟩ := ih _ (by simpa using hYl) gz i2 h2 j2
        refine ⟨p, i', h', ?_, gp, jp⟩
        refine Ev.step (fun k => by rw [spec_l19Plan.l0]) ?_
        refine evp (by omega) (evb e1 ?_)
        refine evp (by omega) (evb e3 ?_)
        refine evb e2 ?_
        refine evp ho ?_
        rw [hr Y hYl, Int.toNat_natCast, w1]
        exact ep
      | false =>
        obtain ⟨p, i', h', ep, gp, jp⟩ := ih Y hYl gy i2 h2 j2
        refine ⟨p, i', h', ?_, gp, jp⟩
        refine Ev.step (fun k => by rw [spec_l19Plan.l0]) ?_
        refine evp (by omega) (evb e1 ?_)
        refine evp (by omega) (evb e3 ?_)
        refine evb e2 ?_
        refine evn (by rw [ho]; simp) ?_
        rw [w1]
        exact ep
  unfold spec_l19Plan.f
  obtain ⟨g, hg⟩ := gPlan_usual 0 (by omega)
  obtain ⟨p, i', h', e, g', j⟩ := key 0 (Nat.zero_le _) (usualPlan 0) hg g i h hi
  exact ⟨p, i', h', Ev.bind (usual_spec 0) e, g', j⟩
end Go.Proofs.Ytlhlmjklajdejaa.Q


namespace Go.Proofs.Ytlhlmjklajdejaa.Q
set_option linter.unusedVariables false
set_option linter.unusedSimpArgs false
open Go.RowKit Go.Proofs.Ytlhlmjklajdejaa.P Go.Proofs.YtlhlmjklajdejaaW.PrintWords Go.Proofs.YtlhlmjklajdejaaW.PrintMore
def stepTo (c : Int) : List S67 → Nat → Int
  | [], _ => -1
  | x :: r, j => if x.f1 = c then (j : Int) else stepTo c r (j + 1)
theorem stepTo_ev (l : List S67) (c : Int) (hl : l.length ≤ 4000000) : Ev (fun n => spec_l20Step.f n l c) (stepTo c l 0) := by
  have key : ∀ i, i ≤ l.length → Ev (fun n => spec_l20Step.l0 n l c (i : Int)) (stepTo c (l.drop i) i) := by
    refine down (n := l.length) ?_ ?_
    · refine Ev.step (fun n => by rw [spec_l20Step.l0]) (evn (by omega) (evs ?_))
      rw [drop_end]; rfl
    · intro i hi ih
      refine Ev.step (fun n => by rw [spec_l20Step.l0]) ?_
      refine evp (by omega) (evp (by omega) ?_)
      rw [rdS l i hi, drop_cons l i hi, stepTo]
      by_cases h : l[i].f1 = c
      · exact rpos h <| evp h (Ev.now _)
      · refine rneg h <| evn h ?_
        rw [w64 (by omega) (by omega)]
        exact ih
  exact key 0 (Nat.zero_le _)
theorem stepTo_lt (c : Int) (l : List S67) (j d : Nat) : (0 ≤ stepTo c l j ∧ stepTo c l j < ((j + d : Nat) : Int)) ↔ ∃ x ∈ l.take d, x.f1 = c := by
  induction l generalizing j d with
  | nil => simp [stepTo]
  | cons x r ih =>
    unfold stepTo
    cases d with
    | zero =>
      simp only [List.take_zero, List.not_mem_nil, false_and, exists_false, iff_false]
      by_cases h : x.f1 = c
      · rw [if_pos h]; omega
      · rw [if_neg h]
        have := ih (j + 1) 0
        simp at this
        have h1 := this
        intro h2
        have : ∀ (l : List S67) (j : Nat), stepTo c l j = -1 ∨ (j : Int) ≤ stepTo c l j := by
          intro l
          induction l with
          | nil => intro j; exact .inl rfl
          | cons y s ih2 =>
            intro j; unfold stepTo; split
            · exact .inr (Int.le_refl _)
            · rcases ih2 (j + 1) with h | h
              · exact .inl h
              · exact .inr (by omega)
        rcases this r (j + 1) with h3 | h3 <;> omega
    | succ d =>
      rw [List.take_succ_cons]
      by_cases h : x.f1 = c
      · rw [if_pos h]
        exact ⟨fun _ => ⟨x, List.mem_cons_self, h⟩, fun _ => ⟨by omega, by omega⟩⟩
      · rw [if_neg h]
        have := ih (j + 1) d
        rw [show j + 1 + d = j + (d + 1) by omega] at this
        rw [this]
        constructor
        · rintro ⟨y, hy, e⟩; exact ⟨y, List.mem_cons_of_mem _ hy, e⟩
        · rintro ⟨y, hy, e⟩
          rcases List.mem_cons.1 hy with rfl | hy
          · exact absurd e h
          · exact ⟨y, hy, e⟩
theorem tunedBy_len (l : List S67) (t : List Bool) : (P.tunedBy l t).length = t.length := by
  unfold P.tunedBy
  induction l generalizing t with
  | nil => rfl
  | cons x r ih => rw [List.foldl_cons, ih, List.length_set]
theorem tunedBy_get (l : List S67) (t : List Bool) (hin : ∀ x ∈ l, 0 ≤ x.f1) (c : Nat) (hc : c < t.length) : (P.tunedBy l t)[c]? = some (t[c] || l.any (fun x => decide (x.f1 = (c : Int)))) := by
  unfold P.tunedBy
  induction l generalizing t with
  | nil => simp [hc]
  | cons x r ih =>
    rw [List.foldl_cons, ih _ (fun y hy => hin y (List.mem_cons_of_mem _ hy)) (by simpa using hc)]
    have := hin x List.mem_cons_self
    simp only [List.any_cons, List.getElem_set]
    by_cases h : x.f1 = (c : Int)
    · rw [if_pos (by omega)]; simp [h]
    · rw [if_neg (by omega)]; simp [h]
theorem workOk_spec (p : List S67) (d : Int) (q : List Int) : Ev (fun n => spec_WorkOk.f n p d q) (workOk p d q) := by
  have jt : Ev (fun n => spec_WorkOk.j0 n true p d q) false := Ev.step (fun n => by rw [spec_WorkOk.j0]) (evp rfl (Ev.now _))
  unfold spec_WorkOk.f workOk
  refine evb (planSpec_eq p) ?_
  by_cases hp : planOk p = true
  rotate_left
  · rw [show planOk p = false by simpa using hp, Bool.false_and]; exact evn (by simp) jt
  refine evp hp (evb (l01In_eq _ _ _) ?_)
  rw [hp, Bool.true_and]
  by_cases hd : 0 ≤ d ∧ d ≤ (p.length : Int)
  rotate_left
  · rw [decide_eq_false hd, Bool.false_and]; exact evn (by simp) jt
  rw [decide_eq_true hd, Bool.true_and]
  refine evp rfl ?_
  by_cases hq : q.length = 12
  rotate_left
  · rw [decide_eq_false hq, Bool.false_and, show ((q.length : Int) != 12) = true by simpa using (show ¬ (q.length : Int) = 12 by omega)]; exact jt
  rw [decide_eq_true hq, Bool.true_and, show ((q.length : Int) != 12) = false by simpa using (show (q.length : Int) = 12 by omega)]
  have hl := planOk_len hp
  have hin := planOk_in hp
  obtain ⟨T, hT⟩ : ∃ T, P.tunedBy (p.take d.toNat) tuned0 = T := ⟨_, rfl⟩
  have hTl : T.length = 12 := by rw [← hT, tunedBy_len]; rfl
  have hTi : ∀ c : Nat, (hc : c < T.length) → T[c] = (decide (c = 0) || decide (0 ≤ stepTo (c : Int) p 0 ∧ stepTo (c : Int) p 0 < d)) := by
    intro c hc
    have h1 := tunedBy_get (p.take d.toNat) tuned0 (fun x hx => (hin x (List.mem_of_mem_take hx)).2.2.1) c (show c < 12 by omega)
    rw [hT, List.getElem?_eq_getElem hc] at h1
    rw [Option.some.inj h1]
    congr 1
    · have : ∀ c, (h : c < tuned0.length) → tuned0[c] = decide (c = 0) := by decide
      exact this c _
    · have h2 := stepTo_lt (c : Int) p 0 d.toNat
      rw [Nat.zero_add, Int.toNat_of_nonneg hd.1] at h2
      rw [Bool.eq_iff_iff, decide_eq_true_iff, h2]
      simp
  rw [hT]
  have key : ∀ i : Nat, i ≤ 12 → Ev (fun n => spec_WorkOk.l0 n (i : Int) p d q) (keyGo (T.drop i) (q.drop i)) := by
    refine down (n := 12) ?_ ?_
    · refine Ev.step (fun n => by rw [spec_WorkOk.l0]) (evn (by omega) (evs ?_))
      rw [List.drop_eq_nil_of_le (by omega)]; rfl
    · intro i hi ih
      refine Ev.step (fun n => by rw [spec_WorkOk.l0]) ?_
      refine evp (by omega) (Ev.bind (stepTo_ev p _ (by omega)) ?_)
      rw [rd_nat q i (by omega), drop_cons T i (by omega), drop_cons q i (by omega), keyGo, hTi i (by omega), w64 (n := (i : Int) + 1) (by omega) (by omega)]
      have fin : ∀ v : Bool, Ev (fun n => (spec_l18Pitch.f q[i]).bind fun t => if t = true then spec_WorkOk.l0 n (((i + 1 : Nat)) : Int) p d q else some false) (decide (1 ≤ q[i] ∧ q[i] ≤ 10000000) && keyGo (T.drop (i + 1)) (q.drop (i + 1))) := by
        intro v
        refine evb (pitch_eq _) ?_
        by_cases hf : fine q[i] = true
        · rw [show decide (1 ≤ q[i] ∧ q[i] ≤ 10000000) = true from hf, Bool.true_and]; exact evp hf ih
        · rw [show decide (1 ≤ q[i] ∧ q[i] ≤ 10000000) = false by simpa [fine] using hf, Bool.false_and]; exact evn hf (Ev.now _)
      have zer : Ev (fun n => if 0 ≤ (i : Int) then (if (i : Int) < (q.length : Int) then (if q[i] = 0 then spec_WorkOk.l0 n (((i + 1 : Nat)) : Int) p d q else some false) else none) else none) (decide (q[i] = 0) && keyGo (T.drop (i + 1)) (q.drop (i + 1))) := by
        refine evp (by omega) (evp (by omega) ?_)
        by_cases hz : q[i] = 0
        · rw [decide_eq_true hz, Bool.true_and]; exact evp hz ih
        · rw [decide_eq_false hz, Bool.false_and]; exact evn hz (Ev.now _)
      by_cases h0 : i = 0
      · refine evp (by omega) (evp (by omega) (evp (by omega) ?_))
        rw [decide_eq_true h0, Bool.true_or, if_pos rfl]
        exact fin true
      refine evn (by omega) ?_
      rw [decide_eq_false h0, Bool.false_or]
      by_cases h1 : 0 ≤ stepTo (i : Int) p 0
      rotate_left
      · rw [decide_eq_false (fun h => h1 h.1), if_neg (by simp)]; exact evn (by omega) zer
      refine evp (by omega) ?_
      by_cases h2 : stepTo (i : Int) p 0 < d
      · rw [decide_eq_true ⟨h1, h2⟩, if_pos rfl]; exact evp h2 (evp (by omega) (evp (by omega) (fin true)))
      · rw [decide_eq_false (fun h => h2 h.2), if_neg (by simp)]; exact evn h2 zer
  refine Ev.step (fun n => by rw [spec_WorkOk.j0]) (evn (by decide) ?_)
  exact key 0 (by omega)
theorem workImpl_eq (p : List S67) (d : Int) (q : List Int) : impl_WorkOk.f p d q = some (workOk p d q) := rfl
theorem workOk_plan {p : List S67} {d : Int} {q : List Int} (h : workOk p d q = true) : planOk p = true := by
  simp only [workOk, Bool.and_eq_true] at h; exact h.1
theorem workOk_done {p : List S67} {d : Int} {q : List Int} (h : workOk p d q = true) : 0 ≤ d ∧ d ≤ p.length := by
  simp only [workOk, Bool.and_eq_true, decide_eq_true_eq] at h; exact h.2.1
theorem workOk_len {p : List S67} {d : Int} {q : List Int} (h : workOk p d q = true) : q.length = 12 := by
  simp only [workOk, Bool.and_eq_true, decide_eq_true_eq] at h; exact h.2.2.1
end Go.Proofs.Ytlhlmjklajdejaa.Q


namespace Go.Proofs.Ytlhlmjklajdejaa.Q
set_option linter.unusedVariables false
set_option linter.unusedSimpArgs false
open Go.RowKit Go.Proofs.Ytlhlmjklajdejaa.P Go.Proofs.YtlhlmjklajdejaaW.PrintWords Go.Proofs.YtlhlmjklajdejaaW.PrintMore
def tuneAt (p : List S67) (q : List Int) (i : Nat) : Int := tunedPitch (q.getD (p.getD i z67).f0.toNat 0) (p.getD i z67).f2 (p.getD i z67).f3
theorem getS (p : List S67) (i : Nat) (hi : i < p.length) : p.getD i z67 = p[i] := by simp [List.getD_eq_getElem?_getD, hi]
theorem tunedBy_ev (p : List S67) (d : Int) (q : List Int) (i : Nat) (hp : planOk p = true) (hq : q.length = 12) (hi : i < p.length) : Ev (fun n => impl_tunedBy.f n p d q (i : Int)) (tuneAt p q i) := by
  obtain ⟨k0, k1, k2, k3, k4⟩ := planOk_in hp p[i] (List.getElem_mem hi)
  unfold impl_tunedBy.f tuneAt
  rw [getS p i hi, rdS p i hi]
  refine evp (by omega) (evp (by omega) (evp k0 (evp (by omega) (Ev.bind (tuned_impl _ _ _) (Ev.now _)))))
end Go.Proofs.Ytlhlmjklajdejaa.Q


namespace Go.Proofs.Ytlhlmjklajdejaa.Q
set_option linter.unusedVariables false
set_option linter.unusedSimpArgs false
open Go.RowKit Go.Proofs.Ytlhlmjklajdejaa.P Go.Proofs.YtlhlmjklajdejaaW.PrintWords Go.Proofs.YtlhlmjklajdejaaW.PrintMore
theorem getD_set_self (q : List Int) (i : Nat) (v : Int) (h : i < q.length) : (q.set i v).getD i 0 = v := by simp [List.getD_eq_getElem?_getD, h]
theorem getD_set_ne (q : List Int) (i k : Nat) (v : Int) (h : i ≠ k) : (q.set i v).getD k 0 = q.getD k 0 := by
  simp only [List.getD_eq_getElem?_getD]; rw [List.getElem?_set_ne h]
def pit (p : List S67) (s : Int) : Nat → Int
  | 0 => s
  | k + 1 => tunedPitch (pit p s k) (p.getD k z67).f2 (p.getD k z67).f3
def lows : List Int := [155000, 115875, 86531, 64523, 48017, 35638, 26353, 19390, 14167, 10250, 7312, 5109]
def highs : List Int := [345000, 517500, 388125, 582187, 436640, 654960, 491220, 368415, 552622, 414466, 621699, 466274]
theorem fine_of {n : Int} (h1 : 1 ≤ n) (h2 : n ≤ 10000000) : fine n = true := decide_eq_true ⟨h1, h2⟩
theorem tuned_five (a b : Int) (h1 : 2000 ≤ a) (h2 : a ≤ 1000000) (h3 : 0 ≤ b) (h4 : b < 1500) : tunedPitch a 1 b = (3 * a - b) / 2 := by
  unfold tunedPitch orZero mx
  rw [if_pos (fine_of (by omega) (by omega)), if_pos (by omega), if_pos rfl, w64 (n := 3 * a) (by omega) (by omega), w64 (n := 3 * a - b) (by omega) (by omega)]
  have e : (if (3 * a - b) < 0 then (0 : Int) else 3 * a - b) = 3 * a - b := if_neg (by omega)
  rw [e]
  rw [Int.tdiv_eq_ediv_of_nonneg (by omega), w64 (by omega) (by omega), if_pos (fine_of (by omega) (by omega))]
theorem tuned_four (a b : Int) (h1 : 2000 ≤ a) (h2 : a ≤ 1000000) (h3 : 0 ≤ b) (h4 : b < 1500) : tunedPitch a 2 b = (3 * a - b) / 4 := by
  unfold tunedPitch orZero mx
  rw [if_pos (fine_of (by omega) (by omega)), if_pos (by omega), if_neg (by decide), if_pos rfl, w64 (n := 3 * a) (by omega) (by omega), w64 (n := 3 * a - b) (by omega) (by omega)]
  have e : (if (3 * a - b) < 0 then (0 : Int) else 3 * a - b) = 3 * a - b := if_neg (by omega)
  rw [e]
  rw [Int.tdiv_eq_ediv_of_nonneg (by omega), w64 (by omega) (by omega), if_pos (fine_of (by omega) (by omega))]
theorem bound_step (k : Nat) (hk : k < 11) (a b x : Int) (h1 : lows.getD k 0 ≤ a) (h2 : a ≤ highs.getD k 0) (h3 : 0 ≤ b) (h4 : b < 1500) (hx : x = 2 ∨ x = usualKind k) :
    lows.getD (k + 1) 0 ≤ tunedPitch a x b ∧ tunedPitch a x b ≤ highs.getD (k + 1) 0 := by
  have a1 : 2000 ≤ a ∧ a ≤ 1000000 := by
    have : ∀ k : Nat, k < 11 → 2000 ≤ lows.getD k 0 ∧ highs.getD k 0 ≤ 1000000 := by decide
    have := this k hk; omega
  have hx2 : x = 2 ∨ (x = 1 ∧ usualKind k = 1) := by
    rcases hx with h | h
    · exact .inl h
    · unfold usualKind at h ⊢
      by_cases h5 : k = 0 ∨ k = 2 ∨ k = 4 ∨ k = 7 ∨ k = 9
      · rw [if_pos h5] at h ⊢; exact .inr ⟨h, rfl⟩
      · rw [if_neg h5] at h; exact .inl h
  have hk2 : k = 0 ∨ k = 1 ∨ k = 2 ∨ k = 3 ∨ k = 4 ∨ k = 5 ∨ k = 6 ∨ k = 7 ∨ k = 8 ∨ k = 9 ∨ k = 10 := by omega
  rcases hx2 with rfl | ⟨rfl, hu⟩
  · rw [tuned_four a b a1.1 a1.2 h3 h4]
    rcases hk2 with rfl | rfl | rfl | rfl | rfl | rfl | rfl | rfl | rfl | rfl | rfl <;> simp only [lows, highs, List.getD_cons_zero, List.getD_cons_succ] at h1 h2 ⊢ <;> omega
  · rw [tuned_five a b a1.1 a1.2 h3 h4]
    rcases hk2 with rfl | rfl | rfl | rfl | rfl | rfl | rfl | rfl | rfl | rfl | rfl <;> first | (exact absurd hu (by decide)) | (simp only [lows, highs, List.getD_cons_zero, List.getD_cons_succ] at h1 h2 ⊢; omega)
section
variable {p : List S67} (g : gPlan p) {s : Int} (hs : 155000 ≤ s ∧ s ≤ 345000)
include g
theorem gAt (i : Nat) (h : i < p.length) : (p.getD i z67).f0 = i ∧ (p.getD i z67).f1 = (i : Int) + 1 ∧ ((p.getD i z67).f2 = 2 ∨ (p.getD i z67).f2 = usualKind i) ∧ 0 ≤ (p.getD i z67).f3 ∧ (p.getD i z67).f3 < 1500 := by
  rw [getS p i h]; exact g.2 i h
include hs
theorem pit_bounds (k : Nat) (hk : k ≤ p.length) : lows.getD k 0 ≤ pit p s k ∧ pit p s k ≤ highs.getD k 0 := by
  induction k with
  | zero => exact hs
  | succ k ih =>
    obtain ⟨h1, h2⟩ := ih (by omega)
    obtain ⟨g0, g1, g2, g3, g4⟩ := gAt g k (by omega)
    exact bound_step k (by have := g.1; omega) _ _ _ h1 h2 g3 g4 g2
theorem pit_fine (k : Nat) (hk : k ≤ p.length) : 2000 ≤ pit p s k ∧ pit p s k ≤ 1000000 := by
  have : ∀ k : Nat, k < 12 → 2000 ≤ lows.getD k 0 ∧ highs.getD k 0 ≤ 1000000 := by decide
  have h1 := this k (by have := g.1; omega)
  have h2 := pit_bounds g hs k hk
  omega
end
def pits (p : List S67) (s : Int) (n : Nat) : List Int := (List.range 12).map (fun k => if k ≤ n then pit p s k else 0)
theorem pits_len (p : List S67) (s : Int) (n : Nat) : (pits p s n).length = 12 := by simp [pits]
theorem pits_get (p : List S67) (s : Int) (n k : Nat) (hk : k < 12) : (pits p s n).getD k 0 = if k ≤ n then pit p s k else 0 := by
  simp [pits, List.getD_eq_getElem?_getD, hk]
theorem list_ext12 {a b : List Int} (ha : a.length = 12) (hb : b.length = 12) (h : ∀ k : Nat, k < 12 → a.getD k 0 = b.getD k 0) : a = b := by
  apply List.ext_getElem (by omega)
  intro k h1 h2
  have := h k (by omega)
  simpa [List.getD_eq_getElem?_getD, h1, h2] using this
theorem pits_zero (p : List S67) (s : Int) : pits p s 0 = begun s := by
  refine list_ext12 (pits_len p s 0) (by simp [begun]) (fun k hk => ?_)
  rw [pits_get p s 0 k hk]
  cases k with
  | zero => rfl
  | succ k =>
    rw [if_neg (by omega)]
    have : ∀ k : Nat, k < 11 → (List.replicate 11 (0 : Int)).getD k 0 = 0 := by decide
    exact (this k (by omega)).symm
theorem pits_succ (p : List S67) (s : Int) (n : Nat) (hn : n < 11) : (pits p s n).set (n + 1) (pit p s (n + 1)) = pits p s (n + 1) := by
  refine list_ext12 (by simp [pits_len]) (pits_len _ _ _) (fun k hk => ?_)
  have h1 := pits_get p s n k hk
  rw [pits_get p s (n + 1) k hk]
  by_cases e : k = n + 1
  · subst e
    rw [if_pos (Nat.le_refl _)]
    exact getD_set_self _ _ _ (by rw [pits_len]; omega)
  · have : ((pits p s n).set (n + 1) (pit p s (n + 1))).getD k 0 = (pits p s n).getD k 0 := by
      simp only [List.getD_eq_getElem?_getD]
      rw [List.getElem?_set_ne (by omega)]
    rw [this, h1]
    by_cases h2 : k ≤ n
    · rw [if_pos h2, if_pos (by omega)]
    · rw [if_neg h2, if_neg (by omega)]
def tunedN (n : Nat) : List Bool := (List.range 12).map (fun k => decide (k ≤ n))
theorem tunedN_zero : tunedN 0 = tuned0 := by decide
theorem tunedN_succ (n : Nat) (hn : n < 11) : (tunedN n).set (n + 1) true = tunedN (n + 1) := by
  have : ∀ n : Nat, n < 11 → (tunedN n).set (n + 1) true = tunedN (n + 1) := by decide
  exact this n hn
theorem tunedN_get (n k : Nat) (hk : k < 12) : (tunedN n).getD k false = decide (k ≤ n) := by simp [tunedN, List.getD_eq_getElem?_getD, hk]
theorem usualKind_le (i : Nat) : usualKind i = 1 ∨ usualKind i = 2 := by unfold usualKind; split <;> simp
theorem planGo_good {p : List S67} (g : gPlan p) (j : Nat) (hj : j ≤ p.length) : planGo (p.drop j) (tunedN j) = true := by
  refine down (P := fun j => planGo (p.drop j) (tunedN j) = true) (n := p.length) ?_ ?_ j hj
  · rw [drop_end]; rfl
  · intro i hi ih
    have hl := g.1
    obtain ⟨g0, g1, g2, g3, g4⟩ := g.2 i hi
    rw [drop_cons p i hi, planGo, Bool.and_eq_true]
    constructor
    · have t1 := tunedN_get i i (by omega)
      have t2 := tunedN_get i (i + 1) (by omega)
      have e1 : (p[i].f0).toNat = i := by omega
      have e2 : (p[i].f1).toNat = i + 1 := by omega
      unfold stepOk
      rw [e1, e2, t1, t2]
      have hk : p[i].f2 = 1 ∨ p[i].f2 = 2 := by
        rcases g2 with h | h
        · exact .inr h
        · rw [h]; exact usualKind_le i
      simp only [Bool.and_eq_true, Bool.or_eq_true, decide_eq_true_eq]
      refine ⟨hk, ⟨g3, by omega⟩, by omega, by omega, by omega, Nat.le_refl _, ?_⟩
      simp
    · rw [g1, show ((i : Int) + 1).toNat = i + 1 by omega, tunedN_succ i (by omega)]
      exact ih
theorem planOk_good {p : List S67} (g : gPlan p) : planOk p = true := by
  unfold planOk
  rw [Bool.and_eq_true, decide_eq_true_eq]
  refine ⟨g.1, ?_⟩
  have := planGo_good g 0 (Nat.zero_le _)
  rwa [tunedN_zero] at this
theorem tunedBy_good {p : List S67} (g : gPlan p) (n : Nat) (hn : n ≤ p.length) : P.tunedBy (p.take n) tuned0 = tunedN n := by
  induction n with
  | zero => rw [tunedN_zero]; rfl
  | succ n ih =>
    rw [List.take_succ_eq_append_getElem (by omega), P.tunedBy_snoc, ih (by omega)]
    obtain ⟨g0, g1, _⟩ := g.2 n (by omega)
    rw [g1, show ((n : Int) + 1).toNat = n + 1 by omega]
    exact tunedN_succ n (by have := g.1; omega)
theorem keyGo_iff : ∀ (t : List Bool) (q : List Int), t.length = q.length → (keyGo t q = true ↔ ∀ k : Nat, k < q.length → if t.getD k false = true then 1 ≤ q.getD k 0 ∧ q.getD k 0 ≤ 10000000 else q.getD k 0 = 0)
  | [], [], _ => by simp [keyGo]
  | b :: t, x :: q, h => by
    have ih := keyGo_iff t q (by simpa using h)
    rw [keyGo, Bool.and_eq_true, ih]
    constructor
    · rintro ⟨h1, h2⟩ k hk
      cases k with
      | zero => simpa [apply_ite] using h1
      | succ k => simpa using h2 k (by simpa using hk)
    · intro h2
      refine ⟨?_, fun k hk => by simpa using h2 (k + 1) (by simpa using hk)⟩
      have := h2 0 (by simp)
      cases b <;> simpa using this
theorem workOk_good {p : List S67} (g : gPlan p) (n : Nat) (hn : n ≤ p.length) (q : List Int) :
    workOk p (n : Int) q = true ↔ q.length = 12 ∧ (∀ k : Nat, k ≤ n → 1 ≤ q.getD k 0 ∧ q.getD k 0 ≤ 10000000) ∧ (∀ k : Nat, n < k → k < 12 → q.getD k 0 = 0) := by
  unfold workOk
  rw [planOk_good g, Bool.true_and, decide_eq_true (show 0 ≤ (n : Int) ∧ (n : Int) ≤ p.length by omega), Bool.true_and, Int.toNat_natCast, tunedBy_good g n hn, Bool.and_eq_true, decide_eq_true_eq]
  have hl := g.1
  constructor
  · rintro ⟨h1, h2⟩
    rw [keyGo_iff _ _ (by simp [tunedN, h1])] at h2
    refine ⟨h1, fun k hk => ?_, fun k hk hk2 => ?_⟩
    · have := h2 k (by omega)
      rw [tunedN_get n k (by omega), decide_eq_true hk, if_pos rfl] at this
      exact this
    · have := h2 k (by omega)
      rw [tunedN_get n k (by omega), decide_eq_false (by omega), if_neg (by simp)] at this
      exact this
  · rintro ⟨h1, h2, h3⟩
    refine ⟨h1, (keyGo_iff _ _ (by simp [tunedN, h1])).2 fun k hk => ?_⟩
    rw [tunedN_get n k (by omega)]
    by_cases h : k ≤ n
    · rw [decide_eq_true h, if_pos rfl]; exact h2 k h
    · rw [decide_eq_false h, if_neg (by simp)]; exact h3 k (by omega) (by omega)
theorem workOk_pits {p : List S67} (g : gPlan p) {s : Int} (hs : 155000 ≤ s ∧ s ≤ 345000) (n : Nat) (hn : n ≤ p.length) : workOk p (n : Int) (pits p s n) = true := by
  have hl := g.1
  refine (workOk_good g n hn _).2 ⟨pits_len _ _ _, fun k hk => ?_, fun k hk hk2 => ?_⟩
  · rw [pits_get p s n k (by omega), if_pos hk]
    have := pit_fine g hs k (by omega)
    omega
  · rw [pits_get p s n k hk2, if_neg (by omega)]
theorem runGo_good {p : List S67} (g : gPlan p) {s : Int} (hs : 155000 ≤ s ∧ s ≤ 345000) (j : Nat) (hj : j ≤ p.length) : runGo (p.drop j) (pits p s j) = (pits p s p.length, true) := by
  refine down (P := fun j => runGo (p.drop j) (pits p s j) = (pits p s p.length, true)) (n := p.length) ?_ ?_ j hj
  · rw [drop_end]; rfl
  · intro i hi ih
    have hl := g.1
    obtain ⟨g0, g1, _⟩ := g.2 i hi
    rw [drop_cons p i hi, runGo]
    have e1 : (p[i].f0).toNat = i := by omega
    have e2 : (p[i].f1).toNat = i + 1 := by omega
    have e3 : tunedPitch ((pits p s i).getD i 0) p[i].f2 p[i].f3 = pit p s (i + 1) := by
      rw [pits_get p s i i (by omega), if_pos (Nat.le_refl _)]
      show _ = tunedPitch _ (p.getD i z67).f2 (p.getD i z67).f3
      rw [getS p i hi]
    have hf := pit_fine g hs (i + 1) hi
    rw [e1, e2, e3, if_neg (by omega), pits_succ p s i (by omega)]
    exact ih
theorem runPlan_good {p : List S67} (g : gPlan p) {s : Int} (hs : 155000 ≤ s ∧ s ≤ 345000) : runPlan s p = (pits p s p.length, true) := by
  unfold runPlan
  rw [if_pos ⟨planOk_good g, fine_of (by omega) (by omega)⟩, ← pits_zero p s]
  exact runGo_good g hs 0 (Nat.zero_le _)
end Go.Proofs.Ytlhlmjklajdejaa.Q


namespace Go.Proofs.Ytlhlmjklajdejaa.Q
set_option linter.unusedVariables false
set_option linter.unusedSimpArgs false
open Go.RowKit Go.Proofs.Ytlhlmjklajdejaa.P Go.Proofs.YtlhlmjklajdejaaW.PrintWords Go.Proofs.YtlhlmjklajdejaaW.PrintMore
theorem copyPlan_eq (p : List S67) (hp : p.length ≤ 4000000) : impl_copyPlan.f p = some p := by
  unfold impl_copyPlan.f; simp only [Option.bind_some]; rw [if_pos (by simp; omega)]; simp
theorem l19Copy_eq (p : List S67) (hp : p.length ≤ 4000000) : spec_l19Copy.f p = some p := by
  unfold spec_l19Copy.f; simp only [Option.bind_some]; rw [if_pos (by simp; omega)]; simp
theorem l02Copy_eq (p : List Int) (hp : p.length ≤ 4000000) : spec_l02Copy.f p = some p := by
  unfold spec_l02Copy.f; simp only [Option.bind_some]; rw [if_pos (by simp; omega)]; simp
theorem copyWork_eq (p : List S67) (d : Int) (q : List Int) (hp : p.length ≤ 4000000) (hq : q.length ≤ 4000000) : impl_copyWork.f p d q = some (p, d, q) := by
  unfold impl_copyWork.f; rw [copyPlan_eq p hp]; simp only [Option.bind_some]; rw [if_pos (by simp; omega)]; simp
theorem l36Copy_eq (p : List S67) (d : Int) (q : List Int) (hp : p.length ≤ 4000000) (hq : q.length ≤ 4000000) : spec_l36Copy.f p d q = some (p, d, q) := by
  unfold spec_l36Copy.f; rw [l19Copy_eq p hp]; simp only [Option.bind_some]; rw [l02Copy_eq q hq]; rfl
end Go.Proofs.Ytlhlmjklajdejaa.Q


namespace Go.Proofs.Ytlhlmjklajdejaa.Q
set_option linter.unusedVariables false
set_option linter.unusedSimpArgs false
open Go.RowKit Go.Proofs.Ytlhlmjklajdejaa.P Go.Proofs.YtlhlmjklajdejaaW.PrintWords Go.Proofs.YtlhlmjklajdejaaW.PrintMore
def workStep (p : List S67) (d : Int) (q : List Int) : List S67 × Int × List Int × Bool :=
  if workOk p d q = true then
    if d = (p.length : Int) then (p, d, q, false)
    else if tuneAt p q d.toNat = 0 then (p, d, q, false)
    else (p, d + 1, q.set (p.getD d.toNat z67).f1.toNat (tuneAt p q d.toNat), true)
  else (p, d, q, false)
theorem step_spec (p : List S67) (d : Int) (q : List Int) (hp : p.length ≤ 4000000) (hq : q.length ≤ 4000000) : Ev (fun n => spec_WorkStep.f n p d q) (workStep p d q) := by
  have jt : Ev (fun n => spec_WorkStep.j0 n true p d q p d q) (p, d, q, false) := Ev.step (fun n => by rw [spec_WorkStep.j0]) (evp rfl (Ev.now _))
  unfold spec_WorkStep.f workStep
  refine evb (l36Copy_eq p d q hp hq) (Ev.bind (workOk_spec p d q) ?_)
  by_cases h : workOk p d q = true
  rotate_left
  · exact rneg h <| evn h jt
  refine rpos h <| evp h ?_
  have hp := workOk_plan h; have hd := workOk_done h; have hq := workOk_len h; have hl := planOk_len hp
  obtain ⟨m, rfl⟩ := Int.eq_ofNat_of_zero_le hd.1
  by_cases he : (m : Int) = (p.length : Int)
  · rw [show ((m : Int) == (p.length : Int)) = true by simpa using he]; exact rpos he jt
  rw [show ((m : Int) == (p.length : Int)) = false by simpa using he]
  refine rneg he ?_
  have hm : m < p.length := by omega
  obtain ⟨k0, k1, k2, k3, k4⟩ := planOk_in hp p[m] (List.getElem_mem hm)
  refine Ev.step (fun n => by rw [spec_WorkStep.j0]) ?_
  refine evn (by decide) (evp (by omega) (evp (by omega) ?_))
  rw [rdS p m hm]
  refine evp k0 (evp (by omega) (Ev.bind (tuned_spec _ _ _) ?_))
  rw [rd_get]
  have et : tunedPitch (q.getD p[m].f0.toNat 0) p[m].f2 p[m].f3 = tuneAt p q m := by unfold tuneAt; rw [getS p m hm]
  rw [et, getS p ((m : Int).toNat) hm]
  simp only [Int.toNat_natCast]
  by_cases hz : tuneAt p q m = 0
  · exact rpos hz <| evp hz (Ev.now _)
  refine rneg hz <| evn hz ?_
  rw [w64 (n := (m : Int) + 1) (by omega) (by omega)]
  exact evp k2 (evp (by omega) (Ev.now _))
theorem workStep_len (p : List S67) (d : Int) (q : List Int) : (workStep p d q).1 = p ∧ (workStep p d q).2.2.1.length = q.length := by
  unfold workStep; split
  · split
    · exact ⟨rfl, rfl⟩
    · split
      · exact ⟨rfl, rfl⟩
      · exact ⟨rfl, by simp⟩
  · exact ⟨rfl, rfl⟩
end Go.Proofs.Ytlhlmjklajdejaa.Q


namespace Go.Proofs.Ytlhlmjklajdejaa.Q
set_option linter.unusedVariables false
set_option linter.unusedSimpArgs false
open Go.RowKit Go.Proofs.Ytlhlmjklajdejaa.P Go.Proofs.YtlhlmjklajdejaaW.PrintWords Go.Proofs.YtlhlmjklajdejaaW.PrintMore
def stepsGo : Nat → List S67 × Int × List Int → List S67 × Int × List Int
  | 0, w => w
  | m + 1, w => if (workStep w.1 w.2.1 w.2.2).2.2.2 = true then stepsGo m ((workStep w.1 w.2.1 w.2.2).1, (workStep w.1 w.2.1 w.2.2).2.1, (workStep w.1 w.2.1 w.2.2).2.2.1) else w
def workSteps (w : List S67 × Int × List Int) (n : Int) : List S67 × Int × List Int := stepsGo (min n 100).toNat w
theorem steps_spec (p : List S67) (d : Int) (q : List Int) (m : Int) (hp : p.length ≤ 4000000) (hq : q.length ≤ 4000000) : Ev (fun n => spec_WorkSteps.f n p d q m) (workSteps (p, d, q) m) := by
  have jf : ∀ (i : Int) (d : Int) (q : List Int), Ev (fun n => spec_WorkSteps.j1 n m i false p d q) (p, d, q) := fun i d q => Ev.step (fun n => by rw [spec_WorkSteps.j1]) (evn (by decide) (Ev.now _))
  have key : ∀ i, i ≤ (min m 100).toNat → ∀ (d : Int) (q : List Int), q.length ≤ 4000000 → Ev (fun n => spec_WorkSteps.l0 n m (i : Int) p d q) (stepsGo ((min m 100).toNat - i) (p, d, q)) := by
    refine down (n := (min m 100).toNat) ?_ ?_
    · intro d q hq
      rw [Nat.sub_self]
      refine Ev.step (fun n => by rw [spec_WorkSteps.l0]) ?_
      by_cases h : (((min m 100).toNat : Nat) : Int) < m
      · refine evp h ?_
        rw [show decide ((((min m 100).toNat : Nat) : Int) < 100) = false from decide_eq_false (by omega)]; exact jf _ _ _
      · exact evn h (jf _ _ _)
    · intro i hi ih d q hq
      obtain ⟨e1, e2⟩ := workStep_len p d q
      refine Ev.step (fun n => by rw [spec_WorkSteps.l0]) ?_
      refine evp (by omega) ?_
      rw [show decide ((i : Int) < 100) = true from decide_eq_true (by omega)]
      refine Ev.step (fun n => by rw [spec_WorkSteps.j1]) ?_
      refine evp rfl (Ev.bind (step_spec p d q hp hq) ?_)
      obtain ⟨j, hj⟩ : ∃ j, (min m 100).toNat - i = j + 1 := ⟨(min m 100).toNat - i - 1, by omega⟩
      rw [hj]
      show Ev _ (if (workStep p d q).2.2.2 = true then stepsGo j ((workStep p d q).1, (workStep p d q).2.1, (workStep p d q).2.2.1) else (p, d, q))
      by_cases h : (workStep p d q).2.2.2 = true
      rotate_left
      · exact rneg h <| evn h (Ev.now _)
      refine rpos h <| evp h ?_
      have := ih (workStep p d q).2.1 (workStep p d q).2.2.1 (by omega)
      rw [show (min m 100).toNat - (i + 1) = j by omega] at this
      rw [e1, w64 (n := (i : Int) + 1) (by omega) (by omega)]
      exact this
  unfold spec_WorkSteps.f
  refine evb (l36Copy_eq p d q hp hq) ?_
  exact key 0 (Nat.zero_le _) d q hq
end Go.Proofs.Ytlhlmjklajdejaa.Q


namespace Go.Proofs.Ytlhlmjklajdejaa.Q
set_option linter.unusedVariables false
set_option linter.unusedSimpArgs false
open Go.RowKit Go.Proofs.Ytlhlmjklajdejaa.P Go.Proofs.YtlhlmjklajdejaaW.PrintWords Go.Proofs.YtlhlmjklajdejaaW.PrintMore
def isBad (p : List S67) (q : List Int) (i : Nat) : Bool := decide (q.getD (p.getD i z67).f1.toNat 0 ≠ tuneAt p q i)
def wrongs (p : List S67) (q : List Int) (l : List Nat) : List Int := (l.filter (isBad p q)).map (fun (i : Nat) => (i : Int))
def wrongSteps (p : List S67) (d : Int) (q : List Int) : List Int := if workOk p d q = true then wrongs p q (List.range d.toNat) else []
theorem wrongs_cons (p : List S67) (q : List Int) (i : Nat) (l : List Nat) : wrongs p q (i :: l) = if isBad p q i = true then (i : Int) :: wrongs p q l else wrongs p q l := by
  unfold wrongs; rw [List.filter_cons]; split <;> rfl
theorem wrong_impl (p : List S67) (d : Int) (q : List Int) : Ev (fun n => impl_WrongSteps.f n p d q) (wrongSteps p d q) := by
  unfold impl_WrongSteps.f wrongSteps
  refine evb (workImpl_eq p d q) ?_
  by_cases h : workOk p d q = true
  rotate_left
  · exact rneg h <| evn h (Ev.now _)
  have hp := workOk_plan h; have hd := workOk_done h; have hq := workOk_len h; have hl := planOk_len hp
  obtain ⟨m, rfl⟩ := Int.eq_ofNat_of_zero_le hd.1
  refine rpos h <| evp h (evp hd.1 (evp hd.2 ?_))
  simp only [Option.bind_some, Int.toNat_natCast]
  have key : ∀ i, i ≤ m → ∀ acc : List Int, acc.length ≤ i → Ev (fun n => impl_WrongSteps.l0 n acc (p.take m) ((p.take m).length : Int) (i : Int) p m q) (acc ++ wrongs p q ((List.range m).drop i)) := by
    refine down (n := m) ?_ ?_
    · intro acc ha
      refine Ev.step (fun n => by rw [impl_WrongSteps.l0]) (evn (by rw [List.length_take]; omega) (evs ?_))
      rw [List.drop_eq_nil_of_le (by simp)]; simp [wrongs]
    · intro i hi ih acc ha
      obtain ⟨k0, k1, k2, k3, k4⟩ := planOk_in hp p[i] (List.getElem_mem (by omega))
      have e : (p.take m)[i]'(by rw [List.length_take]; omega) = p[i] := by simp
      refine Ev.step (fun n => by rw [impl_WrongSteps.l0]) ?_
      refine evp (by rw [List.length_take]; omega) (evp (by omega) (evp (by rw [List.length_take]; omega) ?_))
      rw [rdS (p.take m) i (by rw [List.length_take]; omega), e]
      refine evp k2 (evp (by omega) (Ev.bind (tunedBy_ev p _ q i hp hq (by omega)) ?_))
      rw [drop_cons _ i (by simpa using hi), List.getElem_range, rd_get, w64 (n := (i : Int) + 1) (by omega) (by omega)]
      have g := getS p i (by omega)
      have eb : isBad p q i = decide (q.getD p[i].f1.toNat 0 ≠ tuneAt p q i) := by unfold isBad; rw [g]
      by_cases hb : q.getD p[i].f1.toNat 0 = tuneAt p q i
      · rw [show wrongs p q (i :: (List.range m).drop (i + 1)) = wrongs p q ((List.range m).drop (i + 1)) by rw [wrongs_cons, eb, if_neg (by simp only [decide_eq_true_eq]; exact fun h => h hb)]]
        refine evp hb ?_
        exact ih acc (by omega)
      · rw [show wrongs p q (i :: (List.range m).drop (i + 1)) = (i : Int) :: wrongs p q ((List.range m).drop (i + 1)) by rw [wrongs_cons, eb, if_pos (by simp only [decide_eq_true_eq]; exact hb)]]
        refine evn hb (evp (by omega) ?_)
        have := ih (acc ++ [(i : Int)]) (by simp; omega)
        rw [List.append_assoc] at this
        exact this
  have := key 0 (Nat.zero_le _) [] (Nat.le_refl _)
  simpa using this
end Go.Proofs.Ytlhlmjklajdejaa.Q


namespace Go.Proofs.Ytlhlmjklajdejaa.Q
set_option linter.unusedVariables false
set_option linter.unusedSimpArgs false
open Go.RowKit Go.Proofs.Ytlhlmjklajdejaa.P Go.Proofs.YtlhlmjklajdejaaW.PrintWords Go.Proofs.YtlhlmjklajdejaaW.PrintMore
def mendStep (p : List S67) (d : Int) (q : List Int) : List S67 × Int × List Int × Bool :=
  match wrongSteps p d q with
  | [] => (p, d, q, false)
  | i :: _ => if tuneAt p q i.toNat = 0 then (p, d, q, false) else (p, d, q.set (p.getD i.toNat z67).f1.toNat (tuneAt p q i.toNat), true)
theorem wrongSteps_head {p : List S67} {d : Int} {q : List Int} {i : Int} {r : List Int} (h : wrongSteps p d q = i :: r) : workOk p d q = true ∧ ∃ j : Nat, i = j ∧ (j : Int) < d ∧ j < p.length := by
  unfold wrongSteps at h
  by_cases hw : workOk p d q = true
  rotate_left
  · rw [if_neg hw] at h; exact absurd h (by simp)
  rw [if_pos hw] at h
  refine ⟨hw, ?_⟩
  have hi : i ∈ wrongs p q (List.range d.toNat) := by rw [h]; exact List.mem_cons_self
  unfold wrongs at hi
  obtain ⟨j, hj, rfl⟩ := List.mem_map.1 hi
  have hd := workOk_done hw
  have := List.mem_range.1 (List.mem_filter.1 hj).1
  exact ⟨j, rfl, by omega, by omega⟩
theorem mend_impl (p : List S67) (d : Int) (q : List Int) (hp : p.length ≤ 4000000) (hq : q.length ≤ 4000000) : Ev (fun n => impl_MendStep.f n p d q) (mendStep p d q) := by
  unfold impl_MendStep.f mendStep
  refine evb (copyWork_eq p d q hp hq) (Ev.bind (wrong_impl p d q) ?_)
  cases h : wrongSteps p d q with
  | nil => exact evp rfl (Ev.now _)
  | cons i r =>
    obtain ⟨hw, j, rfl, hj, hj2⟩ := wrongSteps_head h
    have hp := workOk_plan hw; have hq := workOk_len hw
    obtain ⟨k0, k1, k2, k3, k4⟩ := planOk_in hp p[j] (List.getElem_mem hj2)
    refine evn (by simp; omega) (evp (by simp) ?_)
    rw [show rd ((j : Int) :: r) 0 = (j : Int) from rfl]
    refine Ev.bind (tunedBy_ev p d q j hp hq hj2) ?_
    simp only [Int.toNat_natCast]
    by_cases hz : tuneAt p q j = 0
    · exact rpos hz <| evp hz (Ev.now _)
    refine rneg hz <| evn hz (evp (by omega) (evp (by omega) ?_))
    rw [rdS p j hj2, getS p j hj2]
    exact evp k2 (evp (by omega) (Ev.now _))
theorem mendStep_len (p : List S67) (d : Int) (q : List Int) : (mendStep p d q).1 = p ∧ (mendStep p d q).2.1 = d ∧ (mendStep p d q).2.2.1.length = q.length := by
  unfold mendStep; split
  · exact ⟨rfl, rfl, rfl⟩
  · split
    · exact ⟨rfl, rfl, rfl⟩
    · exact ⟨rfl, rfl, by simp⟩
end Go.Proofs.Ytlhlmjklajdejaa.Q


namespace Go.Proofs.Ytlhlmjklajdejaa.Q
set_option linter.unusedVariables false
set_option linter.unusedSimpArgs false
open Go.RowKit Go.Proofs.Ytlhlmjklajdejaa.P Go.Proofs.YtlhlmjklajdejaaW.PrintWords Go.Proofs.YtlhlmjklajdejaaW.PrintMore
def mendGo (p : List S67) (d : Int) : Nat → List Int → Int → List S67 × Int × List Int × Int
  | 0, q, n => (p, d, q, n)
  | m + 1, q, n => if (mendStep p d q).2.2.2 = true then mendGo p d m (mendStep p d q).2.2.1 (n + 1) else (p, d, q, n)
def mendAll (p : List S67) (d : Int) (q : List Int) : List S67 × Int × List Int × Int := mendGo p d 100 q 0
theorem mendAll_impl (p : List S67) (d : Int) (q : List Int) (hp : p.length ≤ 4000000) (hq : q.length ≤ 4000000) : Ev (fun n => impl_MendAll.f n p d q) (mendAll p d q) := by
  have key : ∀ i : Nat, i ≤ 100 → ∀ q : List Int, q.length ≤ 4000000 → Ev (fun n => impl_MendAll.l0 n (i : Int) p d q) (mendGo p d (100 - i) q (i : Int)) := by
    refine down (P := fun i => ∀ q : List Int, q.length ≤ 4000000 → Ev (fun n => impl_MendAll.l0 n (i : Int) p d q) (mendGo p d (100 - i) q (i : Int))) (n := 100) ?_ ?_
    · intro q hq
      refine Ev.step (fun n => by rw [impl_MendAll.l0]) ?_
      exact evn (by omega) (evs rfl)
    · intro i hi ih q hq
      obtain ⟨e1, e2, e3⟩ := mendStep_len p d q
      refine Ev.step (fun n => by rw [impl_MendAll.l0]) ?_
      refine evp (by omega) (Ev.bind (mend_impl p d q hp hq) ?_)
      obtain ⟨j, hj⟩ : ∃ j, 100 - i = j + 1 := ⟨100 - i - 1, by omega⟩
      rw [hj]
      show Ev _ (if (mendStep p d q).2.2.2 = true then mendGo p d j (mendStep p d q).2.2.1 ((i : Int) + 1) else (p, d, q, (i : Int)))
      by_cases h : (mendStep p d q).2.2.2 = true
      rotate_left
      · exact rneg h <| evn h (Ev.now _)
      refine rpos h <| evp h ?_
      have := ih (mendStep p d q).2.2.1 (by omega)
      rw [show 100 - (i + 1) = j by omega] at this
      rw [e1, e2, w64 (n := (i : Int) + 1) (by omega) (by omega)]
      exact this
  unfold impl_MendAll.f
  refine evb (copyWork_eq p d q hp hq) ?_
  exact key 0 (Nat.zero_le _) q hq
end Go.Proofs.Ytlhlmjklajdejaa.Q


namespace Go.Proofs.Ytlhlmjklajdejaa.Q
set_option linter.unusedVariables false
set_option linter.unusedSimpArgs false
open Go.RowKit Go.Proofs.Ytlhlmjklajdejaa.P Go.Proofs.YtlhlmjklajdejaaW.PrintWords Go.Proofs.YtlhlmjklajdejaaW.PrintMore
def knocked (q : List Int) (c x : Int) : List Int := q.set c.toNat (wrap64 (q.getD c.toNat 0 + x))
def knockKey (p : List S67) (d : Int) (q : List Int) (c x : Int) : List S67 × Int × List Int × Bool :=
  if workOk p d q = true ∧ (0 ≤ c ∧ c ≤ 11) ∧ (-100000 ≤ x ∧ x ≤ 100000) ∧ q.getD c.toNat 0 ≠ 0 then
    if workOk p d (knocked q c x) = true then (p, d, knocked q c x, true) else (p, d, q, false)
  else (p, d, q, false)
theorem knock_spec (p : List S67) (d : Int) (q : List Int) (c x : Int) (hp : p.length ≤ 4000000) (hq : q.length ≤ 4000000) : Ev (fun n => spec_KnockKey.f n p d q c x) (knockKey p d q c x) := by
  have jt : Ev (fun n => spec_KnockKey.j0 n c x true p d q p d q) (p, d, q, false) := Ev.step (fun n => by rw [spec_KnockKey.j0]) (evp rfl (Ev.now _))
  unfold spec_KnockKey.f knockKey
  refine evb (l36Copy_eq p d q hp hq) (Ev.bind (workOk_spec p d q) ?_)
  by_cases h : workOk p d q = true
  rotate_left
  · exact rneg (fun h2 => h h2.1) <| evn h jt
  have hl := workOk_len h
  refine evp h (evb (l01In_eq _ _ _) ?_)
  by_cases hc : 0 ≤ c ∧ c ≤ 11
  rotate_left
  · exact rneg (fun h2 => hc h2.2.1) <| evn (bfalse hc) jt
  refine evp (btrue hc) (evb (l01In_eq _ _ _) ?_)
  by_cases hx : -100000 ≤ x ∧ x ≤ 100000
  rotate_left
  · exact rneg (fun h2 => hx h2.2.2.1) <| evn (bfalse hx) jt
  refine evp (btrue hx) (evp hc.1 (evp (by omega) ?_))
  rw [rd_get]
  by_cases hz : q.getD c.toNat 0 = 0
  · rw [show (q.getD c.toNat 0 == 0) = true by rw [hz]; rfl]; exact rneg (fun h2 => h2.2.2.2 hz) jt
  rw [show (q.getD c.toNat 0 == 0) = false from beq_eq_false_iff_ne.mpr hz]
  refine rpos ⟨h, hc, hx, hz⟩ ?_
  refine Ev.step (fun n => by rw [spec_KnockKey.j0]) ?_
  refine evn (by decide) (evp hc.1 (evp (by show c < (q.length : Int); omega) ?_))
  simp only [Option.bind_some, rd_get]
  refine Ev.bind (workOk_spec p d _) ?_
  by_cases h3 : workOk p d (knocked q c x) = true
  · exact rpos h3 <| evp h3 (Ev.now _)
  · exact rneg h3 <| evn h3 (evb (l36Copy_eq p d q hp hq) (Ev.now _))
end Go.Proofs.Ytlhlmjklajdejaa.Q


namespace Go.Proofs.Ytlhlmjklajdejaa.Q
set_option linter.unusedVariables false
set_option linter.unusedSimpArgs false
open Go.RowKit Go.Proofs.Ytlhlmjklajdejaa.P Go.Proofs.YtlhlmjklajdejaaW.PrintWords Go.Proofs.YtlhlmjklajdejaaW.PrintMore
def newWork (a : Int) (p : List S67) : List S67 × Int × List Int × Bool := if (runPlan a p).2 = true then (p, 0, begun a, true) else ([], 0, [], false)
theorem runPlan_plan {a : Int} {p : List S67} (h : (runPlan a p).2 = true) : planOk p = true ∧ fine a = true := by
  unfold runPlan at h
  by_cases h2 : planOk p = true ∧ fine a = true
  · exact h2
  · rw [if_neg h2] at h; exact absurd h (by simp)
theorem newWork_spec (a : Int) (p : List S67) : Ev (fun n => spec_NewWork.f n a p) (newWork a p) := by
  unfold spec_NewWork.f newWork
  refine Ev.bind (runPlan_spec a p) ?_
  by_cases h : (runPlan a p).2 = true
  rotate_left
  · exact rneg h <| evn h (Ev.now _)
  refine rpos h <| evp h (evb (l19Copy_eq p (by have := planOk_len (runPlan_plan h).1; omega)) (evp (by decide) ?_))
  simp only [Option.bind_some]
  exact evp (by simp) (Ev.now _)
end Go.Proofs.Ytlhlmjklajdejaa.Q


namespace Go.Proofs.Ytlhlmjklajdejaa.Q
set_option linter.unusedVariables false
set_option linter.unusedSimpArgs false
open Go.RowKit Go.Proofs.Ytlhlmjklajdejaa.P Go.Proofs.YtlhlmjklajdejaaW.PrintWords Go.Proofs.YtlhlmjklajdejaaW.PrintMore
def rightTo (p : List S67) (q : List Int) (i : Nat) : Prop := ∀ k : Nat, k ≤ i → q.getD k 0 = pit p (q.getD 0 0) k
theorem rightTo_zero (p : List S67) (q : List Int) : rightTo p q 0 := by
  intro k hk
  obtain rfl : k = 0 := by omega
  rfl
theorem rightTo_pits (p : List S67) (s : Int) (n : Nat) (hn : n < 12) : rightTo p (pits p s n) n := fun k hk => by
  rw [pits_get p s n k (by omega), if_pos hk, pits_get p s n 0 (by omega), if_pos (Nat.zero_le _)]; rfl
section
variable {p : List S67} (g : gPlan p)
include g
theorem tuneAt_right {q : List Int} {i : Nat} (hi : i < p.length) (h : q.getD i 0 = pit p (q.getD 0 0) i) : tuneAt p q i = pit p (q.getD 0 0) (i + 1) := by
  unfold tuneAt
  rw [(gAt g i hi).1, Int.toNat_natCast, h]; rfl
theorem isBad_iff {q : List Int} {i : Nat} (hi : i < p.length) : isBad p q i = true ↔ q.getD (i + 1) 0 ≠ tuneAt p q i := by
  unfold isBad
  rw [(gAt g i hi).2.1, show ((i : Int) + 1).toNat = i + 1 by omega, decide_eq_true_iff]
theorem rightTo_succ {q : List Int} {i : Nat} (hi : i < p.length) (h : rightTo p q i) (hb : ¬ isBad p q i = true) : rightTo p q (i + 1) := by
  rw [isBad_iff g hi] at hb
  have hb2 : q.getD (i + 1) 0 = tuneAt p q i := Classical.byContradiction hb
  intro k hk
  by_cases e : k = i + 1
  · subst e; rw [hb2]; exact tuneAt_right g hi (h i (Nat.le_refl _))
  · exact h k (by omega)
theorem notBad {q : List Int} {i j : Nat} (hi : i ≤ p.length) (h : rightTo p q i) (hj : j < i) : isBad p q j = false := by
  have : ¬ isBad p q j = true := by
    rw [isBad_iff g (by omega), Classical.not_not, tuneAt_right g (by omega) (h j (by omega))]
    exact h (j + 1) (by omega)
  simpa using this
theorem wrongs_skip {q : List Int} {i : Nat} (hi : i ≤ p.length) (h : rightTo p q i) (r : List Nat) : wrongs p q (List.range i ++ r) = wrongs p q r := by
  unfold wrongs
  rw [List.filter_append, List.filter_eq_nil_iff.2 (fun j hj => by rw [notBad g hi h (List.mem_range.1 hj)]; simp)]
  rfl
theorem wrongs_none {q : List Int} {i : Nat} (hi : i ≤ p.length) (h : rightTo p q i) : wrongs p q (List.range i) = [] := by
  have := wrongs_skip g hi h []
  rw [List.append_nil] at this
  rw [this]; rfl
theorem wrongs_first {q : List Int} {i j : Nat} (hi : i + (j + 1) ≤ p.length) (h : rightTo p q i) (hb : isBad p q i = true) : ∃ r, wrongs p q (List.range (i + (j + 1))) = (i : Int) :: r := by
  rw [List.range_add, wrongs_skip g (by omega) h, List.range_succ_eq_map, List.map_cons, Nat.add_zero, wrongs_cons, if_pos hb]
  exact ⟨_, rfl⟩
theorem right_pits {q : List Int} {n : Nat} (hn : n ≤ p.length) (hw : workOk p (n : Int) q = true) (h : rightTo p q n) : q = pits p (q.getD 0 0) n := by
  obtain ⟨h1, h2, h3⟩ := (workOk_good g n hn q).1 hw
  refine list_ext12 h1 (pits_len _ _ _) (fun k hk => ?_)
  rw [pits_get _ _ n k hk]
  by_cases e : k ≤ n
  · rw [if_pos e]; exact h k e
  · rw [if_neg e]; exact h3 k (by omega) hk
theorem mended {q : List Int} {i n : Nat} (hn : n ≤ p.length) (hi : i < n) (hw : workOk p (n : Int) q = true) (hs : 155000 ≤ q.getD 0 0 ∧ q.getD 0 0 ≤ 345000) (h : rightTo p q i) :
    workOk p (n : Int) (q.set (i + 1) (pit p (q.getD 0 0) (i + 1))) = true ∧ (q.set (i + 1) (pit p (q.getD 0 0) (i + 1))).getD 0 0 = q.getD 0 0 ∧ rightTo p (q.set (i + 1) (pit p (q.getD 0 0) (i + 1))) (i + 1) := by
  obtain ⟨h1, h2, h3⟩ := (workOk_good g n hn q).1 hw
  have hl := g.1
  have hf := pit_fine g hs (i + 1) (by omega)
  have e0 : (q.set (i + 1) (pit p (q.getD 0 0) (i + 1))).getD 0 0 = q.getD 0 0 := getD_set_ne _ _ _ _ (by omega)
  refine ⟨(workOk_good g n hn _).2 ⟨by simpa using h1, fun k hk => ?_, fun k hk hk2 => ?_⟩, e0, fun k hk => ?_⟩
  · by_cases e : i + 1 = k
    · subst e; rw [getD_set_self _ _ _ (by omega)]; omega
    · rw [getD_set_ne _ _ _ _ e]; exact h2 k hk
  · rw [getD_set_ne _ _ _ _ (by omega)]; exact h3 k hk hk2
  · rw [e0]
    by_cases e : i + 1 = k
    · subst e; rw [getD_set_self _ _ _ (by omega)]
    · rw [getD_set_ne _ _ _ _ e]; exact h k (by omega)
omit g in
theorem wrongSteps_good {q : List Int} {n : Nat} (hw : workOk p (n : Int) q = true) : wrongSteps p (n : Int) q = wrongs p q (List.range n) := by
  unfold wrongSteps; rw [if_pos hw, Int.toNat_natCast]
theorem mendStep_good {q : List Int} {i j n : Nat} (hn : n ≤ p.length) (hij : n = i + (j + 1)) (hw : workOk p (n : Int) q = true) (hs : 155000 ≤ q.getD 0 0 ∧ q.getD 0 0 ≤ 345000) (h : rightTo p q i) (hb : isBad p q i = true) :
    mendStep p (n : Int) q = (p, (n : Int), q.set (i + 1) (pit p (q.getD 0 0) (i + 1)), true) := by
  obtain ⟨r, hr⟩ := wrongs_first g (by omega : i + (j + 1) ≤ p.length) h hb
  have hf := pit_fine g hs (i + 1) (by omega)
  unfold mendStep
  rw [wrongSteps_good hw, hij, hr]
  simp only [Int.toNat_natCast]
  rw [tuneAt_right g (by omega) (h i (Nat.le_refl _)), if_neg (by omega), (gAt g i (by omega)).2.1, show ((i : Int) + 1).toNat = i + 1 by omega]
theorem mendStep_none {q : List Int} {n : Nat} (hn : n ≤ p.length) (hw : workOk p (n : Int) q = true) (h : rightTo p q n) : mendStep p (n : Int) q = (p, (n : Int), q, false) := by
  unfold mendStep
  rw [wrongSteps_good hw, wrongs_none g hn h]
theorem mendGo_good (j : Nat) : ∀ (i n m : Nat) (q : List Int) (c : Int), n ≤ p.length → n = i + j → j ≤ m → workOk p (n : Int) q = true → 155000 ≤ q.getD 0 0 ∧ q.getD 0 0 ≤ 345000 → rightTo p q i →
    ∃ t : Nat, t ≤ j ∧ mendGo p (n : Int) m q c = (p, (n : Int), pits p (q.getD 0 0) n, c + t) ∧ (t = 0 ↔ wrongSteps p (n : Int) q = []) := by
  induction j with
  | zero =>
    intro i n m q c hn hij hm hw hs h
    obtain rfl : n = i := by omega
    refine ⟨0, Nat.le_refl _, ?_, ?_⟩
    · have hq := right_pits g hn hw h
      cases m with
      | zero => rw [mendGo, ← hq, Int.natCast_zero, Int.add_zero]
      | succ m => rw [mendGo, mendStep_none g hn hw h, if_neg (by simp), ← hq, Int.natCast_zero, Int.add_zero]
    · rw [wrongSteps_good hw, wrongs_none g hn h]; simp
  | succ j ih =>
    intro i n m q c hn hij hm hw hs h
    by_cases hb : isBad p q i = true
    · obtain ⟨m, rfl⟩ : ∃ m', m = m' + 1 := ⟨m - 1, by omega⟩
      have hms := mendStep_good g hn hij hw hs h hb
      obtain ⟨w1, w2, w3⟩ := mended g hn (by omega : i < n) hw hs h
      obtain ⟨t, ht, he, _⟩ := ih (i + 1) n m _ (c + 1) hn (by omega) (by omega) w1 (by rw [w2]; exact hs) w3
      refine ⟨t + 1, by omega, ?_, ?_⟩
      · rw [mendGo, hms, if_pos rfl, he, w2]
        congr 3; omega
      · obtain ⟨r, hr⟩ := wrongs_first g (by omega : i + (j + 1) ≤ p.length) h hb
        rw [wrongSteps_good hw, hij, hr]; simp
    · obtain ⟨t, ht, he, hz⟩ := ih (i + 1) n m q c hn (by omega) (by omega) hw hs (rightTo_succ g (by omega) h hb)
      exact ⟨t, by omega, he, hz⟩
theorem mendAll_good {q : List Int} {n : Nat} (hn : n ≤ p.length) (hw : workOk p (n : Int) q = true) (hs : 155000 ≤ q.getD 0 0 ∧ q.getD 0 0 ≤ 345000) :
    ∃ t : Nat, t ≤ n ∧ mendAll p (n : Int) q = (p, (n : Int), pits p (q.getD 0 0) n, (t : Int)) ∧ (t = 0 ↔ wrongSteps p (n : Int) q = []) := by
  have hl := g.1
  obtain ⟨t, h1, h2, h3⟩ := mendGo_good g n 0 n 100 q 0 hn (by omega) (by omega) hw hs (rightTo_zero p q)
  exact ⟨t, h1, by unfold mendAll; rw [h2, Int.zero_add], h3⟩
theorem workStep_good {s : Int} (hs : 155000 ≤ s ∧ s ≤ 345000) {n : Nat} (hn : n < p.length) : workStep p (n : Int) (pits p s n) = (p, ((n + 1 : Nat) : Int), pits p s (n + 1), true) := by
  have hl := g.1
  have hf := pit_fine g hs (n + 1) hn
  have e0 : (pits p s n).getD 0 0 = s := by rw [pits_get p s n 0 (by omega), if_pos (Nat.zero_le _)]; rfl
  have e1 : tuneAt p (pits p s n) n = pit p s (n + 1) := by
    have := tuneAt_right g hn (q := pits p s n) (rightTo_pits p s n (by omega) n (Nat.le_refl _))
    rwa [e0] at this
  unfold workStep
  rw [if_pos (workOk_pits g hs n (by omega)), if_neg (by omega), Int.toNat_natCast, e1, if_neg (by omega), (gAt g n hn).2.1, show ((n : Int) + 1).toNat = n + 1 by omega, pits_succ p s n (by omega)]
  rfl
theorem workStep_end {s : Int} (hs : 155000 ≤ s ∧ s ≤ 345000) : workStep p (p.length : Int) (pits p s p.length) = (p, (p.length : Int), pits p s p.length, false) := by
  unfold workStep
  rw [if_pos (workOk_pits g hs p.length (Nat.le_refl _)), if_pos rfl]
theorem stepsGo_good {s : Int} (hs : 155000 ≤ s ∧ s ≤ 345000) (m : Nat) : ∀ n : Nat, n ≤ p.length → stepsGo m (p, (n : Int), pits p s n) = (p, ((min (n + m) p.length : Nat) : Int), pits p s (min (n + m) p.length)) := by
  induction m with
  | zero => intro n hn; rw [stepsGo, Nat.add_zero, Nat.min_eq_left hn]
  | succ m ih =>
    intro n hn
    by_cases h : n < p.length
    · rw [stepsGo, workStep_good g hs h, if_pos rfl]
      dsimp only
      rw [ih (n + 1) h, show n + 1 + m = n + (m + 1) by omega]
    · obtain rfl : n = p.length := by omega
      rw [stepsGo, workStep_end g hs, if_neg (by simp), Nat.min_eq_right (by omega)]
theorem workSteps_good {s : Int} (hs : 155000 ≤ s ∧ s ≤ 345000) (x : Int) (n : Nat) (hn : n ≤ p.length) :
    workSteps (p, (n : Int), pits p s n) x = (p, ((min (n + (min x 100).toNat) p.length : Nat) : Int), pits p s (min (n + (min x 100).toNat) p.length)) := by
  unfold workSteps
  exact stepsGo_good g hs _ n hn
theorem newWork_good {s : Int} (hs : 155000 ≤ s ∧ s ≤ 345000) : newWork s p = (p, ((0 : Nat) : Int), pits p s 0, true) := by
  unfold newWork
  rw [runPlan_good g hs, if_pos rfl, pits_zero]; rfl
theorem knock_good {q : List Int} {n : Nat} (hn : n ≤ p.length) (hw : workOk p (n : Int) q = true) (c x : Int) (hx : -1000 ≤ x ∧ x ≤ 1000) :
    (knockKey p (n : Int) q c x).1 = p ∧ (knockKey p (n : Int) q c x).2.1 = (n : Int) ∧ workOk p (n : Int) (knockKey p (n : Int) q c x).2.2.1 = true ∧
      q.getD 0 0 - 1000 ≤ (knockKey p (n : Int) q c x).2.2.1.getD 0 0 ∧ (knockKey p (n : Int) q c x).2.2.1.getD 0 0 ≤ q.getD 0 0 + 1000 := by
  obtain ⟨h1, h2, h3⟩ := (workOk_good g n hn q).1 hw
  have h20 := h2 0 (Nat.zero_le _)
  unfold knockKey
  split
  · rename_i hk
    split
    · rename_i hok
      refine ⟨rfl, rfl, hok, ?_⟩
      show _ ≤ (knocked q c x).getD 0 0 ∧ (knocked q c x).getD 0 0 ≤ _
      unfold knocked
      by_cases e : c.toNat = 0
      · rw [e, getD_set_self _ _ _ (by omega), w64 (by omega) (by omega)]; omega
      · rw [getD_set_ne _ _ _ _ e]; omega
    · exact ⟨rfl, rfl, hw, by dsimp only; omega⟩
  · exact ⟨rfl, rfl, hw, by dsimp only; omega⟩
end
end Go.Proofs.Ytlhlmjklajdejaa.Q


namespace Go.Proofs.Ytlhlmjklajdejaa.Q
set_option linter.unusedVariables false
set_option linter.unusedSimpArgs false
open Go.RowKit Go.Proofs.Ytlhlmjklajdejaa.P Go.Proofs.YtlhlmjklajdejaaW.PrintWords Go.Proofs.YtlhlmjklajdejaaW.PrintMore
theorem l36Work_ev (b : List Int) (hb : b.length ≤ 1048576) (i h : Int) (hi : 0 ≤ i) : ∃ (p : List S67) (n : Nat) (s i' h' : Int), Ev (fun k => spec_l36Work.f k b i h) (p, (n : Int), pits p s n, i', h') ∧ gPlan p ∧ n ≤ p.length ∧ 200000 ≤ s ∧ s ≤ 299999 ∧ 0 ≤ i' := by
  unfold spec_l36Work.f
  obtain ⟨v, i1, h1, e1, v0, v1, _, j1⟩ := below_ev b hb i h 100000 hi
  obtain ⟨p, i2, h2, e2, g, j2⟩ := plan_ev b hb i1 h1 j1
  have v2 := v1 (by omega)
  have ws : wrap64 (200000 + v) = 200000 + v := w64 (by omega) (by omega)
  have hs : 155000 ≤ 200000 + v ∧ 200000 + v ≤ 345000 := by omega
  have hl := g.1
  obtain ⟨u, i3, h3, e3, u0, u1, _, j3⟩ := below_ev b hb i2 h2 12 j2
  obtain ⟨x, i4, h4, e4, hx, j4⟩ := pick_ev b hb i3 h3 [100, u] j3 (by simp)
  have A := newWork_spec (200000 + v) p
  rw [newWork_good g hs] at A
  have B := steps_spec p ((0 : Nat) : Int) (pits p (200000 + v) 0) x (by omega) (by rw [pits_len]; omega)
  rw [workSteps_good g hs x 0 (Nat.zero_le _)] at B
  refine ⟨p, min (0 + (min x 100).toNat) p.length, 200000 + v, i4, h4, ?_, g, Nat.min_le_right _ _, by omega, by omega, j4⟩
  refine evb e1 (Ev.bind e2 ?_)
  simp only [ws]
  exact Ev.bind A (evb e3 (evb e4 (Ev.bind B (Ev.now _))))
end Go.Proofs.Ytlhlmjklajdejaa.Q


namespace Go.Proofs.Ytlhlmjklajdejaa.Q
set_option linter.unusedVariables false
set_option linter.unusedSimpArgs false
open Go.RowKit Go.Proofs.Ytlhlmjklajdejaa.P Go.Proofs.YtlhlmjklajdejaaW.PrintWords Go.Proofs.YtlhlmjklajdejaaW.PrintMore
theorem l37Work_ev (b : List Int) (hb : b.length ≤ 1048576) (i h : Int) (hi : 0 ≤ i) : ∃ (p : List S67) (n : Nat) (q : List Int) (i' h' : Int), Ev (fun k => spec_l37Work.f k b i h) (p, (n : Int), q, i', h') ∧ gPlan p ∧ n ≤ p.length ∧ workOk p (n : Int) q = true ∧
    (190000 ≤ q.getD 0 0 ∧ q.getD 0 0 ≤ 310000) ∧ 0 ≤ i' := by
  unfold spec_l37Work.f
  obtain ⟨p, n, s, i1, h1, e1, g, hn, s0, s1, j1⟩ := l36Work_ev b hb i h hi
  obtain ⟨v, i2, h2, e2, v0, v1, _, j2⟩ := below_ev b hb i1 h1 4 j1
  have v2 := v1 (by omega)
  obtain ⟨m, rfl⟩ := Int.eq_ofNat_of_zero_le v0
  have hl := g.1
  have key : ∀ j, j ≤ m → ∀ (q : List Int) (i h : Int), workOk p (n : Int) q = true → 200000 - 1000 * (j : Int) ≤ q.getD 0 0 → q.getD 0 0 ≤ 300000 + 1000 * (j : Int) → 0 ≤ i →
      ∃ (q' : List Int) (i' h' : Int), Ev (fun k => spec_l37Work.l0 k (m : Int) (j : Int) b i h p (n : Int) q) (p, (n : Int), q', i', h') ∧ workOk p (n : Int) q' = true ∧ (190000 ≤ q'.getD 0 0 ∧ q'.getD 0 0 ≤ 310000) ∧ 0 ≤ i' := by
    refine down (P := fun j => ∀ (q : List Int) (i h : Int), workOk p (n : Int) q = true → 200000 - 1000 * (j : Int) ≤ q.getD 0 0 → q.getD 0 0 ≤ 300000 + 1000 * (j : Int) → 0 ≤ i →
      ∃ (q' : List Int) (i' h' : Int), Ev (fun k => spec_l37Work.l0 k (m : Int) (j : Int) b i h p (n : Int) q) (p, (n : Int), q', i', h') ∧ workOk p (n : Int) q' = true ∧ (190000 ≤ q'.getD 0 0 ∧ q'.getD 0 0 ≤ 310000) ∧ 0 ≤ i') (n := m) ?_ ?_
    · intro q i h hw q0 q1 hi
      exact ⟨q, i, h, Ev.step (fun k => by rw [spec_l37Work.l0]) (evn (by omega) (Ev.now _)), hw, by omega, hi⟩
    · intro j hj ih q i h hw q0 q1 hi
      obtain ⟨c, i3, h3, e3, c0, c1, _, j3⟩ := below_ev b hb i h 12 hi
      obtain ⟨x, i4, h4, e4, x0, x1, _, j4⟩ := below_ev b hb i3 h3 2001 j3
      have x2 := x1 (by omega)
      have hq := ((workOk_good g n hn q).1 hw).1
      have K := knock_spec p (n : Int) q c (x - 1000) (by omega) (by omega)
      have KG := knock_good g hn hw c (x - 1000) (by omega)
      obtain ⟨R, hR⟩ : ∃ R, knockKey p (n : Int) q c (x - 1000) = R := ⟨_, rfl⟩
      rw [hR] at K KG
      clear hR
      obtain ⟨k1, k2, k3, k4, k5⟩ := KG
      obtain ⟨a, ha⟩ : ∃ a, R.2.2.1.getD 0 0 = a := ⟨_, rfl⟩
      obtain ⟨c0, hc0⟩ : ∃ a, q.getD 0 0 = a := ⟨_, rfl⟩
      rw [ha, hc0] at k4 k5
      rw [hc0] at q0 q1
      have l1 : 200000 - 1000 * ((j + 1 : Nat) : Int) ≤ a := by omega
      have l2 : a ≤ 300000 + 1000 * ((j + 1 : Nat) : Int) := by omega
      obtain ⟨q', i', h', e', r⟩ := ih R.2.2.1 i4 h4 k3 (by rw [ha]; exact l1) (by rw [ha]; exact l2) j4
      refine ⟨q', i', h', ?_, r⟩
      refine Ev.step (fun k => by rw [spec_l37Work.l0]) ?_
      refine evp (by omega) (evb e3 ?_)
      refine evb e4 ?_
      rw [show wrap64 (x - 1000) = x - 1000 from w64 (by omega) (by omega), show wrap64 ((j : Int) + 1) = ((j + 1 : Nat) : Int) from w64 (by omega) (by omega)]
      refine Ev.bind K ?_
      rw [k1, k2]
      exact e'
  have e0 : (pits p s n).getD 0 0 = s := by rw [pits_get p s n 0 (by omega), if_pos (Nat.zero_le _)]; rfl
  obtain ⟨q', i', h', e', r1, r2, r3⟩ := key 0 (Nat.zero_le _) (pits p s n) i2 h2 (workOk_pits g (by omega) n hn) (by rw [e0]; omega) (by rw [e0]; omega) j2
  exact ⟨p, n, q', i', h', Ev.bind e1 (evb e2 e'), g, hn, r1, r2, r3⟩
theorem drawKnocked_ev (b : List Int) (hb : b.length ≤ 1048576) : ∃ (p : List S67) (n : Nat) (q : List Int), Ev (fun k => spec_DrawKnocked.f k b) (p, (n : Int), q) ∧ gPlan p ∧ n ≤ p.length ∧ workOk p (n : Int) q = true ∧ (155000 ≤ q.getD 0 0 ∧ q.getD 0 0 ≤ 345000) := by
  unfold spec_DrawKnocked.f
  obtain ⟨h, e0⟩ := new_ev b
  obtain ⟨p, n, q, i', h', e1, g, hn, hw, hs, _⟩ := l37Work_ev b hb 0 h (Int.le_refl _)
  exact ⟨p, n, q, Ev.bind e0 (Ev.bind e1 (Ev.now _)), g, hn, hw, by omega⟩
end Go.Proofs.Ytlhlmjklajdejaa.Q


namespace Go.Proofs.Ytlhlmjklajdejaa.Q
set_option linter.unusedVariables false
set_option linter.unusedSimpArgs false
open Go.RowKit Go.Proofs.Ytlhlmjklajdejaa.P Go.Proofs.YtlhlmjklajdejaaW.PrintWords Go.Proofs.YtlhlmjklajdejaaW.PrintMore
def finished (p : List S67) (d : Int) (q : List Int) : Bool := if workOk p d q = true then d == (p.length : Int) else false
theorem finishedImpl_eq (p : List S67) (d : Int) (q : List Int) : impl_IsFinished.f p d q = some (finished p d q) := by
  unfold impl_IsFinished.f finished; rw [workImpl_eq, Option.bind_some]; split <;> rfl
end Go.Proofs.Ytlhlmjklajdejaa.Q


namespace Go.Proofs.Ytlhlmjklajdejaa.Q
set_option linter.unusedVariables false
set_option linter.unusedSimpArgs false
open Go.RowKit Go.Proofs.Ytlhlmjklajdejaa.P Go.Proofs.YtlhlmjklajdejaaW.PrintWords Go.Proofs.YtlhlmjklajdejaaW.PrintMore
def closingBeats (a : Int) (p : List S67) : Int :=
  if (runPlan a p).2 = true then
    if (runPlan a p).1.getD 11 0 = 0 then -1
    else mx (wrap64 ((wrap64 (3 * (runPlan a p).1.getD 11 0)) - (wrap64 (4 * (runPlan a p).1.getD 0 0)))) (wrap64 ((wrap64 (4 * (runPlan a p).1.getD 0 0)) - (wrap64 (3 * (runPlan a p).1.getD 11 0))))
  else -1
theorem closingB_impl (a : Int) (p : List S67) : Ev (fun n => impl_ClosingBeats.f n a p) (closingBeats a p) := by
  unfold impl_ClosingBeats.f closingBeats
  refine Ev.bind (runPlan_impl a p) ?_
  by_cases h : (runPlan a p).2 = true
  rotate_left
  · exact rneg h <| evn h (Ev.now _)
  have hl := runPlan_len h
  refine rpos h <| evp h (evp (by omega) ?_)
  simp only [rd_get]
  by_cases hz : (runPlan a p).1.getD 11 0 = 0
  · exact rpos hz <| evp hz (Ev.now _)
  · exact rneg hz <| evn hz (evp (by omega) (evb rfl (Ev.now _)))
def closingGap (p : List S67) (d : Int) (q : List Int) : Int := if finished p d q = true then if (p.length : Int) = 11 then closingBeats (q.getD 0 0) p else -1 else -1
theorem finished_len {p : List S67} {d : Int} {q : List Int} (h : finished p d q = true) : q.length = 12 := by
  unfold finished at h
  by_cases h2 : workOk p d q = true
  · exact workOk_len h2
  · rw [if_neg h2] at h; exact absurd h (by simp)
theorem gap_impl (p : List S67) (d : Int) (q : List Int) : Ev (fun n => impl_ClosingGap.f n p d q) (closingGap p d q) := by
  unfold impl_ClosingGap.f closingGap
  refine evb (finishedImpl_eq p d q) ?_
  by_cases h : finished p d q = true
  rotate_left
  · exact rneg h <| evn h (Ev.now _)
  refine rpos h <| evp h ?_
  by_cases h2 : (p.length : Int) = 11
  rotate_left
  · exact rneg h2 <| evn h2 (Ev.now _)
  exact rpos h2 <| evp h2 (evp (by have := finished_len h; omega) (Ev.bind (closingB_impl _ p) (Ev.now _)))
end Go.Proofs.Ytlhlmjklajdejaa.Q


namespace Go.Proofs.Ytlhlmjklajdejaa.Q
set_option linter.unusedVariables false
set_option linter.unusedSimpArgs false
open Go.RowKit Go.Proofs.Ytlhlmjklajdejaa.P Go.Proofs.YtlhlmjklajdejaaW.PrintWords Go.Proofs.YtlhlmjklajdejaaW.PrintMore
theorem sameInts_ev (l : List Int) (hl : l.length ≤ 9000000000000000000) : Ev (fun k => laws_sameInts.f k l l) true := by
  have key : ∀ i, i ≤ l.length → Ev (fun k => laws_sameInts.l0 k l l (i : Int)) true := by
    refine down (n := l.length) ?_ ?_
    · exact Ev.step (fun k => by rw [laws_sameInts.l0]) (evn (by omega) (evs rfl))
    · intro i hi ih
      refine Ev.step (fun k => by rw [laws_sameInts.l0]) (evp (by omega) (evp (by omega) (evp (by omega) (evp rfl ?_))))
      rw [w64 (by omega) (by omega)]
      exact ih
  unfold laws_sameInts.f
  exact evp rfl (key 0 (Nat.zero_le _))
end Go.Proofs.Ytlhlmjklajdejaa.Q


namespace Go.Proofs.Ytlhlmjklajdejaa.Pure
set_option linter.unusedVariables false
set_option linter.unusedSimpArgs false
open Go.RowKit Go.Proofs.Ytlhlmjklajdejaa.P Go.Proofs.Ytlhlmjklajdejaa.Q Go.Proofs.YtlhlmjklajdejaaW.PrintWords Go.Proofs.YtlhlmjklajdejaaW.PrintLast
theorem pit_take (p : List S67) (s : Int) (n : Nat) (hn : n ≤ p.length) : ∀ k : Nat, k ≤ n → pit (p.take n) s k = pit p s k
  | 0, _ => rfl
  | k + 1, hk => by
    show tunedPitch (pit (p.take n) s k) _ _ = tunedPitch (pit p s k) _ _
    rw [pit_take p s n hn k (by omega), getS (p.take n) k (by simp; omega), getS p k (by omega), List.getElem_take]
theorem pits_take (p : List S67) (s : Int) (n : Nat) (hn : n ≤ p.length) : pits (p.take n) s n = pits p s n := by
  unfold pits
  refine List.map_congr_left fun k _ => ?_
  by_cases h : k ≤ n
  · rw [if_pos h, if_pos h, pit_take p s n hn k h]
  · rw [if_neg h, if_neg h]
theorem mx_sub (a b : Int) : mx (a - b) (b - a) ≥ 0 := by unfold mx; split <;> omega
theorem FnMends : laws_FnMends.Pure := by
  intro b hb1 hb2 hb3
  refine Ev.rounds ?_
  unfold laws_FnMends.f
  refine evb rfl ?_
  by_cases h : (b.length : Int) > 1048576
  · exact evp (decide_eq_true h) (Ev.now _)
  refine evn (by simpa using h) ?_
  have hb : b.length ≤ 1048576 := by omega
  obtain ⟨p, n, q, D, g, hn, hw, hs⟩ := drawKnocked_ev b hb
  have hl := g.1
  have hq := ((workOk_good g n hn q).1 hw).1
  obtain ⟨t, ht, he, hz⟩ := mendAll_good g hn hw hs
  obtain ⟨s, hsq⟩ : ∃ s, q.getD 0 0 = s := ⟨_, rfl⟩
  rw [hsq] at he hs
  have A := mendAll_impl p (n : Int) q (by omega) (by omega)
  rw [he] at A
  have gt := gPlan_take g n
  have lt : (p.take n).length = n := by simp; omega
  have B := runPlan_impl s (p.take n)
  rw [runPlan_good gt hs, lt, pits_take p s n hn] at B
  have C := wrong_impl p (n : Int) q
  have w2 := workOk_pits g hs n hn
  have D2 := wrong_impl p (n : Int) (pits p s n)
  rw [wrongSteps_good w2, wrongs_none g hn (rightTo_pits p s n (by omega))] at D2
  have S := sameInts_ev (pits p s n) (by rw [pits_len]; omega)
  refine Ev.bind D (Ev.bind A (evp (by first | omega | (dsimp only; omega)) (evp (by first | omega | (dsimp only; omega)) (evp (by first | omega | (dsimp only; omega)) ?_))))
  dsimp only
  rw [rd_get, show (0 : Int).toNat = 0 from rfl, hsq, Int.toNat_natCast]
  refine Ev.bind B (Ev.bind C (evp rfl (Ev.bind D2 (evp rfl (Ev.bind S (evp rfl (evp rfl ?_)))))))
  obtain ⟨m, hm⟩ : ∃ m, (wrongSteps p (n : Int) q).length = m := ⟨_, rfl⟩
  have hz2 : t = 0 ↔ m = 0 := by rw [hz, ← hm, List.length_eq_zero_iff]
  rw [hm]
  have fin : Ev (fun k => if ((n : Int)) < 11 then (some true) else ((impl_ClosingGap.f k p (n : Int) (pits p s n)).bind fun t1298 => (some (decide (t1298 ≥ 0))))) true := by
    by_cases h11 : (n : Int) < 11
    · exact evp h11 (Ev.now _)
    obtain rfl : n = p.length := by omega
    have e11 : (p.length : Int) = 11 := by omega
    have G := gap_impl p (p.length : Int) (pits p s p.length)
    refine evn h11 (Ev.bind G (evs ?_))
    have f11 := pit_fine g hs p.length (Nat.le_refl _)
    have f0 : (pits p s p.length).getD 0 0 = s := by rw [pits_get p s _ 0 (by omega), if_pos (Nat.zero_le _)]; rfl
    have f1 : (pits p s p.length).getD 11 0 = pit p s 11 := by rw [pits_get p s _ 11 (by omega), if_pos (by omega)]
    have ep : p.length = 11 := by omega
    rw [ep] at f11
    have e : closingGap p (p.length : Int) (pits p s p.length) ≥ 0 := by
      unfold closingGap finished
      rw [w2, if_pos rfl, if_pos (by simp), if_pos e11, f0]
      unfold closingBeats
      rw [runPlan_good g hs, if_pos rfl]
      dsimp only
      rw [f0, f1, if_neg (by omega), w64 (n := 3 * pit p s 11) (by omega) (by omega), w64 (n := 4 * s) (by omega) (by omega), w64 (n := 3 * pit p s 11 - 4 * s) (by omega) (by omega), w64 (n := 4 * s - 3 * pit p s 11) (by omega) (by omega)]
      exact mx_sub _ _
    exact decide_eq_true e
  have hbeq : (((t : Int) == 0) == ((m : Int) == 0)) = true := by
    by_cases h0 : t = 0
    · have h1 := hz2.1 h0
      subst h0 h1; rfl
    · have h1 : ¬ m = 0 := fun h => h0 (hz2.2 h)
      rw [show ((t : Int) == 0) = false by simpa using h0, show ((m : Int) == 0) = false by simpa using h1]; rfl
  by_cases h1 : (t : Int) < (m : Int)
  · exact evp h1 (evn (by first | omega | (dsimp only; omega)) (evn (by first | omega | (dsimp only; omega)) (evp hbeq fin)))
  · exact evn h1 (evn (by first | omega | (dsimp only; omega)) (evp hbeq fin))
end Go.Proofs.Ytlhlmjklajdejaa.Pure


namespace Go.Proofs.Ytlhlmjklajdejaa.fnMends
open Go.ChangeShapes Go.WideShapes Go.ChangeAt Go.RowKit
open Go.ChangeMaps (open_string shut_string)
set_option linter.unusedVariables false
theorem own : ownKnob Try.prog.godebug = none := by kernel_rfl
theorem laidOut : laidOutB Try.prog = true := by kernel_rfl
def IsRow (k : IntKind) (w : World) (a : Option Addr) (len cap : Nat) (zs : List Int) : Prop :=
  (a = none ∧ len = 0 ∧ cap = 0 ∧ zs = []) ∨
  ∃ x, a = some x ∧ len ≤ cap ∧ cap ≤ maxLen ∧ zs.length = cap ∧ (∀ i, i < zs.length → w.cell? (x.add i) = some (.int k (zs.getD i 0))) ∧ ∀ n ∈ zs, (Lit.int k n).wf = true
set_option maxRecDepth 100000 in
theorem lifted (os : Os) (started : os.Started) (H : Type) (enc : TypeId × Value → H) :
    ReturnsInHanded {} Try.checked os 14 .any (Rows.fnMendsSpec.pre6 enc Try.prog Try.f14 Rows.fnMendsRow.domain false) (Rows.fnMendsSpec.post enc Try.prog Try.f14 false true false false) := by
  refine returnsInHanded_of_change_sized (C := Try.checked) own started (by kernel_rfl) Try.func14
    (ChangeSpec.witness6 (enc := enc) (C := Try.checked) false ⟨#[], #[.slice none 0 0], []⟩ 8 (by kernel_rfl) (by kernel_rfl) (by kernel_rfl) (by kernel_rfl)) ?_
  intro W base args ds gs before hval0 hW hcnd hsz0 _
  have hsz : (DataW.weightsEach Try.prog (Try.f14.params.toList ++ Rows.fnMendsSpec.plain.varTypes Try.prog) (ds ++ gs)).all (· ≤ reachBytes) = true := hsz0
  have hval : ∀ (j : Nat) t v, Try.f14.params[j]? = some t → args[j]? = some v → Value.okWide Try.prog W .any base t v := hval0
  have hW' := hW
  obtain ⟨p, q, hA0, hV, rfl, hfz, hnd⟩ := hW
  have hA : DataW.TrodAll enc Try.prog W 0 (fun _ => true) true Try.f14.params.toList args.toList ds p := hA0
  rw [Try.params14] at hA hval hsz
  obtain ⟨v0, vs0, d0, ds0, p0, q0, hargs, rfl, rfl, h0, r0⟩ := trodAll_cons hA
  obtain ⟨rfl, rfl, rfl⟩ := trodAll_nil r0
  obtain rfl : args = #[v0] := by cases args; simp_all
  obtain ⟨rfl, rfl⟩ := trodVars_none hV
  obtain ⟨a0, len0, cap0, rfl⟩ := okWide_slice Try.underlying53 (hval 0 53 v0 rfl rfl)
  have k0 := h0
  have lt0 : ∀ x ∈ p0, x.block < W.heap.size := by obtain ⟨m, hm⟩ := k0; exact DataW.trod_lt m _ _ _ hm
  obtain ⟨z0, w0⟩ : ∃ zs, IsRow .u8 W a0 len0 cap0 zs := by
    obtain ⟨fuel, hf⟩ := h0
    rcases open_ints Try.underlying53 Try.underlying5 (by kernel_rfl) hf with ⟨hcs, _⟩ | ⟨x, l, c, zs, hcs, _, hl, hm, hz, _, hcell, hwz⟩
    · simp [Value.cells] at hcs
      obtain ⟨rfl, rfl, rfl⟩ := hcs
      exact ⟨[], .inl ⟨rfl, rfl, rfl, rfl⟩⟩
    · simp [Value.cells] at hcs
      obtain ⟨rfl, rfl, rfl⟩ := hcs
      exact ⟨zs, .inr ⟨_, rfl, hl, hm, by simpa using hz, hcell, hwz⟩⟩
  have y0 : len0 * 1 ≤ 140737488351232 := Go.Proofs.YtlhlmjklajdejaaW.PrintWords.sized_ints hsz (j := 0) (t := 53) rfl rfl Try.underlying53 Try.underlying5 (by kernel_rfl) (by kernel_rfl) h0
  clear hA0 hval0 hsz0 hsz
  refine (P.laws_FnMends.walk Pure.FnMends a0 len0 cap0 z0 W w0 y0).mono fun e W' ⟨he, bel⟩ => ?_
  subst he
  exact ⟨_, rfl, _, _, _, [], _, [], hW', trodAll_mk1 (shut_bool Try.underlying4 _), (trodAll_cons_mk (Below.trod laidOut (by kernel_rfl) (of_decide_eq_true (by kernel_rfl)) k0 bel lt0) trodAll_mk0), rfl, bel.frame _, fun h => by cases h⟩
theorem over : Rows.fnMendsRow.holds Try.pinned (OpenSpec.ofChange Rows.fnMendsSpec) :=
  OpenClaim.holds_of_wide 14 Try.f14 rfl rfl rfl rfl rfl rfl rfl ⟨rfl, rfl, rfl, rfl, rfl⟩ rfl rfl rfl rfl rfl (by kernel_rfl) Try.func14 (by kernel_rfl)
    (of_decide_eq_true (by kernel_rfl)) (by unfold Func.isWrapper; first | (rw [if_pos (by decide +kernel)]; kernel_rfl) | (rw [if_neg (by decide +kernel)]; exact ⟨rfl, rfl⟩))
    (fun os started H enc _ => lifted os started H enc)
theorem proved : Rows.FnMendsSaid := over
#print axioms proved
end Go.Proofs.Ytlhlmjklajdejaa.fnMends
namespace Go.Proofs.Ytlhlmjklajdejaa
theorem fnMends_holds : Rows.FnMendsSaid := fnMends.proved
end Go.Proofs.Ytlhlmjklajdejaa

